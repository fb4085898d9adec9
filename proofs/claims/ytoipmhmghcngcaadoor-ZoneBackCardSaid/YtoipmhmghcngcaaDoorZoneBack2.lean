/-
  The law ZoneBack: an instant that may not be, a moment. Conditions stand at each theorem.
-/
import Derived.Test.YtoipmhmghcngcaaDoorZoneBack1
namespace Go.Proofs.YtoipmhmghcngcaaDoor
open Go Go.RowKit Go.Kw Go.Kw.Cv Go.Shelf
set_option linter.unusedVariables false
set_option linter.unusedSimpArgs false
attribute [local go_sem] eq_mom
set_option maxRecDepth 100000 in
set_option maxHeartbeats 32000000 in
theorem zb_nm (o : Int) (A : Option Addr) (lr cr : Nat) (g : Nat → Nat → Int) (t y m d h i s : Int) (w : World) (hR : RdZ w A lr cr g) (hl : lr ≤ 100) (hok : zonOk o lr g) (he : offE o lr g t ≠ 0) (hd : okD y m d) (hc : clkOk h i s) (hL : Lens w) :
    Calls Tryd.prog 6 #[.agg #[.int .i64 o, .slice A lr cr], .int .i64 t, .agg #[.int .i64 y, .int .i64 m, .int .i64 d, .int .i64 h, .int .i64 i, .int .i64 s]] w fun e w' => e = .returned (.bool true) ∧ Below w.heap.size w w' := by
  obtain ⟨b0, hb0⟩ : ∃ b0, w.heap.size = b0 := ⟨_, rfl⟩
  have Hb0 := Lib.hid hb0
  have hS : StM b0 w o A lr cr g y m d h i s ((w.alloc (.cells #[.int .i64 o, .slice A lr cr] 24)).alloc (.cells #[.int .i64 y, .int .i64 m, .int .i64 d, .int .i64 h, .int .i64 i, .int .i64 s] 44)) := hb0 ▸ StM.new hR hL
  obtain ⟨W0, hW0⟩ : ∃ W0, w.alloc (.cells #[.int .i64 o, .slice A lr cr] 24) = W0 := ⟨_, rfl⟩
  have hsz0 : W0.heap.size = b0 + 1 := by rw [← hW0, ← hb0]; simp
  rw [hW0] at hS
  obtain ⟨W1, hW1⟩ : ∃ W1, W0.alloc (.cells #[.int .i64 y, .int .i64 m, .int .i64 d, .int .i64 h, .int .i64 i, .int .i64 s] 44) = W1 := ⟨_, rfl⟩
  rw [hW1] at hS
  have kl : decide ((lr : Int) > 100) = false := decide_eq_false (by omega)
  have Hm := Lib.hid (And.intro hd hc)
  have Hok := Lib.hid hok
  have e60 := offE_cases o lr g t
  have Hv := Lib.hid (show locV o lr g t = mom0 ∧ locS o lr g t = false from ⟨if_neg he, if_neg he⟩)
  obtain ⟨E, hE⟩ : ∃ E, offE o lr g t = E := ⟨_, rfl⟩
  have HE := Lib.hid hE
  have kE : (E == 0) = false := beq_eq_false_iff_ne.2 (by rw [← hE]; exact he)
  clear hR hL hl hok he e60 hE hd hc
  go_enter Tryd.func6, Tryd.ntmps6
  have c0 := hS.1.c0
  have c1 := hS.1.c1
  have m0 := hS.m0
  have m1 := hS.m1
  have m2 := hS.m2
  have m3 := hS.m3
  have m4 := hS.m4
  have m5 := hS.m5
  have HX := (by have h := alive_calls W1 hS.1.2.2.1; exact h)
  try unfold zonC at HX
  replace HX := Lib.hid HX
  have HT := Lib.hid hS
  clear hS
  try clear hb
  go_wp2_with fail
  refine HX.out.mono ?_
  rintro e w2 ⟨rfl, hb⟩
  have hS := HT.out.go hb
  clear HX HT c0 c1 m0 m1 m2 m3 m4 m5
  have c0 := hS.1.c0
  have c1 := hS.1.c1
  have m0 := hS.m0
  have m1 := hS.m1
  have m2 := hS.m2
  have m3 := hS.m3
  have m4 := hS.m4
  have m5 := hS.m5
  have HX := (by have h := zLocal_calls o A lr cr g t w2 hS.1.2.1 hS.1.2.2.1; rw [Hv.out.1, Hv.out.2, HE.out] at h; unfold mom0 at h; exact h)
  try unfold zonC at HX
  replace HX := Lib.hid HX
  have HT := Lib.hid hS
  clear hS
  try clear hb
  go_wp2_with fail
  refine HX.out.mono ?_
  rintro e w3 ⟨rfl, hb⟩
  have hS := HT.out.go hb
  clear HX HT c0 c1 m0 m1 m2 m3 m4 m5
  have hst := bstep w3 (.cells #[.int .i64 0, .int .i64 0, .int .i64 0, .int .i64 0, .int .i64 0, .int .i64 0] 44)
  have hS := hS.go hst
  clear hst
  have c0 := hS.1.c0
  have c1 := hS.1.c1
  have m0 := hS.m0
  have m1 := hS.m1
  have m2 := hS.m2
  have m3 := hS.m3
  have m4 := hS.m4
  have m5 := hS.m5
  have HX := (by have h := insts_ok o A lr cr g y m d h i s Hok.out Hm.out.1 Hm.out.2 _ hS.1.2.1 hS.1.2.2.1; exact h)
  try unfold zonC at HX
  replace HX := Lib.hid HX
  have HT := Lib.hid hS
  clear hS
  try clear hb
  go_wp2_with fail
  refine HX.out.mono ?_
  rintro e wb ⟨⟨B2, q2, rfl, hRd2⟩, hb⟩
  have hS := HT.out.go hb
  clear HX HT c0 c1 m0 m1 m2 m3 m4 m5
  obtain ⟨V, hV⟩ : ∃ V, instV y m d h i s = V := ⟨_, rfl⟩
  have hmv := inst_mom Hm.out.1 Hm.out.2
  rw [hV] at hRd2 hmv ⊢
  obtain ⟨L2, hL2⟩ : ∃ L2, instL o lr g V = L2 := ⟨_, rfl⟩
  have hall : ∀ k, k < L2.length → offE o lr g (L2.getD k 0) = 0 ∧ locV o lr g (L2.getD k 0) = .agg #[.int .i64 y, .int .i64 m, .int .i64 d, .int .i64 h, .int .i64 i, .int .i64 s] := fun k hk => by
    have hin : L2.getD k 0 ∈ instL o lr g V := by rw [hL2, List.getD_eq_getElem?_getD, List.getElem?_eq_getElem hk]; exact List.getElem_mem hk
    rw [inst_iff Hok.out] at hin
    have q := loc_at (v := offV o lr g (L2.getD k 0)) ⟨hin.1, rfl⟩
    rw [hin.2, hmv] at q
    exact ⟨hin.1, q.1⟩
  have hst2 : ∀ p, p + 1 < L2.length → L2.getD p 0 < L2.getD (p + 1) 0 := fun p hp => strict_at (by rw [← hL2]; exact instL_sorted _ _ _ _) hp
  have hl21 : L2.length ≤ 21 := by rw [← hL2]; have := inst_len o lr g V; have := Hok.out.2.2.1; omega
  rw [hL2] at hRd2 ⊢
  obtain ⟨n2, hn2⟩ : ∃ n, L2.length = n := ⟨_, rfl⟩
  have HRd2 := Lib.hid hRd2
  rw [hn2] at hall hst2 hl21 ⊢
  have Hall := Lib.hid hall
  have Hst2 := Lib.hid hst2
  have Hl21 := Lib.hid hl21
  have Hn2 := Lib.hid hn2
  obtain ⟨b9, hb9⟩ : ∃ b9, wb.heap.size = b9 := ⟨_, rfl⟩
  have Hb9 := Lib.hid hb9
  clear hV hmv hL2 hall hst2 hl21 hn2 hRd2 hb hb9
  have HS := Lib.hid hS
  clear hS
  obtain ⟨wz, rfl⟩ : ∃ wz : World, wz = wb := ⟨_, rfl⟩
  go_wp2_with fail
  go_loopw [17] (fun i w9 => ∃ k : Nat, k ≤ n2 ∧ i = .int .i64 k ∧ Below b9 wz w9 ∧ b9 ≤ w9.heap.size) (fun i _ => n2 - (intOf i).toNat)
  case atStart => exact ⟨0, Nat.zero_le _, rfl, Below.refl _ _, by rw [Hb9.out]; exact Nat.le_refl _⟩
  case round =>
    obtain ⟨k, hk, rfl, hbl, hbs⟩ := hrel
    have hS := HS.out.go (by rw [Hb9.out]; exact hbl)
    by_cases hlt : k < n2
    · rcases k with _ | p
      · have hkI : (0 : Int) < (n2 : Int) := by omega
        rw [show ((0 : Nat) : Int) = 0 from rfl]
        have hkN : 0 < n2 := hlt
        obtain ⟨lb, lo, rfl, hlb, hlc⟩ := HRd2.out.at_ (k := 0) (by rw [Hn2.out]; exact hlt)
        have hlc' := (hbl.cell (p := ⟨lb, lo + 0, none⟩) (by have := Hb9.out; show lb < b9; omega)).trans hlc
        obtain ⟨u, hu⟩ : ∃ u, L2.getD 0 0 = u := ⟨_, rfl⟩
        obtain ⟨q1, q2⟩ := Hall.out 0 hlt
        rw [hu] at q1 q2 hlc'
        rw [Nat.add_zero] at hlc'
        have HQ := Lib.hid (fun W (hh : StM b0 w o A lr cr g y m d h i s W) => (by have hx := zLocal_calls o A lr cr g u W hh.1.2.1 hh.1.2.2.1; rw [q1, q2] at hx; unfold zonC at hx; exact hx : Calls Tryd.prog 17 #[.agg #[.int .i64 o, .slice A lr cr], .int .i64 u] W fun e w' => e = .returned (.tuple #[.agg #[.int .i64 y, .int .i64 m, .int .i64 d, .int .i64 h, .int .i64 i, .int .i64 s], .bool (locS o lr g u), .int .i64 0]) ∧ Below W.heap.size W w'))
        obtain ⟨sb, hsb⟩ : ∃ b, locS o lr g u = b := ⟨_, rfl⟩
        rw [hsb] at HQ
        have c0 := hS.1.c0
        have c1 := hS.1.c1
        have Hlt := Lib.hid hlt
        have HS9 := Lib.hid hS
        have HBl := Lib.hid (And.intro hbl hbs)
        have hlbw : lb < wr.heap.size := by have := Hb9.out; omega
        have HC : Hid (∀ W, Below wr.heap.size wr W → W.cell? ⟨b0, 0, none⟩ = some (.int .i64 o) ∧ W.cell? ⟨b0, 1, none⟩ = some (.slice A lr cr) ∧ W.cell? ⟨lb, lo, none⟩ = some (.int .i64 u)) := fun W hh => ⟨(hS.go hh).1.c0, (hS.go hh).1.c1, (hh.cell (p := ⟨lb, lo, none⟩) hlbw).trans hlc'⟩
        have HL : Hid (∀ W, Below wr.heap.size wr W → W.cell? ⟨lb, lo, none⟩ = some (.int .i64 u)) := fun W hh => (hh.cell (p := ⟨lb, lo, none⟩) hlbw).trans hlc'
        clear hu q1 q2 hsb hlb hlt hlc hbl hbs hk hS hlbw
        have Hnd : Hid (∀ o : Obj, (wr.alloc o).drew.heap[wr.heap.size]? = some o) := fun o => World.alloc_heap_new wr o
        go_upto_region 18 with fail
        go_region_held3 (fun W => W.cell? ⟨b0, 0, none⟩ = some (.int .i64 o) ∧ W.cell? ⟨b0, 1, none⟩ = some (.slice A lr cr) ∧ W.cell? ⟨lb, lo, none⟩ = some (.int .i64 u))
          ((refine HC.out _ ?_; first | (with_reducible assumption) | (with_reducible apply Below.drew; first | (with_reducible apply Below.refl) | (with_reducible apply bstep)) | (with_reducible apply balloc; with_reducible assumption) | ((with_reducible apply set6_below) <;> first | (with_reducible assumption) | (with_reducible apply Nat.le_refl))))
          ((go_at_call 17; refine (HQ.out _ (HS9.out.go (by with_reducible apply Below.drew; first | (with_reducible apply Below.refl) | (with_reducible apply bstep)))).mono ?_; rintro e w5 ⟨rfl, hb5⟩; have hb6 : Below wr.heap.size wr w5 := (by refine bnext ?_ hb5; with_reducible apply Below.drew; first | (with_reducible apply Below.refl) | (with_reducible apply bstep)); first | (have hrz := (by with_reducible exact blk_below (Hnd.out _) hb5 : w5.heap[wr.heap.size]? = some (.cells #[.int .i64 0, .int .i64 0, .int .i64 0, .int .i64 0, .int .i64 0, .int .i64 0] 44 (0, 0))); have d0 := cell_of_row w5 wr.heap.size 0 _ _ _ hrz; have d1 := cell_of_row w5 wr.heap.size 1 _ _ _ hrz; have d2 := cell_of_row w5 wr.heap.size 2 _ _ _ hrz; have d3 := cell_of_row w5 wr.heap.size 3 _ _ _ hrz; have d4 := cell_of_row w5 wr.heap.size 4 _ _ _ hrz; have d5 := cell_of_row w5 wr.heap.size 5 _ _ _ hrz; have f0 := blk_frozen hrz 0; have f1 := blk_frozen hrz 1; have f2 := blk_frozen hrz 2; have f3 := blk_frozen hrz 3; have f4 := blk_frozen hrz 4; have f5 := blk_frozen hrz 5) | skip))
        · have h8 := balloc hb6 (.cells #[.int .i64 y, .int .i64 m, .int .i64 d, .int .i64 h, .int .i64 i, .int .i64 s] 44)
          have hr7 := World.alloc_heap_new w5 (.cells #[.int .i64 y, .int .i64 m, .int .i64 d, .int .i64 h, .int .i64 i, .int .i64 s] 44)
          obtain ⟨wf, hwf⟩ : ∃ wf, w5.alloc (.cells #[.int .i64 y, .int .i64 m, .int .i64 d, .int .i64 h, .int .i64 i, .int .i64 s] 44) = wf := ⟨_, rfl⟩
          rw [hwf] at h8 hr7 ⊢
          have hS := HS9.out.go h8
          have hlk := HL.out wf h8
          have e0 := cell_of_row wf w5.heap.size 0 _ _ _ hr7
          have e1 := cell_of_row wf w5.heap.size 1 _ _ _ hr7
          have e2 := cell_of_row wf w5.heap.size 2 _ _ _ hr7
          have e3 := cell_of_row wf w5.heap.size 3 _ _ _ hr7
          have e4 := cell_of_row wf w5.heap.size 4 _ _ _ hr7
          have e5 := cell_of_row wf w5.heap.size 5 _ _ _ hr7
          have m0 := hS.m0
          have m1 := hS.m1
          have m2 := hS.m2
          have m3 := hS.m3
          have m4 := hS.m4
          have m5 := hS.m5
          have HB8 := Lib.hid ((HBl.out.1.trans (h8.mono HBl.out.2)))
          have HZ8 := Lib.hid (Nat.le_trans HBl.out.2 h8.size)
          clear hwf hS h8 hr7 hb6 hb5
          go_wp2_with fail
          go_quiet (fail)
          go_wp2_with fail
          exact ⟨⟨1, Hlt.out, by first | rfl | trivial, HB8.out.drewN _, HZ8.out⟩, meas_z n2 0 Hlt.out⟩
        · have h8 := set6_below hb6 (Nat.le_refl wr.heap.size) (.int .i64 y) (.int .i64 m) (.int .i64 d) (.int .i64 h) (.int .i64 i) (.int .i64 s)
          have hr7 := set6_row hrz (.int .i64 y) (.int .i64 m) (.int .i64 d) (.int .i64 h) (.int .i64 i) (.int .i64 s)
          obtain ⟨wf, hwf⟩ : ∃ wf, ((((((w5.setCell ⟨wr.heap.size, 0, none⟩ (.int .i64 y)).setCell ⟨wr.heap.size, 1, none⟩ (.int .i64 m)).setCell ⟨wr.heap.size, 2, none⟩ (.int .i64 d)).setCell ⟨wr.heap.size, 3, none⟩ (.int .i64 h)).setCell ⟨wr.heap.size, 4, none⟩ (.int .i64 i)).setCell ⟨wr.heap.size, 5, none⟩ (.int .i64 s)) = wf := ⟨_, rfl⟩
          clear d0 d1 d2 d3 d4 d5 f0 f1 f2 f3 f4 f5 hrz
          rw [hwf] at h8 hr7 ⊢
          have hS := HS9.out.go h8
          have hlk := HL.out wf h8
          have e0 := cell_of_row wf wr.heap.size 0 _ _ _ hr7
          have e1 := cell_of_row wf wr.heap.size 1 _ _ _ hr7
          have e2 := cell_of_row wf wr.heap.size 2 _ _ _ hr7
          have e3 := cell_of_row wf wr.heap.size 3 _ _ _ hr7
          have e4 := cell_of_row wf wr.heap.size 4 _ _ _ hr7
          have e5 := cell_of_row wf wr.heap.size 5 _ _ _ hr7
          have m0 := hS.m0
          have m1 := hS.m1
          have m2 := hS.m2
          have m3 := hS.m3
          have m4 := hS.m4
          have m5 := hS.m5
          have HB8 := Lib.hid ((HBl.out.1.trans (h8.mono HBl.out.2)))
          have HZ8 := Lib.hid (Nat.le_trans HBl.out.2 h8.size)
          clear hwf hS h8 hr7 hb6 hb5
          go_wp2_with fail
          go_quiet (fail)
          go_wp2_with fail
          exact ⟨⟨1, Hlt.out, by first | rfl | trivial, HB8.out.drewN _, HZ8.out⟩, meas_z n2 0 Hlt.out⟩
      · have hkI : (p : Int) + 1 < (n2 : Int) := by omega
        rw [show ((p + 1 : Nat) : Int) = (p : Int) + 1 by omega]
        have hk0 : (0 : Int) ≤ (p : Int) + 1 := by omega
        have hp0 : (0 : Int) ≤ (p : Int) := by omega
        have hpI : (p : Int) < (n2 : Int) := by omega
        have hpT : ((p : Int) + 1).toNat = p + 1 := by omega
        have hlow := Hst2.out p hlt
        obtain ⟨lb, lo, rfl, hlb, hlc⟩ := HRd2.out.at_ (k := (p + 1)) (by rw [Hn2.out]; exact hlt)
        obtain ⟨lb2, lo2, he2, -, hlp⟩ := HRd2.out.at_ (k := p) (by rw [Hn2.out]; exact Nat.lt_of_succ_lt hlt)
        injection he2 with he2
        injection he2 with e7 e8
        subst e7 e8
        have hlp' := (hbl.cell (p := ⟨lb, lo + p, none⟩) (by have := Hb9.out; show lb < b9; omega)).trans hlp
        obtain ⟨u1, hu1⟩ : ∃ u, L2.getD p 0 = u := ⟨_, rfl⟩
        rw [hu1] at hlp' hlow
        have hlc' := (hbl.cell (p := ⟨lb, lo + (p + 1), none⟩) (by have := Hb9.out; show lb < b9; omega)).trans hlc
        obtain ⟨u, hu⟩ : ∃ u, L2.getD (p + 1) 0 = u := ⟨_, rfl⟩
        obtain ⟨q1, q2⟩ := Hall.out (p + 1) hlt
        rw [hu] at q1 q2 hlc' hlow
        have klow : decide (u ≤ u1) = false := decide_eq_false (by omega)
        have HQ := Lib.hid (fun W (hh : StM b0 w o A lr cr g y m d h i s W) => (by have hx := zLocal_calls o A lr cr g u W hh.1.2.1 hh.1.2.2.1; rw [q1, q2] at hx; unfold zonC at hx; exact hx : Calls Tryd.prog 17 #[.agg #[.int .i64 o, .slice A lr cr], .int .i64 u] W fun e w' => e = .returned (.tuple #[.agg #[.int .i64 y, .int .i64 m, .int .i64 d, .int .i64 h, .int .i64 i, .int .i64 s], .bool (locS o lr g u), .int .i64 0]) ∧ Below W.heap.size W w'))
        obtain ⟨sb, hsb⟩ : ∃ b, locS o lr g u = b := ⟨_, rfl⟩
        rw [hsb] at HQ
        have c0 := hS.1.c0
        have c1 := hS.1.c1
        have Hlt := Lib.hid hlt
        have HS9 := Lib.hid hS
        have HBl := Lib.hid (And.intro hbl hbs)
        have hlbw : lb < wr.heap.size := by have := Hb9.out; omega
        have HC : Hid (∀ W, Below wr.heap.size wr W → W.cell? ⟨b0, 0, none⟩ = some (.int .i64 o) ∧ W.cell? ⟨b0, 1, none⟩ = some (.slice A lr cr) ∧ W.cell? ⟨lb, lo + (p + 1), none⟩ = some (.int .i64 u)) := fun W hh => ⟨(hS.go hh).1.c0, (hS.go hh).1.c1, (hh.cell (p := ⟨lb, lo + (p + 1), none⟩) hlbw).trans hlc'⟩
        have HL : Hid (∀ W, Below wr.heap.size wr W → W.cell? ⟨lb, lo + (p + 1), none⟩ = some (.int .i64 u) ∧ W.cell? ⟨lb, lo + p, none⟩ = some (.int .i64 u1)) := fun W hh => ⟨(hh.cell (p := ⟨lb, lo + (p + 1), none⟩) hlbw).trans hlc', (hh.cell (p := ⟨lb, lo + p, none⟩) hlbw).trans hlp'⟩
        clear hu q1 q2 hsb hlb hlt hlc hbl hbs hk hS hlbw hu1 hlp hlow hlp'
        have Hnd : Hid (∀ o : Obj, (wr.alloc o).drew.heap[wr.heap.size]? = some o) := fun o => World.alloc_heap_new wr o
        go_upto_region 18 with fail
        go_region_held3 (fun W => W.cell? ⟨b0, 0, none⟩ = some (.int .i64 o) ∧ W.cell? ⟨b0, 1, none⟩ = some (.slice A lr cr) ∧ W.cell? ⟨lb, lo + (p + 1), none⟩ = some (.int .i64 u))
          ((refine HC.out _ ?_; first | (with_reducible assumption) | (with_reducible apply Below.drew; first | (with_reducible apply Below.refl) | (with_reducible apply bstep)) | (with_reducible apply balloc; with_reducible assumption) | ((with_reducible apply set6_below) <;> first | (with_reducible assumption) | (with_reducible apply Nat.le_refl))))
          ((go_at_call 17; refine (HQ.out _ (HS9.out.go (by with_reducible apply Below.drew; first | (with_reducible apply Below.refl) | (with_reducible apply bstep)))).mono ?_; rintro e w5 ⟨rfl, hb5⟩; have hb6 : Below wr.heap.size wr w5 := (by refine bnext ?_ hb5; with_reducible apply Below.drew; first | (with_reducible apply Below.refl) | (with_reducible apply bstep)); first | (have hrz := (by with_reducible exact blk_below (Hnd.out _) hb5 : w5.heap[wr.heap.size]? = some (.cells #[.int .i64 0, .int .i64 0, .int .i64 0, .int .i64 0, .int .i64 0, .int .i64 0] 44 (0, 0))); have d0 := cell_of_row w5 wr.heap.size 0 _ _ _ hrz; have d1 := cell_of_row w5 wr.heap.size 1 _ _ _ hrz; have d2 := cell_of_row w5 wr.heap.size 2 _ _ _ hrz; have d3 := cell_of_row w5 wr.heap.size 3 _ _ _ hrz; have d4 := cell_of_row w5 wr.heap.size 4 _ _ _ hrz; have d5 := cell_of_row w5 wr.heap.size 5 _ _ _ hrz; have f0 := blk_frozen hrz 0; have f1 := blk_frozen hrz 1; have f2 := blk_frozen hrz 2; have f3 := blk_frozen hrz 3; have f4 := blk_frozen hrz 4; have f5 := blk_frozen hrz 5) | skip))
        · have h8 := balloc hb6 (.cells #[.int .i64 y, .int .i64 m, .int .i64 d, .int .i64 h, .int .i64 i, .int .i64 s] 44)
          have hr7 := World.alloc_heap_new w5 (.cells #[.int .i64 y, .int .i64 m, .int .i64 d, .int .i64 h, .int .i64 i, .int .i64 s] 44)
          obtain ⟨wf, hwf⟩ : ∃ wf, w5.alloc (.cells #[.int .i64 y, .int .i64 m, .int .i64 d, .int .i64 h, .int .i64 i, .int .i64 s] 44) = wf := ⟨_, rfl⟩
          rw [hwf] at h8 hr7 ⊢
          have hS := HS9.out.go h8
          obtain ⟨hlk, hlp⟩ := HL.out wf h8
          have e0 := cell_of_row wf w5.heap.size 0 _ _ _ hr7
          have e1 := cell_of_row wf w5.heap.size 1 _ _ _ hr7
          have e2 := cell_of_row wf w5.heap.size 2 _ _ _ hr7
          have e3 := cell_of_row wf w5.heap.size 3 _ _ _ hr7
          have e4 := cell_of_row wf w5.heap.size 4 _ _ _ hr7
          have e5 := cell_of_row wf w5.heap.size 5 _ _ _ hr7
          have m0 := hS.m0
          have m1 := hS.m1
          have m2 := hS.m2
          have m3 := hS.m3
          have m4 := hS.m4
          have m5 := hS.m5
          have kp : decide ((p : Int) + 1 > 0) = true := decide_eq_true (by omega)
          have w0 : IntKind.i64.wrap ((p : Int) + 1 - 1) = (p : Int) := by rw [Int.add_sub_cancel]; exact i64_same _ (by have := Hl21.out; omega)
          have wp := i64_same (p : Int) (by have := Hl21.out; omega)
          have xp := wrap64_in (p : Int) (by have := Hl21.out; omega)
          have w9 : IntKind.i64.wrap ((p : Int) + 1 + 1) = (p : Int) + 1 + 1 := i64_same _ (by have := Hl21.out; omega)
          have x9 := wrap64_in ((p : Int) + 1 + 1) (by have := Hl21.out; omega)
          have HB8 := Lib.hid ((HBl.out.1.trans (h8.mono HBl.out.2)))
          have HZ8 := Lib.hid (Nat.le_trans HBl.out.2 h8.size)
          clear hwf hS h8 hr7 hb6 hb5
          go_wp2_with fail
          go_quiet (fail)
          go_wp2_with fail
          exact ⟨⟨p + 1 + 1, Hlt.out, by push_cast; rfl, HB8.out.drewN _, HZ8.out⟩, meas_zz n2 p Hlt.out⟩
        · have h8 := set6_below hb6 (Nat.le_refl wr.heap.size) (.int .i64 y) (.int .i64 m) (.int .i64 d) (.int .i64 h) (.int .i64 i) (.int .i64 s)
          have hr7 := set6_row hrz (.int .i64 y) (.int .i64 m) (.int .i64 d) (.int .i64 h) (.int .i64 i) (.int .i64 s)
          obtain ⟨wf, hwf⟩ : ∃ wf, ((((((w5.setCell ⟨wr.heap.size, 0, none⟩ (.int .i64 y)).setCell ⟨wr.heap.size, 1, none⟩ (.int .i64 m)).setCell ⟨wr.heap.size, 2, none⟩ (.int .i64 d)).setCell ⟨wr.heap.size, 3, none⟩ (.int .i64 h)).setCell ⟨wr.heap.size, 4, none⟩ (.int .i64 i)).setCell ⟨wr.heap.size, 5, none⟩ (.int .i64 s)) = wf := ⟨_, rfl⟩
          clear d0 d1 d2 d3 d4 d5 f0 f1 f2 f3 f4 f5 hrz
          rw [hwf] at h8 hr7 ⊢
          have hS := HS9.out.go h8
          obtain ⟨hlk, hlp⟩ := HL.out wf h8
          have e0 := cell_of_row wf wr.heap.size 0 _ _ _ hr7
          have e1 := cell_of_row wf wr.heap.size 1 _ _ _ hr7
          have e2 := cell_of_row wf wr.heap.size 2 _ _ _ hr7
          have e3 := cell_of_row wf wr.heap.size 3 _ _ _ hr7
          have e4 := cell_of_row wf wr.heap.size 4 _ _ _ hr7
          have e5 := cell_of_row wf wr.heap.size 5 _ _ _ hr7
          have m0 := hS.m0
          have m1 := hS.m1
          have m2 := hS.m2
          have m3 := hS.m3
          have m4 := hS.m4
          have m5 := hS.m5
          have kp : decide ((p : Int) + 1 > 0) = true := decide_eq_true (by omega)
          have w0 : IntKind.i64.wrap ((p : Int) + 1 - 1) = (p : Int) := by rw [Int.add_sub_cancel]; exact i64_same _ (by have := Hl21.out; omega)
          have wp := i64_same (p : Int) (by have := Hl21.out; omega)
          have xp := wrap64_in (p : Int) (by have := Hl21.out; omega)
          have w9 : IntKind.i64.wrap ((p : Int) + 1 + 1) = (p : Int) + 1 + 1 := i64_same _ (by have := Hl21.out; omega)
          have x9 := wrap64_in ((p : Int) + 1 + 1) (by have := Hl21.out; omega)
          have HB8 := Lib.hid ((HBl.out.1.trans (h8.mono HBl.out.2)))
          have HZ8 := Lib.hid (Nat.le_trans HBl.out.2 h8.size)
          clear hwf hS h8 hr7 hb6 hb5
          go_wp2_with fail
          go_quiet (fail)
          go_wp2_with fail
          exact ⟨⟨p + 1 + 1, Hlt.out, by push_cast; rfl, HB8.out.drewN _, HZ8.out⟩, meas_zz n2 p Hlt.out⟩
    · obtain rfl : k = n2 := by omega
      have hkI : ¬ ((k : Int) < (k : Int)) := by omega
      have HB := Lib.hid hS.1.2.2.2
      clear hS hbl hbs hlt hk
      go_wp2_with fail
      go_ret
      exact ⟨rfl, by first | exact HB.out | exact HB.out.drewN _ | (rw [← Hb0.out]; exact HB.out) | (rw [← Hb0.out]; exact HB.out.drewN _)⟩
end Go.Proofs.YtoipmhmghcngcaaDoor
