/-
  The law ZoneBack: an instant, no moment. Conditions stand at each theorem.
-/
import Derived.Test.YtoipmhmghcngcaaDoorZoneBack1
namespace Go.Proofs.YtoipmhmghcngcaaDoor
open Go Go.RowKit Go.Kw Go.Kw.Cv Go.Shelf
set_option linter.unusedVariables false
set_option linter.unusedSimpArgs false
attribute [local go_sem] eq_mom
set_option maxRecDepth 100000 in
set_option maxHeartbeats 32000000 in
theorem zb_ex (o : Int) (A : Option Addr) (lr cr : Nat) (g : Nat → Nat → Int) (t y m d h i s : Int) (w : World) (hR : RdZ w A lr cr g) (hl : lr ≤ 100) (hok : zonOk o lr g) (he : offE o lr g t = 0) (hm : ¬ (okD y m d ∧ clkOk h i s)) (hL : Lens w) :
    Calls Tryd.prog 6 #[.agg #[.int .i64 o, .slice A lr cr], .int .i64 t, .agg #[.int .i64 y, .int .i64 m, .int .i64 d, .int .i64 h, .int .i64 i, .int .i64 s]] w fun e w' => e = .returned (.bool true) ∧ Below w.heap.size w w' := by
  obtain ⟨b0, hb0⟩ : ∃ b0, w.heap.size = b0 := ⟨_, rfl⟩
  have Hb0 := Lib.hid hb0
  have hS : StM b0 w o A lr cr g y m d h i s ((w.alloc (.cells #[.int .i64 o, .slice A lr cr] 24)).alloc (.cells #[.int .i64 y, .int .i64 m, .int .i64 d, .int .i64 h, .int .i64 i, .int .i64 s] 44)) := hb0 ▸ StM.new hR hL
  obtain ⟨W0, hW0⟩ : ∃ W0, w.alloc (.cells #[.int .i64 o, .slice A lr cr] 24) = W0 := ⟨_, rfl⟩
  have hsz0 : W0.heap.size = b0 + 1 := by rw [← hW0, ← hb0]; simp
  rw [hW0] at hS
  obtain ⟨W1, hW1⟩ : ∃ W1, W0.alloc (.cells #[.int .i64 y, .int .i64 m, .int .i64 d, .int .i64 h, .int .i64 i, .int .i64 s] 44) = W1 := ⟨_, rfl⟩
  rw [hW1] at hS
  have kl : decide ((lr : Int) > 100) = false := decide_eq_false (by omega)
  have Hm := Lib.hid hm
  have Hok := Lib.hid hok
  have l1 := loc_at (v := offV o lr g t) ⟨he, rfl⟩
  have hsc := off_sec he
  obtain ⟨a, ha⟩ := mom_ex hsc
  have hin := (inst_iff hok (t + offV o lr g t) t).2 ⟨he, rfl⟩
  rw [ha.v] at l1
  obtain ⟨L1, hL1⟩ : ∃ L1, instL o lr g (t + offV o lr g t) = L1 := ⟨_, rfl⟩
  have hl1 : L1.length ≤ 21 := by rw [← hL1]; have := inst_len o lr g (t + offV o lr g t); have := hok.2.2.1; omega
  have hone : lr = 0 → L1.length = 1 := fun h0 => by
    subst h0
    rw [← hL1, inst_own hin]; rfl
  rw [hL1] at hin
  obtain ⟨U, hU⟩ : ∃ U, t + offV o lr g t = U := ⟨_, rfl⟩
  rw [hU] at hL1 ha
  obtain ⟨S1, hS1⟩ : ∃ S, locS o lr g t = S := ⟨_, rfl⟩
  rw [hS1] at l1
  have Hv := Lib.hid (And.intro l1.1 (And.intro hS1 he))
  have Ha := Lib.hid ha
  have HL1 := Lib.hid hL1
  have Hin := Lib.hid hin
  have Hone := Lib.hid hone
  have Hl1 := Lib.hid hl1
  clear hR hL hl hok he l1 hsc ha hin hL1 hl1 hone hU hS1 hm
  go_enter Tryd.func6, Tryd.ntmps6
  have c0 := hS.1.c0
  have c1 := hS.1.c1
  have m0 := hS.m0
  have m1 := hS.m1
  have m2 := hS.m2
  have m3 := hS.m3
  have m4 := hS.m4
  have m5 := hS.m5
  have HX := (by have h := alive_calls W1 hS.1.2.2.1; exact h)
  try unfold zonC at HX
  replace HX := Lib.hid HX
  have HT := Lib.hid hS
  clear hS
  try clear hb
  go_wp2_with fail
  refine HX.out.mono ?_
  rintro e w2 ⟨rfl, hb⟩
  have hS := HT.out.go hb
  clear HX HT c0 c1 m0 m1 m2 m3 m4 m5
  have c0 := hS.1.c0
  have c1 := hS.1.c1
  have m0 := hS.m0
  have m1 := hS.m1
  have m2 := hS.m2
  have m3 := hS.m3
  have m4 := hS.m4
  have m5 := hS.m5
  have HX := (by have h := zLocal_calls o A lr cr g t w2 hS.1.2.1 hS.1.2.2.1; rw [Hv.out.1, Hv.out.2.1, Hv.out.2.2] at h; exact h)
  try unfold zonC at HX
  replace HX := Lib.hid HX
  have HT := Lib.hid hS
  clear hS
  try clear hb
  go_wp2_with fail
  refine HX.out.mono ?_
  rintro e w3 ⟨rfl, hb⟩
  have hS := HT.out.go hb
  clear HX HT c0 c1 m0 m1 m2 m3 m4 m5
  have hst := bstep w3 (.cells #[.int .i64 (a 0), .int .i64 (a 1), .int .i64 (a 2), .int .i64 (a 3), .int .i64 (a 4), .int .i64 (a 5)] 44)
  have hS := hS.go hst
  have rx := World.alloc_heap_new w3 (.cells #[.int .i64 (a 0), .int .i64 (a 1), .int .i64 (a 2), .int .i64 (a 3), .int .i64 (a 4), .int .i64 (a 5)] 44)
  clear hst
  have c0 := hS.1.c0
  have c1 := hS.1.c1
  have m0 := hS.m0
  have m1 := hS.m1
  have m2 := hS.m2
  have m3 := hS.m3
  have m4 := hS.m4
  have m5 := hS.m5
  have rxc0 := cell_of_row _ w3.heap.size 0 _ _ _ rx
  have rxc1 := cell_of_row _ w3.heap.size 1 _ _ _ rx
  have rxc2 := cell_of_row _ w3.heap.size 2 _ _ _ rx
  have rxc3 := cell_of_row _ w3.heap.size 3 _ _ _ rx
  have rxc4 := cell_of_row _ w3.heap.size 4 _ _ _ rx
  have rxc5 := cell_of_row _ w3.heap.size 5 _ _ _ rx
  have HX := (by have h := insts_ok o A lr cr g (a 0) (a 1) (a 2) (a 3) (a 4) (a 5) Hok.out Ha.out.d Ha.out.c _ hS.1.2.1 hS.1.2.2.1; rw [Ha.out.t, HL1.out] at h; exact h)
  try unfold zonC at HX
  replace HX := Lib.hid HX
  have HT := Lib.hid hS
  have Hrx := Lib.hid rx
  clear rx
  clear hS
  try clear hb
  go_wp2_with fail
  refine HX.out.mono ?_
  rintro e w4 ⟨⟨B1, q1, rfl, hRd⟩, hb⟩
  have hS := HT.out.go hb
  have rx := blk_below Hrx.out hb
  clear HX HT Hrx c0 c1 m0 m1 m2 m3 m4 m5 rxc0 rxc1 rxc2 rxc3 rxc4 rxc5
  clear rx
  obtain ⟨n, hn⟩ : ∃ n, L1.length = n := ⟨_, rfl⟩
  have hone := Hone.out
  have hl1 := Hl1.out
  rw [hn] at hone hl1 ⊢
  have HRd := Lib.hid hRd
  have Hn := Lib.hid hn
  have HS := Lib.hid hS
  replace Hone := Lib.hid hone
  replace Hl1 := Lib.hid hl1
  clear hn hRd hS hb hone hl1
  obtain ⟨wz1, rfl⟩ : ∃ wz : World, wz = w4 := ⟨_, rfl⟩
  go_wp2_with fail
  go_loopw [13, 14] (fun bm i w9 => ∃ (k : Nat) (b : Bool), k ≤ n ∧ i = .int .i64 k ∧ bm = .bool b ∧ (b = true ↔ t ∈ L1.take k) ∧ w9 = wz1) (fun _ i _ => n - (intOf i).toNat)
  case atStart => exact ⟨0, false, Nat.zero_le _, rfl, rfl, by simp, rfl⟩
  case round =>
    obtain ⟨k, b, hk, rfl, rfl, hbk, rfl⟩ := hrel
    by_cases hlt : k < n
    · have hkI : (k : Int) < (n : Int) := by omega
      have hk0 : (0 : Int) ≤ (k : Int) := by omega
      have wk : IntKind.i64.wrap ((k : Int) + 1) = (k : Int) + 1 := i64_same _ (by have := Hl1.out; omega)
      have xk := wrap64_in ((k : Int) + 1) (by have := Hl1.out; omega)
      obtain ⟨lb, lo, rfl, hlb, hlc⟩ := HRd.out.at_ (k := k) (by rw [Hn.out]; exact hlt)
      obtain ⟨u, hu⟩ : ∃ u, L1.getD k 0 = u := ⟨_, rfl⟩
      have hmt := mem_take (L := L1) (k := k) (t := t) (by rw [Hn.out]; exact hlt)
      rw [hu] at hlc hmt
      have Hlt := Lib.hid hlt
      have Hbk := Lib.hid hbk
      have Hmt := Lib.hid hmt
      clear hu hmt hlt hbk hlb hk
      cases b with
      | true =>
        go_wp2_with fail
        exact ⟨⟨k + 1, true, Hlt.out, by push_cast; rfl, rfl, ⟨fun _ => Hmt.out.2 (.inl (Hbk.out.1 rfl)), fun _ => rfl⟩, by first | rfl | trivial⟩, meas_z n k Hlt.out⟩
      | false =>
        by_cases hut : u = t
        · have ku : (u == t) = true := beq_iff_eq.2 hut
          have Hut := Lib.hid hut
          clear hut
          go_wp2_with fail
          exact ⟨⟨k + 1, true, Hlt.out, by push_cast; rfl, rfl, ⟨fun _ => Hmt.out.2 (.inr Hut.out), fun _ => rfl⟩, by first | rfl | trivial⟩, meas_z n k Hlt.out⟩
        · have ku : (u == t) = false := beq_eq_false_iff_ne.2 hut
          have Hut : Hid (¬ u = t) := hut
          clear hut
          go_wp2_with fail
          exact ⟨⟨k + 1, false, Hlt.out, by push_cast; rfl, rfl, ⟨(fun h => by cases h), fun h => (Hmt.out.1 h).elim (fun h => Hbk.out.2 h) (fun h => absurd h Hut.out)⟩, by first | rfl | trivial⟩, meas_z n k Hlt.out⟩
    · obtain rfl : k = n := by omega
      have hkI : ¬ ((k : Int) < (k : Int)) := by omega
      obtain rfl : b = true := hbk.2 (by rw [List.take_of_length_le (by rw [Hn.out]; exact Nat.le_refl _)]; exact Hin.out)
      obtain ⟨bz, hbz⟩ : ∃ bz, ((lr : Int) == 0) = bz := ⟨_, rfl⟩
      have hS := HS.out
      obtain ⟨bo, hbo⟩ : ∃ bo, ((k : Int) != 1) = bo := ⟨_, rfl⟩
      have hzz : bz = true → bo = false := fun q => by
        rw [← hbo, Hone.out (by rw [q] at hbz; have := beq_iff_eq.1 hbz; omega)]; rfl
      obtain ⟨bb, hbb⟩ : ∃ bb, (bz && bo) = bb := ⟨_, rfl⟩
      have kbb : bz = false ∨ (bz = true ∧ bo = false) := by cases bz with | false => exact .inl rfl | true => exact .inr ⟨rfl, hzz rfl⟩
      clear hbk hlt hk hbb hzz
      have c0 := hS.1.c0
      have c1 := hS.1.c1
      have m0 := hS.m0
      have m1 := hS.m1
      have m2 := hS.m2
      have m3 := hS.m3
      have m4 := hS.m4
      have m5 := hS.m5
      have HX := insts_nomom o A lr cr g y m d h i s Hok.out Hm.out wr hS.1.2.1 hS.1.2.2.1
      unfold zonC at HX
      replace HX := Lib.hid HX
      have HT := Lib.hid hS
      clear hS
      rcases kbb with rfl | ⟨rfl, rfl⟩
      · skip
        go_wp2_with fail
        refine HX.out.mono ?_
        rintro e wb ⟨rfl, hb⟩
        have hS := HT.out.go hb
        clear HX HT c0 c1 m0 m1 m2 m3 m4 m5
        go_wp2_with fail
        go_loopw [17] (fun i wr => i = .int .i64 0 ∧ wr = wb) (fun _ _ => 0)
        case atStart => exact ⟨rfl, rfl⟩
        case round =>
          obtain ⟨rfl, rfl⟩ := hrel
          have HB := Lib.hid hS.1.2.2.2
          clear hS
          go_wp2_with fail
          go_ret
          exact ⟨rfl, by first | exact HB.out | exact HB.out.drewN _ | (rw [← Hb0.out]; exact HB.out) | (rw [← Hb0.out]; exact HB.out.drewN _)⟩
      · skip
        go_wp2_with fail
        refine HX.out.mono ?_
        rintro e wb ⟨rfl, hb⟩
        have hS := HT.out.go hb
        clear HX HT c0 c1 m0 m1 m2 m3 m4 m5
        go_wp2_with fail
        go_loopw [17] (fun i wr => i = .int .i64 0 ∧ wr = wb) (fun _ _ => 0)
        case atStart => exact ⟨rfl, rfl⟩
        case round =>
          obtain ⟨rfl, rfl⟩ := hrel
          have HB := Lib.hid hS.1.2.2.2
          clear hS
          go_wp2_with fail
          go_ret
          exact ⟨rfl, by first | exact HB.out | exact HB.out.drewN _ | (rw [← Hb0.out]; exact HB.out) | (rw [← Hb0.out]; exact HB.out.drewN _)⟩
end Go.Proofs.YtoipmhmghcngcaaDoor
