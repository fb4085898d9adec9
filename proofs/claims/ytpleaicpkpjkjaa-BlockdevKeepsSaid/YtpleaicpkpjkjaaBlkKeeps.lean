/-
  BlockdevKeeps, walked: what was flushed stays, whatever crash comes. Conditions stand at each theorem. (Printed by gen_keeps.py.)
-/
import Derived.Test.YtpleaicpkpjkjaaBlk23
import Derived.Test.YtpleaicpkpjkjaaBlkDown
import Derived.Test.YtpleaicpkpjkjaaBlk26
namespace Go.Proofs.Ytpleaicpkpjkjaa
open Go Go.RowKit Go.Kw
set_option linter.unusedVariables false
set_option linter.unusedSimpArgs false

theorem flush_p0 {D : Dv} (h1 : D.dn = false) (h2 : D.p = 0) : flushV D = (0, { S := flS D.C D.S D.C.length, C := [], p := 0, dn := false, k := D.k + 1 }) := by
  unfold flushV
  rw [if_neg (by simp [h1])]
  rcases cnt_cases D D { D with S := flS D.C D.S D.C.length, C := [] } with ⟨h, e⟩ | ⟨h, e⟩
  · omega
  · rw [e]; simp [planN, h1, h2]
/-- A device whose sectors are S, that has writes C since, is up, without a plan. -/
def kpD (S : List (List UInt8)) (C : List (Nat × List UInt8)) (k : Int) : Dv := { S := S, C := C, p := 0, dn := false, k := k }
theorem rest_kp (S : List (List UInt8)) (C : List (Nat × List UInt8)) (k : Int) (kp : List UInt8) (to at' : Int) : restV { kpD S C k with dn := true } kp to at' = (0, kpD (crS (many kp to at') C S C.length) [] k) := if_pos rfl
theorem put_kp (S : List (List UInt8)) (C : List (Nat × List UInt8)) (k : Int) (n : Int) (b : List UInt8) (hC : C.length < 256) : ((putV (kpD S C k) n b).1 ≠ 0 ∧ (putV (kpD S C k) n b).2 = kpD S C k) ∨ (∃ m : Nat, n = m ∧ m < S.length ∧ b.length = 128 ∧ putV (kpD S C k) n b = (0, kpD S (C ++ [(m, b)]) (k + 1))) := by
  unfold putV
  by_cases h0 : putE (kpD S C k) n b.length = 0
  · rw [if_pos h0]
    right
    rcases putE_cases (kpD S C k) n b.length with ⟨h, _⟩ | ⟨_, ⟨h, _⟩ | ⟨hn, ⟨h, _⟩ | ⟨hl, ⟨h, _⟩ | ⟨_, _⟩⟩⟩⟩ <;> try omega
    refine ⟨n.toNat, by omega, by have : n < (S.length : Int) := hn.2; omega, hl, ?_⟩
    rcases cnt_cases (kpD S C k) { kpD S C k with C := C ++ [(n.toNat, b)] } { kpD S C k with C := C ++ [(n.toNat, b)] } with ⟨h, e⟩ | ⟨h, e⟩
    · cases h
    · exact e
  · rw [if_neg h0]
    exact .inl ⟨h0, rfl⟩

set_option maxRecDepth 100000 in
set_option maxHeartbeats 64000000 in
theorem blockdevKeeps_walk (v0 : Value) (x0 : OpX) (v1 : Value) (x1 : OpX) (KA : Option Addr) (kl kc : Nat) (kz : List Int) (to at' : Int) (w : World) (hx0 : v0 = .slice x0.1 x0.2.1 x0.2.2.1 ∧ RdOps w x0.1 x0.2.1 x0.2.2.1 x0.2.2.2) (hx1 : v1 = .slice x1.1 x1.2.1 x1.2.2.1 ∧ RdOps w x1.1 x1.2.1 x1.2.2.1 x1.2.2.2) (hc : IsRow .u8 w KA kl kc kz ∧ (Lit.int .i64 to).wf = true ∧ (Lit.int .i64 at').wf = true) :
    Calls Try.prog 3 #[v0, v1, .agg #[.slice KA kl kc, .int .i64 to, .int .i64 at']] w fun e w' => e = .returned (.bool true) ∧ Below w.heap.size w w' := by
  obtain ⟨A, n, c, g⟩ := x0
  obtain ⟨A2, n2, c2, g2⟩ := x1
  obtain ⟨rfl, hR⟩ := hx0
  obtain ⟨rfl, hR2⟩ := hx1
  dsimp only at hR hR2 ⊢
  have hkc := hc.1.caps
  obtain ⟨kp, hkl, hkp⟩ := hc.1.bytes
  have HR := Lib.hid (And.intro hR hR2)
  have HKp := Lib.hid (And.intro hkp (And.intro hkl hkc))
  clear hR hR2 hc hkp hkl hkc
  obtain ⟨wb, hwb⟩ : ∃ wb, w.alloc (.cells #[.slice KA kl kc, .int .i64 to, .int .i64 at'] 25) = wb := ⟨_, rfl⟩
  obtain ⟨cb, hcb⟩ : ∃ cb, w.heap.size = cb := ⟨_, rfl⟩
  have hbb : Below w.heap.size w wb := hwb ▸ bstep w _
  have hcr : wb.heap[cb]? = some (.cells #[.slice KA kl kc, .int .i64 to, .int .i64 at'] 25 (0, 0)) := by rw [← hwb, ← hcb]; exact blk_new w _ _
  have HX := Lib.hid (alive_calls wb)
  have HB := Lib.hid (And.intro hbb hcr)
  have Hcb := Lib.hid hcb
  clear hbb hcr
  go_enter Try.func3, Try.ntmps3
  go_wp2_with fail
  refine HX.out.mono ?_
  rintro e w1 ⟨rfl, hb1⟩
  clear HX
  have hcr := blk_below HB.out.2 hb1
  have hb1 := bnext HB.out.1 hb1
  clear HB
  have HX := Lib.hid (great_calls w1 A n c g (HR.out.1.go hb1))
  have HB := Lib.hid (And.intro hb1 hcr)
  clear hb1 hcr
  go_wp2_with fail
  refine HX.out.mono ?_
  rintro e w2 ⟨⟨G, rfl, hG, hGs⟩, hb2⟩
  clear HX
  have hcr := blk_below HB.out.2 hb2
  have hb2 := bnext HB.out.1 hb2
  clear HB
  rcases hG with rfl | rfl
  rotate_left
  · have HB := Lib.hid hb2
    clear hb2 hGs hcr
    go_wp2_with fail
    go_ret
    exact ⟨rfl, HB.out⟩
  have HG := Lib.hid (hGs.1 rfl)
  clear hGs
  have HX := Lib.hid (great_calls w2 A2 n2 c2 g2 (HR.out.2.go hb2))
  have HB := Lib.hid (And.intro hb2 hcr)
  clear hb2 hcr
  go_wp2_with fail
  refine HX.out.mono ?_
  rintro e w3 ⟨⟨G, rfl, hG, hGs⟩, hb3⟩
  clear HX
  have hcr := blk_below HB.out.2 hb3
  have hb3 := bnext HB.out.1 hb3
  clear HB
  have q0 := blk_cell hcr 0 rfl
  rcases hG with rfl | rfl
  rotate_left
  · have HB := Lib.hid hb3
    clear hb3 hGs hcr
    go_wp2_with fail
    go_ret
    exact ⟨rfl, HB.out⟩
  have HG2 := Lib.hid (hGs.1 rfl)
  clear hGs
  have HB := Lib.hid (And.intro hb3 hcr)
  clear hb3 hcr
  by_cases h64 : (kl : Int) > 64
  · have k0 : decide ((kl : Int) > 64) = true := decide_eq_true h64
    clear h64
    go_wp2_with fail
    go_ret
    exact ⟨rfl, HB.out.1⟩
  have k0 : decide ((kl : Int) > 64) = false := decide_eq_false h64
  by_cases h100 : (n : Int) > 200
  · have k1 : decide ((n : Int) > 200) = true := decide_eq_true h100
    clear h100 h64
    go_wp2_with fail
    go_ret
    exact ⟨rfl, HB.out.1⟩
  have k1 : decide ((n : Int) > 200) = false := decide_eq_false h100
  by_cases h50 : (n2 : Int) > 200
  · have k2 : decide ((n2 : Int) > 200) = true := decide_eq_true h50
    clear h100 h50 h64
    go_wp2_with fail
    go_ret
    exact ⟨rfl, HB.out.1⟩
  have k2 : decide ((n2 : Int) > 200) = false := decide_eq_false h50
  have Hn := Lib.hid (show n ≤ 200 ∧ n2 ≤ 200 by omega)
  clear h100 h50 h64
  have HX := Lib.hid (show Calls Try.prog 9 #[.int .i64 8] w3 _ from LD_new w3 w3 (Below.refl _ _) 8 (by omega) (by omega))
  go_wp2_with fail
  refine HX.out.mono ?_
  rintro e w4 ⟨d, sb, rfl, hS, -⟩
  have HS := Lib.hid hS
  have Hw3 := Lib.hid HB.out.1
  have Hcr := Lib.hid HB.out.2
  clear HX hS HB k0 k1 k2 q0
  go_wp2_with fail
  go_loopw [10, 66] (fun _ iv wr => ∃ i : Nat, i ≤ n ∧ iv = .int .i64 i ∧ ∃ D : Dv, LD w3 d sb 8 D (fun _ => False) wr ∧ D.dn = false ∧ D.p = 0 ∧ 0 ≤ D.k ∧ D.k ≤ 2 * (i : Int) ∧ D.S.length = 8) (fun _ iv _ => n - (intOf iv).toNat)
  case atStart => exact ⟨0, by omega, rfl, newV 8, HS.out, rfl, rfl, by show (0 : Int) ≤ 0; omega, by show (0 : Int) ≤ 2 * ((0 : Nat) : Int); omega, by simp [newV]⟩
  case round =>
    obtain ⟨i, hi, rfl, D, hS, hdn, hp, hk0, hki, hSl⟩ := hrel
    clear HS
    by_cases hlt : i < n
    · have hI : (i : Int) < (n : Int) := by omega
      have hi0 : (0 : Int) ≤ (i : Int) := by omega
      obtain ⟨b, off, rfl, hbw, hC⟩ := HR.out.1.opC (bnext Hw3.out hS.below) hlt
      obtain ⟨z, hz⟩ : ∃ z, g i = z := ⟨_, rfl⟩
      rw [hz] at hC
      have hL : z.L ≤ 300 := by rw [← hz]; exact (HG.out.2 i hlt).2
      have HBy := Lib.hid (fun X => op_bytes X z hL)
      obtain ⟨l, hl⟩ : ∃ l, opX z.b (opN z.L) (opN z.L) = l := ⟨_, rfl⟩
      obtain ⟨E, hE⟩ : ∃ E, (putV D z.N l).1 = E := ⟨_, rfl⟩
      obtain ⟨D', hD'⟩ : ∃ D', (putV D z.N l).2 = D' := ⟨_, rfl⟩
      have HWr := Lib.hid (fun X A3 (ho : X.ownsRow wr.drew.heap.size 5 1 (.slice A3 (opN z.L) (opN z.L)) (opN z.L) (bv (opX z.b (opN z.L) (opN z.L)))) (hb : Below wr.drew.heap.size wr.drew X) => by
        have h := (hS.go (Below.refl wr.heap.size wr).drew).write hb (by have := Hn.out; omega) (by rw [hl] at ho; exact ho) z.N
        rw [hE, hD'] at h
        exact h)
      have HSS := Lib.hid hC
      have HC2 := Lib.hid (show ∀ X, Below w.heap.size w X → OpC b (off + i * 7) z X from fun X hX => by
        obtain ⟨b', off', e', -, h'⟩ := HR.out.1.opC hX hlt
        injection e' with e'; injection e' with e1 e2
        subst e1 e2
        rw [hz] at h'; exact h')
      have hpp := put_p0 hdn hp z.N l
      rw [hD'] at hpp
      have HP := Lib.hid (And.intro hpp (And.intro hlt (And.intro hk0 (And.intro hki hSl))))
      have X1 := Lib.hid (wrap64_in' ((i : Int) + 1) (by have := Hn.out; omega))
      clear hz hL hl hE hD' hC hpp hS hdn hp hk0 hki hSl hlt hi hbw
      go_wp2_with fail
      refine wp_region_held_drew (S := (fun X => X.cell? ⟨b, off + i * 7, none⟩ = some (.int .i64 z.kd) ∧ X.cell? ⟨b, off + i * 7 + 1, none⟩ = some (.int .i64 z.N) ∧ X.cell? ⟨b, off + i * 7 + 2, none⟩ = some (.int .u8 (z.b.toNat : Int)) ∧ X.cell? ⟨b, off + i * 7 + 3, none⟩ = some (.int .i64 z.L) ∧ X.cell? ⟨b, off + i * 7 + 4, none⟩ = some (.slice z.KA z.kp.length z.kc) ∧ X.cell? ⟨b, off + i * 7 + 5, none⟩ = some (.int .i64 z.to) ∧ X.cell? ⟨b, off + i * 7 + 6, none⟩ = some (.int .i64 z.at'))) (by kernel_rfl) (HSS.out.go (Below.refl _ _).drew) (fun hHeld => ?_)
      refine wpAnyH_take (i := 0) (v := ?_) rfl (by kernel_rfl) (by kernel_rfl) (by kernel_rfl) (fun _ _ _ h => h) (Or.inl ⟨by kernel_rfl, ?_⟩) (by assumption) ?_
      rotate_left
      · intro w hSw; (try dsimp only at hSw); go_simp; try with_reducible rfl
      simp only [Act.put, List.getElem_toArray, List.getElem_cons_succ, List.getElem_cons_zero, List.setIfInBounds_toArray, List.set_cons_zero, List.set_cons_succ]
      refine wpAnyH_take (i := 1) (v := ?_) rfl (by kernel_rfl) (by kernel_rfl) (by kernel_rfl) (fun _ _ _ h => h) (Or.inl ⟨by kernel_rfl, ?_⟩) (by assumption) ?_
      rotate_left
      · intro w hSw; (try dsimp only at hSw); go_simp; try with_reducible rfl
      simp only [Act.put, List.getElem_toArray, List.getElem_cons_succ, List.getElem_cons_zero, List.setIfInBounds_toArray, List.set_cons_zero, List.set_cons_succ]
      refine wpAnyH_take (i := 2) (v := ?_) rfl (by kernel_rfl) (by kernel_rfl) (by kernel_rfl) (fun _ _ _ h => h) (Or.inl ⟨by kernel_rfl, ?_⟩) (by assumption) ?_
      rotate_left
      · intro w hSw; (try dsimp only at hSw); go_simp; try with_reducible rfl
      simp only [Act.put, List.getElem_toArray, List.getElem_cons_succ, List.getElem_cons_zero, List.setIfInBounds_toArray, List.set_cons_zero, List.set_cons_succ]
      refine wpAnyH_take (i := 3) (v := ?_) rfl (by kernel_rfl) (by kernel_rfl) (by kernel_rfl) (fun _ _ _ h => h) (Or.inl ⟨by kernel_rfl, ?_⟩) (by assumption) ?_
      rotate_left
      · intro w hSw; (try dsimp only at hSw); go_simp; try with_reducible rfl
      simp only [Act.put, List.getElem_toArray, List.getElem_cons_succ, List.getElem_cons_zero, List.setIfInBounds_toArray, List.set_cons_zero, List.set_cons_succ]
      refine wpAnyH_take (i := 4) (v := ?_) rfl (by kernel_rfl) (by kernel_rfl) (by kernel_rfl) (fun _ _ _ h => h) (Or.inl ⟨by kernel_rfl, ?_⟩) (by assumption) ?_
      rotate_left
      · intro w hSw; (try dsimp only at hSw); go_simp; try with_reducible rfl
      simp only [Act.put, List.getElem_toArray, List.getElem_cons_succ, List.getElem_cons_zero, List.setIfInBounds_toArray, List.set_cons_zero, List.set_cons_succ]
      refine wpAnyH_take (i := 5) (v := ?_) rfl (by kernel_rfl) (by kernel_rfl) (by kernel_rfl) (fun _ _ _ h => h) (Or.inl ⟨by kernel_rfl, ?_⟩) (by assumption) ?_
      rotate_left
      · intro w hSw; (try dsimp only at hSw); go_simp; try with_reducible rfl
      simp only [Act.put, List.getElem_toArray, List.getElem_cons_succ, List.getElem_cons_zero, List.setIfInBounds_toArray, List.set_cons_zero, List.set_cons_succ]
      refine wpAnyH_take (i := 6) (v := ?_) rfl (by kernel_rfl) (by kernel_rfl) (by kernel_rfl) (fun _ _ _ h => h) (Or.inl ⟨by kernel_rfl, ?_⟩) (by assumption) ?_
      rotate_left
      · intro w hSw; (try dsimp only at hSw); go_simp; try with_reducible rfl
      simp only [Act.put, List.getElem_toArray, List.getElem_cons_succ, List.getElem_cons_zero, List.setIfInBounds_toArray, List.set_cons_zero, List.set_cons_succ]
      refine wpAnyH_take (i := 7) (v := ?_) rfl (by kernel_rfl) (by kernel_rfl) (by kernel_rfl) (fun _ _ _ h => h) (Or.inl ⟨by kernel_rfl, ?_⟩) (by assumption) ?_
      rotate_left
      · intro w hSw; (try dsimp only at hSw); go_simp; try with_reducible rfl
      simp only [Act.put, List.getElem_toArray, List.getElem_cons_succ, List.getElem_cons_zero, List.setIfInBounds_toArray, List.set_cons_zero, List.set_cons_succ]
      refine wpAnyH_take (i := 8) (v := ?_) rfl (by kernel_rfl) (by kernel_rfl) (by kernel_rfl) (fun _ _ _ h => h) (Or.inl ⟨by kernel_rfl, ?_⟩) (by assumption) ?_
      rotate_left
      · intro w hSw; (try dsimp only at hSw); go_simp; try with_reducible rfl
      simp only [Act.put, List.getElem_toArray, List.getElem_cons_succ, List.getElem_cons_zero, List.setIfInBounds_toArray, List.set_cons_zero, List.set_cons_succ]
      refine wpAnyH_take (i := 9) (v := ?_) rfl (by kernel_rfl) (by kernel_rfl) (by kernel_rfl) (fun _ _ _ h => h) (Or.inl ⟨by kernel_rfl, ?_⟩) (by assumption) ?_
      rotate_left
      · intro w hSw; (try dsimp only at hSw); go_simp; try with_reducible rfl
      simp only [Act.put, List.getElem_toArray, List.getElem_cons_succ, List.getElem_cons_zero, List.setIfInBounds_toArray, List.set_cons_zero, List.set_cons_succ]
      refine wpAnyH_ready (rs := [10]) (by kernel_rfl) (by simp) ?_
      refine AllReadyH.cons rfl (fun K hK => ?_) AllReadyH.nil
      go_simp
      refine (HBy.out wr.drew).mono ?_
      rintro e u3 ⟨A3, rfl, ho3, hb3⟩
      have H3 := Lib.hid (And.intro ho3 hb3)
      clear ho3 hb3
      try go_wp2_with fail
      refine hK.out _ _ (HSS.out.go ((Below.refl wr.heap.size wr).drew.trans H3.out.2)) (fun hHeld => ?_)
      clear hK K
      try simp only [Act.put, List.getElem_toArray, List.getElem_cons_succ, List.getElem_cons_zero, List.setIfInBounds_toArray, List.set_cons_zero, List.set_cons_succ]
      refine wpAnyH_ready (rs := [11]) (by kernel_rfl) (by simp) ?_
      refine AllReadyH.cons rfl (fun K hK => ?_) AllReadyH.nil
      go_simp
      refine (HWr.out u3 A3 H3.out.1 H3.out.2).mono ?_
      rintro e u4 ⟨rfl, hS4, -⟩
      have H4 := Lib.hid hS4
      clear hS4
      try go_wp2_with fail
      refine hK.out _ _ (HC2.out u4 (bnext Hw3.out H4.out.below)) (fun hHeld => ?_)
      clear hK K
      try simp only [Act.put, List.getElem_toArray, List.getElem_cons_succ, List.getElem_cons_zero, List.setIfInBounds_toArray, List.set_cons_zero, List.set_cons_succ]
      refine wpAnyH_take (i := 12) (v := ?_) rfl (by kernel_rfl) (by kernel_rfl) (by kernel_rfl) (fun _ _ _ h => h) (Or.inl ⟨by kernel_rfl, ?_⟩) (by assumption) ?_
      rotate_left
      · intro w hSw; (try dsimp only at hSw); go_simp; try with_reducible rfl
      simp only [Act.put, List.getElem_toArray, List.getElem_cons_succ, List.getElem_cons_zero, List.setIfInBounds_toArray, List.set_cons_zero, List.set_cons_succ]
      refine wpAnyH_done (by kernel_rfl) ?_ _
      by_cases hE : E = 122
      · subst hE
        have HX := Lib.hid (by have h := H4.out.flush (by obtain ⟨⟨p1, p2, p3, p4, p5⟩, hlt, hk0, hki, hSl⟩ := HP.out; have := Hn.out; omega); rw [flush_p0 HP.out.1.1 HP.out.1.2.1] at h; exact h)
        go_wp2_with fail
        refine HX.out.mono ?_
        rintro e u5 ⟨rfl, hS5, -⟩
        have H5 := Lib.hid hS5
        clear HX hS5
        go_wp2_with fail
        try rw [X1.out]
        obtain ⟨⟨p1, p2, p3, p4, p5⟩, hlt, hk0, hki, hSl⟩ := HP.out
        exact ⟨⟨i + 1, hlt, by push_cast; rfl, _, H5.out, rfl, rfl, by show 0 ≤ D'.k + 1; omega, by show D'.k + 1 ≤ 2 * ((i + 1 : Nat) : Int); push_cast; omega, by show (flS _ _ _).length = 8; rw [flS_length, p5]; exact hSl⟩, by simp [intOf]; omega⟩
      · have kE : (E == 122) = false := beq_eq_false_iff_ne.2 hE
        clear hE
        go_wp2_with fail
        try rw [X1.out]
        obtain ⟨⟨p1, p2, p3, p4, p5⟩, hlt, hk0, hki, hSl⟩ := HP.out
        exact ⟨⟨i + 1, hlt, by push_cast; rfl, _, H4.out, p1, p2, by omega, by push_cast; omega, by rw [p5]; exact hSl⟩, by simp [intOf]; omega⟩
    · obtain rfl : i = n := by omega
      have HX := Lib.hid (by have h := hS.flush (by have := Hn.out; omega); rw [flush_p0 hdn hp] at h; exact h)
      have hok := hS.ok
      have hS0l : (flS D.C D.S D.C.length).length = 8 := by rw [flS_length]; exact hSl
      have hS0 : ∀ x ∈ flS D.C D.S D.C.length, x.length = 128 := flS_128 (fun x hx => (hok.c x hx).2) hok.s _ (Nat.le_refl _)
      obtain ⟨S0, hS0e⟩ : ∃ S0, flS D.C D.S D.C.length = S0 := ⟨_, rfl⟩
      obtain ⟨K0, hK0⟩ : ∃ K0, D.k + 1 = K0 := ⟨_, rfl⟩
      rw [hS0e] at HX hS0l hS0
      rw [hK0] at HX
      have HQ := Lib.hid (And.intro hS0l (And.intro hS0 (show 0 ≤ K0 ∧ K0 ≤ 401 by have := Hn.out; omega)))
      clear hlt hi hS hdn hp hk0 hki hSl hok hS0l hS0 hS0e hK0
      go_wp2_with fail
      refine HX.out.mono ?_
      rintro e w5 ⟨rfl, hS, -⟩
      have HS := Lib.hid (show LD w3 d sb 8 (kpD S0 [] K0) (fun _ => False) w5 from hS)
      clear HX hS
      obtain ⟨ub, hub⟩ : ∃ ub, w5.heap.size = ub := ⟨_, rfl⟩
      obtain ⟨w6, hw6⟩ : ∃ w6, (w5.alloc (.cells #[.string ⟨#[]⟩, .string ⟨#[]⟩, .string ⟨#[]⟩, .string ⟨#[]⟩, .string ⟨#[]⟩, .string ⟨#[]⟩, .string ⟨#[]⟩, .string ⟨#[]⟩] 37)).alloc (.cells #[.slice none 0 0, .slice none 0 0, .slice none 0 0, .slice none 0 0, .slice none 0 0, .slice none 0 0, .slice none 0 0, .slice none 0 0] 39) = w6 := ⟨_, rfl⟩
      have hb6 : Below w5.heap.size w5 w6 := hw6 ▸ bnext (bstep w5 _) (bstep _ _)
      have hs6 : w6.heap.size = ub + 2 := by rw [← hw6, ← hub]; simp
      have hu0 : w6.heap[ub]? = some (.cells #[.string ⟨#[]⟩, .string ⟨#[]⟩, .string ⟨#[]⟩, .string ⟨#[]⟩, .string ⟨#[]⟩, .string ⟨#[]⟩, .string ⟨#[]⟩, .string ⟨#[]⟩] 37 (0, 0)) := by rw [← hw6, ← hub]; exact blk_below (blk_new w5 _ _) (bstep _ _)
      have ht0 : w6.heap[ub + 1]? = some (.cells #[.slice none 0 0, .slice none 0 0, .slice none 0 0, .slice none 0 0, .slice none 0 0, .slice none 0 0, .slice none 0 0, .slice none 0 0] 39 (0, 0)) := by
        rw [← hw6, ← hub]
        have h := blk_new (w5.alloc (.cells #[.string ⟨#[]⟩, .string ⟨#[]⟩, .string ⟨#[]⟩, .string ⟨#[]⟩, .string ⟨#[]⟩, .string ⟨#[]⟩, .string ⟨#[]⟩, .string ⟨#[]⟩] 37)) #[.slice none 0 0, .slice none 0 0, .slice none 0 0, .slice none 0 0, .slice none 0 0, .slice none 0 0, .slice none 0 0, .slice none 0 0] 39
        rwa [World.size_alloc] at h
      have h35 : w3.heap.size ≤ w5.heap.size := HS.out.below.size
      have h8 : ∀ n, n < 8 → (#[.string ⟨#[]⟩, .string ⟨#[]⟩, .string ⟨#[]⟩, .string ⟨#[]⟩, .string ⟨#[]⟩, .string ⟨#[]⟩, .string ⟨#[]⟩, .string ⟨#[]⟩] : Array Value)[n]? = some (.string ⟨#[]⟩) ∧ (#[.slice none 0 0, .slice none 0 0, .slice none 0 0, .slice none 0 0, .slice none 0 0, .slice none 0 0, .slice none 0 0, .slice none 0 0] : Array Value)[n]? = some (.slice none 0 0) := fun n hn => by
        rcases (by omega : n = 0 ∨ n = 1 ∨ n = 2 ∨ n = 3 ∨ n = 4 ∨ n = 5 ∨ n = 6 ∨ n = 7) with rfl | rfl | rfl | rfl | rfl | rfl | rfl | rfl <;> exact ⟨rfl, rfl⟩
      have hI0 : KpI w3 d sb ub (kpD S0 [] K0) (fun n => if n < 0 then [S0.getD n []] else []) S0 0 (fun _ => False) w6 := by
        refine KpI.congr (g := fun _ => []) ⟨_, fun _ => .slice none 0 0, HS.out.more hb6, fun b hb => ?_, .inr ⟨by omega, by omega⟩, ⟨fun n hn => blk_cell ht0 n (h8 n hn).2, fun n => blk_frozen ht0 n, fun n hn => World.ownsRow_nil _ _ _ _, (fun n m _ _ _ b e => by cases e), (fun n _ e => by cases e), (fun n b _ e => by cases e), .inr ⟨by omega, by omega⟩⟩, (fun n _ e => by cases e), ⟨fun n hn => by rw [if_neg (by omega)]; exact blk_cell hu0 n (h8 n hn).1, fun n => blk_frozen hu0 n⟩, fun b hb => hb.elim⟩ (fun n _ => by rw [if_neg (by omega)])
        rcases hb with hb | ⟨hb, -⟩
        · exact hb.elim
        · omega
      have HI := Lib.hid hI0
      clear hb6 hs6 hu0 ht0 h35 h8 hI0 HS
      go_wp2_with fail
      go_loopw [13, 14, 15, 88] (fun _ _ _ iv wr => ∃ i : Nat, i ≤ 8 ∧ iv = .int .i64 i ∧ KpI w3 d sb ub (kpD S0 [] K0) (fun n => if n < i then [S0.getD n []] else []) S0 i (fun _ => False) wr) (fun _ _ _ iv _ => 8 - (intOf iv).toNat)
      case atStart => exact ⟨0, by omega, rfl, HI.out⟩
      case round =>
        obtain ⟨i, hi, rfl, hK⟩ := hrel
        clear HI
        by_cases hlt : i < 8
        · have hI : (i : Int) < 8 := by omega
          have hi0 : (0 : Int) ≤ (i : Int) := by omega
          obtain ⟨s, hs⟩ : ∃ s, S0.getD i [] = s := ⟨_, rfl⟩
          have HX := Lib.hid (show Calls Try.prog 13 #[.pointer (some ⟨d, 0, none⟩), .int .i64 (i : Int)] wr (SafeB wr s) from by
            obtain ⟨X, V, h1, -⟩ := hK
            rw [← hs]; exact h1.read i (by show i < S0.length; rw [HQ.out.1]; exact hlt) rfl)
          have hsl : s.length = 128 := by
            rw [← hs, List.getD_eq_getElem?_getD, List.getElem?_eq_getElem (show i < S0.length by rw [HQ.out.1]; exact hlt)]
            exact HQ.out.2.1 _ (List.getElem_mem _)
          have HI := Lib.hid (And.intro hK (And.intro hlt (And.intro hs hsl)))
          have X1 := Lib.hid (wrap64_in' ((i : Int) + 1) (by omega))
          clear hK hi hlt hs hsl
          go_wp2_with fail
          refine HX.out.mono ?_
          rintro e u1 ⟨AR, cR, rfl, ho, hb⟩
          obtain ⟨hK, hlt, hs, hsl⟩ := HI.out
          have hK1 := hK.go hb
          have t1 := str_own ho hsl
          have hcu := hK1
          obtain ⟨X, V, -, -, -, -, -, h6, -⟩ := hcu
          have cu := h6.1 i hlt
          rw [if_neg (by omega)] at cu
          have fu := h6.2 i
          have hK2 := hK1.setSafe hlt
          rw [hs] at hK2
          obtain ⟨u2, hu2⟩ : ∃ u2, u1.setCell ⟨ub, i, none⟩ (.string ⟨s.toArray⟩) = u2 := ⟨_, rfl⟩
          rw [hu2] at hK2
          have hK3 := hK2.go (Below.refl u2.heap.size u2).drew
          have hcu3 := hK3
          obtain ⟨X3, V3, -, -, -, -, -, h63, -⟩ := hcu3
          have cu3 := h63.1 i hlt
          rw [if_pos (by omega), hs] at cu3
          obtain ⟨v, A', c', W', cv, fv, ⟨A0, c0, e0⟩, hrun, cv2, fv2, hk1, hvb, hvg, hwu, hvu, hul, hKp, hk2⟩ := hK3.append hlt 0 (by rw [if_neg (by omega)]; rfl) (by omega) s
          have HSS := Lib.hid (show ∀ X, Kept (fun b => b < u2.drew.heap.size ∧ b ≠ ub + 1 ∧ v.ownBlock ≠ some b) u2.drew X → X.cell? ⟨ub, i, none⟩ = some (.string ⟨s.toArray⟩) from fun X hk => (World.cell?_of_block (a := ⟨ub, i, none⟩) (hk.block ub hul ⟨hul, by omega, hvu⟩)).trans cu3)
          have hKa : Kept (fun b => b < u2.drew.heap.size ∧ b ≠ ub + 1 ∧ v.ownBlock ≠ some b) u2.drew (u2.drew.alloc (.cells #[.string ⟨s.toArray⟩] 9)) := (Kept.refl _ u2.drew).alloc _
          have hca : (u2.drew.alloc (.cells #[.string ⟨s.toArray⟩] 9)).cell? ⟨ub + 1, i, none⟩ = some v := by rw [World.cell?_alloc_lt _ _ _ (block_lt cv)]; exact cv
          subst e0
          have HKa := Lib.hid (show Kept (fun b => b < u2.drew.heap.size ∧ b ≠ ub + 1 ∧ (Value.slice A0 0 c0).ownBlock ≠ some b) u2.drew ((u2.alloc (.cells #[.string ⟨s.toArray⟩] 9)).drew) from hKa)
          have Hcva := Lib.hid (show ((u2.alloc (.cells #[.string ⟨s.toArray⟩] 9)).drew).cell? ⟨ub + 1, i, none⟩ = some (.slice A0 0 c0) from hca)
          have Hcv := Lib.hid (show u2.cell? ⟨ub + 1, i, none⟩ = some (.slice A0 0 c0) from cv)
          have Hcv2 := Lib.hid (And.intro cv2 fv2)
          have HK1 := Lib.hid hk1
          have HK2 := Lib.hid hk2
          have HA := Lib.hid hrun
          have HKp := Lib.hid hKp
          clear hK hlt hs hsl hK1 h6 hK2 hK3 h63 cu3 cv fv hrun cv2 fv2 hk1 hvb hvg hwu hvu hul hKp hk2 hKa hca ho hb HX
          go_wp2_with fail
          refine wp_region_held_drew (S := (fun X => X.cell? ⟨ub, i, none⟩ = some (.string ⟨s.toArray⟩))) (by kernel_rfl) (HSS.out _ (Kept.refl _ _)) (fun hHeld => ?_)
          refine wpAnyH_take (i := 0) (v := ?_) rfl (by kernel_rfl) (by kernel_rfl) (by kernel_rfl) (fun _ _ _ h => h) (Or.inl ⟨by kernel_rfl, ?_⟩) (by assumption) ?_
          rotate_left
          · intro w hSw; (try dsimp only at hSw); go_simp; try with_reducible rfl
          simp only [Act.put, List.getElem_toArray, List.getElem_cons_succ, List.getElem_cons_zero, List.setIfInBounds_toArray, List.set_cons_zero, List.set_cons_succ]
          refine wpAnyH_take (i := 1) (v := ?_) rfl (by kernel_rfl) (by kernel_rfl) (by kernel_rfl) (fun _ _ _ h => h) (Or.inl ⟨by kernel_rfl, ?_⟩) (by assumption) ?_
          rotate_left
          · intro w hSw; (try dsimp only at hSw); go_simp; try with_reducible rfl
          simp only [Act.put, List.getElem_toArray, List.getElem_cons_succ, List.getElem_cons_zero, List.setIfInBounds_toArray, List.set_cons_zero, List.set_cons_succ]
          refine wpAnyH_take (i := 2) (v := ?_) rfl (by kernel_rfl) (by kernel_rfl) (by kernel_rfl) (fun _ _ _ h => h) (Or.inl ⟨by kernel_rfl, ?_⟩) (by assumption) ?_
          rotate_left
          · intro w hSw; (try dsimp only at hSw); go_simp; try with_reducible rfl
          simp only [Act.put, List.getElem_toArray, List.getElem_cons_succ, List.getElem_cons_zero, List.setIfInBounds_toArray, List.set_cons_zero, List.set_cons_succ]
          refine wpAnyH_take (i := 4) (v := ?_) rfl (by kernel_rfl) (by kernel_rfl) (by kernel_rfl) (fun _ _ _ h => h) (Or.inl ⟨by kernel_rfl, ?_⟩) (by assumption) ?_
          rotate_left
          · intro w hSw; (try dsimp only at hSw); go_simp; try with_reducible rfl
          simp only [Act.put, List.getElem_toArray, List.getElem_cons_succ, List.getElem_cons_zero, List.setIfInBounds_toArray, List.set_cons_zero, List.set_cons_succ]
          refine wpAnyH_take (i := 5) (v := ?_) rfl (by kernel_rfl) (by kernel_rfl) (by kernel_rfl) (fun _ _ _ h => h) (Or.inl ⟨by kernel_rfl, ?_⟩) (by assumption) ?_
          rotate_left
          · intro w hSw; (try dsimp only at hSw); go_simp; try with_reducible rfl
          simp only [Act.put, List.getElem_toArray, List.getElem_cons_succ, List.getElem_cons_zero, List.setIfInBounds_toArray, List.set_cons_zero, List.set_cons_succ]
          refine wpAnyH_take (i := 6) (v := ?_) rfl (by kernel_rfl) (by kernel_rfl) (by kernel_rfl) (fun _ _ _ h => h) (Or.inl ⟨by kernel_rfl, ?_⟩) (by assumption) ?_
          rotate_left
          · intro w hSw; (try dsimp only at hSw); go_simp; try with_reducible rfl
          simp only [Act.put, List.getElem_toArray, List.getElem_cons_succ, List.getElem_cons_zero, List.setIfInBounds_toArray, List.set_cons_zero, List.set_cons_succ]
          refine wpAnyH_ready (rs := [3, 7]) (by kernel_rfl) (by simp) ?_
          refine (AllReadyH.cons rfl (fun K hK => ?_) (AllReadyH.cons rfl (fun K hK => ?_) AllReadyH.nil))
          ·
            have cv := Hcv.out
            go_simp
            clear cv
            refine hK.out _ _ (HSS.out _ (Kept.refl _ _)) (fun hHeld => ?_)
            clear hK K
            try simp only [Act.put, List.getElem_toArray, List.getElem_cons_succ, List.getElem_cons_zero, List.setIfInBounds_toArray, List.set_cons_zero, List.set_cons_succ]
            refine wpAnyH_ready (rs := [7]) (by kernel_rfl) (by simp) ?_
            refine AllReadyH.cons rfl (fun K hK => ?_) AllReadyH.nil
            go_simp
            refine hK.out _ _ (HSS.out _ HKa.out) (fun hHeld => ?_)
            clear hK K
            try simp only [Act.put, List.getElem_toArray, List.getElem_cons_succ, List.getElem_cons_zero, List.setIfInBounds_toArray, List.set_cons_zero, List.set_cons_succ]
            refine wpAnyH_ready (rs := [8]) (by kernel_rfl) (by simp) ?_
            refine AllReadyH.cons rfl (fun K hK => ?_) AllReadyH.nil
            refine wp_run (v := .slice A' (0 + 1) c') (append_op rfl HA.out) ?_
            try go_simp
            refine hK.out _ _ (HSS.out _ HK1.out) (fun hHeld => ?_)
            clear hK K
            try simp only [Act.put, List.getElem_toArray, List.getElem_cons_succ, List.getElem_cons_zero, List.setIfInBounds_toArray, List.set_cons_zero, List.set_cons_succ]
            refine wpAnyH_take (i := 9) (v := ?_) rfl (by kernel_rfl) (by kernel_rfl) (by kernel_rfl) (fun _ _ _ h => h) (Or.inl ⟨by kernel_rfl, ?_⟩) (by assumption) ?_
            rotate_left
            · intro w hSw; (try dsimp only at hSw); go_simp; try with_reducible rfl
            simp only [Act.put, List.getElem_toArray, List.getElem_cons_succ, List.getElem_cons_zero, List.setIfInBounds_toArray, List.set_cons_zero, List.set_cons_succ]
            refine wpAnyH_ready (rs := [10]) (by kernel_rfl) (by simp) ?_
            refine AllReadyH.cons rfl (fun K hK => ?_) AllReadyH.nil
            have cv2 := Hcv2.out.1
            have fv2 := Hcv2.out.2
            go_simp
            clear cv2 fv2
            refine hK.out _ _ (HSS.out _ HK2.out) (fun hHeld => ?_)
            clear hK K
            try simp only [Act.put, List.getElem_toArray, List.getElem_cons_succ, List.getElem_cons_zero, List.setIfInBounds_toArray, List.set_cons_zero, List.set_cons_succ]
            refine wpAnyH_done (by kernel_rfl) ?_ _
            go_wp2_with fail
            try rw [X1.out]
            refine ⟨⟨i + 1, HI.out.2.1, by push_cast; rfl, HKp.out.congr (fun n hn => ?_)⟩, by have := HI.out.2.1; simp [intOf]; omega⟩
            by_cases e : n = i
            · subst e; simp only [if_true]; rw [if_neg (by omega), if_pos (by omega), HI.out.2.2.1]; rfl
            · simp only [if_neg e]
              by_cases e2 : n < i
              · rw [if_pos e2, if_pos (by omega)]
              · rw [if_neg e2, if_neg (by omega)]
          ·
            go_simp
            refine hK.out _ _ (HSS.out _ HKa.out) (fun hHeld => ?_)
            clear hK K
            try simp only [Act.put, List.getElem_toArray, List.getElem_cons_succ, List.getElem_cons_zero, List.setIfInBounds_toArray, List.set_cons_zero, List.set_cons_succ]
            refine wpAnyH_ready (rs := [3]) (by kernel_rfl) (by simp) ?_
            refine AllReadyH.cons rfl (fun K hK => ?_) AllReadyH.nil
            have cva := Hcva.out
            go_simp
            clear cva
            refine hK.out _ _ (HSS.out _ HKa.out) (fun hHeld => ?_)
            clear hK K
            try simp only [Act.put, List.getElem_toArray, List.getElem_cons_succ, List.getElem_cons_zero, List.setIfInBounds_toArray, List.set_cons_zero, List.set_cons_succ]
            refine wpAnyH_ready (rs := [8]) (by kernel_rfl) (by simp) ?_
            refine AllReadyH.cons rfl (fun K hK => ?_) AllReadyH.nil
            refine wp_run (v := .slice A' (0 + 1) c') (append_op rfl HA.out) ?_
            try go_simp
            refine hK.out _ _ (HSS.out _ HK1.out) (fun hHeld => ?_)
            clear hK K
            try simp only [Act.put, List.getElem_toArray, List.getElem_cons_succ, List.getElem_cons_zero, List.setIfInBounds_toArray, List.set_cons_zero, List.set_cons_succ]
            refine wpAnyH_take (i := 9) (v := ?_) rfl (by kernel_rfl) (by kernel_rfl) (by kernel_rfl) (fun _ _ _ h => h) (Or.inl ⟨by kernel_rfl, ?_⟩) (by assumption) ?_
            rotate_left
            · intro w hSw; (try dsimp only at hSw); go_simp; try with_reducible rfl
            simp only [Act.put, List.getElem_toArray, List.getElem_cons_succ, List.getElem_cons_zero, List.setIfInBounds_toArray, List.set_cons_zero, List.set_cons_succ]
            refine wpAnyH_ready (rs := [10]) (by kernel_rfl) (by simp) ?_
            refine AllReadyH.cons rfl (fun K hK => ?_) AllReadyH.nil
            have cv2 := Hcv2.out.1
            have fv2 := Hcv2.out.2
            go_simp
            clear cv2 fv2
            refine hK.out _ _ (HSS.out _ HK2.out) (fun hHeld => ?_)
            clear hK K
            try simp only [Act.put, List.getElem_toArray, List.getElem_cons_succ, List.getElem_cons_zero, List.setIfInBounds_toArray, List.set_cons_zero, List.set_cons_succ]
            refine wpAnyH_done (by kernel_rfl) ?_ _
            go_wp2_with fail
            try rw [X1.out]
            refine ⟨⟨i + 1, HI.out.2.1, by push_cast; rfl, HKp.out.congr (fun n hn => ?_)⟩, by have := HI.out.2.1; simp [intOf]; omega⟩
            by_cases e : n = i
            · subst e; simp only [if_true]; rw [if_neg (by omega), if_pos (by omega), HI.out.2.2.1]; rfl
            · simp only [if_neg e]
              by_cases e2 : n < i
              · rw [if_pos e2, if_pos (by omega)]
              · rw [if_neg e2, if_neg (by omega)]
        · obtain rfl : i = 8 := by omega
          clear hlt hi
          have HK := Lib.hid (hK.congr (g' := allG S0 []) (fun n hn => by rw [if_pos hn]; rfl))
          clear hK
          go_wp2_with fail
          go_loopw [16, 17, 116] (fun _ _ iv wr => ∃ i : Nat, i ≤ n2 ∧ iv = .int .i64 i ∧ ∃ C : List (Nat × List UInt8), C.length ≤ i ∧ KpI w3 d sb ub (kpD S0 C (K0 + (C.length : Int))) (allG S0 C) S0 8 (fun _ => False) wr) (fun _ _ iv _ => n2 - (intOf iv).toNat)
          case atStart => exact ⟨0, by omega, rfl, [], by simp, by have h := HK.out; rw [show K0 + (([] : List (Nat × List UInt8)).length : Int) = K0 by simp]; exact h⟩
          case round =>
            obtain ⟨i, hi, rfl, C, hCi, hK⟩ := hrel
            clear HK
            by_cases hlt : i < n2
            · have hI : (i : Int) < (n2 : Int) := by omega
              have hi0 : (0 : Int) ≤ (i : Int) := by omega
              have hbl : Below w3.heap.size w3 wr := by obtain ⟨X, V, h1, -⟩ := hK; exact h1.below
              obtain ⟨b, off, rfl, hbw, hC⟩ := HR.out.2.opC (bnext Hw3.out hbl) hlt
              obtain ⟨z, hz⟩ : ∃ z, g2 i = z := ⟨_, rfl⟩
              rw [hz] at hC
              have hL : z.L ≤ 300 := by rw [← hz]; exact (HG2.out.2 i hlt).2
              have HBy := Lib.hid (op_bytes wr z hL)
              obtain ⟨nl, hnl⟩ : ∃ nl, opN z.L = nl := ⟨_, rfl⟩
              rw [hnl] at HBy
              obtain ⟨l, hl⟩ : ∃ l, opX z.b nl nl = l := ⟨_, rfl⟩
              have hll : l.length = nl := by rw [← hl]; exact opX_length _ _ _
              obtain ⟨q0, q1, q2, q3, q4, q5, q6⟩ := hC
              have HI := Lib.hid (And.intro hK (And.intro hlt (And.intro hCi (And.intro hl (And.intro hll (And.intro hbw hbl))))))
              have X1 := Lib.hid (wrap64_in' ((i : Int) + 1) (by have := Hn.out; omega))
              have HZ := Lib.hid (show g2 i = z from hz)
              have HOC := Lib.hid (show OpC b (off + i * 7) z wr from ⟨q0, q1, q2, q3, q4, q5, q6⟩)
              clear hK hi hlt hl hll hL hnl hz hCi hbw hbl
              go_wp2_with fail
              refine HBy.out.mono ?_
              rintro e u1 ⟨A3, rfl, ho, hb⟩
              obtain ⟨hK, hlt, hCi, hl, hll, hbw, hbl⟩ := HI.out
              rw [hl] at ho
              obtain ⟨E, hE⟩ : ∃ E, (putV (kpD S0 C (K0 + (C.length : Int))) z.N l).1 = E := ⟨_, rfl⟩
              have HX := Lib.hid (by have h := hK.write hb (by show 0 ≤ K0 + (C.length : Int) ∧ K0 + (C.length : Int) < 4611686018427387904; have := HQ.out.2.2; have := Hn.out; omega) ho z.N; rw [hE] at h; exact h)
              have hoc1 := HOC.out.go hb
              obtain ⟨q0, q1, q2, q3, q4, q5, q6⟩ := hoc1
              have HO1 := Lib.hid (HOC.out.go hb)
              clear hK hlt hCi hl hll hbw hbl ho hb
              go_wp2_with fail
              refine HX.out.mono ?_
              rintro e u2 ⟨rfl, hK2, ho2⟩
              obtain ⟨hK, hlt, hCi, hl, hll, hbw, hbl⟩ := HI.out
              rcases put_kp S0 C (K0 + (C.length : Int)) z.N l (by have := Hn.out; omega) with ⟨h1, h2⟩ | ⟨m, hm, hm8, hl128, hput⟩
              · rw [hE] at h1
                rw [h2] at hK2
                have kE : (E == 0) = false := beq_eq_false_iff_ne.2 h1
                have HK2 := Lib.hid hK2.drop
                clear hK hlt hCi hl hll hbw hbl h1 h2 hK2 ho2 q0 q1 q2 q3 q4 q5 q6 hE HX
                go_wp2_with fail
                try rw [X1.out]
                refine ⟨?_, ?measure⟩
                (repeat apply Exists.intro)
                refine ⟨?rel, ?eq⟩
                case eq => rfl
                case rel => exact ⟨i + 1, HI.out.2.1, by push_cast; rfl, C, by have := HI.out.2.2.1; omega, HK2.out⟩
                case measure => have := HI.out.2.1; simp [intOf]; omega
              · rw [hput] at hK2 hE
                have hE0 : E = 0 := hE.symm
                subst hE0
                obtain rfl : nl = 128 := by omega
                have hm88 : m < 8 := by rw [HQ.out.1] at hm8; exact hm8
                have hbl2 : Below w3.heap.size w3 u2 := by obtain ⟨X, V, h1, -⟩ := hK2; exact h1.below
                obtain ⟨b', off', e', hbw2, hOC2⟩ := HR.out.2.opC (bnext Hw3.out hbl2) hlt
                injection e' with e'
                injection e' with e1 e2
                subst e1 e2
                rw [HZ.out] at hOC2
                have r1 := hOC2.2.1
                rw [hm] at r1
                have t1 := str_own ho2 hl128
                have hK3 := hK2.go (Below.refl u2.heap.size u2).drew
                have hCl : C.length ≤ 200 := by have := Hn.out; omega
                have hgl : (allG S0 C m).length ≤ 1000 := by
                  unfold allG
                  rw [List.length_cons, List.length_map]
                  have := List.length_filter_le (fun x => x.1 == m) C
                  omega
                obtain ⟨L, hL⟩ : ∃ L, (allG S0 C m).length = L := ⟨_, rfl⟩
                obtain ⟨v, A', c', W', cv, fv, ⟨A0, c0, e0⟩, hrun, cv2, fv2, hk1, hvb, hvg, hwu, hvu, hul, hKp, hk2⟩ := hK3.append hm88 L hL (by omega) l
                have hbs : b < w3.heap.size := Nat.lt_of_lt_of_le hbw (by have := Hw3.out; exact this.size)
                have HSS := Lib.hid (show ∀ X, Kept (fun b => b < u2.drew.heap.size ∧ b ≠ ub + 1 ∧ v.ownBlock ≠ some b) u2.drew X → X.cell? ⟨b, off + i * 7 + 1, none⟩ = some (.int .i64 (m : Int)) ∧ (convert 23 9 (.slice A3 128 128)).run Try.prog X = .ok (.string ⟨l.toArray⟩) X from fun X hk => by
                  refine ⟨(World.cell?_of_block (a := ⟨b, off + i * 7 + 1, none⟩) (hk.block b (block_lt r1) ⟨block_lt r1, by omega, fun e => by have := hvb b e; omega⟩)).trans r1, ?_⟩
                  exact str_own (own_keptV (w := u2.drew) ho2 hk (fun g hg => ⟨(hvg g hg).2.2, (hvg g hg).2.1, (hvg g hg).1⟩)) hl128)
                have hKa : Kept (fun b => b < u2.drew.heap.size ∧ b ≠ ub + 1 ∧ v.ownBlock ≠ some b) u2.drew (u2.drew.alloc (.cells #[.string ⟨l.toArray⟩] 9)) := (Kept.refl _ u2.drew).alloc _
                have hca : (u2.drew.alloc (.cells #[.string ⟨l.toArray⟩] 9)).cell? ⟨ub + 1, m, none⟩ = some v := by rw [World.cell?_alloc_lt _ _ _ (block_lt cv)]; exact cv
                subst e0
                have HKa := Lib.hid (show Kept (fun b => b < u2.drew.heap.size ∧ b ≠ ub + 1 ∧ (Value.slice A0 L c0).ownBlock ≠ some b) u2.drew ((u2.alloc (.cells #[.string ⟨l.toArray⟩] 9)).drew) from hKa)
                have Hcva := Lib.hid (show ((u2.alloc (.cells #[.string ⟨l.toArray⟩] 9)).drew).cell? ⟨ub + 1, m, none⟩ = some (.slice A0 L c0) from hca)
                have Hcv := Lib.hid (show u2.cell? ⟨ub + 1, m, none⟩ = some (.slice A0 L c0) from cv)
                have Hcv2 := Lib.hid (And.intro cv2 fv2)
                have HK1 := Lib.hid hk1
                have HK2 := Lib.hid hk2
                have HA := Lib.hid hrun
                have HKp := Lib.hid hKp
                have Hm := Lib.hid (And.intro hlt (And.intro hCi (And.intro hm88 hL)))
                have m0 : (0 : Int) ≤ (m : Int) := by omega
                have m1 : (m : Int) < 8 := by omega
                have q1' := q1
                rw [hm] at q1'
                clear hK hlt hCi hl hll hbw hbl hm8 hl128 hput hm88 hbl2 hbw2 hOC2 r1 hK3 hCl hgl hL cv fv hrun cv2 fv2 hk1 hvb hvg hwu hvu hul hKp hk2 hbs hKa hca hK2 ho2 q0 q1 q2 q3 q4 q5 q6 hE HX hm t1 q1'
                go_wp2_with fail
                refine wp_region_held_drew (S := (fun X => X.cell? ⟨b, off + i * 7 + 1, none⟩ = some (.int .i64 (m : Int)) ∧ (convert 23 9 (.slice A3 128 128)).run Try.prog X = .ok (.string ⟨l.toArray⟩) X)) (by kernel_rfl) (HSS.out _ (Kept.refl _ _)) (fun hHeld => ?_)
                refine wpAnyH_take (i := 0) (v := ?_) rfl (by kernel_rfl) (by kernel_rfl) (by kernel_rfl) (fun _ _ _ h => h) (Or.inl ⟨by kernel_rfl, ?_⟩) (by assumption) ?_
                rotate_left
                · intro w hSw; (try dsimp only at hSw); go_simp; try with_reducible rfl
                simp only [Act.put, List.getElem_toArray, List.getElem_cons_succ, List.getElem_cons_zero, List.setIfInBounds_toArray, List.set_cons_zero, List.set_cons_succ]
                refine wpAnyH_take (i := 1) (v := ?_) rfl (by kernel_rfl) (by kernel_rfl) (by kernel_rfl) (fun _ _ _ h => h) (Or.inl ⟨by kernel_rfl, ?_⟩) (by assumption) ?_
                rotate_left
                · intro w hSw; (try dsimp only at hSw); go_simp; try with_reducible rfl
                simp only [Act.put, List.getElem_toArray, List.getElem_cons_succ, List.getElem_cons_zero, List.setIfInBounds_toArray, List.set_cons_zero, List.set_cons_succ]
                refine wpAnyH_take (i := 2) (v := ?_) rfl (by kernel_rfl) (by kernel_rfl) (by kernel_rfl) (fun _ _ _ h => h) (Or.inl ⟨by kernel_rfl, ?_⟩) (by assumption) ?_
                rotate_left
                · intro w hSw; (try dsimp only at hSw); go_simp; try with_reducible rfl
                simp only [Act.put, List.getElem_toArray, List.getElem_cons_succ, List.getElem_cons_zero, List.setIfInBounds_toArray, List.set_cons_zero, List.set_cons_succ]
                refine wpAnyH_take (i := 3) (v := ?_) rfl (by kernel_rfl) (by kernel_rfl) (by kernel_rfl) (fun _ _ _ h => h) (Or.inl ⟨by kernel_rfl, ?_⟩) (by assumption) ?_
                rotate_left
                · intro w hSw; (try dsimp only at hSw); go_simp; try with_reducible rfl
                simp only [Act.put, List.getElem_toArray, List.getElem_cons_succ, List.getElem_cons_zero, List.setIfInBounds_toArray, List.set_cons_zero, List.set_cons_succ]
                refine wpAnyH_take (i := 4) (v := ?_) rfl (by kernel_rfl) (by kernel_rfl) (by kernel_rfl) (fun _ _ _ h => h) (Or.inl ⟨by kernel_rfl, ?_⟩) (by assumption) ?_
                rotate_left
                · intro w hSw; (try dsimp only at hSw); go_simp; try with_reducible rfl
                simp only [Act.put, List.getElem_toArray, List.getElem_cons_succ, List.getElem_cons_zero, List.setIfInBounds_toArray, List.set_cons_zero, List.set_cons_succ]
                refine wpAnyH_take (i := 5) (v := ?_) rfl (by kernel_rfl) (by kernel_rfl) (by kernel_rfl) (fun _ _ _ h => h) (Or.inl ⟨by kernel_rfl, ?_⟩) (by assumption) ?_
                rotate_left
                · intro w hSw; (try dsimp only at hSw); go_simp; try with_reducible rfl
                simp only [Act.put, List.getElem_toArray, List.getElem_cons_succ, List.getElem_cons_zero, List.setIfInBounds_toArray, List.set_cons_zero, List.set_cons_succ]
                refine wpAnyH_take (i := 6) (v := ?_) rfl (by kernel_rfl) (by kernel_rfl) (by kernel_rfl) (fun _ _ _ h => h) (Or.inl ⟨by kernel_rfl, ?_⟩) (by assumption) ?_
                rotate_left
                · intro w hSw; (try dsimp only at hSw); go_simp; try with_reducible rfl
                simp only [Act.put, List.getElem_toArray, List.getElem_cons_succ, List.getElem_cons_zero, List.setIfInBounds_toArray, List.set_cons_zero, List.set_cons_succ]
                refine wpAnyH_take (i := 7) (v := ?_) rfl (by kernel_rfl) (by kernel_rfl) (by kernel_rfl) (fun _ _ _ h => h) (Or.inl ⟨by kernel_rfl, ?_⟩) (by assumption) ?_
                rotate_left
                · intro w hSw; (try dsimp only at hSw); go_simp; try with_reducible rfl
                simp only [Act.put, List.getElem_toArray, List.getElem_cons_succ, List.getElem_cons_zero, List.setIfInBounds_toArray, List.set_cons_zero, List.set_cons_succ]
                refine wpAnyH_take (i := 8) (v := ?_) rfl (by kernel_rfl) (by kernel_rfl) (by kernel_rfl) (fun _ _ _ h => h) (Or.inl ⟨by kernel_rfl, ?_⟩) (by assumption) ?_
                rotate_left
                · intro w hSw; (try dsimp only at hSw); go_simp; try with_reducible rfl
                simp only [Act.put, List.getElem_toArray, List.getElem_cons_succ, List.getElem_cons_zero, List.setIfInBounds_toArray, List.set_cons_zero, List.set_cons_succ]
                refine wpAnyH_take (i := 9) (v := ?_) rfl (by kernel_rfl) (by kernel_rfl) (by kernel_rfl) (fun _ _ _ h => h) (Or.inl ⟨by kernel_rfl, ?_⟩) (by assumption) ?_
                rotate_left
                · intro w hSw; (try dsimp only at hSw); go_simp; try with_reducible rfl
                simp only [Act.put, List.getElem_toArray, List.getElem_cons_succ, List.getElem_cons_zero, List.setIfInBounds_toArray, List.set_cons_zero, List.set_cons_succ]
                refine wpAnyH_take (i := 10) (v := ?_) rfl (by kernel_rfl) (by kernel_rfl) (by kernel_rfl) (fun _ _ _ h => h) (Or.inl ⟨by kernel_rfl, ?_⟩) (by assumption) ?_
                rotate_left
                · intro w hSw; (try dsimp only at hSw); go_simp; try with_reducible rfl
                simp only [Act.put, List.getElem_toArray, List.getElem_cons_succ, List.getElem_cons_zero, List.setIfInBounds_toArray, List.set_cons_zero, List.set_cons_succ]
                refine wpAnyH_take (i := 12) (v := ?_) rfl (by kernel_rfl) (by kernel_rfl) (by kernel_rfl) (fun _ _ _ h => h) (Or.inl ⟨by kernel_rfl, ?_⟩) (by assumption) ?_
                rotate_left
                · intro w hSw; (try dsimp only at hSw); go_simp; try with_reducible rfl
                simp only [Act.put, List.getElem_toArray, List.getElem_cons_succ, List.getElem_cons_zero, List.setIfInBounds_toArray, List.set_cons_zero, List.set_cons_succ]
                refine wpAnyH_take (i := 13) (v := ?_) rfl (by kernel_rfl) (by kernel_rfl) (by kernel_rfl) (fun _ _ _ h => h) (Or.inl ⟨by kernel_rfl, ?_⟩) (by assumption) ?_
                rotate_left
                · intro w hSw; (try dsimp only at hSw); go_simp; try with_reducible rfl
                simp only [Act.put, List.getElem_toArray, List.getElem_cons_succ, List.getElem_cons_zero, List.setIfInBounds_toArray, List.set_cons_zero, List.set_cons_succ]
                refine wpAnyH_ready (rs := [11, 14]) (by kernel_rfl) (by simp) ?_
                refine (AllReadyH.cons rfl (fun K hK => ?_) (AllReadyH.cons rfl (fun K hK => ?_) AllReadyH.nil))
                ·
                  have cv := Hcv.out
                  go_simp
                  clear cv
                  refine hK.out _ _ (HSS.out _ (Kept.refl _ _)) (fun hHeld => ?_)
                  clear hK K
                  try simp only [Act.put, List.getElem_toArray, List.getElem_cons_succ, List.getElem_cons_zero, List.setIfInBounds_toArray, List.set_cons_zero, List.set_cons_succ]
                  refine wpAnyH_ready (rs := [14]) (by kernel_rfl) (by simp) ?_
                  refine AllReadyH.cons rfl (fun K hK => ?_) AllReadyH.nil
                  go_simp
                  refine hK.out _ _ (HSS.out _ HKa.out) (fun hHeld => ?_)
                  clear hK K
                  try simp only [Act.put, List.getElem_toArray, List.getElem_cons_succ, List.getElem_cons_zero, List.setIfInBounds_toArray, List.set_cons_zero, List.set_cons_succ]
                  refine wpAnyH_ready (rs := [15]) (by kernel_rfl) (by simp) ?_
                  refine AllReadyH.cons rfl (fun K hK => ?_) AllReadyH.nil
                  refine wp_run (v := .slice A' (L + 1) c') (append_op rfl HA.out) ?_
                  try go_simp
                  refine hK.out _ _ (HSS.out _ HK1.out) (fun hHeld => ?_)
                  clear hK K
                  try simp only [Act.put, List.getElem_toArray, List.getElem_cons_succ, List.getElem_cons_zero, List.setIfInBounds_toArray, List.set_cons_zero, List.set_cons_succ]
                  refine wpAnyH_take (i := 16) (v := ?_) rfl (by kernel_rfl) (by kernel_rfl) (by kernel_rfl) (fun _ _ _ h => h) (Or.inl ⟨by kernel_rfl, ?_⟩) (by assumption) ?_
                  rotate_left
                  · intro w hSw; (try dsimp only at hSw); go_simp; try with_reducible rfl
                  simp only [Act.put, List.getElem_toArray, List.getElem_cons_succ, List.getElem_cons_zero, List.setIfInBounds_toArray, List.set_cons_zero, List.set_cons_succ]
                  refine wpAnyH_ready (rs := [17]) (by kernel_rfl) (by simp) ?_
                  refine AllReadyH.cons rfl (fun K hK => ?_) AllReadyH.nil
                  have cv2 := Hcv2.out.1
                  have fv2 := Hcv2.out.2
                  go_simp
                  clear cv2 fv2
                  refine hK.out _ _ (HSS.out _ HK2.out) (fun hHeld => ?_)
                  clear hK K
                  try simp only [Act.put, List.getElem_toArray, List.getElem_cons_succ, List.getElem_cons_zero, List.setIfInBounds_toArray, List.set_cons_zero, List.set_cons_succ]
                  refine wpAnyH_done (by kernel_rfl) ?_ _
                  go_wp2_with fail
                  try rw [X1.out]
                  refine ⟨?_, ?measure⟩
                  (repeat apply Exists.intro)
                  refine ⟨?rel, ?eq⟩
                  case eq => rfl
                  case rel => exact ⟨i + 1, Hm.out.1, by push_cast; rfl, C ++ [(m, l)], by rw [List.length_append]; have := Hm.out.2.1; simp; omega, by
                    have h := HKp.out
                    rw [show K0 + (C.length : Int) + 1 = K0 + ((C ++ [(m, l)]).length : Int) by rw [List.length_append]; push_cast; simp; omega] at h
                    exact h.congr (fun n hn => by rw [allG_snoc])⟩
                  case measure => have := Hm.out.1; simp [intOf]; omega
                ·
                  go_simp
                  refine hK.out _ _ (HSS.out _ HKa.out) (fun hHeld => ?_)
                  clear hK K
                  try simp only [Act.put, List.getElem_toArray, List.getElem_cons_succ, List.getElem_cons_zero, List.setIfInBounds_toArray, List.set_cons_zero, List.set_cons_succ]
                  refine wpAnyH_ready (rs := [11]) (by kernel_rfl) (by simp) ?_
                  refine AllReadyH.cons rfl (fun K hK => ?_) AllReadyH.nil
                  have cva := Hcva.out
                  go_simp
                  clear cva
                  refine hK.out _ _ (HSS.out _ HKa.out) (fun hHeld => ?_)
                  clear hK K
                  try simp only [Act.put, List.getElem_toArray, List.getElem_cons_succ, List.getElem_cons_zero, List.setIfInBounds_toArray, List.set_cons_zero, List.set_cons_succ]
                  refine wpAnyH_ready (rs := [15]) (by kernel_rfl) (by simp) ?_
                  refine AllReadyH.cons rfl (fun K hK => ?_) AllReadyH.nil
                  refine wp_run (v := .slice A' (L + 1) c') (append_op rfl HA.out) ?_
                  try go_simp
                  refine hK.out _ _ (HSS.out _ HK1.out) (fun hHeld => ?_)
                  clear hK K
                  try simp only [Act.put, List.getElem_toArray, List.getElem_cons_succ, List.getElem_cons_zero, List.setIfInBounds_toArray, List.set_cons_zero, List.set_cons_succ]
                  refine wpAnyH_take (i := 16) (v := ?_) rfl (by kernel_rfl) (by kernel_rfl) (by kernel_rfl) (fun _ _ _ h => h) (Or.inl ⟨by kernel_rfl, ?_⟩) (by assumption) ?_
                  rotate_left
                  · intro w hSw; (try dsimp only at hSw); go_simp; try with_reducible rfl
                  simp only [Act.put, List.getElem_toArray, List.getElem_cons_succ, List.getElem_cons_zero, List.setIfInBounds_toArray, List.set_cons_zero, List.set_cons_succ]
                  refine wpAnyH_ready (rs := [17]) (by kernel_rfl) (by simp) ?_
                  refine AllReadyH.cons rfl (fun K hK => ?_) AllReadyH.nil
                  have cv2 := Hcv2.out.1
                  have fv2 := Hcv2.out.2
                  go_simp
                  clear cv2 fv2
                  refine hK.out _ _ (HSS.out _ HK2.out) (fun hHeld => ?_)
                  clear hK K
                  try simp only [Act.put, List.getElem_toArray, List.getElem_cons_succ, List.getElem_cons_zero, List.setIfInBounds_toArray, List.set_cons_zero, List.set_cons_succ]
                  refine wpAnyH_done (by kernel_rfl) ?_ _
                  go_wp2_with fail
                  try rw [X1.out]
                  refine ⟨?_, ?measure⟩
                  (repeat apply Exists.intro)
                  refine ⟨?rel, ?eq⟩
                  case eq => rfl
                  case rel => exact ⟨i + 1, Hm.out.1, by push_cast; rfl, C ++ [(m, l)], by rw [List.length_append]; have := Hm.out.2.1; simp; omega, by
                    have h := HKp.out
                    rw [show K0 + (C.length : Int) + 1 = K0 + ((C ++ [(m, l)]).length : Int) by rw [List.length_append]; push_cast; simp; omega] at h
                    exact h.congr (fun n hn => by rw [allG_snoc])⟩
                  case measure => have := Hm.out.1; simp [intOf]; omega
            · obtain rfl : i = n2 := by omega
              have hok : DvOk (kpD S0 C (K0 + (C.length : Int))) := by obtain ⟨X, V, h1, -⟩ := hK; exact h1.ok
              have HC := Lib.hid (show C.length ≤ 200 ∧ (∀ x ∈ C, x.1 < S0.length ∧ x.2.length = 128) from ⟨by have := Hn.out; omega, hok.c⟩)
              have HX := Lib.hid hK.copy
              obtain ⟨K1, hK1⟩ : ∃ K1, K0 + (C.length : Int) = K1 := ⟨_, rfl⟩
              rw [hK1] at HX
              clear hlt hi hok hK hCi hK1
              go_wp2_with fail
              refine HX.out.mono ?_
              rintro e w7 ⟨d', sb', sc', rfl, hT⟩
              have HX := Lib.hid hT.pull
              clear hT
              go_wp2_with fail
              refine HX.out.mono ?_
              rintro e w8 ⟨rfl, hT, -⟩
              have HX := Lib.hid hT.swap.pull
              clear hT
              go_wp2_with fail
              refine HX.out.mono ?_
              rintro e w9 ⟨rfl, hT, -⟩
              have HT := Lib.hid hT.swap
              clear hT HX
              go_wp2_with fail
              have HF := Lib.hid (FulI.start w9)
              go_loopw [158] (fun iv wr => ∃ i : Nat, i ≤ 40 ∧ iv = .int .i64 i ∧ FulI w9 i wr) (fun iv _ => 40 - (intOf iv).toNat)
              case atStart => exact ⟨0, by omega, rfl, HF.out⟩
              case round =>
                obtain ⟨j, hi, rfl, hF⟩ := hrel
                clear HF
                by_cases hlt : j < 40
                · have hI : (j : Int) < 40 := by omega
                  have hi0 : (0 : Int) ≤ (j : Int) := by omega
                  obtain ⟨A4, c4, A', c', W', cv, cva, hrun, cv2, fv2, hF2⟩ := hF.append (by omega)
                  have HF2 := Lib.hid (And.intro hF2 hlt)
                  have X1 := Lib.hid (wrap64_in' ((j : Int) + 1) (by omega))
                  clear hi hlt hF cva hF2
                  go_wp2_with (at_builtin; refine wpList_append_run hrun rfl rfl rfl rfl rfl ?_; clear hrun)
                  try rw [X1.out]
                  exact ⟨⟨j + 1, HF2.out.2, by push_cast; rfl, HF2.out.1⟩, by have := HF2.out.2; simp [intOf]; omega⟩
                · obtain rfl : j = 40 := by omega
                  obtain rfl : kp.length = kl := HKp.out.2.1
                  have hT := HT.out.more hF.1
                  have hcr := blk_below Hcr.out hT.below
                  have l0 := blk_cell hcr 0 rfl
                  have l1 := blk_cell hcr 1 rfl
                  have l2 := blk_cell hcr 2 rfl
                  have hsb := hT.sb_ge
                  have hKr : RdY wr (fun b => b ≠ sb) KA kp := by
                    rcases HKp.out.1 with h0 | ⟨b, off, e, hlt, hc⟩
                    · exact .inl h0
                    · have hw : w.heap.size ≤ w3.heap.size := Hw3.out.size
                      have hb' : Below w.heap.size w wr := bnext Hw3.out hT.below
                      exact .inr ⟨b, off, e, by omega, Nat.lt_of_lt_of_le hlt hb'.size, fun i hi => (World.cell?_of_block (a := ⟨b, off + i, none⟩) (hb'.block b hlt)).trans (hc i hi)⟩
                  have HX := Lib.hid (by have h := hT.rest KA kc kp to at' rfl hKr; rw [rest_kp] at h; exact h)
                  have HF := Lib.hid hF
                  clear hlt hi hF hT hcr hsb hKr
                  go_wp2_with fail
                  refine HX.out.mono ?_
                  rintro e w10 ⟨rfl, hT, hk⟩
                  have hT2 := hT.swap
                  clear hT HX l0 l1 l2
                  obtain ⟨hb9, AF, cF, hFb, hFo, hFn⟩ := HF.out
                  have hFb2 : w10.heap[w9.heap.size]? = some (.cells #[.slice AF 40 cF, .int .i64 (-1), .int .i64 0] 25 (0, 0)) := (hk.block _ (blk_lt hFb) (.inr ⟨Nat.le_refl _, blk_lt hFb⟩)).trans hFb
                  have hFo2 := own_keptV hFo hk (fun g hg => .inr (hFo.lt g hg))
                  have l3 := blk_cell hFb2 0 rfl
                  have l4 := blk_cell hFb2 1 rfl
                  have l5 := blk_cell hFb2 2 rfl
                  have hsb2 := hT2.sb_ge
                  have hKr : RdY w10 (fun b => b ≠ sb') AF (List.replicate 40 255) := by
                    rcases (rdB_own hFo2).1 with h0 | ⟨b, off, e, hlt, hc⟩
                    · exact .inl h0
                    · exact .inr ⟨b, off, e, (fun e2 => hsb2.2.2 (by rw [← e2]; exact .inr (hFo.lt b (by rw [e]; rfl)))), hlt, hc⟩
                  have HX := Lib.hid (by have h := hT2.rest AF cF (List.replicate 40 255) (-1) 0 rfl hKr; rw [rest_kp, List.length_replicate] at h; exact h)
                  clear hk hT2 hb9 hFb hFo hFn hFb2 hFo2 hsb2 hKr HF
                  go_wp2_with fail
                  refine HX.out.mono ?_
                  rintro e w11 ⟨rfl, hT, -⟩
                  have HK2 := Lib.hid (KpQ.mk' kp to at' HQ.out.1 HQ.out.2.1 HC.out.1 HC.out.2)
                  obtain ⟨S1, hS1⟩ : ∃ S1, crS (many kp to at') C S0 C.length = S1 := ⟨_, rfl⟩
                  obtain ⟨S2, hS2⟩ : ∃ S2, crS (many (List.replicate 40 255) (-1) 0) C S0 C.length = S2 := ⟨_, rfl⟩
                  rw [hS1, hS2] at HK2 hT
                  have HT := Lib.hid ((hT.swap).less (H := fun _ => False) (fun b h => h.elim))
                  clear hT HX l3 l4 l5 hS1 hS2
                  go_wp2_with fail
                  go_loopw [20, 21, 22, 23, 24, 25, 26, 27, 176] (fun ov _ _ _ _ _ _ _ iv wr => ∃ n o : Nat, n ≤ 8 ∧ iv = .int .i64 n ∧ ov = .int .i64 o ∧ (o = 0 ∨ o = 1 ∧ tornS C to < n) ∧ Two w3 d sb 8 d' sb' sc' ub (kpD S1 [] K1) (kpD S2 [] K1) (allG S0 C) S0 (fun _ => False) wr) (fun _ _ _ _ _ _ _ _ iv _ => 8 - (intOf iv).toNat)
                  case atStart => exact ⟨0, 0, by omega, rfl, rfl, .inl rfl, HT.out⟩
                  case round =>
                    obtain ⟨n, o, hi, rfl, rfl, ho, hT⟩ := hrel
                    clear HT
                    by_cases hlt : n < 8
                    · have hI : (n : Int) < 8 := by omega
                      have hi0 : (0 : Int) ≤ (n : Int) := by omega
                      obtain ⟨s, hs⟩ : ∃ s, S1.getD n [] = s := ⟨_, rfl⟩
                      obtain ⟨x, hx⟩ : ∃ x, S2.getD n [] = x := ⟨_, rfl⟩
                      obtain ⟨m, hm, hm200, hmx⟩ := HK2.out.last n hlt
                      have hsl : s.length = 128 := hs ▸ HK2.out.b1 n hlt
                      have hxl : x.length = 128 := hx ▸ HK2.out.b2 n hlt
                      rw [hx] at hmx
                      have HX := Lib.hid (show Calls Try.prog 13 #[.pointer (some ⟨d, 0, none⟩), .int .i64 (n : Int)] wr (SafeB wr s) from hs ▸ hT.read n (by show n < S1.length; rw [HK2.out.l1]; exact hlt) rfl)
                      have HL := Lib.hid (And.intro hlt (And.intro hs (And.intro hx (And.intro hm (And.intro hm200 (And.intro hmx (And.intro hsl (And.intro hxl (And.intro ho hT)))))))))
                      have X1 := Lib.hid (wrap64_in' ((n : Int) + 1) (by omega))
                      clear hi hlt hs hx hm hm200 hmx hsl hxl ho hT
                      go_wp2_with fail
                      refine HX.out.mono ?_
                      rintro e u1 ⟨AR, cR, rfl, hor, hb1⟩
                      have HX := Lib.hid (show Calls Try.prog 13 #[.pointer (some ⟨d', 0, none⟩), .int .i64 (n : Int)] u1 (SafeB u1 x) from by
                        obtain ⟨hlt, hs, hx, hm, hm200, hmx, hsl, hxl, ho, hT⟩ := HL.out
                        exact hx ▸ (hT.go hb1).swap.read n (by show n < S2.length; rw [HK2.out.l2]; exact hlt) rfl)
                      have HO := Lib.hid (And.intro hor hb1)
                      clear hor hb1
                      go_wp2_with fail
                      refine HX.out.mono ?_
                      rintro e u2 ⟨AW, cW, rfl, how, hb2⟩
                      obtain ⟨hlt, hs, hx, hm, hm200, hmx, hsl, hxl, ho, hT⟩ := HL.out
                      have hT2 := ((hT.go HO.out.2).go hb2).go (Below.refl u2.heap.size u2).drew
                      have t1 := str_own (own_below (own_below HO.out.1 hb2) (Below.refl u2.heap.size u2).drew) hsl
                      have t2 := str_own (own_below how (Below.refl u2.heap.size u2).drew) hxl
                      have hTT := hT2
                      obtain ⟨F1, F2, X, V, -, -, -, -, hXu, -, hXl, hA, hSf⟩ := hTT
                      obtain ⟨L, hL⟩ : ∃ L, (allG S0 C n).length = L := ⟨_, rfl⟩
                      obtain ⟨ab, c0, hab, hablt, hXab, hrow⟩ := hA.at hlt hL (by omega)
                      have c1 := hrow m x hmx
                      have c2 := hSf.1 n hlt
                      rw [if_pos hlt] at c2
                      have HSS := Lib.hid (show u2.drew.cell? ⟨ub + 1, n, none⟩ = some (.slice (some ⟨ab, 0, none⟩) L c0) ∧ u2.drew.cell? ⟨ab, m, none⟩ = some (.string ⟨x.toArray⟩) ∧ (convert 23 9 (.slice AW 128 cW)).run Try.prog u2.drew = .ok (.string ⟨x.toArray⟩) u2.drew ∧ (convert 23 9 (.slice AR 128 cR)).run Try.prog u2.drew = .ok (.string ⟨s.toArray⟩) u2.drew ∧ u2.drew.cell? ⟨ub, n, none⟩ = some (.string ⟨(S0.getD n []).toArray⟩) from ⟨hab, c1, t2, t1, c2⟩)
                      obtain ⟨y, hy⟩ : ∃ y, S0.getD n [] = y := ⟨_, rfl⟩
                      rw [hy] at HSS
                      have HLm := Lib.hid (show IntKind.i64.wrap ((L : Int) - 1) = (m : Int) from by rw [IntWalk.i64_left, wrap64_in' _ (by omega)]; omega)
                      have hm0 : (0 : Int) ≤ (m : Int) := by omega
                      have hmL : (m : Int) < (L : Int) := by omega
                      have HO2 := Lib.hid (And.intro (own_below HO.out.1 hb2) (And.intro ((hT.go HO.out.2).go hb2) (And.intro hy hL)))
                      by_cases hl1 : L = 1
                      · have hl2 : (L : Int) = 1 := by omega
                        have hsy : s = y := by rw [← hs, ← hy]; exact HK2.out.one n hlt (by rw [hL]; exact hl1)
                        subst hsy
                        have Hl2 := Lib.hid hl2
                        clear hl2
                        clear hlt hs hx hm hm200 hmx hsl hxl ho hT hT2 t1 t2 hXu hXl hA hSf hL hab hablt hXab hrow c1 c2 how hb2 HX hy hl1
                        go_wp2_with fail
                        refine wp_region_held_drew (S := (fun X => X.cell? ⟨ub + 1, n, none⟩ = some (.slice (some ⟨ab, 0, none⟩) L c0) ∧ X.cell? ⟨ab, m, none⟩ = some (.string ⟨x.toArray⟩) ∧ (convert 23 9 (.slice AW 128 cW)).run Try.prog X = .ok (.string ⟨x.toArray⟩) X ∧ (convert 23 9 (.slice AR 128 cR)).run Try.prog X = .ok (.string ⟨s.toArray⟩) X ∧ X.cell? ⟨ub, n, none⟩ = some (.string ⟨s.toArray⟩))) (by kernel_rfl) HSS.out (fun hHeld => ?_)
                        refine wpAnyH_take (i := 0) (v := ?_) rfl (by kernel_rfl) (by kernel_rfl) (by kernel_rfl) (fun _ _ _ h => h) (Or.inl ⟨by kernel_rfl, ?_⟩) (by assumption) ?_
                        rotate_left
                        · intro w hSw; (try dsimp only at hSw); go_simp; try with_reducible rfl
                        simp only [Act.put, List.getElem_toArray, List.getElem_cons_succ, List.getElem_cons_zero, List.setIfInBounds_toArray, List.set_cons_zero, List.set_cons_succ]
                        refine wpAnyH_take (i := 1) (v := ?_) rfl (by kernel_rfl) (by kernel_rfl) (by kernel_rfl) (fun _ _ _ h => h) (Or.inl ⟨by kernel_rfl, ?_⟩) (by assumption) ?_
                        rotate_left
                        · intro w hSw; (try dsimp only at hSw); go_simp; try with_reducible rfl
                        simp only [Act.put, List.getElem_toArray, List.getElem_cons_succ, List.getElem_cons_zero, List.setIfInBounds_toArray, List.set_cons_zero, List.set_cons_succ]
                        refine wpAnyH_take (i := 2) (v := ?_) rfl (by kernel_rfl) (by kernel_rfl) (by kernel_rfl) (fun _ _ _ h => h) (Or.inl ⟨by kernel_rfl, ?_⟩) (by assumption) ?_
                        rotate_left
                        · intro w hSw; (try dsimp only at hSw); go_simp; try with_reducible rfl
                        simp only [Act.put, List.getElem_toArray, List.getElem_cons_succ, List.getElem_cons_zero, List.setIfInBounds_toArray, List.set_cons_zero, List.set_cons_succ]
                        refine wpAnyH_take (i := 3) (v := ?_) rfl (by kernel_rfl) (by kernel_rfl) (by kernel_rfl) (fun _ _ _ h => h) (Or.inl ⟨by kernel_rfl, ?_⟩) (by assumption) ?_
                        rotate_left
                        · intro w hSw; (try dsimp only at hSw); go_simp; try with_reducible rfl
                        simp only [Act.put, List.getElem_toArray, List.getElem_cons_succ, List.getElem_cons_zero, List.setIfInBounds_toArray, List.set_cons_zero, List.set_cons_succ]
                        refine wpAnyH_take (i := 4) (v := ?_) rfl (by kernel_rfl) (by kernel_rfl) (by kernel_rfl) (fun _ _ _ h => h) (Or.inl ⟨by kernel_rfl, ?_⟩) (by assumption) ?_
                        rotate_left
                        · intro w hSw; (try dsimp only at hSw); go_simp; try with_reducible rfl
                        simp only [Act.put, List.getElem_toArray, List.getElem_cons_succ, List.getElem_cons_zero, List.setIfInBounds_toArray, List.set_cons_zero, List.set_cons_succ]
                        refine wpAnyH_take (i := 5) (v := ?_) rfl (by kernel_rfl) (by kernel_rfl) (by kernel_rfl) (fun _ _ _ h => h) (Or.inl ⟨by kernel_rfl, ?_⟩) (by assumption) ?_
                        rotate_left
                        · intro w hSw; (try dsimp only at hSw); go_simp; try with_reducible rfl
                        simp only [Act.put, List.getElem_toArray, List.getElem_cons_succ, List.getElem_cons_zero, List.setIfInBounds_toArray, List.set_cons_zero, List.set_cons_succ]
                        refine wpAnyH_take (i := 6) (v := ?_) rfl (by kernel_rfl) (by kernel_rfl) (by kernel_rfl) (fun _ _ _ h => h) (Or.inl ⟨by kernel_rfl, ?_⟩) (by assumption) ?_
                        rotate_left
                        · intro w hSw; (try dsimp only at hSw); go_simp; try with_reducible rfl
                        simp only [Act.put, List.getElem_toArray, List.getElem_cons_succ, List.getElem_cons_zero, List.setIfInBounds_toArray, List.set_cons_zero, List.set_cons_succ]
                        refine wpAnyH_take (i := 7) (v := ?_) rfl (by kernel_rfl) (by kernel_rfl) (by kernel_rfl) (fun _ _ _ h => h) (Or.inl ⟨by kernel_rfl, ?_⟩) (by assumption) ?_
                        rotate_left
                        · intro w hSw; (try dsimp only at hSw); go_simp; try with_reducible rfl
                        simp only [Act.put, List.getElem_toArray, List.getElem_cons_succ, List.getElem_cons_zero, List.setIfInBounds_toArray, List.set_cons_zero, List.set_cons_succ]
                        refine wpAnyH_take (i := 8) (v := ?_) rfl (by kernel_rfl) (by kernel_rfl) (by kernel_rfl) (fun _ _ _ h => h) (Or.inl ⟨by kernel_rfl, ?_⟩) (by assumption) ?_
                        rotate_left
                        · intro w hSw; (try dsimp only at hSw); go_simp; try with_reducible rfl
                        simp only [Act.put, List.getElem_toArray, List.getElem_cons_succ, List.getElem_cons_zero, List.setIfInBounds_toArray, List.set_cons_zero, List.set_cons_succ]
                        refine wpAnyH_take (i := 9) (v := ?_) rfl (by kernel_rfl) (by kernel_rfl) (by kernel_rfl) (fun _ _ _ h => h) (Or.inl ⟨by kernel_rfl, ?_⟩) (by assumption) ?_
                        rotate_left
                        · intro w hSw; (try dsimp only at hSw); go_simp; try with_reducible rfl
                        simp only [Act.put, List.getElem_toArray, List.getElem_cons_succ, List.getElem_cons_zero, List.setIfInBounds_toArray, List.set_cons_zero, List.set_cons_succ]
                        refine wpAnyH_take (i := 10) (v := ?_) rfl (by kernel_rfl) (by kernel_rfl) (by kernel_rfl) (fun _ _ _ h => h) (Or.inl ⟨by kernel_rfl, ?_⟩) (by assumption) ?_
                        rotate_left
                        · intro w hSw; (try dsimp only at hSw); go_simp; try with_reducible rfl
                        simp only [Act.put, List.getElem_toArray, List.getElem_cons_succ, List.getElem_cons_zero, List.setIfInBounds_toArray, List.set_cons_zero, List.set_cons_succ]
                        refine wpAnyH_take (i := 11) (v := ?_) rfl (by kernel_rfl) (by kernel_rfl) (by kernel_rfl) (fun _ _ _ h => h) (Or.inl ⟨by kernel_rfl, ?_⟩) (by assumption) ?_
                        rotate_left
                        · intro w hSw; (try dsimp only at hSw); go_simp; try with_reducible rfl
                        simp only [Act.put, List.getElem_toArray, List.getElem_cons_succ, List.getElem_cons_zero, List.setIfInBounds_toArray, List.set_cons_zero, List.set_cons_succ]
                        refine wpAnyH_take (i := 12) (v := ?_) rfl (by kernel_rfl) (by kernel_rfl) (by kernel_rfl) (fun _ _ _ h => h) (Or.inl ⟨by kernel_rfl, ?_⟩) (by assumption) ?_
                        rotate_left
                        · intro w hSw; (try dsimp only at hSw); go_simp; try with_reducible rfl
                        simp only [Act.put, List.getElem_toArray, List.getElem_cons_succ, List.getElem_cons_zero, List.setIfInBounds_toArray, List.set_cons_zero, List.set_cons_succ]
                        refine wpAnyH_take (i := 13) (v := ?_) rfl (by kernel_rfl) (by kernel_rfl) (by kernel_rfl) (fun _ _ _ h => h) (Or.inl ⟨by kernel_rfl, ?_⟩) (by assumption) ?_
                        rotate_left
                        · intro w hSw; (try dsimp only at hSw); go_simp; try with_reducible rfl
                        simp only [Act.put, List.getElem_toArray, List.getElem_cons_succ, List.getElem_cons_zero, List.setIfInBounds_toArray, List.set_cons_zero, List.set_cons_succ]
                        refine wpAnyH_take (i := 14) (v := ?_) rfl (by kernel_rfl) (by kernel_rfl) (by kernel_rfl) (fun _ _ _ h => h) (Or.inl ⟨by kernel_rfl, ?_⟩) (by assumption) ?_
                        rotate_left
                        · intro w hSw; (try dsimp only at hSw); go_simp; try with_reducible rfl
                        simp only [Act.put, List.getElem_toArray, List.getElem_cons_succ, List.getElem_cons_zero, List.setIfInBounds_toArray, List.set_cons_zero, List.set_cons_succ]
                        refine wpAnyH_ready (rs := [15]) (by kernel_rfl) (by simp) ?_
                        refine AllReadyH.cons rfl (fun K hK => ?_) AllReadyH.nil
                        go_simp
                        refine hK.out _ _ HSS.out (fun hHeld => ?_)
                        clear hK K
                        try simp only [Act.put, List.getElem_toArray, List.getElem_cons_succ, List.getElem_cons_zero, List.setIfInBounds_toArray, List.set_cons_zero, List.set_cons_succ]
                        refine wpAnyH_take (i := 16) (v := .int .i64 (m : Int)) rfl (by kernel_rfl) (by kernel_rfl) (by kernel_rfl) (fun _ _ _ h => h) (Or.inl ⟨by kernel_rfl, ?_⟩) (by assumption) ?_
                        · intro w hSw; (try dsimp only at hSw)
                          have hLm := HLm.out; go_simp
                        simp only [Act.put, List.getElem_toArray, List.getElem_cons_succ, List.getElem_cons_zero, List.setIfInBounds_toArray, List.set_cons_zero, List.set_cons_succ]
                        refine wpAnyH_take (i := 17) (v := ?_) rfl (by kernel_rfl) (by kernel_rfl) (by kernel_rfl) (fun _ _ _ h => h) (Or.inl ⟨by kernel_rfl, ?_⟩) (by assumption) ?_
                        rotate_left
                        · intro w hSw; (try dsimp only at hSw); go_simp; try with_reducible rfl
                        simp only [Act.put, List.getElem_toArray, List.getElem_cons_succ, List.getElem_cons_zero, List.setIfInBounds_toArray, List.set_cons_zero, List.set_cons_succ]
                        refine wpAnyH_take (i := 18) (v := ?_) rfl (by kernel_rfl) (by kernel_rfl) (by kernel_rfl) (fun _ _ _ h => h) (Or.inl ⟨by kernel_rfl, ?_⟩) (by assumption) ?_
                        rotate_left
                        · intro w hSw; (try dsimp only at hSw); go_simp; try with_reducible rfl
                        simp only [Act.put, List.getElem_toArray, List.getElem_cons_succ, List.getElem_cons_zero, List.setIfInBounds_toArray, List.set_cons_zero, List.set_cons_succ]
                        refine wpAnyH_take (i := 19) (v := .bool false) rfl (by kernel_rfl) (by kernel_rfl) (by kernel_rfl) (fun _ _ _ h => h) (Or.inl ⟨by kernel_rfl, ?_⟩) (by assumption) ?_
                        · intro w hSw; (try dsimp only at hSw)
                          go_simp
                        simp only [Act.put, List.getElem_toArray, List.getElem_cons_succ, List.getElem_cons_zero, List.setIfInBounds_toArray, List.set_cons_zero, List.set_cons_succ]
                        refine wpAnyH_take (i := 20) (v := ?_) rfl (by kernel_rfl) (by kernel_rfl) (by kernel_rfl) (fun _ _ _ h => h) (Or.inl ⟨by kernel_rfl, ?_⟩) (by assumption) ?_
                        rotate_left
                        · intro w hSw; (try dsimp only at hSw); go_simp; try with_reducible rfl
                        simp only [Act.put, List.getElem_toArray, List.getElem_cons_succ, List.getElem_cons_zero, List.setIfInBounds_toArray, List.set_cons_zero, List.set_cons_succ]
                        refine wpAnyH_take (i := 21) (v := ?_) rfl (by kernel_rfl) (by kernel_rfl) (by kernel_rfl) (fun _ _ _ h => h) (Or.inl ⟨by kernel_rfl, ?_⟩) (by assumption) ?_
                        rotate_left
                        · intro w hSw; (try dsimp only at hSw); go_simp; try with_reducible rfl
                        simp only [Act.put, List.getElem_toArray, List.getElem_cons_succ, List.getElem_cons_zero, List.setIfInBounds_toArray, List.set_cons_zero, List.set_cons_succ]
                        refine wpAnyH_take (i := 22) (v := ?_) rfl (by kernel_rfl) (by kernel_rfl) (by kernel_rfl) (fun _ _ _ h => h) (Or.inl ⟨by kernel_rfl, ?_⟩) (by assumption) ?_
                        rotate_left
                        · intro w hSw; (try dsimp only at hSw); go_simp; try with_reducible rfl
                        simp only [Act.put, List.getElem_toArray, List.getElem_cons_succ, List.getElem_cons_zero, List.setIfInBounds_toArray, List.set_cons_zero, List.set_cons_succ]
                        refine wpAnyH_take (i := 23) (v := ?_) rfl (by kernel_rfl) (by kernel_rfl) (by kernel_rfl) (fun _ _ _ h => h) (Or.inl ⟨by kernel_rfl, ?_⟩) (by assumption) ?_
                        rotate_left
                        · intro w hSw; (try dsimp only at hSw); go_simp; try with_reducible rfl
                        simp only [Act.put, List.getElem_toArray, List.getElem_cons_succ, List.getElem_cons_zero, List.setIfInBounds_toArray, List.set_cons_zero, List.set_cons_succ]
                        refine wpAnyH_take (i := 24) (v := ?_) rfl (by kernel_rfl) (by kernel_rfl) (by kernel_rfl) (fun _ _ _ h => h) (Or.inl ⟨by kernel_rfl, ?_⟩) (by assumption) ?_
                        rotate_left
                        · intro w hSw; (try dsimp only at hSw); go_simp; try with_reducible rfl
                        simp only [Act.put, List.getElem_toArray, List.getElem_cons_succ, List.getElem_cons_zero, List.setIfInBounds_toArray, List.set_cons_zero, List.set_cons_succ]
                        refine wpAnyH_ready (rs := [25]) (by kernel_rfl) (by simp) ?_
                        refine AllReadyH.cons rfl (fun K hK => ?_) AllReadyH.nil
                        go_simp
                        refine hK.out _ _ HSS.out (fun hHeld => ?_)
                        clear hK K
                        try simp only [Act.put, List.getElem_toArray, List.getElem_cons_succ, List.getElem_cons_zero, List.setIfInBounds_toArray, List.set_cons_zero, List.set_cons_succ]
                        refine wpAnyH_take (i := 26) (v := .bool true) rfl (by kernel_rfl) (by kernel_rfl) (by kernel_rfl) (fun _ _ _ h => h) (Or.inl ⟨by kernel_rfl, ?_⟩) (by assumption) ?_
                        · intro w hSw; (try dsimp only at hSw)
                          have hl2 := Hl2.out; go_simp; try simp [hl2]
                        simp only [Act.put, List.getElem_toArray, List.getElem_cons_succ, List.getElem_cons_zero, List.setIfInBounds_toArray, List.set_cons_zero, List.set_cons_succ]
                        refine wpAnyH_take (i := 27) (v := ?_) rfl (by kernel_rfl) (by kernel_rfl) (by kernel_rfl) (fun _ _ _ h => h) (Or.inl ⟨by kernel_rfl, ?_⟩) (by assumption) ?_
                        rotate_left
                        · intro w hSw; (try dsimp only at hSw); go_simp; try with_reducible rfl
                        simp only [Act.put, List.getElem_toArray, List.getElem_cons_succ, List.getElem_cons_zero, List.setIfInBounds_toArray, List.set_cons_zero, List.set_cons_succ]
                        refine wpAnyH_take (i := 28) (v := ?_) rfl (by kernel_rfl) (by kernel_rfl) (by kernel_rfl) (fun _ _ _ h => h) (Or.inl ⟨by kernel_rfl, ?_⟩) (by assumption) ?_
                        rotate_left
                        · intro w hSw; (try dsimp only at hSw); go_simp; try with_reducible rfl
                        simp only [Act.put, List.getElem_toArray, List.getElem_cons_succ, List.getElem_cons_zero, List.setIfInBounds_toArray, List.set_cons_zero, List.set_cons_succ]
                        refine wpAnyH_take (i := 29) (v := ?_) rfl (by kernel_rfl) (by kernel_rfl) (by kernel_rfl) (fun _ _ _ h => h) (Or.inl ⟨by kernel_rfl, ?_⟩) (by assumption) ?_
                        rotate_left
                        · intro w hSw; (try dsimp only at hSw); go_simp; try with_reducible rfl
                        simp only [Act.put, List.getElem_toArray, List.getElem_cons_succ, List.getElem_cons_zero, List.setIfInBounds_toArray, List.set_cons_zero, List.set_cons_succ]
                        refine wpAnyH_take (i := 30) (v := ?_) rfl (by kernel_rfl) (by kernel_rfl) (by kernel_rfl) (fun _ _ _ h => h) (Or.inl ⟨by kernel_rfl, ?_⟩) (by assumption) ?_
                        rotate_left
                        · intro w hSw; (try dsimp only at hSw); go_simp; try with_reducible rfl
                        simp only [Act.put, List.getElem_toArray, List.getElem_cons_succ, List.getElem_cons_zero, List.setIfInBounds_toArray, List.set_cons_zero, List.set_cons_succ]
                        refine wpAnyH_take (i := 31) (v := ?_) rfl (by kernel_rfl) (by kernel_rfl) (by kernel_rfl) (fun _ _ _ h => h) (Or.inl ⟨by kernel_rfl, ?_⟩) (by assumption) ?_
                        rotate_left
                        · intro w hSw; (try dsimp only at hSw); go_simp; try with_reducible rfl
                        simp only [Act.put, List.getElem_toArray, List.getElem_cons_succ, List.getElem_cons_zero, List.setIfInBounds_toArray, List.set_cons_zero, List.set_cons_succ]
                        refine wpAnyH_take (i := 32) (v := ?_) rfl (by kernel_rfl) (by kernel_rfl) (by kernel_rfl) (fun _ _ _ h => h) (Or.inl ⟨by kernel_rfl, ?_⟩) (by assumption) ?_
                        rotate_left
                        · intro w hSw; (try dsimp only at hSw); go_simp; try with_reducible rfl
                        simp only [Act.put, List.getElem_toArray, List.getElem_cons_succ, List.getElem_cons_zero, List.setIfInBounds_toArray, List.set_cons_zero, List.set_cons_succ]
                        refine wpAnyH_take (i := 33) (v := .bool false) rfl (by kernel_rfl) (by kernel_rfl) (by kernel_rfl) (fun _ _ _ h => h) (Or.inl ⟨by kernel_rfl, ?_⟩) (by assumption) ?_
                        · intro w hSw; (try dsimp only at hSw)
                          go_simp
                        simp only [Act.put, List.getElem_toArray, List.getElem_cons_succ, List.getElem_cons_zero, List.setIfInBounds_toArray, List.set_cons_zero, List.set_cons_succ]
                        refine wpAnyH_take (i := 34) (v := ?_) rfl (by kernel_rfl) (by kernel_rfl) (by kernel_rfl) (fun _ _ _ h => h) (Or.inl ⟨by kernel_rfl, ?_⟩) (by assumption) ?_
                        rotate_left
                        · intro w hSw; (try dsimp only at hSw); go_simp; try with_reducible rfl
                        simp only [Act.put, List.getElem_toArray, List.getElem_cons_succ, List.getElem_cons_zero, List.setIfInBounds_toArray, List.set_cons_zero, List.set_cons_succ]
                        refine wpAnyH_take (i := 35) (v := ?_) rfl (by kernel_rfl) (by kernel_rfl) (by kernel_rfl) (fun _ _ _ h => h) (Or.inl ⟨by kernel_rfl, ?_⟩) (by assumption) ?_
                        rotate_left
                        · intro w hSw; (try dsimp only at hSw); go_simp; try with_reducible rfl
                        simp only [Act.put, List.getElem_toArray, List.getElem_cons_succ, List.getElem_cons_zero, List.setIfInBounds_toArray, List.set_cons_zero, List.set_cons_succ]
                        refine wpAnyH_done (by kernel_rfl) ?_ _
                        go_wp2_with fail
                        obtain ⟨hor, hT, hy, hL⟩ := HO2.out
                        obtain ⟨B, hB⟩ : ∃ B, wr.heap.size = B := ⟨_, rfl⟩
                        rw [hB] at hor
                        have HW := Lib.hid (And.intro (own_below hor (Below.refl u2.heap.size u2).drew) (hT.go (Below.refl u2.heap.size u2).drew))
                        clear hor hT hy hL hB
                        go_loopw [26, 27, 231] (fun bv _ kv wr => ∃ k : Nat, k ≤ L ∧ kv = .int .i64 k ∧ bv = .bool (((allG S0 C n).take k).any (fun e => e == s)) ∧ wr.ownsRow B 5 1 (.slice AR 128 cR) 128 (Go.Kw.bv s) ∧ Two w3 d sb 8 d' sb' sc' ub (kpD S1 [] K1) (kpD S2 [] K1) (allG S0 C) S0 (fun _ => False) wr) (fun _ _ kv _ => L - (intOf kv).toNat)
                        case atStart => exact ⟨0, by omega, rfl, by simp, HW.out.1, HW.out.2⟩
                        case round =>
                          obtain ⟨k, hi, rfl, rfl, hor, hT⟩ := hrel
                          clear HW
                          by_cases hlt : k < L
                          · have hI : (k : Int) < (L : Int) := by omega
                            have hk0 : (0 : Int) ≤ (k : Int) := by omega
                            obtain ⟨e0, he0⟩ : ∃ e0, (allG S0 C n)[k]? = some e0 := ⟨_, List.getElem?_eq_getElem (by rw [HO2.out.2.2.2]; exact hlt)⟩
                            have hTd := hT.go (Below.refl wr.heap.size wr).drew
                            have hod := own_below hor (Below.refl wr.heap.size wr).drew
                            have hTT := hTd
                            obtain ⟨F1, F2, X, V, -, -, -, -, hXu, -, hXl, hA, -⟩ := hTT
                            obtain ⟨ab, c0, hab, hablt, hXab, hrow⟩ := hA.at HL.out.1 HO2.out.2.2.2 (by omega)
                            have HSS := Lib.hid (And.intro hab (And.intro (hrow k e0 he0) (str_own hod HL.out.2.2.2.2.2.2.1)))
                            have HE := Lib.hid (And.intro hlt (And.intro he0 (And.intro hod hTd)))
                            have X2 := Lib.hid (wrap64_in' ((k : Int) + 1) (by have := HL.out.2.2.2.1; have := HL.out.2.2.2.2.1; have := HO2.out.2.2.2; omega))
                            obtain ⟨I, hI2⟩ : ∃ I, ((allG S0 C n).take k).any (fun e => e == s) = I := ⟨_, rfl⟩
                            have HI := Lib.hid hI2
                            rw [hI2]
                            clear hI2 hlt hi he0 hTd hod hXu hXl hA hab hablt hXab hrow hor hT
                            cases I with
                            | true =>
                              go_wp2_with fail
                              refine wp_region_held_drew (S := (fun X => X.cell? ⟨ub + 1, n, none⟩ = some (.slice (some ⟨ab, 0, none⟩) L c0) ∧ X.cell? ⟨ab, k, none⟩ = some (.string ⟨e0.toArray⟩) ∧ (convert 23 9 (.slice AR 128 cR)).run Try.prog X = .ok (.string ⟨s.toArray⟩) X)) (by kernel_rfl) HSS.out (fun hHeld => ?_)
                              refine wpAnyH_take (i := 0) (v := ?_) rfl (by kernel_rfl) (by kernel_rfl) (by kernel_rfl) (fun _ _ _ h => h) (Or.inl ⟨by kernel_rfl, ?_⟩) (by assumption) ?_
                              rotate_left
                              · intro w hSw; (try dsimp only at hSw); go_simp; try with_reducible rfl
                              simp only [Act.put, List.getElem_toArray, List.getElem_cons_succ, List.getElem_cons_zero, List.setIfInBounds_toArray, List.set_cons_zero, List.set_cons_succ]
                              refine wpAnyH_take (i := 1) (v := ?_) rfl (by kernel_rfl) (by kernel_rfl) (by kernel_rfl) (fun _ _ _ h => h) (Or.inl ⟨by kernel_rfl, ?_⟩) (by assumption) ?_
                              rotate_left
                              · intro w hSw; (try dsimp only at hSw); go_simp; try with_reducible rfl
                              simp only [Act.put, List.getElem_toArray, List.getElem_cons_succ, List.getElem_cons_zero, List.setIfInBounds_toArray, List.set_cons_zero, List.set_cons_succ]
                              refine wpAnyH_take (i := 2) (v := undef) rfl (by kernel_rfl) (by kernel_rfl) (by kernel_rfl) (fun _ _ _ h => h) (Or.inr ⟨by kernel_rfl, rfl⟩) (by assumption) ?_
                              simp only [Act.put, List.getElem_toArray, List.getElem_cons_succ, List.getElem_cons_zero, List.setIfInBounds_toArray, List.set_cons_zero, List.set_cons_succ]
                              refine wpAnyH_take (i := 3) (v := undef) rfl (by kernel_rfl) (by kernel_rfl) (by kernel_rfl) (fun _ _ _ h => h) (Or.inr ⟨by kernel_rfl, rfl⟩) (by assumption) ?_
                              simp only [Act.put, List.getElem_toArray, List.getElem_cons_succ, List.getElem_cons_zero, List.setIfInBounds_toArray, List.set_cons_zero, List.set_cons_succ]
                              refine wpAnyH_take (i := 4) (v := undef) rfl (by kernel_rfl) (by kernel_rfl) (by kernel_rfl) (fun _ _ _ h => h) (Or.inr ⟨by kernel_rfl, rfl⟩) (by assumption) ?_
                              simp only [Act.put, List.getElem_toArray, List.getElem_cons_succ, List.getElem_cons_zero, List.setIfInBounds_toArray, List.set_cons_zero, List.set_cons_succ]
                              refine wpAnyH_take (i := 5) (v := undef) rfl (by kernel_rfl) (by kernel_rfl) (by kernel_rfl) (fun _ _ _ h => h) (Or.inr ⟨by kernel_rfl, rfl⟩) (by assumption) ?_
                              simp only [Act.put, List.getElem_toArray, List.getElem_cons_succ, List.getElem_cons_zero, List.setIfInBounds_toArray, List.set_cons_zero, List.set_cons_succ]
                              refine wpAnyH_take (i := 6) (v := undef) rfl (by kernel_rfl) (by kernel_rfl) (by kernel_rfl) (fun _ _ _ h => h) (Or.inr ⟨by kernel_rfl, rfl⟩) (by assumption) ?_
                              simp only [Act.put, List.getElem_toArray, List.getElem_cons_succ, List.getElem_cons_zero, List.setIfInBounds_toArray, List.set_cons_zero, List.set_cons_succ]
                              refine wpAnyH_take (i := 7) (v := undef) rfl (by kernel_rfl) (by kernel_rfl) (by kernel_rfl) (fun _ _ _ h => h) (Or.inr ⟨by kernel_rfl, rfl⟩) (by assumption) ?_
                              simp only [Act.put, List.getElem_toArray, List.getElem_cons_succ, List.getElem_cons_zero, List.setIfInBounds_toArray, List.set_cons_zero, List.set_cons_succ]
                              refine wpAnyH_take (i := 8) (v := undef) rfl (by kernel_rfl) (by kernel_rfl) (by kernel_rfl) (fun _ _ _ h => h) (Or.inr ⟨by kernel_rfl, rfl⟩) (by assumption) ?_
                              simp only [Act.put, List.getElem_toArray, List.getElem_cons_succ, List.getElem_cons_zero, List.setIfInBounds_toArray, List.set_cons_zero, List.set_cons_succ]
                              refine wpAnyH_take (i := 9) (v := undef) rfl (by kernel_rfl) (by kernel_rfl) (by kernel_rfl) (fun _ _ _ h => h) (Or.inr ⟨by kernel_rfl, rfl⟩) (by assumption) ?_
                              simp only [Act.put, List.getElem_toArray, List.getElem_cons_succ, List.getElem_cons_zero, List.setIfInBounds_toArray, List.set_cons_zero, List.set_cons_succ]
                              refine wpAnyH_take (i := 10) (v := undef) rfl (by kernel_rfl) (by kernel_rfl) (by kernel_rfl) (fun _ _ _ h => h) (Or.inr ⟨by kernel_rfl, rfl⟩) (by assumption) ?_
                              simp only [Act.put, List.getElem_toArray, List.getElem_cons_succ, List.getElem_cons_zero, List.setIfInBounds_toArray, List.set_cons_zero, List.set_cons_succ]
                              refine wpAnyH_take (i := 11) (v := ?_) rfl (by kernel_rfl) (by kernel_rfl) (by kernel_rfl) (fun _ _ _ h => h) (Or.inl ⟨by kernel_rfl, ?_⟩) (by assumption) ?_
                              rotate_left
                              · intro w hSw; (try dsimp only at hSw); go_simp; try with_reducible rfl
                              simp only [Act.put, List.getElem_toArray, List.getElem_cons_succ, List.getElem_cons_zero, List.setIfInBounds_toArray, List.set_cons_zero, List.set_cons_succ]
                              refine wpAnyH_take (i := 12) (v := ?_) rfl (by kernel_rfl) (by kernel_rfl) (by kernel_rfl) (fun _ _ _ h => h) (Or.inl ⟨by kernel_rfl, ?_⟩) (by assumption) ?_
                              rotate_left
                              · intro w hSw; (try dsimp only at hSw); go_simp; try with_reducible rfl
                              simp only [Act.put, List.getElem_toArray, List.getElem_cons_succ, List.getElem_cons_zero, List.setIfInBounds_toArray, List.set_cons_zero, List.set_cons_succ]
                              refine wpAnyH_done (by kernel_rfl) ?_ _
                              go_wp2_with fail
                              try rw [X2.out]
                              refine ⟨⟨k + 1, HE.out.1, by push_cast; rfl, ?_, HE.out.2.2.1, HE.out.2.2.2⟩, by have := HE.out.1; simp [intOf]; omega⟩
                              rw [List.take_add_one, List.any_append, HI.out, HE.out.2.1]
                              simp
                            | false =>
                              go_wp2_with fail
                              refine wp_region_held_drew (S := (fun X => X.cell? ⟨ub + 1, n, none⟩ = some (.slice (some ⟨ab, 0, none⟩) L c0) ∧ X.cell? ⟨ab, k, none⟩ = some (.string ⟨e0.toArray⟩) ∧ (convert 23 9 (.slice AR 128 cR)).run Try.prog X = .ok (.string ⟨s.toArray⟩) X)) (by kernel_rfl) HSS.out (fun hHeld => ?_)
                              refine wpAnyH_take (i := 0) (v := ?_) rfl (by kernel_rfl) (by kernel_rfl) (by kernel_rfl) (fun _ _ _ h => h) (Or.inl ⟨by kernel_rfl, ?_⟩) (by assumption) ?_
                              rotate_left
                              · intro w hSw; (try dsimp only at hSw); go_simp; try with_reducible rfl
                              simp only [Act.put, List.getElem_toArray, List.getElem_cons_succ, List.getElem_cons_zero, List.setIfInBounds_toArray, List.set_cons_zero, List.set_cons_succ]
                              refine wpAnyH_take (i := 1) (v := ?_) rfl (by kernel_rfl) (by kernel_rfl) (by kernel_rfl) (fun _ _ _ h => h) (Or.inl ⟨by kernel_rfl, ?_⟩) (by assumption) ?_
                              rotate_left
                              · intro w hSw; (try dsimp only at hSw); go_simp; try with_reducible rfl
                              simp only [Act.put, List.getElem_toArray, List.getElem_cons_succ, List.getElem_cons_zero, List.setIfInBounds_toArray, List.set_cons_zero, List.set_cons_succ]
                              refine wpAnyH_take (i := 2) (v := ?_) rfl (by kernel_rfl) (by kernel_rfl) (by kernel_rfl) (fun _ _ _ h => h) (Or.inl ⟨by kernel_rfl, ?_⟩) (by assumption) ?_
                              rotate_left
                              · intro w hSw; (try dsimp only at hSw); go_simp; try with_reducible rfl
                              simp only [Act.put, List.getElem_toArray, List.getElem_cons_succ, List.getElem_cons_zero, List.setIfInBounds_toArray, List.set_cons_zero, List.set_cons_succ]
                              refine wpAnyH_take (i := 3) (v := ?_) rfl (by kernel_rfl) (by kernel_rfl) (by kernel_rfl) (fun _ _ _ h => h) (Or.inl ⟨by kernel_rfl, ?_⟩) (by assumption) ?_
                              rotate_left
                              · intro w hSw; (try dsimp only at hSw); go_simp; try with_reducible rfl
                              simp only [Act.put, List.getElem_toArray, List.getElem_cons_succ, List.getElem_cons_zero, List.setIfInBounds_toArray, List.set_cons_zero, List.set_cons_succ]
                              refine wpAnyH_take (i := 4) (v := ?_) rfl (by kernel_rfl) (by kernel_rfl) (by kernel_rfl) (fun _ _ _ h => h) (Or.inl ⟨by kernel_rfl, ?_⟩) (by assumption) ?_
                              rotate_left
                              · intro w hSw; (try dsimp only at hSw); go_simp; try with_reducible rfl
                              simp only [Act.put, List.getElem_toArray, List.getElem_cons_succ, List.getElem_cons_zero, List.setIfInBounds_toArray, List.set_cons_zero, List.set_cons_succ]
                              refine wpAnyH_take (i := 5) (v := ?_) rfl (by kernel_rfl) (by kernel_rfl) (by kernel_rfl) (fun _ _ _ h => h) (Or.inl ⟨by kernel_rfl, ?_⟩) (by assumption) ?_
                              rotate_left
                              · intro w hSw; (try dsimp only at hSw); go_simp; try with_reducible rfl
                              simp only [Act.put, List.getElem_toArray, List.getElem_cons_succ, List.getElem_cons_zero, List.setIfInBounds_toArray, List.set_cons_zero, List.set_cons_succ]
                              refine wpAnyH_take (i := 6) (v := ?_) rfl (by kernel_rfl) (by kernel_rfl) (by kernel_rfl) (fun _ _ _ h => h) (Or.inl ⟨by kernel_rfl, ?_⟩) (by assumption) ?_
                              rotate_left
                              · intro w hSw; (try dsimp only at hSw); go_simp; try with_reducible rfl
                              simp only [Act.put, List.getElem_toArray, List.getElem_cons_succ, List.getElem_cons_zero, List.setIfInBounds_toArray, List.set_cons_zero, List.set_cons_succ]
                              refine wpAnyH_take (i := 7) (v := ?_) rfl (by kernel_rfl) (by kernel_rfl) (by kernel_rfl) (fun _ _ _ h => h) (Or.inl ⟨by kernel_rfl, ?_⟩) (by assumption) ?_
                              rotate_left
                              · intro w hSw; (try dsimp only at hSw); go_simp; try with_reducible rfl
                              simp only [Act.put, List.getElem_toArray, List.getElem_cons_succ, List.getElem_cons_zero, List.setIfInBounds_toArray, List.set_cons_zero, List.set_cons_succ]
                              refine wpAnyH_take (i := 8) (v := ?_) rfl (by kernel_rfl) (by kernel_rfl) (by kernel_rfl) (fun _ _ _ h => h) (Or.inl ⟨by kernel_rfl, ?_⟩) (by assumption) ?_
                              rotate_left
                              · intro w hSw; (try dsimp only at hSw); go_simp; try with_reducible rfl
                              simp only [Act.put, List.getElem_toArray, List.getElem_cons_succ, List.getElem_cons_zero, List.setIfInBounds_toArray, List.set_cons_zero, List.set_cons_succ]
                              refine wpAnyH_take (i := 9) (v := ?_) rfl (by kernel_rfl) (by kernel_rfl) (by kernel_rfl) (fun _ _ _ h => h) (Or.inl ⟨by kernel_rfl, ?_⟩) (by assumption) ?_
                              rotate_left
                              · intro w hSw; (try dsimp only at hSw); go_simp; try with_reducible rfl
                              simp only [Act.put, List.getElem_toArray, List.getElem_cons_succ, List.getElem_cons_zero, List.setIfInBounds_toArray, List.set_cons_zero, List.set_cons_succ]
                              refine wpAnyH_take (i := 10) (v := .bool (e0 == s)) rfl (by kernel_rfl) (by kernel_rfl) (by kernel_rfl) (fun _ _ _ h => h) (Or.inl ⟨by kernel_rfl, ?_⟩) (by assumption) ?_
                              · intro w hSw; (try dsimp only at hSw)
                                go_simp
                              simp only [Act.put, List.getElem_toArray, List.getElem_cons_succ, List.getElem_cons_zero, List.setIfInBounds_toArray, List.set_cons_zero, List.set_cons_succ]
                              refine wpAnyH_take (i := 11) (v := ?_) rfl (by kernel_rfl) (by kernel_rfl) (by kernel_rfl) (fun _ _ _ h => h) (Or.inl ⟨by kernel_rfl, ?_⟩) (by assumption) ?_
                              rotate_left
                              · intro w hSw; (try dsimp only at hSw); go_simp; try with_reducible rfl
                              simp only [Act.put, List.getElem_toArray, List.getElem_cons_succ, List.getElem_cons_zero, List.setIfInBounds_toArray, List.set_cons_zero, List.set_cons_succ]
                              refine wpAnyH_take (i := 12) (v := ?_) rfl (by kernel_rfl) (by kernel_rfl) (by kernel_rfl) (fun _ _ _ h => h) (Or.inl ⟨by kernel_rfl, ?_⟩) (by assumption) ?_
                              rotate_left
                              · intro w hSw; (try dsimp only at hSw); go_simp; try with_reducible rfl
                              simp only [Act.put, List.getElem_toArray, List.getElem_cons_succ, List.getElem_cons_zero, List.setIfInBounds_toArray, List.set_cons_zero, List.set_cons_succ]
                              refine wpAnyH_done (by kernel_rfl) ?_ _
                              go_wp2_with fail
                              try rw [X2.out]
                              refine ⟨⟨k + 1, HE.out.1, by push_cast; rfl, ?_, HE.out.2.2.1, HE.out.2.2.2⟩, by have := HE.out.1; simp [intOf]; omega⟩
                              rw [List.take_add_one, List.any_append, HI.out, HE.out.2.1]
                              simp
                          · obtain rfl : k = L := by omega
                            have HW := Lib.hid hT
                            clear hlt hi hor hT
                            obtain ⟨I, hI⟩ : ∃ I, ((allG S0 C n).take k).any (fun e => e == s) = I := ⟨_, rfl⟩
                            have HI := Lib.hid hI
                            rw [hI]
                            clear hI
                            cases I with
                            | true =>
                              go_wp2_with fail
                              obtain ⟨hlt, hs, hx, hm, hm200, hmx, hsl, hxl, ho, -⟩ := HL.out
                              exact ⟨⟨n + 1, o, hlt, by push_cast; rfl, rfl, ho.imp id (fun h => ⟨h.1, by omega⟩), HW.out⟩, by simp [intOf]; omega⟩
                            | false =>
                              go_wp2_with fail
                              obtain ⟨hlt, hs, hx, hm, hm200, hmx, hsl, hxl, ho, -⟩ := HL.out
                              have hn : n = tornS C to := Classical.byContradiction fun hne => by
                                have hme := HK2.out.mem n hlt hne
                                rw [hs] at hme
                                have h2 := HI.out
                                rw [List.take_of_length_le (Nat.le_of_eq HO2.out.2.2.2)] at h2
                                rw [List.any_eq_true.2 ⟨s, hme, by simp⟩] at h2
                                cases h2
                              have ho0 : o = 0 := by
                                rcases ho with h | ⟨-, h⟩
                                · exact h
                                · omega
                              subst ho0
                              exact ⟨⟨n + 1, 1, hlt, by push_cast; rfl, by rw [wrap64_in' (((0 : Nat) : Int) + 1) (by omega)]; rfl, .inr ⟨rfl, by omega⟩, HW.out⟩, by simp [intOf]; omega⟩
                      · have hl2 : ¬ (L : Int) = 1 := by omega
                        clear hlt hs hx hm hm200 hmx hsl hxl ho hT hT2 t1 t2 hXu hXl hA hSf hL hab hablt hXab hrow c1 c2 how hb2 HX hy hl1
                        go_wp2_with fail
                        refine wp_region_held_drew (S := (fun X => X.cell? ⟨ub + 1, n, none⟩ = some (.slice (some ⟨ab, 0, none⟩) L c0) ∧ X.cell? ⟨ab, m, none⟩ = some (.string ⟨x.toArray⟩) ∧ (convert 23 9 (.slice AW 128 cW)).run Try.prog X = .ok (.string ⟨x.toArray⟩) X ∧ (convert 23 9 (.slice AR 128 cR)).run Try.prog X = .ok (.string ⟨s.toArray⟩) X ∧ X.cell? ⟨ub, n, none⟩ = some (.string ⟨y.toArray⟩))) (by kernel_rfl) HSS.out (fun hHeld => ?_)
                        refine wpAnyH_take (i := 0) (v := ?_) rfl (by kernel_rfl) (by kernel_rfl) (by kernel_rfl) (fun _ _ _ h => h) (Or.inl ⟨by kernel_rfl, ?_⟩) (by assumption) ?_
                        rotate_left
                        · intro w hSw; (try dsimp only at hSw); go_simp; try with_reducible rfl
                        simp only [Act.put, List.getElem_toArray, List.getElem_cons_succ, List.getElem_cons_zero, List.setIfInBounds_toArray, List.set_cons_zero, List.set_cons_succ]
                        refine wpAnyH_take (i := 1) (v := ?_) rfl (by kernel_rfl) (by kernel_rfl) (by kernel_rfl) (fun _ _ _ h => h) (Or.inl ⟨by kernel_rfl, ?_⟩) (by assumption) ?_
                        rotate_left
                        · intro w hSw; (try dsimp only at hSw); go_simp; try with_reducible rfl
                        simp only [Act.put, List.getElem_toArray, List.getElem_cons_succ, List.getElem_cons_zero, List.setIfInBounds_toArray, List.set_cons_zero, List.set_cons_succ]
                        refine wpAnyH_take (i := 2) (v := ?_) rfl (by kernel_rfl) (by kernel_rfl) (by kernel_rfl) (fun _ _ _ h => h) (Or.inl ⟨by kernel_rfl, ?_⟩) (by assumption) ?_
                        rotate_left
                        · intro w hSw; (try dsimp only at hSw); go_simp; try with_reducible rfl
                        simp only [Act.put, List.getElem_toArray, List.getElem_cons_succ, List.getElem_cons_zero, List.setIfInBounds_toArray, List.set_cons_zero, List.set_cons_succ]
                        refine wpAnyH_take (i := 3) (v := ?_) rfl (by kernel_rfl) (by kernel_rfl) (by kernel_rfl) (fun _ _ _ h => h) (Or.inl ⟨by kernel_rfl, ?_⟩) (by assumption) ?_
                        rotate_left
                        · intro w hSw; (try dsimp only at hSw); go_simp; try with_reducible rfl
                        simp only [Act.put, List.getElem_toArray, List.getElem_cons_succ, List.getElem_cons_zero, List.setIfInBounds_toArray, List.set_cons_zero, List.set_cons_succ]
                        refine wpAnyH_take (i := 4) (v := ?_) rfl (by kernel_rfl) (by kernel_rfl) (by kernel_rfl) (fun _ _ _ h => h) (Or.inl ⟨by kernel_rfl, ?_⟩) (by assumption) ?_
                        rotate_left
                        · intro w hSw; (try dsimp only at hSw); go_simp; try with_reducible rfl
                        simp only [Act.put, List.getElem_toArray, List.getElem_cons_succ, List.getElem_cons_zero, List.setIfInBounds_toArray, List.set_cons_zero, List.set_cons_succ]
                        refine wpAnyH_take (i := 5) (v := ?_) rfl (by kernel_rfl) (by kernel_rfl) (by kernel_rfl) (fun _ _ _ h => h) (Or.inl ⟨by kernel_rfl, ?_⟩) (by assumption) ?_
                        rotate_left
                        · intro w hSw; (try dsimp only at hSw); go_simp; try with_reducible rfl
                        simp only [Act.put, List.getElem_toArray, List.getElem_cons_succ, List.getElem_cons_zero, List.setIfInBounds_toArray, List.set_cons_zero, List.set_cons_succ]
                        refine wpAnyH_take (i := 6) (v := ?_) rfl (by kernel_rfl) (by kernel_rfl) (by kernel_rfl) (fun _ _ _ h => h) (Or.inl ⟨by kernel_rfl, ?_⟩) (by assumption) ?_
                        rotate_left
                        · intro w hSw; (try dsimp only at hSw); go_simp; try with_reducible rfl
                        simp only [Act.put, List.getElem_toArray, List.getElem_cons_succ, List.getElem_cons_zero, List.setIfInBounds_toArray, List.set_cons_zero, List.set_cons_succ]
                        refine wpAnyH_take (i := 7) (v := ?_) rfl (by kernel_rfl) (by kernel_rfl) (by kernel_rfl) (fun _ _ _ h => h) (Or.inl ⟨by kernel_rfl, ?_⟩) (by assumption) ?_
                        rotate_left
                        · intro w hSw; (try dsimp only at hSw); go_simp; try with_reducible rfl
                        simp only [Act.put, List.getElem_toArray, List.getElem_cons_succ, List.getElem_cons_zero, List.setIfInBounds_toArray, List.set_cons_zero, List.set_cons_succ]
                        refine wpAnyH_take (i := 8) (v := ?_) rfl (by kernel_rfl) (by kernel_rfl) (by kernel_rfl) (fun _ _ _ h => h) (Or.inl ⟨by kernel_rfl, ?_⟩) (by assumption) ?_
                        rotate_left
                        · intro w hSw; (try dsimp only at hSw); go_simp; try with_reducible rfl
                        simp only [Act.put, List.getElem_toArray, List.getElem_cons_succ, List.getElem_cons_zero, List.setIfInBounds_toArray, List.set_cons_zero, List.set_cons_succ]
                        refine wpAnyH_take (i := 9) (v := ?_) rfl (by kernel_rfl) (by kernel_rfl) (by kernel_rfl) (fun _ _ _ h => h) (Or.inl ⟨by kernel_rfl, ?_⟩) (by assumption) ?_
                        rotate_left
                        · intro w hSw; (try dsimp only at hSw); go_simp; try with_reducible rfl
                        simp only [Act.put, List.getElem_toArray, List.getElem_cons_succ, List.getElem_cons_zero, List.setIfInBounds_toArray, List.set_cons_zero, List.set_cons_succ]
                        refine wpAnyH_take (i := 10) (v := ?_) rfl (by kernel_rfl) (by kernel_rfl) (by kernel_rfl) (fun _ _ _ h => h) (Or.inl ⟨by kernel_rfl, ?_⟩) (by assumption) ?_
                        rotate_left
                        · intro w hSw; (try dsimp only at hSw); go_simp; try with_reducible rfl
                        simp only [Act.put, List.getElem_toArray, List.getElem_cons_succ, List.getElem_cons_zero, List.setIfInBounds_toArray, List.set_cons_zero, List.set_cons_succ]
                        refine wpAnyH_take (i := 11) (v := ?_) rfl (by kernel_rfl) (by kernel_rfl) (by kernel_rfl) (fun _ _ _ h => h) (Or.inl ⟨by kernel_rfl, ?_⟩) (by assumption) ?_
                        rotate_left
                        · intro w hSw; (try dsimp only at hSw); go_simp; try with_reducible rfl
                        simp only [Act.put, List.getElem_toArray, List.getElem_cons_succ, List.getElem_cons_zero, List.setIfInBounds_toArray, List.set_cons_zero, List.set_cons_succ]
                        refine wpAnyH_take (i := 12) (v := ?_) rfl (by kernel_rfl) (by kernel_rfl) (by kernel_rfl) (fun _ _ _ h => h) (Or.inl ⟨by kernel_rfl, ?_⟩) (by assumption) ?_
                        rotate_left
                        · intro w hSw; (try dsimp only at hSw); go_simp; try with_reducible rfl
                        simp only [Act.put, List.getElem_toArray, List.getElem_cons_succ, List.getElem_cons_zero, List.setIfInBounds_toArray, List.set_cons_zero, List.set_cons_succ]
                        refine wpAnyH_take (i := 13) (v := ?_) rfl (by kernel_rfl) (by kernel_rfl) (by kernel_rfl) (fun _ _ _ h => h) (Or.inl ⟨by kernel_rfl, ?_⟩) (by assumption) ?_
                        rotate_left
                        · intro w hSw; (try dsimp only at hSw); go_simp; try with_reducible rfl
                        simp only [Act.put, List.getElem_toArray, List.getElem_cons_succ, List.getElem_cons_zero, List.setIfInBounds_toArray, List.set_cons_zero, List.set_cons_succ]
                        refine wpAnyH_take (i := 14) (v := ?_) rfl (by kernel_rfl) (by kernel_rfl) (by kernel_rfl) (fun _ _ _ h => h) (Or.inl ⟨by kernel_rfl, ?_⟩) (by assumption) ?_
                        rotate_left
                        · intro w hSw; (try dsimp only at hSw); go_simp; try with_reducible rfl
                        simp only [Act.put, List.getElem_toArray, List.getElem_cons_succ, List.getElem_cons_zero, List.setIfInBounds_toArray, List.set_cons_zero, List.set_cons_succ]
                        refine wpAnyH_ready (rs := [15]) (by kernel_rfl) (by simp) ?_
                        refine AllReadyH.cons rfl (fun K hK => ?_) AllReadyH.nil
                        go_simp
                        refine hK.out _ _ HSS.out (fun hHeld => ?_)
                        clear hK K
                        try simp only [Act.put, List.getElem_toArray, List.getElem_cons_succ, List.getElem_cons_zero, List.setIfInBounds_toArray, List.set_cons_zero, List.set_cons_succ]
                        refine wpAnyH_take (i := 16) (v := .int .i64 (m : Int)) rfl (by kernel_rfl) (by kernel_rfl) (by kernel_rfl) (fun _ _ _ h => h) (Or.inl ⟨by kernel_rfl, ?_⟩) (by assumption) ?_
                        · intro w hSw; (try dsimp only at hSw)
                          have hLm := HLm.out; go_simp
                        simp only [Act.put, List.getElem_toArray, List.getElem_cons_succ, List.getElem_cons_zero, List.setIfInBounds_toArray, List.set_cons_zero, List.set_cons_succ]
                        refine wpAnyH_take (i := 17) (v := ?_) rfl (by kernel_rfl) (by kernel_rfl) (by kernel_rfl) (fun _ _ _ h => h) (Or.inl ⟨by kernel_rfl, ?_⟩) (by assumption) ?_
                        rotate_left
                        · intro w hSw; (try dsimp only at hSw); go_simp; try with_reducible rfl
                        simp only [Act.put, List.getElem_toArray, List.getElem_cons_succ, List.getElem_cons_zero, List.setIfInBounds_toArray, List.set_cons_zero, List.set_cons_succ]
                        refine wpAnyH_take (i := 18) (v := ?_) rfl (by kernel_rfl) (by kernel_rfl) (by kernel_rfl) (fun _ _ _ h => h) (Or.inl ⟨by kernel_rfl, ?_⟩) (by assumption) ?_
                        rotate_left
                        · intro w hSw; (try dsimp only at hSw); go_simp; try with_reducible rfl
                        simp only [Act.put, List.getElem_toArray, List.getElem_cons_succ, List.getElem_cons_zero, List.setIfInBounds_toArray, List.set_cons_zero, List.set_cons_succ]
                        refine wpAnyH_take (i := 19) (v := .bool false) rfl (by kernel_rfl) (by kernel_rfl) (by kernel_rfl) (fun _ _ _ h => h) (Or.inl ⟨by kernel_rfl, ?_⟩) (by assumption) ?_
                        · intro w hSw; (try dsimp only at hSw)
                          go_simp
                        simp only [Act.put, List.getElem_toArray, List.getElem_cons_succ, List.getElem_cons_zero, List.setIfInBounds_toArray, List.set_cons_zero, List.set_cons_succ]
                        refine wpAnyH_take (i := 20) (v := ?_) rfl (by kernel_rfl) (by kernel_rfl) (by kernel_rfl) (fun _ _ _ h => h) (Or.inl ⟨by kernel_rfl, ?_⟩) (by assumption) ?_
                        rotate_left
                        · intro w hSw; (try dsimp only at hSw); go_simp; try with_reducible rfl
                        simp only [Act.put, List.getElem_toArray, List.getElem_cons_succ, List.getElem_cons_zero, List.setIfInBounds_toArray, List.set_cons_zero, List.set_cons_succ]
                        refine wpAnyH_take (i := 21) (v := ?_) rfl (by kernel_rfl) (by kernel_rfl) (by kernel_rfl) (fun _ _ _ h => h) (Or.inl ⟨by kernel_rfl, ?_⟩) (by assumption) ?_
                        rotate_left
                        · intro w hSw; (try dsimp only at hSw); go_simp; try with_reducible rfl
                        simp only [Act.put, List.getElem_toArray, List.getElem_cons_succ, List.getElem_cons_zero, List.setIfInBounds_toArray, List.set_cons_zero, List.set_cons_succ]
                        refine wpAnyH_take (i := 22) (v := ?_) rfl (by kernel_rfl) (by kernel_rfl) (by kernel_rfl) (fun _ _ _ h => h) (Or.inl ⟨by kernel_rfl, ?_⟩) (by assumption) ?_
                        rotate_left
                        · intro w hSw; (try dsimp only at hSw); go_simp; try with_reducible rfl
                        simp only [Act.put, List.getElem_toArray, List.getElem_cons_succ, List.getElem_cons_zero, List.setIfInBounds_toArray, List.set_cons_zero, List.set_cons_succ]
                        refine wpAnyH_take (i := 23) (v := ?_) rfl (by kernel_rfl) (by kernel_rfl) (by kernel_rfl) (fun _ _ _ h => h) (Or.inl ⟨by kernel_rfl, ?_⟩) (by assumption) ?_
                        rotate_left
                        · intro w hSw; (try dsimp only at hSw); go_simp; try with_reducible rfl
                        simp only [Act.put, List.getElem_toArray, List.getElem_cons_succ, List.getElem_cons_zero, List.setIfInBounds_toArray, List.set_cons_zero, List.set_cons_succ]
                        refine wpAnyH_take (i := 24) (v := ?_) rfl (by kernel_rfl) (by kernel_rfl) (by kernel_rfl) (fun _ _ _ h => h) (Or.inl ⟨by kernel_rfl, ?_⟩) (by assumption) ?_
                        rotate_left
                        · intro w hSw; (try dsimp only at hSw); go_simp; try with_reducible rfl
                        simp only [Act.put, List.getElem_toArray, List.getElem_cons_succ, List.getElem_cons_zero, List.setIfInBounds_toArray, List.set_cons_zero, List.set_cons_succ]
                        refine wpAnyH_ready (rs := [25]) (by kernel_rfl) (by simp) ?_
                        refine AllReadyH.cons rfl (fun K hK => ?_) AllReadyH.nil
                        go_simp
                        refine hK.out _ _ HSS.out (fun hHeld => ?_)
                        clear hK K
                        try simp only [Act.put, List.getElem_toArray, List.getElem_cons_succ, List.getElem_cons_zero, List.setIfInBounds_toArray, List.set_cons_zero, List.set_cons_succ]
                        refine wpAnyH_take (i := 26) (v := .bool false) rfl (by kernel_rfl) (by kernel_rfl) (by kernel_rfl) (fun _ _ _ h => h) (Or.inl ⟨by kernel_rfl, ?_⟩) (by assumption) ?_
                        · intro w hSw; (try dsimp only at hSw)
                          go_simp; try simp [hl2]
                        simp only [Act.put, List.getElem_toArray, List.getElem_cons_succ, List.getElem_cons_zero, List.setIfInBounds_toArray, List.set_cons_zero, List.set_cons_succ]
                        refine wpAnyH_take (i := 27) (v := ?_) rfl (by kernel_rfl) (by kernel_rfl) (by kernel_rfl) (fun _ _ _ h => h) (Or.inl ⟨by kernel_rfl, ?_⟩) (by assumption) ?_
                        rotate_left
                        · intro w hSw; (try dsimp only at hSw); go_simp; try with_reducible rfl
                        simp only [Act.put, List.getElem_toArray, List.getElem_cons_succ, List.getElem_cons_zero, List.setIfInBounds_toArray, List.set_cons_zero, List.set_cons_succ]
                        refine wpAnyH_take (i := 28) (v := undef) rfl (by kernel_rfl) (by kernel_rfl) (by kernel_rfl) (fun _ _ _ h => h) (Or.inr ⟨by kernel_rfl, rfl⟩) (by assumption) ?_
                        simp only [Act.put, List.getElem_toArray, List.getElem_cons_succ, List.getElem_cons_zero, List.setIfInBounds_toArray, List.set_cons_zero, List.set_cons_succ]
                        refine wpAnyH_take (i := 29) (v := undef) rfl (by kernel_rfl) (by kernel_rfl) (by kernel_rfl) (fun _ _ _ h => h) (Or.inr ⟨by kernel_rfl, rfl⟩) (by assumption) ?_
                        simp only [Act.put, List.getElem_toArray, List.getElem_cons_succ, List.getElem_cons_zero, List.setIfInBounds_toArray, List.set_cons_zero, List.set_cons_succ]
                        refine wpAnyH_take (i := 30) (v := undef) rfl (by kernel_rfl) (by kernel_rfl) (by kernel_rfl) (fun _ _ _ h => h) (Or.inr ⟨by kernel_rfl, rfl⟩) (by assumption) ?_
                        simp only [Act.put, List.getElem_toArray, List.getElem_cons_succ, List.getElem_cons_zero, List.setIfInBounds_toArray, List.set_cons_zero, List.set_cons_succ]
                        refine wpAnyH_take (i := 31) (v := undef) rfl (by kernel_rfl) (by kernel_rfl) (by kernel_rfl) (fun _ _ _ h => h) (Or.inr ⟨by kernel_rfl, rfl⟩) (by assumption) ?_
                        simp only [Act.put, List.getElem_toArray, List.getElem_cons_succ, List.getElem_cons_zero, List.setIfInBounds_toArray, List.set_cons_zero, List.set_cons_succ]
                        refine wpAnyH_take (i := 32) (v := undef) rfl (by kernel_rfl) (by kernel_rfl) (by kernel_rfl) (fun _ _ _ h => h) (Or.inr ⟨by kernel_rfl, rfl⟩) (by assumption) ?_
                        simp only [Act.put, List.getElem_toArray, List.getElem_cons_succ, List.getElem_cons_zero, List.setIfInBounds_toArray, List.set_cons_zero, List.set_cons_succ]
                        refine wpAnyH_take (i := 33) (v := undef) rfl (by kernel_rfl) (by kernel_rfl) (by kernel_rfl) (fun _ _ _ h => h) (Or.inr ⟨by kernel_rfl, rfl⟩) (by assumption) ?_
                        simp only [Act.put, List.getElem_toArray, List.getElem_cons_succ, List.getElem_cons_zero, List.setIfInBounds_toArray, List.set_cons_zero, List.set_cons_succ]
                        refine wpAnyH_take (i := 34) (v := ?_) rfl (by kernel_rfl) (by kernel_rfl) (by kernel_rfl) (fun _ _ _ h => h) (Or.inl ⟨by kernel_rfl, ?_⟩) (by assumption) ?_
                        rotate_left
                        · intro w hSw; (try dsimp only at hSw); go_simp; try with_reducible rfl
                        simp only [Act.put, List.getElem_toArray, List.getElem_cons_succ, List.getElem_cons_zero, List.setIfInBounds_toArray, List.set_cons_zero, List.set_cons_succ]
                        refine wpAnyH_take (i := 35) (v := ?_) rfl (by kernel_rfl) (by kernel_rfl) (by kernel_rfl) (fun _ _ _ h => h) (Or.inl ⟨by kernel_rfl, ?_⟩) (by assumption) ?_
                        rotate_left
                        · intro w hSw; (try dsimp only at hSw); go_simp; try with_reducible rfl
                        simp only [Act.put, List.getElem_toArray, List.getElem_cons_succ, List.getElem_cons_zero, List.setIfInBounds_toArray, List.set_cons_zero, List.set_cons_succ]
                        refine wpAnyH_done (by kernel_rfl) ?_ _
                        go_wp2_with fail
                        obtain ⟨hor, hT, hy, hL⟩ := HO2.out
                        obtain ⟨B, hB⟩ : ∃ B, wr.heap.size = B := ⟨_, rfl⟩
                        rw [hB] at hor
                        have HW := Lib.hid (And.intro (own_below hor (Below.refl u2.heap.size u2).drew) (hT.go (Below.refl u2.heap.size u2).drew))
                        clear hor hT hy hL hB
                        go_loopw [26, 27, 231] (fun bv _ kv wr => ∃ k : Nat, k ≤ L ∧ kv = .int .i64 k ∧ bv = .bool (((allG S0 C n).take k).any (fun e => e == s)) ∧ wr.ownsRow B 5 1 (.slice AR 128 cR) 128 (Go.Kw.bv s) ∧ Two w3 d sb 8 d' sb' sc' ub (kpD S1 [] K1) (kpD S2 [] K1) (allG S0 C) S0 (fun _ => False) wr) (fun _ _ kv _ => L - (intOf kv).toNat)
                        case atStart => exact ⟨0, by omega, rfl, by simp, HW.out.1, HW.out.2⟩
                        case round =>
                          obtain ⟨k, hi, rfl, rfl, hor, hT⟩ := hrel
                          clear HW
                          by_cases hlt : k < L
                          · have hI : (k : Int) < (L : Int) := by omega
                            have hk0 : (0 : Int) ≤ (k : Int) := by omega
                            obtain ⟨e0, he0⟩ : ∃ e0, (allG S0 C n)[k]? = some e0 := ⟨_, List.getElem?_eq_getElem (by rw [HO2.out.2.2.2]; exact hlt)⟩
                            have hTd := hT.go (Below.refl wr.heap.size wr).drew
                            have hod := own_below hor (Below.refl wr.heap.size wr).drew
                            have hTT := hTd
                            obtain ⟨F1, F2, X, V, -, -, -, -, hXu, -, hXl, hA, -⟩ := hTT
                            obtain ⟨ab, c0, hab, hablt, hXab, hrow⟩ := hA.at HL.out.1 HO2.out.2.2.2 (by omega)
                            have HSS := Lib.hid (And.intro hab (And.intro (hrow k e0 he0) (str_own hod HL.out.2.2.2.2.2.2.1)))
                            have HE := Lib.hid (And.intro hlt (And.intro he0 (And.intro hod hTd)))
                            have X2 := Lib.hid (wrap64_in' ((k : Int) + 1) (by have := HL.out.2.2.2.1; have := HL.out.2.2.2.2.1; have := HO2.out.2.2.2; omega))
                            obtain ⟨I, hI2⟩ : ∃ I, ((allG S0 C n).take k).any (fun e => e == s) = I := ⟨_, rfl⟩
                            have HI := Lib.hid hI2
                            rw [hI2]
                            clear hI2 hlt hi he0 hTd hod hXu hXl hA hab hablt hXab hrow hor hT
                            cases I with
                            | true =>
                              go_wp2_with fail
                              refine wp_region_held_drew (S := (fun X => X.cell? ⟨ub + 1, n, none⟩ = some (.slice (some ⟨ab, 0, none⟩) L c0) ∧ X.cell? ⟨ab, k, none⟩ = some (.string ⟨e0.toArray⟩) ∧ (convert 23 9 (.slice AR 128 cR)).run Try.prog X = .ok (.string ⟨s.toArray⟩) X)) (by kernel_rfl) HSS.out (fun hHeld => ?_)
                              refine wpAnyH_take (i := 0) (v := ?_) rfl (by kernel_rfl) (by kernel_rfl) (by kernel_rfl) (fun _ _ _ h => h) (Or.inl ⟨by kernel_rfl, ?_⟩) (by assumption) ?_
                              rotate_left
                              · intro w hSw; (try dsimp only at hSw); go_simp; try with_reducible rfl
                              simp only [Act.put, List.getElem_toArray, List.getElem_cons_succ, List.getElem_cons_zero, List.setIfInBounds_toArray, List.set_cons_zero, List.set_cons_succ]
                              refine wpAnyH_take (i := 1) (v := ?_) rfl (by kernel_rfl) (by kernel_rfl) (by kernel_rfl) (fun _ _ _ h => h) (Or.inl ⟨by kernel_rfl, ?_⟩) (by assumption) ?_
                              rotate_left
                              · intro w hSw; (try dsimp only at hSw); go_simp; try with_reducible rfl
                              simp only [Act.put, List.getElem_toArray, List.getElem_cons_succ, List.getElem_cons_zero, List.setIfInBounds_toArray, List.set_cons_zero, List.set_cons_succ]
                              refine wpAnyH_take (i := 2) (v := undef) rfl (by kernel_rfl) (by kernel_rfl) (by kernel_rfl) (fun _ _ _ h => h) (Or.inr ⟨by kernel_rfl, rfl⟩) (by assumption) ?_
                              simp only [Act.put, List.getElem_toArray, List.getElem_cons_succ, List.getElem_cons_zero, List.setIfInBounds_toArray, List.set_cons_zero, List.set_cons_succ]
                              refine wpAnyH_take (i := 3) (v := undef) rfl (by kernel_rfl) (by kernel_rfl) (by kernel_rfl) (fun _ _ _ h => h) (Or.inr ⟨by kernel_rfl, rfl⟩) (by assumption) ?_
                              simp only [Act.put, List.getElem_toArray, List.getElem_cons_succ, List.getElem_cons_zero, List.setIfInBounds_toArray, List.set_cons_zero, List.set_cons_succ]
                              refine wpAnyH_take (i := 4) (v := undef) rfl (by kernel_rfl) (by kernel_rfl) (by kernel_rfl) (fun _ _ _ h => h) (Or.inr ⟨by kernel_rfl, rfl⟩) (by assumption) ?_
                              simp only [Act.put, List.getElem_toArray, List.getElem_cons_succ, List.getElem_cons_zero, List.setIfInBounds_toArray, List.set_cons_zero, List.set_cons_succ]
                              refine wpAnyH_take (i := 5) (v := undef) rfl (by kernel_rfl) (by kernel_rfl) (by kernel_rfl) (fun _ _ _ h => h) (Or.inr ⟨by kernel_rfl, rfl⟩) (by assumption) ?_
                              simp only [Act.put, List.getElem_toArray, List.getElem_cons_succ, List.getElem_cons_zero, List.setIfInBounds_toArray, List.set_cons_zero, List.set_cons_succ]
                              refine wpAnyH_take (i := 6) (v := undef) rfl (by kernel_rfl) (by kernel_rfl) (by kernel_rfl) (fun _ _ _ h => h) (Or.inr ⟨by kernel_rfl, rfl⟩) (by assumption) ?_
                              simp only [Act.put, List.getElem_toArray, List.getElem_cons_succ, List.getElem_cons_zero, List.setIfInBounds_toArray, List.set_cons_zero, List.set_cons_succ]
                              refine wpAnyH_take (i := 7) (v := undef) rfl (by kernel_rfl) (by kernel_rfl) (by kernel_rfl) (fun _ _ _ h => h) (Or.inr ⟨by kernel_rfl, rfl⟩) (by assumption) ?_
                              simp only [Act.put, List.getElem_toArray, List.getElem_cons_succ, List.getElem_cons_zero, List.setIfInBounds_toArray, List.set_cons_zero, List.set_cons_succ]
                              refine wpAnyH_take (i := 8) (v := undef) rfl (by kernel_rfl) (by kernel_rfl) (by kernel_rfl) (fun _ _ _ h => h) (Or.inr ⟨by kernel_rfl, rfl⟩) (by assumption) ?_
                              simp only [Act.put, List.getElem_toArray, List.getElem_cons_succ, List.getElem_cons_zero, List.setIfInBounds_toArray, List.set_cons_zero, List.set_cons_succ]
                              refine wpAnyH_take (i := 9) (v := undef) rfl (by kernel_rfl) (by kernel_rfl) (by kernel_rfl) (fun _ _ _ h => h) (Or.inr ⟨by kernel_rfl, rfl⟩) (by assumption) ?_
                              simp only [Act.put, List.getElem_toArray, List.getElem_cons_succ, List.getElem_cons_zero, List.setIfInBounds_toArray, List.set_cons_zero, List.set_cons_succ]
                              refine wpAnyH_take (i := 10) (v := undef) rfl (by kernel_rfl) (by kernel_rfl) (by kernel_rfl) (fun _ _ _ h => h) (Or.inr ⟨by kernel_rfl, rfl⟩) (by assumption) ?_
                              simp only [Act.put, List.getElem_toArray, List.getElem_cons_succ, List.getElem_cons_zero, List.setIfInBounds_toArray, List.set_cons_zero, List.set_cons_succ]
                              refine wpAnyH_take (i := 11) (v := ?_) rfl (by kernel_rfl) (by kernel_rfl) (by kernel_rfl) (fun _ _ _ h => h) (Or.inl ⟨by kernel_rfl, ?_⟩) (by assumption) ?_
                              rotate_left
                              · intro w hSw; (try dsimp only at hSw); go_simp; try with_reducible rfl
                              simp only [Act.put, List.getElem_toArray, List.getElem_cons_succ, List.getElem_cons_zero, List.setIfInBounds_toArray, List.set_cons_zero, List.set_cons_succ]
                              refine wpAnyH_take (i := 12) (v := ?_) rfl (by kernel_rfl) (by kernel_rfl) (by kernel_rfl) (fun _ _ _ h => h) (Or.inl ⟨by kernel_rfl, ?_⟩) (by assumption) ?_
                              rotate_left
                              · intro w hSw; (try dsimp only at hSw); go_simp; try with_reducible rfl
                              simp only [Act.put, List.getElem_toArray, List.getElem_cons_succ, List.getElem_cons_zero, List.setIfInBounds_toArray, List.set_cons_zero, List.set_cons_succ]
                              refine wpAnyH_done (by kernel_rfl) ?_ _
                              go_wp2_with fail
                              try rw [X2.out]
                              refine ⟨⟨k + 1, HE.out.1, by push_cast; rfl, ?_, HE.out.2.2.1, HE.out.2.2.2⟩, by have := HE.out.1; simp [intOf]; omega⟩
                              rw [List.take_add_one, List.any_append, HI.out, HE.out.2.1]
                              simp
                            | false =>
                              go_wp2_with fail
                              refine wp_region_held_drew (S := (fun X => X.cell? ⟨ub + 1, n, none⟩ = some (.slice (some ⟨ab, 0, none⟩) L c0) ∧ X.cell? ⟨ab, k, none⟩ = some (.string ⟨e0.toArray⟩) ∧ (convert 23 9 (.slice AR 128 cR)).run Try.prog X = .ok (.string ⟨s.toArray⟩) X)) (by kernel_rfl) HSS.out (fun hHeld => ?_)
                              refine wpAnyH_take (i := 0) (v := ?_) rfl (by kernel_rfl) (by kernel_rfl) (by kernel_rfl) (fun _ _ _ h => h) (Or.inl ⟨by kernel_rfl, ?_⟩) (by assumption) ?_
                              rotate_left
                              · intro w hSw; (try dsimp only at hSw); go_simp; try with_reducible rfl
                              simp only [Act.put, List.getElem_toArray, List.getElem_cons_succ, List.getElem_cons_zero, List.setIfInBounds_toArray, List.set_cons_zero, List.set_cons_succ]
                              refine wpAnyH_take (i := 1) (v := ?_) rfl (by kernel_rfl) (by kernel_rfl) (by kernel_rfl) (fun _ _ _ h => h) (Or.inl ⟨by kernel_rfl, ?_⟩) (by assumption) ?_
                              rotate_left
                              · intro w hSw; (try dsimp only at hSw); go_simp; try with_reducible rfl
                              simp only [Act.put, List.getElem_toArray, List.getElem_cons_succ, List.getElem_cons_zero, List.setIfInBounds_toArray, List.set_cons_zero, List.set_cons_succ]
                              refine wpAnyH_take (i := 2) (v := ?_) rfl (by kernel_rfl) (by kernel_rfl) (by kernel_rfl) (fun _ _ _ h => h) (Or.inl ⟨by kernel_rfl, ?_⟩) (by assumption) ?_
                              rotate_left
                              · intro w hSw; (try dsimp only at hSw); go_simp; try with_reducible rfl
                              simp only [Act.put, List.getElem_toArray, List.getElem_cons_succ, List.getElem_cons_zero, List.setIfInBounds_toArray, List.set_cons_zero, List.set_cons_succ]
                              refine wpAnyH_take (i := 3) (v := ?_) rfl (by kernel_rfl) (by kernel_rfl) (by kernel_rfl) (fun _ _ _ h => h) (Or.inl ⟨by kernel_rfl, ?_⟩) (by assumption) ?_
                              rotate_left
                              · intro w hSw; (try dsimp only at hSw); go_simp; try with_reducible rfl
                              simp only [Act.put, List.getElem_toArray, List.getElem_cons_succ, List.getElem_cons_zero, List.setIfInBounds_toArray, List.set_cons_zero, List.set_cons_succ]
                              refine wpAnyH_take (i := 4) (v := ?_) rfl (by kernel_rfl) (by kernel_rfl) (by kernel_rfl) (fun _ _ _ h => h) (Or.inl ⟨by kernel_rfl, ?_⟩) (by assumption) ?_
                              rotate_left
                              · intro w hSw; (try dsimp only at hSw); go_simp; try with_reducible rfl
                              simp only [Act.put, List.getElem_toArray, List.getElem_cons_succ, List.getElem_cons_zero, List.setIfInBounds_toArray, List.set_cons_zero, List.set_cons_succ]
                              refine wpAnyH_take (i := 5) (v := ?_) rfl (by kernel_rfl) (by kernel_rfl) (by kernel_rfl) (fun _ _ _ h => h) (Or.inl ⟨by kernel_rfl, ?_⟩) (by assumption) ?_
                              rotate_left
                              · intro w hSw; (try dsimp only at hSw); go_simp; try with_reducible rfl
                              simp only [Act.put, List.getElem_toArray, List.getElem_cons_succ, List.getElem_cons_zero, List.setIfInBounds_toArray, List.set_cons_zero, List.set_cons_succ]
                              refine wpAnyH_take (i := 6) (v := ?_) rfl (by kernel_rfl) (by kernel_rfl) (by kernel_rfl) (fun _ _ _ h => h) (Or.inl ⟨by kernel_rfl, ?_⟩) (by assumption) ?_
                              rotate_left
                              · intro w hSw; (try dsimp only at hSw); go_simp; try with_reducible rfl
                              simp only [Act.put, List.getElem_toArray, List.getElem_cons_succ, List.getElem_cons_zero, List.setIfInBounds_toArray, List.set_cons_zero, List.set_cons_succ]
                              refine wpAnyH_take (i := 7) (v := ?_) rfl (by kernel_rfl) (by kernel_rfl) (by kernel_rfl) (fun _ _ _ h => h) (Or.inl ⟨by kernel_rfl, ?_⟩) (by assumption) ?_
                              rotate_left
                              · intro w hSw; (try dsimp only at hSw); go_simp; try with_reducible rfl
                              simp only [Act.put, List.getElem_toArray, List.getElem_cons_succ, List.getElem_cons_zero, List.setIfInBounds_toArray, List.set_cons_zero, List.set_cons_succ]
                              refine wpAnyH_take (i := 8) (v := ?_) rfl (by kernel_rfl) (by kernel_rfl) (by kernel_rfl) (fun _ _ _ h => h) (Or.inl ⟨by kernel_rfl, ?_⟩) (by assumption) ?_
                              rotate_left
                              · intro w hSw; (try dsimp only at hSw); go_simp; try with_reducible rfl
                              simp only [Act.put, List.getElem_toArray, List.getElem_cons_succ, List.getElem_cons_zero, List.setIfInBounds_toArray, List.set_cons_zero, List.set_cons_succ]
                              refine wpAnyH_take (i := 9) (v := ?_) rfl (by kernel_rfl) (by kernel_rfl) (by kernel_rfl) (fun _ _ _ h => h) (Or.inl ⟨by kernel_rfl, ?_⟩) (by assumption) ?_
                              rotate_left
                              · intro w hSw; (try dsimp only at hSw); go_simp; try with_reducible rfl
                              simp only [Act.put, List.getElem_toArray, List.getElem_cons_succ, List.getElem_cons_zero, List.setIfInBounds_toArray, List.set_cons_zero, List.set_cons_succ]
                              refine wpAnyH_take (i := 10) (v := .bool (e0 == s)) rfl (by kernel_rfl) (by kernel_rfl) (by kernel_rfl) (fun _ _ _ h => h) (Or.inl ⟨by kernel_rfl, ?_⟩) (by assumption) ?_
                              · intro w hSw; (try dsimp only at hSw)
                                go_simp
                              simp only [Act.put, List.getElem_toArray, List.getElem_cons_succ, List.getElem_cons_zero, List.setIfInBounds_toArray, List.set_cons_zero, List.set_cons_succ]
                              refine wpAnyH_take (i := 11) (v := ?_) rfl (by kernel_rfl) (by kernel_rfl) (by kernel_rfl) (fun _ _ _ h => h) (Or.inl ⟨by kernel_rfl, ?_⟩) (by assumption) ?_
                              rotate_left
                              · intro w hSw; (try dsimp only at hSw); go_simp; try with_reducible rfl
                              simp only [Act.put, List.getElem_toArray, List.getElem_cons_succ, List.getElem_cons_zero, List.setIfInBounds_toArray, List.set_cons_zero, List.set_cons_succ]
                              refine wpAnyH_take (i := 12) (v := ?_) rfl (by kernel_rfl) (by kernel_rfl) (by kernel_rfl) (fun _ _ _ h => h) (Or.inl ⟨by kernel_rfl, ?_⟩) (by assumption) ?_
                              rotate_left
                              · intro w hSw; (try dsimp only at hSw); go_simp; try with_reducible rfl
                              simp only [Act.put, List.getElem_toArray, List.getElem_cons_succ, List.getElem_cons_zero, List.setIfInBounds_toArray, List.set_cons_zero, List.set_cons_succ]
                              refine wpAnyH_done (by kernel_rfl) ?_ _
                              go_wp2_with fail
                              try rw [X2.out]
                              refine ⟨⟨k + 1, HE.out.1, by push_cast; rfl, ?_, HE.out.2.2.1, HE.out.2.2.2⟩, by have := HE.out.1; simp [intOf]; omega⟩
                              rw [List.take_add_one, List.any_append, HI.out, HE.out.2.1]
                              simp
                          · obtain rfl : k = L := by omega
                            have HW := Lib.hid hT
                            clear hlt hi hor hT
                            obtain ⟨I, hI⟩ : ∃ I, ((allG S0 C n).take k).any (fun e => e == s) = I := ⟨_, rfl⟩
                            have HI := Lib.hid hI
                            rw [hI]
                            clear hI
                            cases I with
                            | true =>
                              go_wp2_with fail
                              obtain ⟨hlt, hs, hx, hm, hm200, hmx, hsl, hxl, ho, -⟩ := HL.out
                              exact ⟨⟨n + 1, o, hlt, by push_cast; rfl, rfl, ho.imp id (fun h => ⟨h.1, by omega⟩), HW.out⟩, by simp [intOf]; omega⟩
                            | false =>
                              go_wp2_with fail
                              obtain ⟨hlt, hs, hx, hm, hm200, hmx, hsl, hxl, ho, -⟩ := HL.out
                              have hn : n = tornS C to := Classical.byContradiction fun hne => by
                                have hme := HK2.out.mem n hlt hne
                                rw [hs] at hme
                                have h2 := HI.out
                                rw [List.take_of_length_le (Nat.le_of_eq HO2.out.2.2.2)] at h2
                                rw [List.any_eq_true.2 ⟨s, hme, by simp⟩] at h2
                                cases h2
                              have ho0 : o = 0 := by
                                rcases ho with h | ⟨-, h⟩
                                · exact h
                                · omega
                              subst ho0
                              exact ⟨⟨n + 1, 1, hlt, by push_cast; rfl, by rw [wrap64_in' (((0 : Nat) : Int) + 1) (by omega)]; rfl, .inr ⟨rfl, by omega⟩, HW.out⟩, by simp [intOf]; omega⟩
                    · obtain rfl : n = 8 := by omega
                      have HT := Lib.hid (show Below w.heap.size w wr from bnext Hw3.out hT.below)
                      have hq : decide ((o : Int) ≤ 1) = true := decide_eq_true (by rcases ho with h | h <;> omega)
                      clear hlt hi ho hT
                      go_wp2_with fail
                      go_ret
                      exact ⟨rfl, HT.out⟩
end Go.Proofs.Ytpleaicpkpjkjaa
