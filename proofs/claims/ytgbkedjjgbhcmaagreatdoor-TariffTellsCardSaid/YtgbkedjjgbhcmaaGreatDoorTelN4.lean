/-
  Texts that the proof leans on, merged by program, part 4. Conditions stand at each theorem.
-/
import Derived.Test.YtgbkedjjgbhcmaaGreatDoorTelN1
import Derived.Test.YtgbkedjjgbhcmaaGreatDoorTelN3
import Derived.Test.YtgbkedjjgbhcmaaGreatDoorTelN5
import Derived.BigQuiet
import Derived.Deep.QuietTactic
/-
  The document's plans and tables of bands: May, Check, Band, Plan of package kilowattref09, walked. Conditions stand at each theorem.
-/
namespace Go.Proofs.YtgbkedjjgbhcmaaGreatDoor
open Go Go.RowKit Go.Kw Go.Kw.Cv Go.Shelf
set_option linter.unusedVariables false
set_option linter.unusedSimpArgs false

set_option maxRecDepth 100000 in
set_option maxHeartbeats 16000000 in
theorem rbMay_calls (A : Option Addr) (n c : Nat) (g : Nat → Nat → Int) (w : World) (hR : IRows 2 kI w A n c g) :
    Calls Tryz.prog 53 #[.slice A n c] w fun e w' => e = .returned (.bool (decide (planOk n g))) ∧ Below w.heap.size w w' := by
  obtain ⟨b0, hb0⟩ : ∃ b0, w.heap.size = b0 := ⟨_, rfl⟩
  have Hb0 := Lib.hid hb0
  have HR := Lib.hid hR
  obtain ⟨E, hE⟩ : ∃ E, decide (planOk n g) = E := ⟨_, rfl⟩
  have HE := Lib.hid (show planOk n g ↔ E = true by rw [← hE, decide_eq_true_eq])
  have hst := Below.refl b0 w
  rw [hE]
  clear hE
  by_cases h1 : n < 1
  · have k1 : decide ((n : Int) < 1) = true := decide_eq_true (by omega)
    have Hno := Lib.hid (show E = false from Bool.eq_false_iff.2 (fun q => by have := (HE.out.2 q).1.1; omega))
    clear h1 hR
    go_enter Tryz.func53, Tryz.ntmps53
    go_wp2_with fail
    go_ret
    rw [Hno.out]
    exact ⟨rfl, by first | exact hst | (rw [Hb0.out]; exact hst)⟩
  have k1 : decide ((n : Int) < 1) = false := decide_eq_false (by omega)
  by_cases h2 : n > 48
  · have k2 : decide ((n : Int) > 48) = true := decide_eq_true (by omega)
    have Hno := Lib.hid (show E = false from Bool.eq_false_iff.2 (fun q => by have := (HE.out.2 q).1.2.1; omega))
    clear h1 h2 hR
    go_enter Tryz.func53, Tryz.ntmps53
    go_wp2_with fail
    go_ret
    rw [Hno.out]
    exact ⟨rfl, by first | exact hst | (rw [Hb0.out]; exact hst)⟩
  have k2 : decide ((n : Int) > 48) = false := decide_eq_false (by omega)
  obtain ⟨sb, off, rfl, hsb, q0, -⟩ := sw_at hR (show 0 < n by omega)
  rw [Nat.zero_mul, Nat.add_zero] at q0
  have hI0 : (0 : Int) < n := by omega
  have hN0 : 0 < n := by omega
  by_cases h3 : g 0 0 = 0
  · rw [h3] at q0
    have H3 := Lib.hid (And.intro hN0 (And.intro (show n ≤ 48 by omega) h3))
    have Hsb := Lib.hid hsb
    clear h1 h2 h3 hR hsb hN0
    go_enter Tryz.func53, Tryz.ntmps53
    go_wp2_with fail
    clear q0 hI0
    go_loopw [3] (fun i wr => ∃ k : Nat, k ≤ n ∧ i = .int .i64 k ∧ (∀ j, j < k → swOk g j) ∧ Below b0 w wr ∧ b0 ≤ wr.heap.size) (fun i _ => n - (intOf i).toNat)
    case atStart => exact ⟨0, by omega, rfl, fun j hj => absurd hj (by omega), hst, by rw [Hb0.out]; exact Nat.le_refl _⟩
    case round =>
      obtain ⟨k, hk, rfl, hA, hB, hbs⟩ := hrel
      clear hst
      by_cases hlt : k < n
      · obtain ⟨sb2, off2, e2, -, c0, c1⟩ := sw_at HR.out hlt
        injection e2 with e2
        injection e2 with e3 e4
        subst e3 e4
        have hsb0 : sb < b0 := by have := Hsb.out; have := Hb0.out; omega
        have hI : (k : Int) < n := by omega
        have hk0 : (0 : Int) ≤ (k : Int) := by omega
        have hc0 := (hB.cell (p := ⟨sb, off + k * 2, none⟩) hsb0).trans c0
        have hc1 := (hB.cell (p := ⟨sb, off + k * 2 + 1, none⟩) hsb0).trans c1
        obtain ⟨M, hM⟩ : ∃ M, g k 0 = M := ⟨_, rfl⟩
        obtain ⟨D, hD⟩ : ∃ D, g k 1 = D := ⟨_, rfl⟩
        rw [hM] at hc0
        rw [hD] at hc1
        have HMD := Lib.hid (And.intro hM hD)
        have Hlt := Lib.hid hlt
        have HA := Lib.hid hA
        have HB := Lib.hid (And.intro hB hbs)
        have wk : IntKind.i64.wrap ((k : Int) + 1) = (k : Int) + 1 := i64_same _ (by have := H3.out; omega)
        have X := Lib.hid (wrap64_in ((k : Int) + 1) (by have := H3.out; omega))
        clear c0 c1 hM hD hlt hA hbs hk
        by_cases s1 : D < 0
        · have z1 : decide (D < 0) = true := decide_eq_true s1
          have Hno := Lib.hid (show E = false from Bool.eq_false_iff.2 (fun q => by have h9 := (HE.out.2 q).2 k Hlt.out; unfold swOk at h9; rw [HMD.out.1, HMD.out.2] at h9; omega))
          clear s1 hB
          go_wp2_with fail
          go_ret
          rw [Hno.out]
          exact ⟨rfl, by first | exact HB.out.1 | (rw [Hb0.out]; exact HB.out.1)⟩
        have z1 : decide (D < 0) = false := decide_eq_false s1
        by_cases s2 : D > 7
        · have z2 : decide (D > 7) = true := decide_eq_true s2
          have Hno := Lib.hid (show E = false from Bool.eq_false_iff.2 (fun q => by have h9 := (HE.out.2 q).2 k Hlt.out; unfold swOk at h9; rw [HMD.out.1, HMD.out.2] at h9; omega))
          clear s1 s2 hB
          go_wp2_with fail
          go_ret
          rw [Hno.out]
          exact ⟨rfl, by first | exact HB.out.1 | (rw [Hb0.out]; exact HB.out.1)⟩
        have z2 : decide (D > 7) = false := decide_eq_false s2
        by_cases s3 : M ≥ 1440
        · have z3 : decide (M ≥ 1440) = true := decide_eq_true s3
          have Hno := Lib.hid (show E = false from Bool.eq_false_iff.2 (fun q => by have h9 := (HE.out.2 q).2 k Hlt.out; unfold swOk at h9; rw [HMD.out.1, HMD.out.2] at h9; omega))
          clear s1 s2 s3 hB
          go_wp2_with fail
          go_ret
          rw [Hno.out]
          exact ⟨rfl, by first | exact HB.out.1 | (rw [Hb0.out]; exact HB.out.1)⟩
        have z3 : decide (M ≥ 1440) = false := decide_eq_false s3
        by_cases s0 : k = 0
        · have kz : decide ((k : Int) > 0) = false := decide_eq_false (by omega)
          have kz2 : decide (0 < k) = false := decide_eq_false (by omega)
          have HOK := Lib.hid (show swOk g k by unfold swOk; rw [HMD.out.1, HMD.out.2]; omega)
          clear s0 s1 s2 s3 hB
          have x := X.out
          go_wp2_with fail
          go_quiet (fail)
          go_wp2_with fail
          clear x
          exact ⟨⟨k + 1, Hlt.out, by push_cast; rfl, sw_step HOK.out HA.out, HB.out.1.drewN _, HB.out.2⟩, meas_z n k Hlt.out⟩
        · have kz : decide ((k : Int) > 0) = true := decide_eq_true (by omega)
          have kz2 : decide (0 < k) = true := decide_eq_true (by omega)
          obtain ⟨p, hp⟩ : ∃ p : Nat, k = p + 1 := ⟨k - 1, by omega⟩
          obtain ⟨sb3, off3, e5, -, c2, -⟩ := sw_at HR.out (show p < n by have := Hlt.out; omega)
          injection e5 with e5
          injection e5 with e6 e7
          subst e6 e7
          have hc2 := (hB.cell (p := ⟨sb, off + p * 2, none⟩) hsb0).trans c2
          obtain ⟨Q, hQ⟩ : ∃ Q, g p 0 = Q := ⟨_, rfl⟩
          rw [hQ] at hc2
          have hp1 : IntKind.i64.wrap ((k : Int) - 1) = (p : Int) := by rw [show (k : Int) - 1 = (p : Int) by omega]; exact i64_same _ (by have := H3.out; omega)
          have hp0 : (0 : Int) ≤ (p : Int) := by omega
          have hpn : (p : Int) < (n : Int) := by omega
          have HQ := Lib.hid (And.intro hQ hp)
          clear c2 hQ hp hB s0
          by_cases s4 : M ≤ Q
          · have z4 : decide (M ≤ Q) = true := decide_eq_true s4
            have Hno := Lib.hid (show E = false from Bool.eq_false_iff.2 (fun q => by have h9 := (HE.out.2 q).2 k Hlt.out; unfold swOk at h9; rw [HMD.out.1, HMD.out.2] at h9; have h8 := h9.2.2.2 (by have := HQ.out.2; omega); rw [show k - 1 = p by have := HQ.out.2; omega, HQ.out.1] at h8; omega))
            clear s1 s2 s3 s4
            go_wp2_with fail
            go_quiet (fail)
            go_wp2_with fail
            go_ret
            rw [Hno.out]
            exact ⟨rfl, by first | exact HB.out.1.drewN _ | (rw [Hb0.out]; exact HB.out.1.drewN _)⟩
          · have z4 : decide (M ≤ Q) = false := decide_eq_false s4
            have HOK := Lib.hid (show swOk g k by unfold swOk; rw [HMD.out.1, HMD.out.2, show k - 1 = p by have := HQ.out.2; omega, HQ.out.1]; omega)
            clear s1 s2 s3 s4
            have x := X.out
            go_wp2_with fail
            go_quiet (fail)
            go_wp2_with fail
            clear x
            exact ⟨⟨k + 1, Hlt.out, by push_cast; rfl, sw_step HOK.out HA.out, HB.out.1.drewN _, HB.out.2⟩, meas_z n k Hlt.out⟩
      · obtain rfl : k = n := by omega
        have hI : ¬ ((k : Int) < k) := by omega
        have HB := Lib.hid hB
        have Hyes := Lib.hid (show E = true from HE.out.1 ⟨⟨H3.out.1, H3.out.2.1, H3.out.2.2⟩, hA⟩)
        clear hA hB hk hlt hbs
        go_wp2_with fail
        go_ret
        rw [Hyes.out]
        exact ⟨rfl, by first | exact HB.out | (rw [Hb0.out]; exact HB.out)⟩
  · have k3 : (g 0 0 != 0) = true := by simp [h3]
    have Hno := Lib.hid (show E = false from Bool.eq_false_iff.2 (fun q => h3 (HE.out.2 q).1.2.2))
    clear h1 h2 h3 hR
    go_enter Tryz.func53, Tryz.ntmps53
    go_wp2_with fail
    go_ret
    rw [Hno.out]
    exact ⟨rfl, by first | exact hst | (rw [Hb0.out]; exact hst)⟩
/-! Band -/
theorem swAt_next (g : Nat → Nat → Int) (m : Int) (k : Nat) : swAt g m (k + 1) = if g k 0 ≤ m then k else swAt g m k := rfl
set_option maxRecDepth 100000 in
set_option maxHeartbeats 16000000 in
theorem rbBand_calls (A : Option Addr) (n c : Nat) (g : Nat → Nat → Int) (m : Int) (hok : planOk n g) (hm : 0 ≤ m ∧ m < 1440) (w : World) (hR : IRows 2 kI w A n c g) :
    Calls Tryz.prog 36 #[.slice A n c, .int .i64 m] w fun e w' => e = .returned (.tuple #[.int .i64 (bandV n g m), .bool true]) ∧ Below w.heap.size w w' := by
  obtain ⟨b0, hb0⟩ : ∃ b0, w.heap.size = b0 := ⟨_, rfl⟩
  have Hb0 := Lib.hid hb0
  have hX := rbMay_calls A n c g w hR
  rw [decide_eq_true hok] at hX
  have HX := Lib.hid hX
  have HR := Lib.hid hR
  have HM := Lib.hid hm
  have HK := Lib.hid hok
  have k0 : decide (m < 0) = false := decide_eq_false (by omega)
  have k1 : decide (m ≥ 1440) = false := decide_eq_false (by omega)
  clear hX hR hm hok
  go_enter Tryz.func36, Tryz.ntmps36
  go_wp2_with fail
  refine HX.out.mono ?_
  rintro e w2 ⟨rfl, hb2⟩
  have hR2 := HR.out.go hb2
  have HR2 := Lib.hid hR2
  have HB2 := Lib.hid hb2
  clear hb2 hR2
  go_wp2_with fail
  go_loop [7, 8] (fun o i => ∃ (k : Nat) (z : Int), k ≤ n ∧ i = .int .i64 k ∧ o = .int .i64 z ∧ ((k = 0 ∧ z = 0) ∨ (0 < k ∧ z = g (swAt g m k) 1))) (fun _ i => n - (intOf i).toNat)
  case atStart => exact ⟨0, 0, by omega, rfl, rfl, .inl ⟨rfl, rfl⟩⟩
  case round =>
    obtain ⟨k, z, hk, rfl, rfl, hz⟩ := hrel
    by_cases hlt : k < n
    · obtain ⟨sb, off, rfl, -, c0, c1⟩ := sw_at HR2.out hlt
      have hI : (k : Int) < n := by omega
      have hk0 : (0 : Int) ≤ (k : Int) := by omega
      obtain ⟨M, hM⟩ : ∃ M, g k 0 = M := ⟨_, rfl⟩
      obtain ⟨D, hD⟩ : ∃ D, g k 1 = D := ⟨_, rfl⟩
      rw [hM] at c0
      rw [hD] at c1
      have HMD := Lib.hid (And.intro hM hD)
      have Hlt := Lib.hid hlt
      have Hz := Lib.hid hz
      have wk : IntKind.i64.wrap ((k : Int) + 1) = (k : Int) + 1 := i64_same _ (by have := HK.out.1.2.1; omega)
      have X := Lib.hid (wrap64_in ((k : Int) + 1) (by have := HK.out.1.2.1; omega))
      clear hM hD hlt hz hk
      by_cases s1 : M ≤ m
      · have z1 : decide (M ≤ m) = true := decide_eq_true s1
        have HS := Lib.hid (show D = g (swAt g m (k + 1)) 1 by rw [swAt_next, HMD.out.1, if_pos s1]; exact HMD.out.2.symm)
        clear s1
        have x := X.out
        go_wp2_with fail
        clear x
        exact ⟨⟨k + 1, D, Hlt.out, by push_cast; rfl, rfl, .inr ⟨by omega, HS.out⟩⟩, meas_z n k Hlt.out⟩
      · have z1 : decide (M ≤ m) = false := decide_eq_false s1
        have HS := Lib.hid (show 0 < k + 1 ∧ z = g (swAt g m (k + 1)) 1 by
          rw [swAt_next, HMD.out.1, if_neg s1]
          rcases Hz.out with ⟨h0, -⟩ | ⟨h0, h1⟩
          · exfalso
            have h2 := HK.out.1.2.2
            have h3 := HMD.out.1
            rw [h0, h2] at h3
            have := HM.out.1
            omega
          · exact ⟨by omega, h1⟩)
        clear s1
        have x := X.out
        go_wp2_with fail
        clear x
        exact ⟨⟨k + 1, z, Hlt.out, by push_cast; rfl, rfl, .inr HS.out⟩, meas_z n k Hlt.out⟩
    · obtain rfl : k = n := by omega
      have hI : ¬ ((k : Int) < k) := by omega
      have Hz := Lib.hid (show bandV k g m = z by
        rcases hz with ⟨h0, -⟩ | ⟨-, h1⟩
        · have := HK.out.1.1; omega
        · exact h1.symm)
      clear hz hk hlt
      go_wp2_with fail
      go_ret2
      rw [Hz.out]
      exact ⟨rfl, by first | exact HB2.out | (rw [Hb0.out]; exact HB2.out) | (rw [← Hb0.out]; exact HB2.out)⟩
end Go.Proofs.YtgbkedjjgbhcmaaGreatDoor

/-
  The document's tables of bands: Check, Plan of package kilowattref09, walked. Conditions stand at each theorem.
-/
namespace Go.Proofs.YtgbkedjjgbhcmaaGreatDoor
open Go Go.RowKit Go.Kw Go.Kw.Cv Go.Shelf
set_option linter.unusedVariables false
set_option linter.unusedSimpArgs false

set_option maxRecDepth 100000 in
set_option maxHeartbeats 16000000 in
theorem rbCheck_calls (A : Option Addr) (np cp : Nat) (F : Nat → SlX) (gp : Nat → Nat → Nat → Int) (R : Option Addr) (nr cr : Nat) (r : Nat → Nat → Int) (w : World) (hP : RdPl w A np cp F gp) (hR : IRows 3 kI w R nr cr r) :
    Calls Tryz.prog 23 #[.agg #[.slice A np cp, .slice R nr cr]] w fun e w' => e = .returned (.bool (decide (tabOk np (fun i => (F i).2.1) gp nr r))) ∧ Below w.heap.size w w' := by
  obtain ⟨b0, hb0⟩ : ∃ b0, w.heap.size = b0 := ⟨_, rfl⟩
  have Hb0 := Lib.hid hb0
  obtain ⟨W1, hW1⟩ : ∃ W1, w.alloc (.cells #[.slice A np cp, .slice R nr cr] 67) = W1 := ⟨_, rfl⟩
  have hst : Below w.heap.size w W1 := hW1 ▸ bstep w _
  have hr : W1.heap[b0]? = some (.cells #[.slice A np cp, .slice R nr cr] 67 (0, 0)) := by rw [← hb0, ← hW1]; exact World.alloc_heap_new w _
  have d0 := cell_of_row W1 b0 0 _ _ _ hr
  have d1 := cell_of_row W1 b0 1 _ _ _ hr
  have HX := Lib.hid (And.intro (hP.go hst) (And.intro (hR.go hst) (And.intro hr hst)))
  have hz1 : b0 < W1.heap.size := blk_lt hr
  have Hz1 := Lib.hid hz1
  obtain ⟨E, hE⟩ : ∃ E, decide (tabOk np (fun i => (F i).2.1) gp nr r) = E := ⟨_, rfl⟩
  have HE := Lib.hid (show tabOk np (fun i => (F i).2.1) gp nr r ↔ E = true by rw [← hE, decide_eq_true_eq])
  rw [hE]
  clear hst hr hE hP hR hz1
  by_cases h0 : np < 1
  · have z0 : decide ((np : Int) < 1) = true := decide_eq_true (by omega)
    have Hno := Lib.hid (show E = false from Bool.eq_false_iff.2 (fun q => by have := (HE.out.2 q).1.1; omega))
    clear h0
    go_enter Tryz.func23, Tryz.ntmps23
    go_wp2_with fail
    go_ret
    rw [Hno.out]
    exact ⟨rfl, by first | exact HX.out.2.2.2 | (rw [Hb0.out]; exact HX.out.2.2.2) | (rw [← Hb0.out]; exact HX.out.2.2.2)⟩
  have z0 : decide ((np : Int) < 1) = false := decide_eq_false (by omega)
  by_cases h1 : np > 50
  · have z1 : decide ((np : Int) > 50) = true := decide_eq_true (by omega)
    have Hno := Lib.hid (show E = false from Bool.eq_false_iff.2 (fun q => by have := (HE.out.2 q).1.2.1; omega))
    clear h0 h1
    go_enter Tryz.func23, Tryz.ntmps23
    go_wp2_with fail
    go_ret
    rw [Hno.out]
    exact ⟨rfl, by first | exact HX.out.2.2.2 | (rw [Hb0.out]; exact HX.out.2.2.2) | (rw [← Hb0.out]; exact HX.out.2.2.2)⟩
  have z1 : decide ((np : Int) > 50) = false := decide_eq_false (by omega)
  by_cases h2 : nr > 100
  · have z2 : decide ((nr : Int) > 100) = true := decide_eq_true (by omega)
    have Hno := Lib.hid (show E = false from Bool.eq_false_iff.2 (fun q => by have := (HE.out.2 q).1.2.2; omega))
    clear h0 h1 h2
    go_enter Tryz.func23, Tryz.ntmps23
    go_wp2_with fail
    go_ret
    rw [Hno.out]
    exact ⟨rfl, by first | exact HX.out.2.2.2 | (rw [Hb0.out]; exact HX.out.2.2.2) | (rw [← Hb0.out]; exact HX.out.2.2.2)⟩
  have z2 : decide ((nr : Int) > 100) = false := decide_eq_false (by omega)
  have H3 := Lib.hid (show 1 ≤ np ∧ np ≤ 50 ∧ nr ≤ 100 by omega)
  have hB0 := Below.refl W1.heap.size W1
  clear h0 h1 h2
  go_enter Tryz.func23, Tryz.ntmps23
  go_wp2_with fail
  clear d0 d1 hW1
  go_loopw [3] (fun i wr => ∃ k : Nat, k ≤ np ∧ i = .int .i64 k ∧ (∀ j, j < k → planOk (F j).2.1 (gp j)) ∧ Below W1.heap.size W1 wr) (fun i _ => np - (intOf i).toNat)
  case atStart => exact ⟨0, by omega, rfl, fun j hj => absurd hj (by omega), hB0⟩
  case round =>
    obtain ⟨k, hk, rfl, hA, hB⟩ := hrel
    clear hB0
    obtain ⟨x1, x2, x3, x4⟩ := HX.out
    have hrw := blk_below x3 hB
    have d0 := cell_of_row wr b0 0 _ _ _ hrw
    have d1 := cell_of_row wr b0 1 _ _ _ hrw
    have hPw := x1.go hB
    have HRw := Lib.hid (x2.go hB)
    have HB := Lib.hid (And.intro hB (bnext x4 hB))
    have Hrw := Lib.hid hrw
    clear x1 x2 x3 x4 hrw
    by_cases hlt : k < np
    · have hI : (k : Int) < np := by omega
      have hk0 : (0 : Int) ≤ (k : Int) := by omega
      obtain ⟨sb, off, hpa, hpl, c0⟩ := hPw.2.2.2.1.at_ hlt
      have hX := rbMay_calls (F k).1 (F k).2.1 (F k).2.2 (gp k) wr (hPw.2.2.2.2 k hlt)
      unfold slV at c0
      obtain ⟨P1, hP1⟩ : ∃ x, (F k).1 = x := ⟨_, rfl⟩
      obtain ⟨P2, hP2⟩ : ∃ x, (F k).2.1 = x := ⟨_, rfl⟩
      obtain ⟨P3, hP3⟩ : ∃ x, (F k).2.2 = x := ⟨_, rfl⟩
      rw [hP1, hP2, hP3] at c0 hX
      rw [hpa] at d0
      obtain ⟨X, hXe⟩ : ∃ X, decide (planOk P2 (gp k)) = X := ⟨_, rfl⟩
      have HXv := Lib.hid (show planOk (F k).2.1 (gp k) ↔ X = true by rw [hP2, ← hXe, decide_eq_true_eq])
      rw [hXe] at hX
      have HXc := Lib.hid hX
      have Hlt := Lib.hid hlt
      have HA := Lib.hid hA
      have wk : IntKind.i64.wrap ((k : Int) + 1) = (k : Int) + 1 := i64_same _ (by have := H3.out; omega)
      have Xk := Lib.hid (wrap64_in ((k : Int) + 1) (by have := H3.out; omega))
      clear hPw hpa hpl hP1 hP2 hP3 hXe hX hlt hA hB hk
      cases X with
      | true =>
        go_wp2_with fail
        refine HXc.out.mono ?_
        rintro e w4 ⟨rfl, hb4⟩
        have HB4 := Lib.hid (HB.out.1.trans (hb4.mono HB.out.1.size))
        clear hb4
        have x := Xk.out
        go_wp2_with fail
        clear x
        exact ⟨⟨k + 1, Hlt.out, by push_cast; rfl, plan_step (P := fun j => planOk (F j).2.1 (gp j)) (by first | exact HXv.out.2 rfl | exact HXv.out.2 trivial) HA.out, HB4.out⟩, meas_z np k Hlt.out⟩
      | false =>
        have Hno := Lib.hid (show E = false from Bool.eq_false_iff.2 (fun q => by have := HXv.out.1 ((HE.out.2 q).2.2 k Hlt.out); cases this))
        go_wp2_with fail
        refine HXc.out.mono ?_
        rintro e w4 ⟨rfl, hb4⟩
        have HB4 := Lib.hid (bnext HB.out.2 hb4)
        clear hb4
        go_wp2_with fail
        go_ret
        rw [Hno.out]
        exact ⟨rfl, by first | exact HB4.out | (rw [Hb0.out]; exact HB4.out) | (rw [← Hb0.out]; exact HB4.out)⟩
    · obtain rfl : k = np := by omega
      have hI : ¬ ((k : Int) < k) := by omega
      have HPl := Lib.hid hA
      obtain ⟨wo, rfl⟩ : ∃ wo : World, wo = wr := ⟨_, rfl⟩
      have hBo := Below.refl wo.heap.size wo
      clear hA hB hk hlt hPw
      go_wp2_with fail
      clear d0 d1
      go_loopw [5] (fun i wr => ∃ q : Nat, q ≤ nr ∧ i = .int .i64 q ∧ (∀ j, j < q → brOk k r j) ∧ Below wo.heap.size wo wr) (fun i _ => nr - (intOf i).toNat)
      case atStart => exact ⟨0, by omega, rfl, fun j hj => absurd hj (by omega), hBo⟩
      case round =>
        obtain ⟨q, hq, rfl, hA, hB⟩ := hrel
        clear hBo
        have hrw := blk_below Hrw.out hB
        have d0 := cell_of_row wr b0 0 _ _ _ hrw
        have d1 := cell_of_row wr b0 1 _ _ _ hrw
        have HBw := Lib.hid (bnext HB.out.2 hB)
        by_cases hlt : q < nr
        · have hI2 : (q : Int) < nr := by omega
          have hq0 : (0 : Int) ≤ (q : Int) := by omega
          obtain ⟨sb, off, hpa, hpl, c0, c1, c2⟩ := br_at (HRw.out.go hB) hlt
          rw [hpa] at d1
          obtain ⟨s, hs⟩ : ∃ x, r q 0 = x := ⟨_, rfl⟩
          obtain ⟨kd, hkd⟩ : ∃ x, r q 1 = x := ⟨_, rfl⟩
          obtain ⟨p, hp⟩ : ∃ x, r q 2 = x := ⟨_, rfl⟩
          rw [hs] at c0
          rw [hkd] at c1
          rw [hp] at c2
          have Hv := Lib.hid (And.intro hs (And.intro hkd hp))
          obtain ⟨W2, hW2⟩ : ∃ W2, wr.alloc (.cells #[.int .i64 s, .int .i64 kd, .int .i64 p] 107) = W2 := ⟨_, rfl⟩
          obtain ⟨Z, hZ⟩ : ∃ Z, wr.heap.size = Z := ⟨_, rfl⟩
          have hst2 : Below wr.heap.size wr W2 := hW2 ▸ bstep wr _
          have hrr : W2.heap[Z]? = some (.cells #[.int .i64 s, .int .i64 kd, .int .i64 p] 107 (0, 0)) := by rw [← hZ, ← hW2]; exact World.alloc_heap_new wr _
          have e0 := cell_of_row W2 Z 0 _ _ _ hrr
          have e1 := cell_of_row W2 Z 1 _ _ _ hrr
          have e2 := cell_of_row W2 Z 2 _ _ _ hrr
          have f0 := cell_of_row W2 b0 0 _ _ _ (blk_below hrw hst2)
          have HB2 := Lib.hid (And.intro (hB.trans (hst2.mono hB.size)) (bnext HBw.out hst2))
          have Hlt := Lib.hid hlt
          have HA := Lib.hid hA
          have wk : IntKind.i64.wrap ((q : Int) + 1) = (q : Int) + 1 := i64_same _ (by have := H3.out; omega)
          have Xk := Lib.hid (wrap64_in ((q : Int) + 1) (by have := H3.out; omega))
          clear hpa hpl hs hkd hp hst2 hrr hlt hA hB hq hrw
          by_cases g0 : s < 0
          · have y0 : decide (s < 0) = true := decide_eq_true g0
            have Hno := Lib.hid (show E = false from Bool.eq_false_iff.2 (fun z => by have h9 := (HE.out.2 z).2.1 q Hlt.out; unfold brOk at h9; rw [Hv.out.1, Hv.out.2.1, Hv.out.2.2] at h9; omega))
            clear g0
            go_wp2_with fail
            go_ret
            rw [Hno.out]
            exact ⟨rfl, by first | exact HB2.out.2 | (rw [Hb0.out]; exact HB2.out.2) | (rw [← Hb0.out]; exact HB2.out.2)⟩
          have y0 : decide (s < 0) = false := decide_eq_false g0
          by_cases g1 : s > 99
          · have y1 : decide (s > 99) = true := decide_eq_true g1
            have Hno := Lib.hid (show E = false from Bool.eq_false_iff.2 (fun z => by have h9 := (HE.out.2 z).2.1 q Hlt.out; unfold brOk at h9; rw [Hv.out.1, Hv.out.2.1, Hv.out.2.2] at h9; omega))
            clear g0 g1
            go_wp2_with fail
            go_ret
            rw [Hno.out]
            exact ⟨rfl, by first | exact HB2.out.2 | (rw [Hb0.out]; exact HB2.out.2) | (rw [← Hb0.out]; exact HB2.out.2)⟩
          have y1 : decide (s > 99) = false := decide_eq_false g1
          by_cases g2 : kd < 0
          · have y2 : decide (kd < 0) = true := decide_eq_true g2
            have Hno := Lib.hid (show E = false from Bool.eq_false_iff.2 (fun z => by have h9 := (HE.out.2 z).2.1 q Hlt.out; unfold brOk at h9; rw [Hv.out.1, Hv.out.2.1, Hv.out.2.2] at h9; omega))
            clear g0 g1 g2
            go_wp2_with fail
            go_ret
            rw [Hno.out]
            exact ⟨rfl, by first | exact HB2.out.2 | (rw [Hb0.out]; exact HB2.out.2) | (rw [← Hb0.out]; exact HB2.out.2)⟩
          have y2 : decide (kd < 0) = false := decide_eq_false g2
          by_cases g3 : kd > 4
          · have y3 : decide (kd > 4) = true := decide_eq_true g3
            have Hno := Lib.hid (show E = false from Bool.eq_false_iff.2 (fun z => by have h9 := (HE.out.2 z).2.1 q Hlt.out; unfold brOk at h9; rw [Hv.out.1, Hv.out.2.1, Hv.out.2.2] at h9; omega))
            clear g0 g1 g2 g3
            go_wp2_with fail
            go_ret
            rw [Hno.out]
            exact ⟨rfl, by first | exact HB2.out.2 | (rw [Hb0.out]; exact HB2.out.2) | (rw [← Hb0.out]; exact HB2.out.2)⟩
          have y3 : decide (kd > 4) = false := decide_eq_false g3
          by_cases g4 : p < 0
          · have y4 : decide (p < 0) = true := decide_eq_true g4
            have Hno := Lib.hid (show E = false from Bool.eq_false_iff.2 (fun z => by have h9 := (HE.out.2 z).2.1 q Hlt.out; unfold brOk at h9; rw [Hv.out.1, Hv.out.2.1, Hv.out.2.2] at h9; omega))
            clear g0 g1 g2 g3 g4
            go_wp2_with fail
            go_ret
            rw [Hno.out]
            exact ⟨rfl, by first | exact HB2.out.2 | (rw [Hb0.out]; exact HB2.out.2) | (rw [← Hb0.out]; exact HB2.out.2)⟩
          have y4 : decide (p < 0) = false := decide_eq_false g4
          by_cases g5 : p ≥ k
          · have y5 : decide (p ≥ (k : Int)) = true := decide_eq_true g5
            have Hno := Lib.hid (show E = false from Bool.eq_false_iff.2 (fun z => by have h9 := (HE.out.2 z).2.1 q Hlt.out; unfold brOk at h9; rw [Hv.out.1, Hv.out.2.1, Hv.out.2.2] at h9; omega))
            clear g0 g1 g2 g3 g4 g5
            go_wp2_with fail
            go_ret
            rw [Hno.out]
            exact ⟨rfl, by first | exact HB2.out.2 | (rw [Hb0.out]; exact HB2.out.2) | (rw [← Hb0.out]; exact HB2.out.2)⟩
          have y5 : decide (p ≥ (k : Int)) = false := decide_eq_false g5
          have Hok := Lib.hid (show brOk k r q by unfold brOk; rw [Hv.out.1, Hv.out.2.1, Hv.out.2.2]; omega)
          clear g0 g1 g2 g3 g4 g5
          have x := Xk.out
          go_wp2_with fail
          clear x
          exact ⟨⟨q + 1, Hlt.out, by push_cast; rfl, plan_step (P := fun j => brOk k r j) Hok.out HA.out, HB2.out.1⟩, meas_z nr q Hlt.out⟩
        · obtain rfl : q = nr := by omega
          have hI2 : ¬ ((q : Int) < q) := by omega
          have Hyes := Lib.hid (show E = true from HE.out.1 ⟨H3.out, hA, HPl.out⟩)
          clear hA hB hq hlt hrw
          go_wp2_with fail
          go_ret
          rw [Hyes.out]
          exact ⟨rfl, by first | exact HBw.out | (rw [Hb0.out]; exact HBw.out) | (rw [← Hb0.out]; exact HBw.out)⟩
set_option maxRecDepth 100000 in
set_option maxHeartbeats 16000000 in
theorem rbPlan_calls (A : Option Addr) (np cp : Nat) (F : Nat → SlX) (gp : Nat → Nat → Nat → Int) (R : Option Addr) (nr cr : Nat) (r : Nat → Nat → Int) (S K : Int) (hok : tabOk np (fun i => (F i).2.1) gp nr r) (hS : 0 ≤ S ∧ S ≤ 99) (hK : 1 ≤ K ∧ K ≤ 4) (w : World) (hP : RdPl w A np cp F gp) (hR : IRows 3 kI w R nr cr r) :
    Calls Tryz.prog 35 #[.agg #[.slice A np cp, .slice R nr cr], .int .i64 S, .int .i64 K] w fun e w' => e = .returned (.tuple #[.int .i64 (planV r nr S K), .bool true]) ∧ Below w.heap.size w w' := by
  obtain ⟨b0, hb0⟩ : ∃ b0, w.heap.size = b0 := ⟨_, rfl⟩
  have Hb0 := Lib.hid hb0
  obtain ⟨W1, hW1⟩ : ∃ W1, w.alloc (.cells #[.slice A np cp, .slice R nr cr] 67) = W1 := ⟨_, rfl⟩
  have hst : Below w.heap.size w W1 := hW1 ▸ bstep w _
  have hr : W1.heap[b0]? = some (.cells #[.slice A np cp, .slice R nr cr] 67 (0, 0)) := by rw [← hb0, ← hW1]; exact World.alloc_heap_new w _
  have d0 := cell_of_row W1 b0 0 _ _ _ hr
  have d1 := cell_of_row W1 b0 1 _ _ _ hr
  have hC := rbCheck_calls A np cp F gp R nr cr r W1 (hP.go hst) (hR.go hst)
  rw [decide_eq_true hok] at hC
  have HC := Lib.hid hC
  have HX := Lib.hid (And.intro (hR.go hst) (And.intro hr hst))
  have Hn := Lib.hid hok.1.2.2
  have k1 : decide (S < 0) = false := decide_eq_false (by omega)
  have k2 : decide (S > 99) = false := decide_eq_false (by omega)
  have k3 : decide (K < 1) = false := decide_eq_false (by omega)
  have k4 : decide (K > 4) = false := decide_eq_false (by omega)
  obtain ⟨V, hV⟩ : ∃ V, planV r nr S K = V := ⟨_, rfl⟩
  have HV := Lib.hid hV
  rw [hV]
  clear hst hr hC hok hS hK hP hR hV
  go_enter Tryz.func35, Tryz.ntmps35
  go_wp2_with fail
  refine HC.out.mono ?_
  rintro e w2 ⟨rfl, hb2⟩
  have hr2 := blk_below HX.out.2.1 hb2
  have HY := Lib.hid (And.intro (HX.out.1.go hb2) (And.intro hr2 (bnext HX.out.2.2 hb2)))
  have hB0 := Below.refl w2.heap.size w2
  clear hb2 d0 d1 hr2 hW1
  go_wp2_with fail
  go_loopw [9] (fun i wr => ∃ k : Nat, k ≤ nr ∧ i = .int .i64 k ∧ (∀ j, j < k → brIs r S K j = false) ∧ Below w2.heap.size w2 wr) (fun i _ => nr - (intOf i).toNat)
  case atStart => exact ⟨0, by omega, rfl, fun j hj => absurd hj (by omega), hB0⟩
  case round =>
    obtain ⟨k, hk, rfl, hA, hB⟩ := hrel
    clear hB0
    obtain ⟨x1, x3, x4⟩ := HY.out
    have hrw := blk_below x3 hB
    have d1 := cell_of_row wr b0 1 _ _ _ hrw
    have HBw := Lib.hid (bnext x4 hB)
    have hRw := x1.go hB
    clear x1 x3 x4
    by_cases hlt : k < nr
    · have hI2 : (k : Int) < nr := by omega
      have hq0 : (0 : Int) ≤ (k : Int) := by omega
      obtain ⟨sb, off, hpa, hpl, c0, c1, c2⟩ := br_at hRw hlt
      rw [hpa] at d1
      obtain ⟨s, hs⟩ : ∃ x, r k 0 = x := ⟨_, rfl⟩
      obtain ⟨kd, hkd⟩ : ∃ x, r k 1 = x := ⟨_, rfl⟩
      obtain ⟨p, hp⟩ : ∃ x, r k 2 = x := ⟨_, rfl⟩
      rw [hs] at c0
      rw [hkd] at c1
      rw [hp] at c2
      have Hv := Lib.hid (And.intro hs (And.intro hkd hp))
      obtain ⟨W2, hW2⟩ : ∃ W2, wr.alloc (.cells #[.int .i64 s, .int .i64 kd, .int .i64 p] 107) = W2 := ⟨_, rfl⟩
      obtain ⟨Z, hZ⟩ : ∃ Z, wr.heap.size = Z := ⟨_, rfl⟩
      have hst2 : Below wr.heap.size wr W2 := hW2 ▸ bstep wr _
      have hrr : W2.heap[Z]? = some (.cells #[.int .i64 s, .int .i64 kd, .int .i64 p] 107 (0, 0)) := by rw [← hZ, ← hW2]; exact World.alloc_heap_new wr _
      have e0 := cell_of_row W2 Z 0 _ _ _ hrr
      have e1 := cell_of_row W2 Z 1 _ _ _ hrr
      have e2 := cell_of_row W2 Z 2 _ _ _ hrr
      have HB2 := Lib.hid (And.intro (hB.trans (hst2.mono hB.size)) (bnext HBw.out hst2))
      have Hlt := Lib.hid hlt
      have HA := Lib.hid hA
      have wk : IntKind.i64.wrap ((k : Int) + 1) = (k : Int) + 1 := i64_same _ (by have := Hn.out; omega)
      have Xk := Lib.hid (wrap64_in ((k : Int) + 1) (by have := Hn.out; omega))
      obtain ⟨a0, ha0⟩ : ∃ x, (s == 0) = x := ⟨_, rfl⟩
      obtain ⟨a1, ha1⟩ : ∃ x, (s == S) = x := ⟨_, rfl⟩
      obtain ⟨a2, ha2⟩ : ∃ x, (kd == 0) = x := ⟨_, rfl⟩
      obtain ⟨a3, ha3⟩ : ∃ x, (kd == K) = x := ⟨_, rfl⟩
      have HIs := Lib.hid (show brIs r S K k = ((a0 || a1) && (a2 || a3)) by
        unfold brIs
        rw [Hv.out.1, Hv.out.2.1, ← ha0, ← ha1, ← ha2, ← ha3]; rfl)
      clear hpa hpl hs hkd hp hst2 hrr hlt hA hB hk hrw hRw
      have cases4 : ((a0 || a1) && (a2 || a3)) = true ∨ ((a0 || a1) && (a2 || a3)) = false := by cases ((a0 || a1) && (a2 || a3)) <;> simp
      rcases cases4 with hc | hc
      · have HVv := Lib.hid (show V = p by
          rw [← HV.out, ← Hv.out.2.2]
          have hf : fstI (brIs r S K) nr = k := fstI_unique _ nr k (by have := Hlt.out; omega) (fun _ => by rw [HIs.out]; exact hc) HA.out
          unfold planV
          rw [hf, if_pos Hlt.out])
        cases a0 <;> cases a1 <;> cases a2 <;> cases a3 <;> first | (exfalso; revert hc; decide) | skip
        all_goals
          clear hc
          go_wp2_with fail
          go_ret2
          rw [HVv.out]
          exact ⟨rfl, by first | exact HB2.out.2 | (rw [Hb0.out]; exact HB2.out.2) | (rw [← Hb0.out]; exact HB2.out.2)⟩
      · have Hno := Lib.hid (show brIs r S K k = false by rw [HIs.out]; exact hc)
        cases a0 <;> cases a1 <;> cases a2 <;> cases a3 <;> first | (exfalso; revert hc; decide) | skip
        all_goals
          clear hc
          have x := Xk.out
          go_wp2_with fail
          clear x
          exact ⟨⟨k + 1, Hlt.out, by push_cast; rfl, fst_step Hno.out HA.out, HB2.out.1⟩, meas_z nr k Hlt.out⟩
    · obtain rfl : k = nr := by omega
      have hI2 : ¬ ((k : Int) < k) := by omega
      have HVv := Lib.hid (show V = 0 by
        rw [← HV.out]
        have hf : fstI (brIs r S K) k = k := fstI_unique _ k k (Nat.le_refl _) (fun h => absurd h (Nat.lt_irrefl _)) hA
        unfold planV
        rw [hf, if_neg (Nat.lt_irrefl _)])
      clear hA hB hk hlt hrw hRw
      go_wp2_with fail
      go_ret2
      rw [HVv.out]
      exact ⟨rfl, by first | exact HBw.out | (rw [Hb0.out]; exact HBw.out) | (rw [← Hb0.out]; exact HBw.out)⟩
end Go.Proofs.YtgbkedjjgbhcmaaGreatDoor

/-
  The document's tables of prices: one, Check, At of package kilowattref10, walked. Conditions stand at each theorem.
-/
namespace Go.Proofs.YtgbkedjjgbhcmaaGreatDoor
open Go Go.RowKit Go.Kw Go.Kw.Cv Go.Shelf
set_option linter.unusedVariables false
set_option linter.unusedSimpArgs false

set_option maxRecDepth 100000 in
set_option maxHeartbeats 16000000 in
theorem rrOne_calls (f : Int) (A : Option Addr) (n c : Nat) (p : Nat → Int) (w : World) (hR : IRows 1 kI w A n c (fun j _ => p j)) :
    Calls Tryz.prog 54 #[.agg #[.int .i64 f, .slice A n c]] w fun e w' => e = .returned (.bool (decide (ver1 f n p))) ∧ Below w.heap.size w w' := by
  obtain ⟨b0, hb0⟩ : ∃ b0, w.heap.size = b0 := ⟨_, rfl⟩
  have Hb0 := Lib.hid hb0
  obtain ⟨W1, hW1⟩ : ∃ W1, w.alloc (.cells #[.int .i64 f, .slice A n c] 52) = W1 := ⟨_, rfl⟩
  have hst : Below w.heap.size w W1 := hW1 ▸ bstep w _
  have hr : W1.heap[b0]? = some (.cells #[.int .i64 f, .slice A n c] 52 (0, 0)) := by rw [← hb0, ← hW1]; exact World.alloc_heap_new w _
  have d0 := cell_of_row W1 b0 0 _ _ _ hr
  have d1 := cell_of_row W1 b0 1 _ _ _ hr
  have HR := Lib.hid (hR.go hst)
  have HB := Lib.hid hst
  obtain ⟨V, hV⟩ : ∃ V, decide (ver1 f n p) = V := ⟨_, rfl⟩
  have HV := Lib.hid (show ver1 f n p ↔ V = true by rw [← hV, decide_eq_true_eq])
  rw [hV]
  clear hst hr hV hR
  by_cases h0 : f < 0
  · have z0 : decide (f < 0) = true := decide_eq_true h0
    have HVV := Lib.hid (show V = false from Bool.eq_false_iff.2 (fun q => by have q9 := (HV.out.1 |> fun _ => (HV.out.2 q)).1; omega))
    clear h0
    go_enter Tryz.func54, Tryz.ntmps54
    go_wp2_with fail
    go_ret
    rw [HVV.out]
    exact ⟨rfl, by first | exact HB.out | (rw [Hb0.out]; exact HB.out) | (rw [← Hb0.out]; exact HB.out)⟩
  have z0 : decide (f < 0) = false := decide_eq_false h0
  by_cases h1 : f ≥ 253402300800
  · have z1 : decide (f ≥ 253402300800) = true := decide_eq_true h1
    have HVV := Lib.hid (show V = false from Bool.eq_false_iff.2 (fun q => by have q9 := (HV.out.2 q).1; omega))
    clear h0 h1
    go_enter Tryz.func54, Tryz.ntmps54
    go_wp2_with fail
    go_ret
    rw [HVV.out]
    exact ⟨rfl, by first | exact HB.out | (rw [Hb0.out]; exact HB.out) | (rw [← Hb0.out]; exact HB.out)⟩
  have z1 : decide (f ≥ 253402300800) = false := decide_eq_false h1
  by_cases h2 : n = 0
  · have z2 : ((n : Int) == 0) = true := beq_iff_eq.2 (by omega)
    have HVV := Lib.hid (show V = false from Bool.eq_false_iff.2 (fun q => by have q9 := (HV.out.2 q).1; omega))
    clear h0 h1 h2
    go_enter Tryz.func54, Tryz.ntmps54
    go_wp2_with fail
    go_ret
    rw [HVV.out]
    exact ⟨rfl, by first | exact HB.out | (rw [Hb0.out]; exact HB.out) | (rw [← Hb0.out]; exact HB.out)⟩
  have z2 : ((n : Int) == 0) = false := beq_eq_false_iff_ne.2 (by omega)
  by_cases h3 : n > 16
  · have z3 : decide ((n : Int) > 16) = true := decide_eq_true (by omega)
    have HVV := Lib.hid (show V = false from Bool.eq_false_iff.2 (fun q => by have q9 := (HV.out.2 q).1; omega))
    clear h0 h1 h2 h3
    go_enter Tryz.func54, Tryz.ntmps54
    go_wp2_with fail
    go_ret
    rw [HVV.out]
    exact ⟨rfl, by first | exact HB.out | (rw [Hb0.out]; exact HB.out) | (rw [← Hb0.out]; exact HB.out)⟩
  have z3 : decide ((n : Int) > 16) = false := decide_eq_false (by omega)
  have H4 := Lib.hid (show 0 ≤ f ∧ f < 253402300800 ∧ 1 ≤ n ∧ n ≤ 16 by omega)
  clear h0 h1 h2 h3
  go_enter Tryz.func54, Tryz.ntmps54
  go_wp2_with fail
  go_loop [3] (fun i => ∃ k : Nat, k ≤ n ∧ i = .int .i64 k ∧ ∀ j, j < k → 0 ≤ p j ∧ p j ≤ 1073741824) (fun i => n - (intOf i).toNat)
  case atStart => exact ⟨0, by omega, rfl, fun j hj => absurd hj (by omega)⟩
  case round =>
    obtain ⟨k, hk, rfl, hA⟩ := hrel
    by_cases hlt : k < n
    · have hI : (k : Int) < n := by omega
      have hk0 : (0 : Int) ≤ (k : Int) := by omega
      obtain ⟨sb, off, hpa, hpl, c0⟩ := prices_at (x := (A, n, c)) HR.out hlt
      dsimp only at hpa
      rw [hpa] at d1
      obtain ⟨P, hP⟩ : ∃ P, p k = P := ⟨_, rfl⟩
      rw [hP] at c0
      have HP := Lib.hid hP
      have Hlt := Lib.hid hlt
      have HA := Lib.hid hA
      have wk : IntKind.i64.wrap ((k : Int) + 1) = (k : Int) + 1 := i64_same _ (by have := H4.out; omega)
      have X := Lib.hid (wrap64_in ((k : Int) + 1) (by have := H4.out; omega))
      clear hpa hpl hP hlt hA hk
      by_cases s0 : P < 0
      · have y0 : decide (P < 0) = true := decide_eq_true s0
        have HVV := Lib.hid (show V = false from Bool.eq_false_iff.2 (fun q => by have q9 := (HV.out.2 q).2 k Hlt.out; rw [HP.out] at q9; omega))
        clear s0
        go_wp2_with fail
        go_ret
        rw [HVV.out]
        exact ⟨rfl, by first | exact HB.out | (rw [Hb0.out]; exact HB.out) | (rw [← Hb0.out]; exact HB.out)⟩
      have y0 : decide (P < 0) = false := decide_eq_false s0
      by_cases s1 : P > 1073741824
      · have y1 : decide (P > 1073741824) = true := decide_eq_true s1
        have HVV := Lib.hid (show V = false from Bool.eq_false_iff.2 (fun q => by have q9 := (HV.out.2 q).2 k Hlt.out; rw [HP.out] at q9; omega))
        clear s0 s1
        go_wp2_with fail
        go_ret
        rw [HVV.out]
        exact ⟨rfl, by first | exact HB.out | (rw [Hb0.out]; exact HB.out) | (rw [← Hb0.out]; exact HB.out)⟩
      have y1 : decide (P > 1073741824) = false := decide_eq_false s1
      have HOK := Lib.hid (show 0 ≤ p k ∧ p k ≤ 1073741824 by rw [HP.out]; omega)
      clear s0 s1
      have x := X.out
      go_wp2_with fail
      clear x
      exact ⟨⟨k + 1, Hlt.out, by push_cast; rfl, rat_step (P := fun j => 0 ≤ p j ∧ p j ≤ 1073741824) HOK.out HA.out⟩, meas_z n k Hlt.out⟩
    · obtain rfl : k = n := by omega
      have hI : ¬ ((k : Int) < k) := by omega
      have HVV := Lib.hid (show V = true from HV.out.1 ⟨H4.out, hA⟩)
      clear hA hk hlt
      go_wp2_with fail
      go_ret
      rw [HVV.out]
      exact ⟨rfl, by first | exact HB.out | (rw [Hb0.out]; exact HB.out) | (rw [← Hb0.out]; exact HB.out)⟩
set_option maxRecDepth 100000 in
set_option maxHeartbeats 16000000 in
theorem rrCheck_calls (A : Option Addr) (nv cv : Nat) (f : Nat → Int) (F : Nat → SlX) (p : Nat → Nat → Int) (w : World) (hR : RdRt w A nv cv f F p) :
    Calls Tryz.prog 25 #[.slice A nv cv] w fun e w' => e = .returned (.int .i64 (ratE nv f (fun i => (F i).2.1) p)) ∧ Below w.heap.size w w' := by
  obtain ⟨b0, hb0⟩ : ∃ b0, w.heap.size = b0 := ⟨_, rfl⟩
  have Hb0 := Lib.hid hb0
  have HR := Lib.hid hR
  obtain ⟨ln, hln⟩ : ∃ ln : Nat → Nat, (fun i => (F i).2.1) = ln := ⟨_, rfl⟩
  have HLn := Lib.hid (show ∀ i, (F i).2.1 = ln i from fun i => by rw [← hln])
  rw [hln]
  obtain ⟨E, hE⟩ : ∃ E, ratE nv f ln p = E := ⟨_, rfl⟩
  have HE := Lib.hid hE
  rw [hE]
  have hst := Below.refl b0 w
  have hbs0 : b0 ≤ w.heap.size := by omega
  clear hR hln hE
  by_cases h0 : nv > 200
  · have z0 : decide ((nv : Int) > 200) = true := decide_eq_true (by omega)
    have Hno := Lib.hid (show E = 100 by rw [← HE.out]; exact if_neg (fun h => by have := h.1; omega))
    clear h0
    go_enter Tryz.func25, Tryz.ntmps25
    go_wp2_with fail
    go_ret
    rw [Hno.out]
    exact ⟨rfl, by first | exact hst | (rw [Hb0.out]; exact hst) | (rw [← Hb0.out]; exact hst)⟩
  have z0 : decide ((nv : Int) > 200) = false := decide_eq_false (by omega)
  have Hn := Lib.hid (show nv ≤ 200 by omega)
  clear h0
  go_enter Tryz.func25, Tryz.ntmps25
  go_wp2_with fail
  go_loopw [3] (fun iv wr => ∃ k : Nat, k ≤ nv ∧ iv = .int .i64 k ∧ (∀ j, j < k → verOk f ln p j ∧ goB f ln j) ∧ Below b0 w wr ∧ b0 ≤ wr.heap.size) (fun iv _ => nv - (intOf iv).toNat)
  case atStart => exact ⟨0, by omega, rfl, fun j hj => absurd hj (by omega), hst, hbs0⟩
  case round =>
    obtain ⟨k, hk, rfl, hA, hB, hbs⟩ := hrel
    clear hst hbs0
    by_cases hlt : k < nv
    · have hI : (k : Int) < nv := by omega
      have hk0 : (0 : Int) ≤ (k : Int) := by omega
      have hRw : RdRt wr A nv cv f F p := HR.out.go (by rw [Hb0.out]; exact hB)
      obtain ⟨sb, off, rfl, hsb, q0, q1⟩ := hRw.at_ hlt
      have hX := rrOne_calls (f k) (F k).1 (F k).2.1 (F k).2.2 (p k) wr (hRw.2.2.2.2 k hlt)
      have hLk := HLn.out k
      unfold slV at q1
      obtain ⟨P1, hP1⟩ : ∃ x, (F k).1 = x := ⟨_, rfl⟩
      obtain ⟨P2, hP2⟩ : ∃ x, (F k).2.1 = x := ⟨_, rfl⟩
      obtain ⟨P3, hP3⟩ : ∃ x, (F k).2.2 = x := ⟨_, rfl⟩
      rw [hP1, hP2, hP3] at q1 hX
      rw [hP2] at hLk
      obtain ⟨fk, hfk⟩ : ∃ x, f k = x := ⟨_, rfl⟩
      rw [hfk] at q0 hX
      obtain ⟨M, hM⟩ : ∃ M, decide (ver1 fk P2 (p k)) = M := ⟨_, rfl⟩
      have HM := Lib.hid (show verOk f ln p k ↔ M = true by unfold verOk; rw [hfk, ← hLk, ← hM, decide_eq_true_eq])
      rw [hM] at hX
      have HX := Lib.hid hX
      have HF := Lib.hid (And.intro hfk hLk)
      have Hq := Lib.hid (And.intro q0 q1)
      have Hlt := Lib.hid hlt
      have HA := Lib.hid hA
      have HB := Lib.hid (And.intro hB hbs)
      have HRw := Lib.hid hRw
      have wk : IntKind.i64.wrap ((k : Int) + 1) = (k : Int) + 1 := i64_same _ (by have := Hn.out; omega)
      have X := Lib.hid (wrap64_in ((k : Int) + 1) (by have := Hn.out; omega))
      clear hX hP1 hP2 hP3 hLk hfk hM hlt hA hB hbs hk hsb hRw
      cases M with
      | false =>
        have Hno := Lib.hid (show E = 100 by rw [← HE.out]; exact if_neg (fun h => by have := HM.out.1 (h.2 k Hlt.out).1; cases this))
        go_wp2_with fail
        refine HX.out.mono ?_
        rintro e w4 ⟨rfl, hb4⟩
        have HB4 := Lib.hid (And.intro (HB.out.1.trans (hb4.mono HB.out.2)) (Nat.le_trans HB.out.2 hb4.size))
        clear hb4 q0 q1
        go_wp2_with fail
        go_quiet (fail)
        go_wp2_with fail
        go_ret
        rw [Hno.out]
        exact ⟨rfl, by first | exact HB4.out.1.drewN _ | (rw [Hb0.out]; exact HB4.out.1.drewN _) | (rw [← Hb0.out]; exact HB4.out.1.drewN _)⟩
      | true =>
        by_cases h0 : k = 0
        · have kz : decide ((k : Int) > 0) = false := decide_eq_false (by omega)
          have kz2 : decide (0 < k) = false := decide_eq_false (by omega)
          have Hok := Lib.hid (show verOk f ln p k ∧ goB f ln k from ⟨HM.out.2 rfl, fun h => by omega⟩)
          clear h0
          go_wp2_with fail
          refine HX.out.mono ?_
          rintro e w4 ⟨rfl, hb4⟩
          have HB4 := Lib.hid (And.intro (HB.out.1.trans (hb4.mono HB.out.2)) (Nat.le_trans HB.out.2 hb4.size))
          clear hb4 q0 q1
          have x := X.out
          go_wp2_with fail
          go_quiet (fail)
          go_wp2_with fail
          clear x
          exact ⟨⟨k + 1, Hlt.out, by push_cast; rfl, rat_step (P := fun j => verOk f ln p j ∧ goB f ln j) Hok.out HA.out, HB4.out.1.drewN _, HB4.out.2⟩, meas_z nv k Hlt.out⟩
        · have kz : decide ((k : Int) > 0) = true := decide_eq_true (by omega)
          have kz2 : decide (0 < k) = true := decide_eq_true (by omega)
          obtain ⟨q, hq⟩ : ∃ q : Nat, k = q + 1 := ⟨k - 1, by omega⟩
          have hqn : q < nv := by have := Hlt.out; omega
          obtain ⟨sb2, off2, e2, hsb2, r0, r1⟩ := HRw.out.at_ hqn
          injection e2 with e2
          injection e2 with e3 e4
          subst e3 e4
          have hLq := HLn.out q
          unfold slV at r1
          obtain ⟨Q1, hQ1⟩ : ∃ x, (F q).1 = x := ⟨_, rfl⟩
          obtain ⟨Q2, hQ2⟩ : ∃ x, (F q).2.1 = x := ⟨_, rfl⟩
          obtain ⟨Q3, hQ3⟩ : ∃ x, (F q).2.2 = x := ⟨_, rfl⟩
          rw [hQ1, hQ2, hQ3] at r1
          rw [hQ2] at hLq
          obtain ⟨fq, hfq⟩ : ∃ x, f q = x := ⟨_, rfl⟩
          rw [hfq] at r0
          have hw0 : IntKind.i64.wrap ((k : Int) - 1) = (q : Int) := by rw [show (k : Int) - 1 = (q : Int) by omega]; exact i64_same _ (by have := Hn.out; omega)
          have hq0 : (0 : Int) ≤ (q : Int) := by omega
          have hq1 : (q : Int) < (nv : Int) := by omega
          have Hgo := Lib.hid (show goB f ln k ↔ (fq < fk ∧ P2 = Q2) by
            unfold goB
            rw [hq, show q + 1 - 1 = q by omega, hfq, ← hLq, ← hq, HF.out.1, ← HF.out.2]
            exact ⟨fun h => h (by omega), fun h _ => h⟩)
          have Hr := Lib.hid (And.intro r0 r1)
          clear h0 hq hqn hsb2 hLq hQ1 hQ2 hQ3 hfq r0 r1
          by_cases hle : fk ≤ fq
          · have kl : decide (fk ≤ fq) = true := decide_eq_true hle
            have Hno := Lib.hid (show E = 100 by rw [← HE.out]; exact if_neg (fun h => by have := Hgo.out.1 (h.2 k Hlt.out).2; omega))
            clear hle
            go_wp2_with fail
            refine HX.out.mono ?_
            rintro e w4 ⟨rfl, hb4⟩
            have HB4 := Lib.hid (And.intro (HB.out.1.trans (hb4.mono HB.out.2)) (Nat.le_trans HB.out.2 hb4.size))
            replace q0 := cell_go Hq.out.1 hb4
            replace q1 := cell_go Hq.out.2 hb4
            have r0 := cell_go Hr.out.1 hb4
            have r1 := cell_go Hr.out.2 hb4
            clear hb4
            go_wp2_with fail
            go_quiet (fail)
            go_wp2_with fail
            go_ret
            rw [Hno.out]
            exact ⟨rfl, by first | exact HB4.out.1.drewN _ | (rw [Hb0.out]; exact HB4.out.1.drewN _) | (rw [← Hb0.out]; exact HB4.out.1.drewN _)⟩
          · have kl : decide (fk ≤ fq) = false := decide_eq_false hle
            by_cases hne : P2 = Q2
            · have kn : ((P2 : Int) != (Q2 : Int)) = false := by simp [hne]
              have Hok := Lib.hid (show verOk f ln p k ∧ goB f ln k from ⟨HM.out.2 rfl, Hgo.out.2 ⟨by omega, hne⟩⟩)
              clear hle hne
              go_wp2_with fail
              refine HX.out.mono ?_
              rintro e w4 ⟨rfl, hb4⟩
              have HB4 := Lib.hid (And.intro (HB.out.1.trans (hb4.mono HB.out.2)) (Nat.le_trans HB.out.2 hb4.size))
              replace q0 := cell_go Hq.out.1 hb4
              replace q1 := cell_go Hq.out.2 hb4
              have r0 := cell_go Hr.out.1 hb4
              have r1 := cell_go Hr.out.2 hb4
              clear hb4
              have x := X.out
              go_wp2_with fail
              go_quiet (fail)
              go_wp2_with fail
              clear x
              exact ⟨⟨k + 1, Hlt.out, by push_cast; rfl, rat_step (P := fun j => verOk f ln p j ∧ goB f ln j) Hok.out HA.out, HB4.out.1.drewN _, HB4.out.2⟩, meas_z nv k Hlt.out⟩
            · have kn : ((P2 : Int) != (Q2 : Int)) = true := bne_iff_ne.2 (by omega)
              have Hno := Lib.hid (show E = 100 by rw [← HE.out]; exact if_neg (fun h => by have := Hgo.out.1 (h.2 k Hlt.out).2; exact hne this.2))
              clear hle hne
              go_wp2_with fail
              refine HX.out.mono ?_
              rintro e w4 ⟨rfl, hb4⟩
              have HB4 := Lib.hid (And.intro (HB.out.1.trans (hb4.mono HB.out.2)) (Nat.le_trans HB.out.2 hb4.size))
              replace q0 := cell_go Hq.out.1 hb4
              replace q1 := cell_go Hq.out.2 hb4
              have r0 := cell_go Hr.out.1 hb4
              have r1 := cell_go Hr.out.2 hb4
              clear hb4
              go_wp2_with fail
              go_quiet (fail)
              go_wp2_with fail
              go_ret
              rw [Hno.out]
              exact ⟨rfl, by first | exact HB4.out.1.drewN _ | (rw [Hb0.out]; exact HB4.out.1.drewN _) | (rw [← Hb0.out]; exact HB4.out.1.drewN _)⟩
    · obtain rfl : k = nv := by omega
      have hI : ¬ ((k : Int) < k) := by omega
      have HB := Lib.hid hB
      have Hyes := Lib.hid (show E = 0 by rw [← HE.out]; exact if_pos ⟨Hn.out, hA⟩)
      clear hA hB hk hlt hbs
      go_wp2_with fail
      go_ret
      rw [Hyes.out]
      exact ⟨rfl, by first | exact HB.out | (rw [Hb0.out]; exact HB.out) | (rw [← Hb0.out]; exact HB.out)⟩
theorem verN_next (f : Nat → Int) (t : Int) (k : Nat) : verN f t (k + 1) = if f k ≤ t then k + 1 else verN f t k := rfl
set_option maxRecDepth 100000 in
set_option maxHeartbeats 16000000 in
theorem rrAt_calls (A : Option Addr) (nv cv : Nat) (f : Nat → Int) (F : Nat → SlX) (p : Nat → Nat → Int) (t : Int) (hn : nv ≤ 200) (w : World) (hR : RdRt w A nv cv f F p) :
    Calls Tryz.prog 37 #[.slice A nv cv, .int .i64 t] w fun e w' => e = .returned (.int .i64 ((verN f t nv : Int) - 1)) ∧ Below w.heap.size w w' := by
  have HR := Lib.hid hR
  have Hn := Lib.hid hn
  have hst := Below.refl w.heap.size w
  have HB := Lib.hid hst
  clear hR hn hst
  go_enter Tryz.func37, Tryz.ntmps37
  go_wp2_with fail
  go_loop [5, 6] (fun o i => ∃ (k : Nat) (z : Int), k ≤ nv ∧ i = .int .i64 k ∧ o = .int .i64 z ∧ z = (verN f t k : Int) - 1) (fun _ i => nv - (intOf i).toNat)
  case atStart => exact ⟨0, -1, by omega, rfl, rfl, rfl⟩
  case round =>
    obtain ⟨k, z, hk, rfl, rfl, hz⟩ := hrel
    by_cases hlt : k < nv
    · have hI : (k : Int) < nv := by omega
      have hk0 : (0 : Int) ≤ (k : Int) := by omega
      obtain ⟨sb, off, rfl, hsb, q0, -⟩ := HR.out.at_ hlt
      obtain ⟨fk, hfk⟩ : ∃ x, f k = x := ⟨_, rfl⟩
      rw [hfk] at q0
      have Hfk := Lib.hid hfk
      have Hlt := Lib.hid hlt
      have Hz := Lib.hid hz
      have wk : IntKind.i64.wrap ((k : Int) + 1) = (k : Int) + 1 := i64_same _ (by have := Hn.out; omega)
      have X := Lib.hid (wrap64_in ((k : Int) + 1) (by have := Hn.out; omega))
      clear hfk hlt hz hk hsb
      by_cases s0 : fk ≤ t
      · have y0 : decide (fk ≤ t) = true := decide_eq_true s0
        have HS := Lib.hid (show (k : Int) = (verN f t (k + 1) : Int) - 1 by rw [verN_next, Hfk.out, if_pos s0]; push_cast; omega)
        clear s0
        have x := X.out
        go_wp2_with fail
        clear x
        exact ⟨⟨k + 1, k, Hlt.out, by push_cast; rfl, rfl, HS.out⟩, meas_z nv k Hlt.out⟩
      · have y0 : decide (fk ≤ t) = false := decide_eq_false s0
        have HS := Lib.hid (show z = (verN f t (k + 1) : Int) - 1 by rw [verN_next, Hfk.out, if_neg s0]; exact Hz.out)
        clear s0
        have x := X.out
        go_wp2_with fail
        clear x
        exact ⟨⟨k + 1, z, Hlt.out, by push_cast; rfl, rfl, HS.out⟩, meas_z nv k Hlt.out⟩
    · obtain rfl : k = nv := by omega
      have hI : ¬ ((k : Int) < k) := by omega
      have Hz := Lib.hid hz
      clear hz hk hlt
      go_wp2_with fail
      go_ret
      rw [Hz.out]
      exact ⟨rfl, HB.out⟩
end Go.Proofs.YtgbkedjjgbhcmaaGreatDoor
