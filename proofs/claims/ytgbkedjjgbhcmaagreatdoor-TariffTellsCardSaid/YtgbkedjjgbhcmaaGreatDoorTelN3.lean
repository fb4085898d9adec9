/-
  Texts that the proof leans on, merged by program, part 3. Conditions stand at each theorem.
-/
import Derived.Test.YtgbkedjjgbhcmaaGreatDoorTelN1
import Derived.Test.YtgbkedjjgbhcmaaGreatDoorZoneFns
import Derived.Test.YtgbkedjjgbhcmaaGreatDoorKept
import Derived.Shelf.Abstract
import Derived.OwnWalkIn
import Derived.TacticsInMore
import Derived.LoopNIn
import Derived.LoopIn
import Derived.Outline
import Derived.Shelf.RegionOpen
import Derived.Laws.StructEq
/-
  Whether a plan of bands may be: bands.CheckPlan, walked. Conditions stand at each theorem.
-/
namespace Go.Proofs.YtgbkedjjgbhcmaaGreatDoor
open Go Go.RowKit Go.Kw Go.Kw.Cv Go.Shelf
set_option linter.unusedVariables false
set_option linter.unusedSimpArgs false

theorem sw_at {W : World} {A : Option Addr} {n c : Nat} {g : Nat → Nat → Int} (h : IRows 2 kI W A n c g) {k : Nat} (hk : k < n) : ∃ b off, A = some ⟨b, off, none⟩ ∧ b < W.heap.size ∧ W.cell? ⟨b, off + k * 2, none⟩ = some (.int .i64 (g k 0)) ∧ W.cell? ⟨b, off + k * 2 + 1, none⟩ = some (.int .i64 (g k 1)) := by
  obtain ⟨b, off, e, hb, hc⟩ := h.at_ (by omega) hk
  exact ⟨b, off, e, hb, hc 0 (by omega), hc 1 (by omega)⟩
theorem sw_step {g : Nat → Nat → Int} {k : Nat} (h : swOk g k) (hA : ∀ j, j < k → swOk g j) : ∀ j, j < k + 1 → swOk g j := fun j hj => by
  by_cases e : j = k
  · rw [e]; exact h
  · exact hA j (by omega)
set_option maxRecDepth 100000 in
set_option maxHeartbeats 16000000 in
theorem checkPlan_calls (A : Option Addr) (n c : Nat) (g : Nat → Nat → Int) (w : World) (hR : IRows 2 kI w A n c g) :
    Calls Tryz.prog 46 #[.slice A n c] w fun e w' => e = .returned (.int .i64 (planE n g)) ∧ Below w.heap.size w w' := by
  obtain ⟨b0, hb0⟩ : ∃ b0, w.heap.size = b0 := ⟨_, rfl⟩
  have Hb0 := Lib.hid hb0
  have HR := Lib.hid hR
  have hla := hR.1
  have hca := hR.2.1
  have hmx : maxLen = 9223372036854775807 := rfl
  obtain ⟨E, hE⟩ : ∃ E, planE n g = E := ⟨_, rfl⟩
  have HE := Lib.hid hE
  have hst := Below.refl b0 w
  rw [hE]
  clear hE
  by_cases h1 : n < 1
  · have k1 : decide ((n : Int) < 1) = true := decide_eq_true (by omega)
    have Hno := Lib.hid (show E = 90 by rw [← HE.out]; exact if_neg (fun h => by have := h.1.1; omega))
    clear h1 hR hla hca hmx
    go_enter Tryz.func46, Tryz.ntmps46
    go_wp2_with fail
    go_ret
    rw [Hno.out]
    exact ⟨rfl, by first | exact hst | (rw [Hb0.out]; exact hst)⟩
  have k1 : decide ((n : Int) < 1) = false := decide_eq_false (by omega)
  by_cases h2 : n > 48
  · have k2 : decide ((n : Int) > 48) = true := decide_eq_true (by omega)
    have Hno := Lib.hid (show E = 90 by rw [← HE.out]; exact if_neg (fun h => by have := h.1.2.1; omega))
    clear h1 h2 hR hla hca hmx
    go_enter Tryz.func46, Tryz.ntmps46
    go_wp2_with fail
    go_ret
    rw [Hno.out]
    exact ⟨rfl, by first | exact hst | (rw [Hb0.out]; exact hst)⟩
  have k2 : decide ((n : Int) > 48) = false := decide_eq_false (by omega)
  have hn48 : n ≤ 48 := by omega
  obtain ⟨sb, off, rfl, hsb, q0, -⟩ := sw_at hR (show 0 < n by omega)
  rw [Nat.zero_mul, Nat.add_zero] at q0
  have hI0 : (0 : Int) < n := by omega
  have hN0 : 0 < n := by omega
  by_cases h3 : g 0 0 = 0
  · rw [h3] at q0
    have Hn48 := Lib.hid hn48
    have H3 := Lib.hid (And.intro hN0 (And.intro hn48 h3))
    have Hsb := Lib.hid hsb
    clear h1 h2 h3 hR hla hca hmx hn48 hsb
    go_enter Tryz.func46, Tryz.ntmps46
    go_wp2_with fail
    clear q0
    go_loopw [22] (fun i wr => ∃ k : Nat, k ≤ n ∧ i = .int .i64 k ∧ (∀ j, j < k → swOk g j) ∧ Below b0 w wr ∧ b0 ≤ wr.heap.size) (fun i _ => n - (intOf i).toNat)
    case atStart => exact ⟨0, by omega, rfl, fun j hj => absurd hj (by omega), hst, by rw [Hb0.out]; exact Nat.le_refl _⟩
    case round =>
      obtain ⟨k, hk, rfl, hA, hB, hbs⟩ := hrel
      clear hst
      by_cases hlt : k < n
      · obtain ⟨sb2, off2, e2, -, c0, c1⟩ := sw_at HR.out hlt
        injection e2 with e2
        injection e2 with e3 e4
        subst e3 e4
        have hsb0 : sb < b0 := by have := Hsb.out; have := Hb0.out; omega
        rcases k with _ | p
        · rw [Nat.zero_mul, Nat.add_zero] at c0 c1
          rw [show ((0 : Nat) : Int) = 0 from rfl]
          have hc0 := (hB.cell (p := ⟨sb, off, none⟩) hsb0).trans c0
          have hc1 := (hB.cell (p := ⟨sb, off + 1, none⟩) hsb0).trans c1
          obtain ⟨M, hM⟩ : ∃ M, g 0 0 = M := ⟨_, rfl⟩
          obtain ⟨D, hD⟩ : ∃ D, g 0 1 = D := ⟨_, rfl⟩
          rw [hM] at hc0
          rw [hD] at hc1
          obtain ⟨W1, hW1⟩ : ∃ W1, wr.alloc (.cells #[.int .i64 M, .int .i64 D] 110) = W1 := ⟨_, rfl⟩
          have hst : Below wr.heap.size wr W1 := hW1 ▸ bstep wr _
          have hr1 : W1.heap[wr.heap.size]? = some (.cells #[.int .i64 M, .int .i64 D] 110 (0, 0)) := hW1 ▸ World.alloc_heap_new wr _
          have d0 := cell_of_row W1 wr.heap.size 0 _ _ _ hr1
          have d1 := cell_of_row W1 wr.heap.size 1 _ _ _ hr1
          have hB1 : Below b0 w W1 := hB.trans (hst.mono hbs)
          have hbs1 : b0 ≤ W1.heap.size := Nat.le_trans hbs hst.size
          have Hlt := Lib.hid hlt
          have HA := Lib.hid hA
          have HB := Lib.hid (And.intro hB1 hbs1)
          have HMD := Lib.hid (And.intro hM hD)
          clear c0 c1 hM hD hst hr1 hB1 hbs1 hlt hA hB hbs hk
          by_cases s1 : D < 0
          · have z1 : decide (D < 0) = true := decide_eq_true s1
            have Hno := Lib.hid (show E = 90 by rw [← HE.out]; exact if_neg (fun h => by have h9 := h.2 0 Hlt.out; unfold swOk at h9; rw [HMD.out.1, HMD.out.2] at h9; omega))
            clear s1
            go_wp2_with fail
            go_quiet (fail)
            go_wp2_with fail
            go_ret
            rw [Hno.out]
            exact ⟨rfl, by first | exact HB.out.1.drewN _ | (rw [Hb0.out]; exact HB.out.1.drewN _)⟩
          have z1 : decide (D < 0) = false := decide_eq_false s1
          by_cases s2 : D > 7
          · have z2 : decide (D > 7) = true := decide_eq_true s2
            have Hno := Lib.hid (show E = 90 by rw [← HE.out]; exact if_neg (fun h => by have h9 := h.2 0 Hlt.out; unfold swOk at h9; rw [HMD.out.1, HMD.out.2] at h9; omega))
            clear s1 s2
            go_wp2_with fail
            go_quiet (fail)
            go_wp2_with fail
            go_ret
            rw [Hno.out]
            exact ⟨rfl, by first | exact HB.out.1.drewN _ | (rw [Hb0.out]; exact HB.out.1.drewN _)⟩
          have z2 : decide (D > 7) = false := decide_eq_false s2
          by_cases s3 : M ≥ 1440
          · have z3 : decide (M ≥ 1440) = true := decide_eq_true s3
            have Hno := Lib.hid (show E = 90 by rw [← HE.out]; exact if_neg (fun h => by have h9 := h.2 0 Hlt.out; unfold swOk at h9; rw [HMD.out.1, HMD.out.2] at h9; omega))
            clear s1 s2 s3
            go_wp2_with fail
            go_quiet (fail)
            go_wp2_with fail
            go_ret
            rw [Hno.out]
            exact ⟨rfl, by first | exact HB.out.1.drewN _ | (rw [Hb0.out]; exact HB.out.1.drewN _)⟩
          have z3 : decide (M ≥ 1440) = false := decide_eq_false s3
          have HOK := Lib.hid (show swOk g 0 by unfold swOk; rw [HMD.out.1, HMD.out.2]; omega)
          clear s1 s2 s3
          go_wp2_with fail
          go_quiet (fail)
          go_wp2_with fail
          exact ⟨⟨1, Hlt.out, by first | rfl | trivial, sw_step HOK.out HA.out, HB.out.1.drewN _, HB.out.2⟩, meas_z n 0 Hlt.out⟩
        · obtain ⟨sb3, off3, e5, -, c2, -⟩ := sw_at HR.out (show p < n by omega)
          injection e5 with e5
          injection e5 with e6 e7
          subst e6 e7
          have hI : (p : Int) + 1 < (n : Int) := by omega
          have hp0 : (0 : Int) ≤ (p : Int) := by omega
          have hp1 : (p : Int) < (n : Int) := by omega
          have hq0 : (0 : Int) ≤ (p : Int) + 1 := by omega
          have hpT : ((p : Int) + 1).toNat = p + 1 := by omega
          rw [show ((p + 1 : Nat) : Int) = (p : Int) + 1 by omega]
          have kp : decide ((p : Int) + 1 > 0) = true := decide_eq_true (by omega)
          have w0 : IntKind.i64.wrap ((p : Int) + 1 - 1) = (p : Int) := by rw [Int.add_sub_cancel]; exact i64_same _ (by have := Hn48.out; omega)
          have wp := i64_same (p : Int) (by have := Hn48.out; omega)
          have xp := wrap64_in (p : Int) (by have := Hn48.out; omega)
          have w9 : IntKind.i64.wrap ((p : Int) + 1 + 1) = (p : Int) + 1 + 1 := i64_same _ (by have := Hn48.out; omega)
          have X9 := Lib.hid (wrap64_in ((p : Int) + 1 + 1) (by have := Hn48.out; omega))
          have hc0 := (hB.cell (p := ⟨sb, off + (p + 1) * 2, none⟩) hsb0).trans c0
          have hc1 := (hB.cell (p := ⟨sb, off + (p + 1) * 2 + 1, none⟩) hsb0).trans c1
          obtain ⟨M, hM⟩ : ∃ M, g (p + 1) 0 = M := ⟨_, rfl⟩
          obtain ⟨D, hD⟩ : ∃ D, g (p + 1) 1 = D := ⟨_, rfl⟩
          rw [hM] at hc0
          rw [hD] at hc1
          obtain ⟨W1, hW1⟩ : ∃ W1, wr.alloc (.cells #[.int .i64 M, .int .i64 D] 110) = W1 := ⟨_, rfl⟩
          have hst : Below wr.heap.size wr W1 := hW1 ▸ bstep wr _
          have hr1 : W1.heap[wr.heap.size]? = some (.cells #[.int .i64 M, .int .i64 D] 110 (0, 0)) := hW1 ▸ World.alloc_heap_new wr _
          have d0 := cell_of_row W1 wr.heap.size 0 _ _ _ hr1
          have d1 := cell_of_row W1 wr.heap.size 1 _ _ _ hr1
          have hB1 : Below b0 w W1 := hB.trans (hst.mono hbs)
          have hbs1 : b0 ≤ W1.heap.size := Nat.le_trans hbs hst.size
          have Hlt := Lib.hid hlt
          have HA := Lib.hid hA
          have HB := Lib.hid (And.intro hB1 hbs1)
          have HMD := Lib.hid (And.intro hM hD)
          have hc2 := (hB1.cell (p := ⟨sb, off + p * 2, none⟩) hsb0).trans c2
          obtain ⟨Q, hQ⟩ : ∃ Q, g p 0 = Q := ⟨_, rfl⟩
          rw [hQ] at hc2
          have HQ := Lib.hid hQ
          clear c0 c1 hM hD hst hr1 hB1 hbs1 hlt hA hB hbs hk c2 hQ
          by_cases s1 : D < 0
          · have z1 : decide (D < 0) = true := decide_eq_true s1
            have Hno := Lib.hid (show E = 90 by rw [← HE.out]; exact if_neg (fun h => by have h9 := h.2 (p + 1) Hlt.out; unfold swOk at h9; rw [HMD.out.1, HMD.out.2] at h9; omega))
            clear s1
            go_wp2_with fail
            go_quiet (fail)
            go_wp2_with fail
            go_ret
            rw [Hno.out]
            exact ⟨rfl, by first | exact HB.out.1.drewN _ | (rw [Hb0.out]; exact HB.out.1.drewN _)⟩
          have z1 : decide (D < 0) = false := decide_eq_false s1
          by_cases s2 : D > 7
          · have z2 : decide (D > 7) = true := decide_eq_true s2
            have Hno := Lib.hid (show E = 90 by rw [← HE.out]; exact if_neg (fun h => by have h9 := h.2 (p + 1) Hlt.out; unfold swOk at h9; rw [HMD.out.1, HMD.out.2] at h9; omega))
            clear s1 s2
            go_wp2_with fail
            go_quiet (fail)
            go_wp2_with fail
            go_ret
            rw [Hno.out]
            exact ⟨rfl, by first | exact HB.out.1.drewN _ | (rw [Hb0.out]; exact HB.out.1.drewN _)⟩
          have z2 : decide (D > 7) = false := decide_eq_false s2
          by_cases s3 : M ≥ 1440
          · have z3 : decide (M ≥ 1440) = true := decide_eq_true s3
            have Hno := Lib.hid (show E = 90 by rw [← HE.out]; exact if_neg (fun h => by have h9 := h.2 (p + 1) Hlt.out; unfold swOk at h9; rw [HMD.out.1, HMD.out.2] at h9; omega))
            clear s1 s2 s3
            go_wp2_with fail
            go_quiet (fail)
            go_wp2_with fail
            go_ret
            rw [Hno.out]
            exact ⟨rfl, by first | exact HB.out.1.drewN _ | (rw [Hb0.out]; exact HB.out.1.drewN _)⟩
          have z3 : decide (M ≥ 1440) = false := decide_eq_false s3
          by_cases s4 : M ≤ Q
          · have z4 : decide (M ≤ Q) = true := decide_eq_true s4
            have Hno := Lib.hid (show E = 90 by rw [← HE.out]; exact if_neg (fun h => by have h9 := h.2 (p + 1) Hlt.out; unfold swOk at h9; rw [HMD.out.1, HMD.out.2] at h9; have h8 := h9.2.2.2 (by omega); rw [show p + 1 - 1 = p by omega, HQ.out] at h8; omega))
            clear s1 s2 s3 s4
            go_wp2_with fail
            go_quiet (fail)
            go_wp2_with fail
            go_ret
            rw [Hno.out]
            exact ⟨rfl, by first | exact HB.out.1.drewN _ | (rw [Hb0.out]; exact HB.out.1.drewN _)⟩
          have z4 : decide (M ≤ Q) = false := decide_eq_false s4
          have HOK := Lib.hid (show swOk g (p + 1) by unfold swOk; rw [HMD.out.1, HMD.out.2, show p + 1 - 1 = p by omega, HQ.out]; omega)
          clear s1 s2 s3 s4
          go_wp2_with fail
          go_quiet (fail)
          have x9 := X9.out
          go_wp2_with fail
          clear x9
          exact ⟨⟨p + 1 + 1, Hlt.out, by push_cast; rfl, sw_step HOK.out HA.out, HB.out.1.drewN _, HB.out.2⟩, meas_z n (p + 1) Hlt.out⟩
      · obtain rfl : k = n := by omega
        have hI : ¬ ((k : Int) < k) := by omega
        have HB := Lib.hid hB
        have Hyes := Lib.hid (show E = 0 by rw [← HE.out]; exact if_pos ⟨⟨H3.out.1, H3.out.2.1, H3.out.2.2⟩, hA⟩)
        clear hA hB hk hlt hbs
        go_wp2_with fail
        go_ret
        rw [Hyes.out]
        exact ⟨rfl, by first | exact HB.out | (rw [Hb0.out]; exact HB.out)⟩
  · have k3 : (g 0 0 != 0) = true := by simp [h3]
    have Hno := Lib.hid (show E = 90 by rw [← HE.out]; exact if_neg (fun h => h3 h.1.2.2))
    clear h1 h2 h3 hR hla hca hmx hn48 hsb
    go_enter Tryz.func46, Tryz.ntmps46
    go_wp2_with fail
    go_ret
    rw [Hno.out]
    exact ⟨rfl, by first | exact hst | (rw [Hb0.out]; exact hst)⟩
end Go.Proofs.YtgbkedjjgbhcmaaGreatDoor

/-
  Bands' rules: the closures of bands.Check and bands.Plan, slices.IndexFunc and ContainsFunc at them, walked. Conditions stand at each theorem.
-/
namespace Go.Proofs.YtgbkedjjgbhcmaaGreatDoor
open Go Go.RowKit Go.Kw Go.Kw.Cv Go.Shelf
set_option linter.unusedVariables false
set_option linter.unusedSimpArgs false

def brC (r : Nat → Int) : Value := .agg #[.int .i64 (r 0), .int .i64 (r 1), .int .i64 (r 2)]
theorem br_at {W : World} {A : Option Addr} {n c : Nat} {r : Nat → Nat → Int} (h : IRows 3 kI W A n c r) {k : Nat} (hk : k < n) : ∃ b off, A = some ⟨b, off, none⟩ ∧ b < W.heap.size ∧ W.cell? ⟨b, off + k * 3, none⟩ = some (.int .i64 (r k 0)) ∧ W.cell? ⟨b, off + k * 3 + 1, none⟩ = some (.int .i64 (r k 1)) ∧ W.cell? ⟨b, off + k * 3 + 2, none⟩ = some (.int .i64 (r k 2)) := by
  obtain ⟨b, off, e, hb, hc⟩ := h.at_ (by omega) hk
  exact ⟨b, off, e, hb, hc 0 (by omega), hc 1 (by omega), hc 2 (by omega)⟩
def tabC (X Y : Value) : Value := .agg #[X, Y]
/-- May a rule not be? -/
def brNo (np : Nat) (s k p : Int) : Bool := !decide (0 ≤ s ∧ s ≤ 99 ∧ 0 ≤ k ∧ k ≤ 4 ∧ 0 ≤ p ∧ p < np)
theorem brNo_iff (np : Nat) (r : Nat → Nat → Int) (i : Nat) : brNo np (r i 0) (r i 1) (r i 2) = true ↔ ¬ brOk np r i := by
  unfold brNo brOk
  rw [Bool.not_eq_true', decide_eq_false_iff_not]
set_option maxRecDepth 100000 in
set_option maxHeartbeats 8000000 in
theorem check1_calls (s k p : Int) (np cp : Nat) (A : Option Addr) (Y : Value) (pb : Nat) (w : World) (hp : w.heap[pb]? = some (.cells #[.slice A np cp, Y] 32 (0, 0))) :
    Calls Tryz.prog 44 #[.agg #[.int .i64 s, .int .i64 k, .int .i64 p], .pointer (some ⟨pb, 0, none⟩)] w fun e w' => e = .returned (.bool (brNo np s k p)) ∧ Below w.heap.size w w' := by
  obtain ⟨b0, hb0⟩ : ∃ b0, w.heap.size = b0 := ⟨_, rfl⟩
  have Hb0 := Lib.hid hb0
  obtain ⟨W1, hW1⟩ : ∃ W1, w.alloc (.cells #[.int .i64 s, .int .i64 k, .int .i64 p] 100) = W1 := ⟨_, rfl⟩
  have hst : Below w.heap.size w W1 := hW1 ▸ bstep w _
  have hr : W1.heap[b0]? = some (.cells #[.int .i64 s, .int .i64 k, .int .i64 p] 100 (0, 0)) := by rw [← hb0, ← hW1]; exact World.alloc_heap_new w _
  have d0 := cell_of_row W1 b0 0 _ _ _ hr
  have d1 := cell_of_row W1 b0 1 _ _ _ hr
  have d2 := cell_of_row W1 b0 2 _ _ _ hr
  have t0 := cell_of_row W1 pb 0 _ _ _ (blk_below hp hst)
  have HB := Lib.hid hst
  obtain ⟨V, hV⟩ : ∃ V, brNo np s k p = V := ⟨_, rfl⟩
  have HV : Hid ((0 ≤ s ∧ s ≤ 99 ∧ 0 ≤ k ∧ k ≤ 4 ∧ 0 ≤ p ∧ p < np) ↔ V = false) := by
    show _ ↔ _
    rw [← hV]; unfold brNo
    rw [Bool.not_eq_false', decide_eq_true_eq]
  rw [hV]
  clear hp hst hr hV
  by_cases h0 : s < 0
  · have z0 : decide (s < 0) = true := decide_eq_true h0
    have HVV := Lib.hid (show V = true by cases V with | true => rfl | false => exact absurd (HV.out.2 rfl) (by omega))
    clear HV h0
    go_enter Tryz.func44, Tryz.ntmps44
    go_wp2_with fail
    try go_quiet (fail)
    try go_wp2_with fail
    go_ret
    rw [HVV.out]
    exact ⟨rfl, by first | exact HB.out | exact HB.out.drewN _ | (rw [Hb0.out]; exact HB.out) | (rw [Hb0.out]; exact HB.out.drewN _) | (rw [← Hb0.out]; exact HB.out) | (rw [← Hb0.out]; exact HB.out.drewN _)⟩
  have z0 : decide (s < 0) = false := decide_eq_false h0
  by_cases h1 : s > 99
  · have z1 : decide (s > 99) = true := decide_eq_true h1
    have HVV := Lib.hid (show V = true by cases V with | true => rfl | false => exact absurd (HV.out.2 rfl) (by omega))
    clear HV h0 h1
    go_enter Tryz.func44, Tryz.ntmps44
    go_wp2_with fail
    try go_quiet (fail)
    try go_wp2_with fail
    go_ret
    rw [HVV.out]
    exact ⟨rfl, by first | exact HB.out | exact HB.out.drewN _ | (rw [Hb0.out]; exact HB.out) | (rw [Hb0.out]; exact HB.out.drewN _) | (rw [← Hb0.out]; exact HB.out) | (rw [← Hb0.out]; exact HB.out.drewN _)⟩
  have z1 : decide (s > 99) = false := decide_eq_false h1
  by_cases h2 : k < 0
  · have z2 : decide (k < 0) = true := decide_eq_true h2
    have HVV := Lib.hid (show V = true by cases V with | true => rfl | false => exact absurd (HV.out.2 rfl) (by omega))
    clear HV h0 h1 h2
    go_enter Tryz.func44, Tryz.ntmps44
    go_wp2_with fail
    try go_quiet (fail)
    try go_wp2_with fail
    go_ret
    rw [HVV.out]
    exact ⟨rfl, by first | exact HB.out | exact HB.out.drewN _ | (rw [Hb0.out]; exact HB.out) | (rw [Hb0.out]; exact HB.out.drewN _) | (rw [← Hb0.out]; exact HB.out) | (rw [← Hb0.out]; exact HB.out.drewN _)⟩
  have z2 : decide (k < 0) = false := decide_eq_false h2
  by_cases h3 : k > 4
  · have z3 : decide (k > 4) = true := decide_eq_true h3
    have HVV := Lib.hid (show V = true by cases V with | true => rfl | false => exact absurd (HV.out.2 rfl) (by omega))
    clear HV h0 h1 h2 h3
    go_enter Tryz.func44, Tryz.ntmps44
    go_wp2_with fail
    try go_quiet (fail)
    try go_wp2_with fail
    go_ret
    rw [HVV.out]
    exact ⟨rfl, by first | exact HB.out | exact HB.out.drewN _ | (rw [Hb0.out]; exact HB.out) | (rw [Hb0.out]; exact HB.out.drewN _) | (rw [← Hb0.out]; exact HB.out) | (rw [← Hb0.out]; exact HB.out.drewN _)⟩
  have z3 : decide (k > 4) = false := decide_eq_false h3
  by_cases h4 : p < 0
  · have z4 : decide (p < 0) = true := decide_eq_true h4
    have HVV := Lib.hid (show V = true by cases V with | true => rfl | false => exact absurd (HV.out.2 rfl) (by omega))
    clear HV h0 h1 h2 h3 h4
    go_enter Tryz.func44, Tryz.ntmps44
    go_wp2_with fail
    try go_quiet (fail)
    try go_wp2_with fail
    go_ret
    rw [HVV.out]
    exact ⟨rfl, by first | exact HB.out | exact HB.out.drewN _ | (rw [Hb0.out]; exact HB.out) | (rw [Hb0.out]; exact HB.out.drewN _) | (rw [← Hb0.out]; exact HB.out) | (rw [← Hb0.out]; exact HB.out.drewN _)⟩
  have z4 : decide (p < 0) = false := decide_eq_false h4
  by_cases h5 : p ≥ np
  · have z5 : decide (p ≥ (np : Int)) = true := decide_eq_true h5
    have HVV := Lib.hid (show V = true by cases V with | true => rfl | false => exact absurd (HV.out.2 rfl) (by omega))
    clear HV h0 h1 h2 h3 h4 h5
    go_enter Tryz.func44, Tryz.ntmps44
    go_wp2_with fail
    try go_quiet (fail)
    try go_wp2_with fail
    go_ret
    rw [HVV.out]
    exact ⟨rfl, by first | exact HB.out | exact HB.out.drewN _ | (rw [Hb0.out]; exact HB.out) | (rw [Hb0.out]; exact HB.out.drewN _) | (rw [← Hb0.out]; exact HB.out) | (rw [← Hb0.out]; exact HB.out.drewN _)⟩
  have z5 : decide (p ≥ (np : Int)) = false := decide_eq_false h5
  have HVV := Lib.hid (show V = false from HV.out.1 (by omega))
  clear HV h0 h1 h2 h3 h4 h5
  go_enter Tryz.func44, Tryz.ntmps44
  go_wp2_with fail
  try go_quiet (fail)
  try go_wp2_with fail
  go_ret
  rw [HVV.out]
  exact ⟨rfl, by first | exact HB.out | exact HB.out.drewN _ | (rw [Hb0.out]; exact HB.out) | (rw [Hb0.out]; exact HB.out.drewN _) | (rw [← Hb0.out]; exact HB.out) | (rw [← Hb0.out]; exact HB.out.drewN _)⟩
set_option maxRecDepth 100000 in
set_option maxHeartbeats 8000000 in
theorem idxCheck_calls (A : Option Addr) (n c : Nat) (r : Nat → Nat → Int) (np cp : Nat) (B : Option Addr) (Y : Value) (pb : Nat) (w : World) (hR : IRows 3 kI w A n c r) (hp : w.heap[pb]? = some (.cells #[.slice B np cp, Y] 32 (0, 0))) :
    Calls Tryz.prog 59 #[.slice A n c, .func (.func 44) #[] #[.pointer (some ⟨pb, 0, none⟩)]] w fun e w' => e = .returned (.int .i64 (idxI (fun k => brNo np (r k 0) (r k 1) (r k 2)) n)) ∧ Below w.heap.size w w' := by
  obtain ⟨b0, hb0⟩ : ∃ b0, w.heap.size = b0 := ⟨_, rfl⟩
  have Hb0 := Lib.hid hb0
  have HR := Lib.hid hR
  have HP := Lib.hid hp
  clear hp
  have hla := hR.1
  have hca := hR.2.1
  have hmx : maxLen = 9223372036854775807 := rfl
  have Hlen := Lib.hid (show n ≤ 9223372036854775807 by omega)
  obtain ⟨P, hP⟩ : ∃ P : Nat → Bool, (fun k => brNo np (r k 0) (r k 1) (r k 2)) = P := ⟨_, rfl⟩
  have HPd := Lib.hid hP
  have hB0 := Below.refl b0 w
  rw [hP]
  clear hR hla hca hmx hP
  go_enter Tryz.func59, Tryz.ntmps59
  go_wp2_with fail
  go_loopw [5, 8] (fun s5 i wr => ∃ k : Nat, k ≤ n ∧ i = .int .i64 k ∧ (∀ j, j < k → P j = false) ∧ Below b0 w wr) (fun _ i _ => n - (intOf i).toNat)
  case atStart => exact ⟨0, by omega, rfl, fun j hj => absurd hj (by omega), hB0⟩
  case round =>
    obtain ⟨k, hk, rfl, hA, hB⟩ := hrel
    clear hB0
    by_cases hlt : k < n
    · have hI : (k : Int) < n := by omega
      obtain ⟨sb, off, rfl, hsb, q0, q1, q2⟩ := br_at HR.out hlt
      have hc := trivial
      have hsb0 : sb < b0 := by have := Hb0.out; omega
      have c0 : wr.cell? ⟨sb, off + k * 3, none⟩ = some (.int .i64 (r k 0)) := (hB.cell (p := ⟨sb, off + k * 3, none⟩) hsb0).trans q0
      have c1 : wr.cell? ⟨sb, off + k * 3 + 1, none⟩ = some (.int .i64 (r k 1)) := (hB.cell (p := ⟨sb, off + k * 3 + 1, none⟩) hsb0).trans q1
      have c2 : wr.cell? ⟨sb, off + k * 3 + 2, none⟩ = some (.int .i64 (r k 2)) := (hB.cell (p := ⟨sb, off + k * 3 + 2, none⟩) hsb0).trans q2
      have HO := check1_calls (r k 0) (r k 1) (r k 2) np cp B Y pb wr (blk_below HP.out (Hb0.out.symm ▸ hB))
      obtain ⟨V, hV⟩ : ∃ V, (fun k => brNo np (r k 0) (r k 1) (r k 2)) k = V := ⟨_, rfl⟩
      have hV2 : P k = V := by rw [← HPd.out]; exact hV
      dsimp only at hV
      rw [hV] at HO
      replace HO := Lib.hid HO
      have HV := Lib.hid hV2
      have w1 : IntKind.i64.wrap ((k : Int) + 1) = (k : Int) + 1 := i64_same _ (by have := Hlen.out; omega)
      have X1 := Lib.hid (wrap64_in ((k : Int) + 1) (by have := Hlen.out; omega))
      have Hk := Lib.hid (show k + 1 ≤ n from hlt)
      have Hlt := Lib.hid hlt
      have HA := Lib.hid hA
      have HB := Lib.hid hB
      clear hc q0 q1 q2 hA hB hk hlt hV hV2
      cases V with
      | true =>
        go_wp2_with fail
        refine HO.out.mono ?_
        rintro e w4 ⟨rfl, hb4⟩
        go_wp2_with fail
        go_ret
        have hF : fstI P n = k := fstI_unique P n k (by have := Hlt.out; omega) (fun _ => HV.out) HA.out
        have hlt := Hlt.out
        have hv : idxI P n = (k : Int) := by unfold idxI; rw [hF, if_pos hlt]
        rw [hv]
        have hZ := HB.out.trans (hb4.mono (Hb0.out ▸ HB.out.size))
        exact ⟨rfl, by first | exact hZ | (rw [Hb0.out]; exact hZ)⟩
      | false =>
        have x1 := X1.out
        go_wp2_with fail
        refine HO.out.mono ?_
        rintro e w4 ⟨rfl, hb4⟩
        go_wp2_with fail
        clear x1
        exact ⟨⟨k + 1, Hk.out, by push_cast; rfl, fst_step HV.out HA.out, HB.out.trans (hb4.mono (Hb0.out ▸ HB.out.size))⟩, meas_z n k Hk.out⟩
    · obtain rfl : k = n := by omega
      have hI : ¬ ((k : Int) < k) := by omega
      have HBq := Lib.hid hB
      have hF : fstI P k = k := fstI_unique P k k (Nat.le_refl _) (fun h => absurd h (Nat.lt_irrefl _)) hA
      have hv : idxI P k = -1 := by unfold idxI; rw [hF, if_neg (Nat.lt_irrefl _)]
      have Hv := Lib.hid hv
      clear hA hk hlt hB hF hv
      go_wp2_with fail
      go_ret
      rw [Hv.out]
      exact ⟨rfl, by first | exact HBq.out | (rw [Hb0.out]; exact HBq.out)⟩

set_option maxRecDepth 100000 in
set_option maxHeartbeats 8000000 in
theorem containsCheck_calls (A : Option Addr) (n c : Nat) (r : Nat → Nat → Int) (np cp : Nat) (B : Option Addr) (Y : Value) (pb : Nat) (w : World) (hR : IRows 3 kI w A n c r) (hp : w.heap[pb]? = some (.cells #[.slice B np cp, Y] 32 (0, 0))) :
    Calls Tryz.prog 45 #[.slice A n c, .func (.func 44) #[] #[.pointer (some ⟨pb, 0, none⟩)]] w fun e w' => e = .returned (.bool (anyI (fun k => brNo np (r k 0) (r k 1) (r k 2)) n)) ∧ Below w.heap.size w w' := by
  have HI := idxCheck_calls A n c r np cp B Y pb w hR hp
  obtain ⟨I, hI⟩ : ∃ I, idxI (fun k => brNo np (r k 0) (r k 1) (r k 2)) n = I := ⟨_, rfl⟩
  obtain ⟨B, hB⟩ : ∃ B, anyI (fun k => brNo np (r k 0) (r k 1) (r k 2)) n = B := ⟨_, rfl⟩
  have hIB : decide (I ≥ 0) = B := by rw [← hI, ← hB]; exact idxI_any _ _
  rw [hI] at HI
  rw [hB]
  replace HI := Lib.hid HI
  clear hI hB hR hp
  go_enter Tryz.func45, Tryz.ntmps45
  go_wp2_with fail
  refine HI.out.mono ?_
  rintro e w2 ⟨rfl, hb⟩
  go_wp2_with fail
  go_ret
  exact ⟨rfl, hb⟩

end Go.Proofs.YtgbkedjjgbhcmaaGreatDoor

/-
  Whether a table of bands may be: bands.Check, walked. Conditions stand at each theorem.
-/
namespace Go.Proofs.YtgbkedjjgbhcmaaGreatDoor
open Go Go.RowKit Go.Kw Go.Kw.Cv Go.Shelf
set_option linter.unusedVariables false
set_option linter.unusedSimpArgs false

theorem any_no {np nr : Nat} {r : Nat → Nat → Int} : anyI (fun k => brNo np (r k 0) (r k 1) (r k 2)) nr = false ↔ ∀ i, i < nr → brOk np r i := by
  rw [← Bool.not_eq_true, anyI_iff]
  constructor
  · intro h i hi
    exact Classical.byContradiction fun q => h ⟨i, hi, (brNo_iff np r i).2 q⟩
  · rintro h ⟨i, hi, q⟩
    exact (brNo_iff np r i).1 q (h i hi)
theorem plan_step {P : Nat → Prop} {k : Nat} (h : P k) (hA : ∀ j, j < k → P j) : ∀ j, j < k + 1 → P j := fun j hj => by
  by_cases e : j = k
  · rw [e]; exact h
  · exact hA j (by omega)
set_option maxRecDepth 100000 in
set_option maxHeartbeats 16000000 in
theorem bandsCheck_calls (A : Option Addr) (np cp : Nat) (F : Nat → SlX) (gp : Nat → Nat → Nat → Int) (R : Option Addr) (nr cr : Nat) (r : Nat → Nat → Int) (w : World) (hP : RdPl w A np cp F gp) (hR : IRows 3 kI w R nr cr r) :
    Calls Tryz.prog 16 #[.agg #[.slice A np cp, .slice R nr cr]] w fun e w' => e = .returned (.int .i64 (tabE np (fun i => (F i).2.1) gp nr r)) ∧ Below w.heap.size w w' := by
  obtain ⟨b0, hb0⟩ : ∃ b0, w.heap.size = b0 := ⟨_, rfl⟩
  have Hb0 := Lib.hid hb0
  obtain ⟨W1, hW1⟩ : ∃ W1, w.alloc (.cells #[.slice A np cp, .slice R nr cr] 32) = W1 := ⟨_, rfl⟩
  have hst : Below w.heap.size w W1 := hW1 ▸ bstep w _
  have hr : W1.heap[b0]? = some (.cells #[.slice A np cp, .slice R nr cr] 32 (0, 0)) := by rw [← hb0, ← hW1]; exact World.alloc_heap_new w _
  have d0 := cell_of_row W1 b0 0 _ _ _ hr
  have d1 := cell_of_row W1 b0 1 _ _ _ hr
  have HC := Lib.hid (containsCheck_calls R nr cr r np cp A (.slice R nr cr) b0 W1 (hR.go hst) hr)
  have HP := Lib.hid (hP.go hst)
  have hca := hP.2.1
  have hcp := hP.1
  have hmx : maxLen = 9223372036854775807 := rfl
  have HB := Lib.hid hst
  have Hr := Lib.hid hr
  obtain ⟨E, hE⟩ : ∃ E, tabE np (fun i => (F i).2.1) gp nr r = E := ⟨_, rfl⟩
  have HE := Lib.hid hE
  rw [hE]
  clear hst hr hE hP hR
  by_cases h0 : np < 1
  · have z0 : decide ((np : Int) < 1) = true := decide_eq_true (by omega)
    have Hno := Lib.hid (show E = 90 by rw [← HE.out]; exact if_neg (fun h => by have := h.1.1; omega))
    clear h0 hca hcp hmx HC
    go_enter Tryz.func16, Tryz.ntmps16
    go_wp2_with fail
    go_ret
    rw [Hno.out]
    exact ⟨rfl, by first | exact HB.out | (rw [Hb0.out]; exact HB.out) | (rw [← Hb0.out]; exact HB.out)⟩
  have z0 : decide ((np : Int) < 1) = false := decide_eq_false (by omega)
  by_cases h1 : np > 50
  · have z1 : decide ((np : Int) > 50) = true := decide_eq_true (by omega)
    have Hno := Lib.hid (show E = 90 by rw [← HE.out]; exact if_neg (fun h => by have := h.1.2.1; omega))
    clear h0 h1 hca hcp hmx HC
    go_enter Tryz.func16, Tryz.ntmps16
    go_wp2_with fail
    go_ret
    rw [Hno.out]
    exact ⟨rfl, by first | exact HB.out | (rw [Hb0.out]; exact HB.out) | (rw [← Hb0.out]; exact HB.out)⟩
  have z1 : decide ((np : Int) > 50) = false := decide_eq_false (by omega)
  by_cases h2 : nr > 100
  · have z2 : decide ((nr : Int) > 100) = true := decide_eq_true (by omega)
    have Hno := Lib.hid (show E = 90 by rw [← HE.out]; exact if_neg (fun h => by have := h.1.2.2; omega))
    clear h0 h1 h2 hca hcp hmx HC
    go_enter Tryz.func16, Tryz.ntmps16
    go_wp2_with fail
    go_ret
    rw [Hno.out]
    exact ⟨rfl, by first | exact HB.out | (rw [Hb0.out]; exact HB.out) | (rw [← Hb0.out]; exact HB.out)⟩
  have z2 : decide ((nr : Int) > 100) = false := decide_eq_false (by omega)
  have H3 := Lib.hid (show 1 ≤ np ∧ np ≤ 50 ∧ nr ≤ 100 by omega)
  obtain ⟨Q, hQ⟩ : ∃ Q, anyI (fun k => brNo np (r k 0) (r k 1) (r k 2)) nr = Q := ⟨_, rfl⟩
  rw [hQ] at HC
  have HQ := Lib.hid hQ
  clear hQ h0 h1 h2 hca hcp hmx
  cases Q with
  | true =>
    have Hno := Lib.hid (show E = 90 by rw [← HE.out]; exact if_neg (fun h => by have := any_no.2 h.2.1; rw [HQ.out] at this; cases this))
    go_enter Tryz.func16, Tryz.ntmps16
    go_wp2_with fail
    refine HC.out.mono ?_
    rintro e w2 ⟨rfl, hb2⟩
    have HB2 := Lib.hid (bnext HB.out hb2)
    clear hb2 d0 d1
    go_wp2_with fail
    go_ret
    rw [Hno.out]
    exact ⟨rfl, by first | exact HB2.out | (rw [Hb0.out]; exact HB2.out) | (rw [← Hb0.out]; exact HB2.out)⟩
  | false =>
    go_enter Tryz.func16, Tryz.ntmps16
    go_wp2_with fail
    refine HC.out.mono ?_
    rintro e w2 ⟨rfl, hb2⟩
    have hr2 := blk_below Hr.out hb2
    have e0 := cell_of_row w2 b0 0 _ _ _ hr2
    have e1 := cell_of_row w2 b0 1 _ _ _ hr2
    have HB2 := Lib.hid (bnext HB.out hb2)
    have HP2 := Lib.hid (HP.out.go hb2)
    obtain ⟨b2, hb2e⟩ : ∃ b2, w2.heap.size = b2 := ⟨_, rfl⟩
    have Hb2 := Lib.hid hb2e
    have hB0 := Below.refl b2 w2
    clear hb2 d0 d1 hr2 hb2e
    obtain ⟨wo, rfl⟩ : ∃ wo : World, wo = w2 := ⟨_, rfl⟩
    go_wp2_with fail
    clear e0 e1
    go_loopw [33] (fun i wr => ∃ k : Nat, k ≤ np ∧ i = .int .i64 k ∧ (∀ j, j < k → planOk (F j).2.1 (gp j)) ∧ Below b2 wo wr) (fun i _ => np - (intOf i).toNat)
    case atStart => exact ⟨0, by omega, rfl, fun j hj => absurd hj (by omega), hB0⟩
    case round =>
      obtain ⟨k, hk, rfl, hA, hB⟩ := hrel
      clear hB0
      have hBw : Below wo.heap.size wo wr := by rw [Hb2.out]; exact hB
      by_cases hlt : k < np
      · have hI : (k : Int) < np := by omega
        have hK0 : (0 : Int) ≤ (k : Int) := by omega
        obtain ⟨sb, off, rfl, hsb, hc⟩ := HP2.out.2.2.2.1.at_ hlt
        have c0 := (hBw.cell (p := ⟨sb, off + k, none⟩) hsb).trans hc
        have hX := checkPlan_calls (F k).1 (F k).2.1 (F k).2.2 (gp k) wr ((HP2.out.2.2.2.2 k hlt).go hBw)
        have HFk := Lib.hid (show planOk (F k).2.1 (gp k) ↔ planE (F k).2.1 (gp k) = 0 from ⟨fun h => if_pos h, fun h => Classical.byContradiction fun q => by unfold planE at h; rw [if_neg q] at h; cases h⟩)
        have H90 := Lib.hid (show planE (F k).2.1 (gp k) = 0 ∨ planE (F k).2.1 (gp k) = 90 by unfold planE; split <;> simp)
        unfold slV at c0
        obtain ⟨P1, hP1⟩ : ∃ x, (F k).1 = x := ⟨_, rfl⟩
        obtain ⟨P2, hP2⟩ : ∃ x, (F k).2.1 = x := ⟨_, rfl⟩
        obtain ⟨P3, hP3⟩ : ∃ x, (F k).2.2 = x := ⟨_, rfl⟩
        rw [hP1, hP2, hP3] at c0 hX
        obtain ⟨X, hXe⟩ : ∃ X, planE P2 (gp k) = X := ⟨_, rfl⟩
        rw [hXe] at hX
        rw [hP2, hXe] at HFk H90
        replace hX := Lib.hid hX
        have Hlt := Lib.hid hlt
        have HA := Lib.hid hA
        have HBw := Lib.hid hBw
        have HP2e := Lib.hid hP2
        have w1 : IntKind.i64.wrap ((k : Int) + 1) = (k : Int) + 1 := i64_same _ (by have := H3.out; omega)
        have X1 := Lib.hid (wrap64_in ((k : Int) + 1) (by have := H3.out; omega))
        clear hc hA hB hk hlt hBw hP1 hP2 hP3 hXe hsb
        by_cases h4 : X = 0
        · have kx : (X != 0) = false := by simp [h4]
          have Hok := Lib.hid (show planOk (F k).2.1 (gp k) by rw [HP2e.out]; exact HFk.out.2 h4)
          clear h4
          have x1 := X1.out
          go_wp2_with fail
          refine hX.out.mono ?_
          rintro e w4 ⟨rfl, hb4⟩
          have HB4 := Lib.hid (HBw.out.trans (hb4.mono HBw.out.size))
          clear hb4
          go_wp2_with fail
          clear x1
          exact ⟨⟨k + 1, Hlt.out, by push_cast; rfl, plan_step (P := fun j => planOk (F j).2.1 (gp j)) Hok.out HA.out, by have := HB4.out; rw [Hb2.out] at this; exact this⟩, meas_z np k Hlt.out⟩
        · have kx : (X != 0) = true := by simp [h4]
          have Hno := Lib.hid (show E = X by
            rw [← HE.out, show X = 90 from H90.out.resolve_left h4]
            exact if_neg (fun h => h4 (HFk.out.1 (by rw [← HP2e.out]; exact h.2.2 k Hlt.out))))
          clear h4
          go_wp2_with fail
          refine hX.out.mono ?_
          rintro e w4 ⟨rfl, hb4⟩
          have HB4 := Lib.hid (bnext HB2.out (HBw.out.trans (hb4.mono HBw.out.size)))
          clear hb4
          go_wp2_with fail
          go_ret
          rw [Hno.out]
          exact ⟨rfl, by first | exact HB4.out | (rw [Hb0.out]; exact HB4.out) | (rw [← Hb0.out]; exact HB4.out)⟩
      · obtain rfl : k = np := by omega
        have hI : ¬ ((k : Int) < k) := by omega
        have HB4 := Lib.hid (bnext HB2.out hBw)
        have Hyes := Lib.hid (show E = 0 by rw [← HE.out]; exact if_pos ⟨H3.out, any_no.1 HQ.out, hA⟩)
        clear hA hB hk hlt hBw
        go_wp2_with fail
        go_ret
        rw [Hyes.out]
        exact ⟨rfl, by first | exact HB4.out | (rw [Hb0.out]; exact HB4.out) | (rw [← Hb0.out]; exact HB4.out)⟩
end Go.Proofs.YtgbkedjjgbhcmaaGreatDoor

/-
  The plan of a day: bands.Plan's closure, slices.IndexFunc at it, bands.Plan of a table that may be, walked. Conditions stand at each theorem.
-/
namespace Go.Proofs.YtgbkedjjgbhcmaaGreatDoor
open Go Go.RowKit Go.Kw Go.Kw.Cv Go.Shelf
set_option linter.unusedVariables false
set_option linter.unusedSimpArgs false

def brI (s k S K : Int) : Bool := (decide (s = 0) || decide (s = S)) && (decide (k = 0) || decide (k = K))

set_option maxRecDepth 100000 in
set_option maxHeartbeats 8000000 in
theorem planC1_calls (s k p S K : Int) (b1 b2 : Nat) (w : World) (h1 : Boxed w b1 3 (.int .i64 S)) (h2 : Boxed w b2 3 (.int .i64 K)) :
    Calls Tryz.prog 60 #[.agg #[.int .i64 s, .int .i64 k, .int .i64 p], .pointer (some ⟨b1, 0, none⟩), .pointer (some ⟨b2, 0, none⟩)] w fun e w' => e = .returned (.bool (brI s k S K)) ∧ Below w.heap.size w w' := by
  obtain ⟨b0, hb0⟩ : ∃ b0, w.heap.size = b0 := ⟨_, rfl⟩
  have Hb0 := Lib.hid hb0
  obtain ⟨W1, hW1⟩ : ∃ W1, w.alloc (.cells #[.int .i64 s, .int .i64 k, .int .i64 p] 100) = W1 := ⟨_, rfl⟩
  have hst : Below w.heap.size w W1 := hW1 ▸ bstep w _
  have hr : W1.heap[b0]? = some (.cells #[.int .i64 s, .int .i64 k, .int .i64 p] 100 (0, 0)) := by rw [← hb0, ← hW1]; exact World.alloc_heap_new w _
  have d0 := cell_of_row W1 b0 0 _ _ _ hr
  have d1 := cell_of_row W1 b0 1 _ _ _ hr
  have g1 : Boxed W1 b1 3 (.int .i64 S) := blk_below h1 hst
  have g2 : Boxed W1 b2 3 (.int .i64 K) := blk_below h2 hst
  have e1 := g1.cell
  have e2 := g2.cell
  have HB := Lib.hid hst
  unfold brI
  obtain ⟨x0, hx0⟩ : ∃ x, (s == 0) = x := ⟨_, rfl⟩
  obtain ⟨x1, hx1⟩ : ∃ x, (s == S) = x := ⟨_, rfl⟩
  obtain ⟨x2, hx2⟩ : ∃ x, (k == 0) = x := ⟨_, rfl⟩
  obtain ⟨x3, hx3⟩ : ∃ x, (k == K) = x := ⟨_, rfl⟩
  rw [show decide (s = 0) = x0 by rw [← hx0]; rfl, show decide (s = S) = x1 by rw [← hx1]; rfl, show decide (k = 0) = x2 by rw [← hx2]; rfl, show decide (k = K) = x3 by rw [← hx3]; rfl]
  clear hst hr h1 h2 g1 g2
  cases x0 <;> cases x1 <;> cases x2 <;> cases x3
  all_goals
    go_enter Tryz.func60, Tryz.ntmps60
    go_wp2_with fail
    go_ret
    exact ⟨rfl, by first | exact HB.out | exact HB.out.drewN _ | (rw [Hb0.out]; exact HB.out) | (rw [Hb0.out]; exact HB.out.drewN _) | (rw [← Hb0.out]; exact HB.out) | (rw [← Hb0.out]; exact HB.out.drewN _)⟩

set_option maxRecDepth 100000 in
set_option maxHeartbeats 8000000 in
theorem idxPlan_calls (A : Option Addr) (n c : Nat) (r : Nat → Nat → Int) (S K : Int) (b1 b2 : Nat) (w : World) (hR : IRows 3 kI w A n c r) (h1 : Boxed w b1 3 (.int .i64 S)) (h2 : Boxed w b2 3 (.int .i64 K)) :
    Calls Tryz.prog 59 #[.slice A n c, .func (.func 60) #[] #[.pointer (some ⟨b1, 0, none⟩), .pointer (some ⟨b2, 0, none⟩)]] w fun e w' => e = .returned (.int .i64 (idxI (fun k => brI (r k 0) (r k 1) S K) n)) ∧ Below w.heap.size w w' := by
  obtain ⟨b0, hb0⟩ : ∃ b0, w.heap.size = b0 := ⟨_, rfl⟩
  have Hb0 := Lib.hid hb0
  have HR := Lib.hid hR
  have HP := Lib.hid (And.intro h1 h2)
  clear h1 h2
  have hla := hR.1
  have hca := hR.2.1
  have hmx : maxLen = 9223372036854775807 := rfl
  have Hlen := Lib.hid (show n ≤ 9223372036854775807 by omega)
  obtain ⟨P, hP⟩ : ∃ P : Nat → Bool, (fun k => brI (r k 0) (r k 1) S K) = P := ⟨_, rfl⟩
  have HPd := Lib.hid hP
  have hB0 := Below.refl b0 w
  rw [hP]
  clear hR hla hca hmx hP
  go_enter Tryz.func59, Tryz.ntmps59
  go_wp2_with fail
  go_loopw [5, 8] (fun s5 i wr => ∃ k : Nat, k ≤ n ∧ i = .int .i64 k ∧ (∀ j, j < k → P j = false) ∧ Below b0 w wr) (fun _ i _ => n - (intOf i).toNat)
  case atStart => exact ⟨0, by omega, rfl, fun j hj => absurd hj (by omega), hB0⟩
  case round =>
    obtain ⟨k, hk, rfl, hA, hB⟩ := hrel
    clear hB0
    by_cases hlt : k < n
    · have hI : (k : Int) < n := by omega
      obtain ⟨sb, off, rfl, hsb, q0, q1, q2⟩ := br_at HR.out hlt
      have hc := trivial
      have hsb0 : sb < b0 := by have := Hb0.out; omega
      have c0 : wr.cell? ⟨sb, off + k * 3, none⟩ = some (.int .i64 (r k 0)) := (hB.cell (p := ⟨sb, off + k * 3, none⟩) hsb0).trans q0
      have c1 : wr.cell? ⟨sb, off + k * 3 + 1, none⟩ = some (.int .i64 (r k 1)) := (hB.cell (p := ⟨sb, off + k * 3 + 1, none⟩) hsb0).trans q1
      have c2 : wr.cell? ⟨sb, off + k * 3 + 2, none⟩ = some (.int .i64 (r k 2)) := (hB.cell (p := ⟨sb, off + k * 3 + 2, none⟩) hsb0).trans q2
      have HO := planC1_calls (r k 0) (r k 1) (r k 2) S K b1 b2 wr (blk_below HP.out.1 (Hb0.out.symm ▸ hB)) (blk_below HP.out.2 (Hb0.out.symm ▸ hB))
      obtain ⟨V, hV⟩ : ∃ V, (fun k => brI (r k 0) (r k 1) S K) k = V := ⟨_, rfl⟩
      have hV2 : P k = V := by rw [← HPd.out]; exact hV
      dsimp only at hV
      rw [hV] at HO
      replace HO := Lib.hid HO
      have HV := Lib.hid hV2
      have w1 : IntKind.i64.wrap ((k : Int) + 1) = (k : Int) + 1 := i64_same _ (by have := Hlen.out; omega)
      have X1 := Lib.hid (wrap64_in ((k : Int) + 1) (by have := Hlen.out; omega))
      have Hk := Lib.hid (show k + 1 ≤ n from hlt)
      have Hlt := Lib.hid hlt
      have HA := Lib.hid hA
      have HB := Lib.hid hB
      clear hc q0 q1 q2 hA hB hk hlt hV hV2
      cases V with
      | true =>
        go_wp2_with fail
        refine HO.out.mono ?_
        rintro e w4 ⟨rfl, hb4⟩
        go_wp2_with fail
        go_ret
        have hF : fstI P n = k := fstI_unique P n k (by have := Hlt.out; omega) (fun _ => HV.out) HA.out
        have hlt := Hlt.out
        have hv : idxI P n = (k : Int) := by unfold idxI; rw [hF, if_pos hlt]
        rw [hv]
        have hZ := HB.out.trans (hb4.mono (Hb0.out ▸ HB.out.size))
        exact ⟨rfl, by first | exact hZ | (rw [Hb0.out]; exact hZ)⟩
      | false =>
        have x1 := X1.out
        go_wp2_with fail
        refine HO.out.mono ?_
        rintro e w4 ⟨rfl, hb4⟩
        go_wp2_with fail
        clear x1
        exact ⟨⟨k + 1, Hk.out, by push_cast; rfl, fst_step HV.out HA.out, HB.out.trans (hb4.mono (Hb0.out ▸ HB.out.size))⟩, meas_z n k Hk.out⟩
    · obtain rfl : k = n := by omega
      have hI : ¬ ((k : Int) < k) := by omega
      have HBq := Lib.hid hB
      have hF : fstI P k = k := fstI_unique P k k (Nat.le_refl _) (fun h => absurd h (Nat.lt_irrefl _)) hA
      have hv : idxI P k = -1 := by unfold idxI; rw [hF, if_neg (Nat.lt_irrefl _)]
      have Hv := Lib.hid hv
      clear hA hk hlt hB hF hv
      go_wp2_with fail
      go_ret
      rw [Hv.out]
      exact ⟨rfl, by first | exact HBq.out | (rw [Hb0.out]; exact HBq.out)⟩

set_option maxRecDepth 100000 in
set_option maxHeartbeats 8000000 in
theorem plan_calls (A : Option Addr) (np cp : Nat) (F : Nat → SlX) (gp : Nat → Nat → Nat → Int) (R : Option Addr) (nr cr : Nat) (r : Nat → Nat → Int) (S K : Int) (hok : tabOk np (fun i => (F i).2.1) gp nr r) (hS : 0 ≤ S ∧ S ≤ 99) (hK : 1 ≤ K ∧ K ≤ 4) (w : World) (hP : RdPl w A np cp F gp) (hR : IRows 3 kI w R nr cr r) :
    Calls Tryz.prog 29 #[.agg #[.slice A np cp, .slice R nr cr], .int .i64 S, .int .i64 K] w fun e w' => e = .returned (.tuple #[.int .i64 (planV r nr S K), .bool true]) ∧ Below w.heap.size w w' := by
  obtain ⟨b0, hb0⟩ : ∃ b0, w.heap.size = b0 := ⟨_, rfl⟩
  have Hb0 := Lib.hid hb0
  obtain ⟨W1, hW1⟩ : ∃ W1, w.alloc (.cells #[.slice A np cp, .slice R nr cr] 32) = W1 := ⟨_, rfl⟩
  have hst1 : Below w.heap.size w W1 := hW1 ▸ bstep w _
  have hr1 : W1.heap[b0]? = some (.cells #[.slice A np cp, .slice R nr cr] 32 (0, 0)) := by rw [← hb0, ← hW1]; exact World.alloc_heap_new w _
  have hz1 : W1.heap.size = b0 + 1 := by rw [← hW1]; simp [hb0]
  obtain ⟨W2, hW2⟩ : ∃ W2, W1.alloc (.cells #[.int .i64 S] 3) = W2 := ⟨_, rfl⟩
  have hst2 : Below W1.heap.size W1 W2 := hW2 ▸ bstep W1 _
  have hr2 : Boxed W2 (b0 + 1) 3 (.int .i64 S) := by rw [← hz1, ← hW2]; exact Boxed.new W1 _ _
  have hz2 : W2.heap.size = b0 + 1 + 1 := by rw [← hW2]; simp [hz1]
  obtain ⟨W3, hW3⟩ : ∃ W3, W2.alloc (.cells #[.int .i64 K] 3) = W3 := ⟨_, rfl⟩
  have hst3 : Below W2.heap.size W2 W3 := hW3 ▸ bstep W2 _
  have hr3 : Boxed W3 (b0 + 1 + 1) 3 (.int .i64 K) := by rw [← hz2, ← hW3]; exact Boxed.new W2 _ _
  have hr13 := blk_below (blk_below hr1 hst2) hst3
  have hr23 : Boxed W3 (b0 + 1) 3 (.int .i64 S) := blk_below hr2 hst3
  have hst : Below w.heap.size w W3 := bnext (bnext hst1 hst2) hst3
  have hC := bandsCheck_calls A np cp F gp R nr cr r W3 (hP.go hst) (hR.go hst)
  rw [show tabE np (fun i => (F i).2.1) gp nr r = 0 from if_pos hok] at hC
  have HC := Lib.hid hC
  have HX := Lib.hid (And.intro hst (And.intro hr13 (And.intro hr23 (And.intro hr3 (hR.go hst)))))
  have d0 := cell_of_row W3 b0 0 _ _ _ hr13
  have d1 := cell_of_row W3 b0 1 _ _ _ hr13
  have e1 := hr23.cell
  have e2 := hr3.cell
  have k1 : decide (S < 0) = false := decide_eq_false (by omega)
  have k2 : decide (S > 99) = false := decide_eq_false (by omega)
  have k3 : decide (K < 1) = false := decide_eq_false (by omega)
  have k4 : decide (K > 4) = false := decide_eq_false (by omega)
  have Hn := Lib.hid hok.1.2.2
  obtain ⟨V, hV⟩ : ∃ V, planV r nr S K = V := ⟨_, rfl⟩
  obtain ⟨J, hJ⟩ : ∃ J, idxI (fun k => brI (r k 0) (r k 1) S K) nr = J := ⟨_, rfl⟩
  have HJ := Lib.hid hJ
  have hJV : (∃ f, f < nr ∧ J = (f : Int) ∧ V = r f 2) ∨ (J = -1 ∧ V = 0) := by
    have hv : planV r nr S K = if fstI (brIs r S K) nr < nr then r (fstI (brIs r S K) nr) 2 else 0 := rfl
    have hi : idxI (fun k => brI (r k 0) (r k 1) S K) nr = if fstI (brIs r S K) nr < nr then (fstI (brIs r S K) nr : Int) else -1 := rfl
    rw [hV] at hv
    rw [hJ] at hi
    by_cases h : fstI (brIs r S K) nr < nr
    · rw [if_pos h] at hv hi; exact .inl ⟨_, h, hi, hv⟩
    · rw [if_neg h] at hv hi; exact .inr ⟨hi, hv⟩
  have HJV := Lib.hid hJV
  rw [hV]
  clear hJV hV hJ
  clear hst1 hr1 hst2 hr2 hst3 hr3 hr13 hr23 hst hC hok hS hK hP hR
  go_enter Tryz.func29, Tryz.ntmps29
  go_wp2_with fail
  refine HC.out.mono ?_
  rintro e w4 ⟨rfl, hb4⟩
  obtain ⟨x1, x2, x3, x4, x5⟩ := HX.out
  have y2 := blk_below x2 hb4
  have y3 : Boxed w4 (b0 + 1) 3 (.int .i64 S) := blk_below x3 hb4
  have y4 : Boxed w4 (b0 + 1 + 1) 3 (.int .i64 K) := blk_below x4 hb4
  have hI := idxPlan_calls R nr cr r S K (b0 + 1) (b0 + 1 + 1) w4 (x5.go hb4) y3 y4
  rw [HJ.out] at hI
  have HI := Lib.hid hI
  clear hI
  have HY := Lib.hid (And.intro (bnext x1 hb4) (And.intro y2 (x5.go hb4)))
  replace d0 := cell_of_row w4 b0 0 _ _ _ y2
  replace d1 := cell_of_row w4 b0 1 _ _ _ y2
  replace e1 := y3.cell
  replace e2 := y4.cell
  clear x1 x2 x3 x4 x5 y2 y3 y4 hb4
  go_wp2_with fail
  refine HI.out.mono ?_
  rintro e w5 ⟨rfl, hb5⟩
  obtain ⟨x1, x2, x5⟩ := HY.out
  have y2 := blk_below x2 hb5
  have HB := Lib.hid (bnext x1 hb5)
  have hrR := x5.go hb5
  replace d0 := cell_of_row w5 b0 0 _ _ _ y2
  replace d1 := cell_of_row w5 b0 1 _ _ _ y2
  clear e1 e2 x1 x2 x5 y2 hb5
  rcases HJV.out with ⟨f, hlt, rfl, rfl⟩ | ⟨rfl, rfl⟩
  · obtain ⟨sb, off, rfl, hsb, q0, q1, q2⟩ := br_at hrR hlt
    have kk : decide ((f : Int) < 0) = false := decide_eq_false (by omega)
    have hI0 : (0 : Int) ≤ (f : Int) := by omega
    have hI : (f : Int) < (nr : Int) := by omega
    clear hlt hrR
    go_wp2_with fail
    go_ret2
    exact ⟨rfl, by first | exact HB.out | (rw [Hb0.out]; exact HB.out) | (rw [← Hb0.out]; exact HB.out)⟩
  · clear hrR
    go_wp2_with fail
    go_ret2
    exact ⟨rfl, by first | exact HB.out | (rw [Hb0.out]; exact HB.out) | (rw [← Hb0.out]; exact HB.out)⟩

end Go.Proofs.YtgbkedjjgbhcmaaGreatDoor

/-
  The stretches of a plan: bands.stretches and its iterator, walked. Conditions stand at each theorem.
-/
namespace Go.Proofs.YtgbkedjjgbhcmaaGreatDoor
open Go Go.RowKit Go.Kw Go.Kw.Cv Go.Shelf
attribute [local go_sem] Oper.semAt_some
set_option linter.unusedVariables false
set_option linter.unusedSimpArgs false

theorem stretches_calls (A : Option Addr) (n c : Nat) (w : World) :
    Calls Tryz.prog 61 #[.slice A n c] w fun e w' => e = .returned (.func (.func 76) #[] #[.pointer (some ⟨w.heap.size, 0, none⟩)]) ∧ w' = w.alloc (.cells #[.slice A n c] 50) := by
  go_enter Tryz.func61, Tryz.ntmps61
  go_wp2
  go_ret
  exact ⟨rfl, rfl⟩
/-- A stretch: from when on, until when, which band. -/
def strL (n : Nat) (g : Nat → Nat → Int) : List (Int × Int × Int) := (List.range n).map fun i => (g i 0, swEnd n g i, g i 1)
theorem strL_len (n : Nat) (g : Nat → Nat → Int) : (strL n g).length = n := by simp [strL]
theorem strL_at (n : Nat) (g : Nat → Nat → Int) {k : Nat} (h : k < n) : (strL n g)[k]? = some (g k 0, swEnd n g k, g k 1) := by simp [strL, h]
def strE (x : Int × Int × Int) : Array Value := #[.agg #[.int .i64 x.1, .int .i64 x.2.1], .int .i64 x.2.2]
/-- What the iterator holds: the slice's box, its entries in blocks below B. -/
def HoldT (cb B : Nat) (A : Option Addr) (n c : Nat) (g : Nat → Nat → Int) (W : World) : Prop :=
  Boxed W cb 50 (.slice A n c) ∧ Rd W B A (n * 2) (fun i => .int (kI (i % 2)) (g (i / 2) (i % 2)))
theorem HoldT.own {B₀ cb B : Nat} {A : Option Addr} {n c : Nat} {g : Nat → Nat → Int} : OwnW B₀ (HoldT cb B A n c g) := (boxed_ownW _ _ _ _).and (Rd.own _ _ _ _ _)
/-- THE ITERATOR'S WALK. -/
theorem rd_sw {W : World} {B : Nat} {A : Option Addr} {n : Nat} {g : Nat → Nat → Int} (h : Rd W B A (n * 2) (fun i => .int (kI (i % 2)) (g (i / 2) (i % 2)))) {k : Nat} (hk : k < n) : ∃ b off, A = some ⟨b, off, none⟩ ∧ b < B ∧ W.cell? ⟨b, off + k * 2, none⟩ = some (.int .i64 (g k 0)) ∧ W.cell? ⟨b, off + k * 2 + 1, none⟩ = some (.int .i64 (g k 1)) := by
  rcases h with h0 | ⟨b, off, e, hb, hc⟩
  · omega
  · refine ⟨b, off, e, hb, ?_, ?_⟩
    · have := hc (k * 2) (by omega)
      rw [this]
      show some (Value.int .i64 (g (k * 2 / 2) (k * 2 % 2))) = _
      rw [show k * 2 / 2 = k by omega, show k * 2 % 2 = 0 by omega]
    · have := hc (k * 2 + 1) (by omega)
      rw [← Nat.add_assoc] at this
      rw [this]
      show some (Value.int .i64 (g ((k * 2 + 1) / 2) ((k * 2 + 1) % 2))) = _
      rw [show (k * 2 + 1) / 2 = k by omega, show (k * 2 + 1) % 2 = 1 by omega]
set_option maxRecDepth 100000 in
set_option maxHeartbeats 8000000 in
theorem stretches_seq (cb B : Nat) (A : Option Addr) (n c : Nat) (g : Nat → Nat → Int) (hn : n ≤ 1000) (hc : n ≤ c ∧ c ≤ maxLen) :
    SeqW Tryz.prog 76 #[.pointer (some ⟨cb, 0, none⟩)] strE (strL n g) (fun A B => Below A.heap.size A B)
      (fun W => HoldT cb B A n c g W ∧ B ≤ W.heap.size) (fun _ W => HoldT cb B A n c g W ∧ B ≤ W.heap.size) (fun _ => True) (fun _ _ => True) := by
  intro lo J Jx hJ hJx hY W ⟨hH, hB⟩ h0
  have hF := wide_fn
  have HY := Lib.hid hY
  have HJJ := Lib.hid hJ
  have Hn := Lib.hid hn
  have hcn : (n : Int) ≤ (c : Int) := by omega
  have c0 := hH.1.cell
  rw [strL_len]
  clear hY hJ hJx
  refine callsIn_of_wp Tryz.func76 rfl (hF _) ?_ rfl
  simp only [Tryz.ntmps76, List.size_toArray, List.length_cons, List.length_nil, Nat.reduceAdd, Nat.reduceSub, Array.replicate_succ, Array.replicate_zero, List.push_toArray, List.append_toArray, List.nil_append, List.cons_append]
  gi_wp2
  clear c0
  gi_loopw [8] (fun i wr => ∃ k : Nat, k ≤ n ∧ i = .int .i64 k ∧ J k wr ∧ HoldT cb B A n c g wr ∧ B ≤ wr.heap.size) (fun i _ => n - (intOf i).toNat)
  case atStart => exact ⟨0, Nat.zero_le _, rfl, h0, hH, hB⟩
  case round =>
    obtain ⟨k, hk, rfl, hJk, hHk, hBs⟩ := hrel
    clear h0 hH hB
    by_cases hlt : k < n
    · have hI : (k : Int) < n := by omega
      obtain ⟨b, off, rfl, hbs, p0, p1⟩ := rd_sw hHk.2 hlt
      have hv := strL_at n g hlt
      obtain ⟨W1, hW1⟩ : ∃ W1, wr.alloc (.cells #[.int .i64 (g k 0), .int .i64 (g k 1)] 110) = W1 := ⟨_, rfl⟩
      have hst : Below wr.heap.size wr W1 := hW1 ▸ bstep wr _
      have hr1 : W1.heap[wr.heap.size]? = some (.cells #[.int .i64 (g k 0), .int .i64 (g k 1)] 110 (0, 0)) := hW1 ▸ World.alloc_heap_new wr _
      have d0 := cell_of_row W1 wr.heap.size 0 _ _ _ hr1
      have d1 := cell_of_row W1 wr.heap.size 1 _ _ _ hr1
      have hH1 : HoldT cb B (some ⟨b, off, none⟩) n c g W1 := ⟨blk_below hHk.1 hst, Rd.below hHk.2 (hst.mono hBs)⟩
      have cb1 := hH1.1.cell
      have hR1 := hH1.2
      have w1 : IntKind.i64.wrap ((k : Int) + 1) = (k : Int) + 1 := i64_same _ (by have := Hn.out; omega)
      have X1 := Lib.hid (wrap64_in ((k : Int) + 1) (by have := Hn.out; omega))
      by_cases hk2 : k + 1 < n
      · have hkI : ((k : Int) + 1 < (n : Int)) := by omega
        have hend : swEnd n g k = g (k + 1) 0 := if_pos hk2
        rw [hend] at hv
        obtain ⟨b2, o2, e5, -, q2⟩ := rd_sw hR1 hk2
        injection e5 with e5
        injection e5 with e6 e7
        subst e6 e7
        have hk3 : (0 : Int) ≤ (k : Int) + 1 := by omega
        have hkT : ((k : Int) + 1).toNat = k + 1 := by omega
        obtain ⟨fn, tmps, assign, body, hy, hYR⟩ := HY.out k _ W1 hv (HJJ.out k _ _ hJk hst) ⟨hH1, Nat.le_trans hBs hst.size⟩
        have HX := Lib.hid (And.intro hJk hst)
        have Hk := Lib.hid (show k + 1 ≤ n from hlt)
        unfold strE at hy
        have x1 := X1.out
        clear hv hJk hst hr1 hHk hBs hR1 hH1 hlt hk hend hk2
        gi_wp2
        refine hYR.mono ?_
        rintro e W3 ⟨hG3, (⟨rfl, hJ3⟩ | ⟨rfl, hJx3⟩)⟩
        · clear hy
          gi_wp2
          clear x1
          go_roundw
          case rel => exact ⟨k + 1, Hk.out, by push_cast; rfl, hJ3, hG3⟩
          case measure => exact meas_z n k Hk.out
        · clear hy
          gi_wp2
          first | (refine bodyPost_ret (results_none rfl _ _ _) rfl ?_) | go_end0
          first | exact ⟨⟨_, rfl⟩, .inr ⟨k, Hk.out, hJx3, trivial⟩⟩ | exact ⟨⟨_, rfl⟩, .inr ⟨k, Hk.out, hJx3⟩⟩
      · have hkI : ¬ ((k : Int) + 1 < (n : Int)) := by omega
        have hend : swEnd n g k = 1440 := if_neg hk2
        rw [hend] at hv
        obtain ⟨fn, tmps, assign, body, hy, hYR⟩ := HY.out k _ W1 hv (HJJ.out k _ _ hJk hst) ⟨hH1, Nat.le_trans hBs hst.size⟩
        have HX := Lib.hid (And.intro hJk hst)
        have Hk := Lib.hid (show k + 1 ≤ n from hlt)
        unfold strE at hy
        have x1 := X1.out
        clear hv hJk hst hr1 hHk hBs hR1 hH1 hlt hk hend hk2
        gi_wp2
        refine hYR.mono ?_
        rintro e W3 ⟨hG3, (⟨rfl, hJ3⟩ | ⟨rfl, hJx3⟩)⟩
        · clear hy
          gi_wp2
          clear x1
          go_roundw
          case rel => exact ⟨k + 1, Hk.out, by push_cast; rfl, hJ3, hG3⟩
          case measure => exact meas_z n k Hk.out
        · clear hy
          gi_wp2
          first | (refine bodyPost_ret (results_none rfl _ _ _) rfl ?_) | go_end0
          first | exact ⟨⟨_, rfl⟩, .inr ⟨k, Hk.out, hJx3, trivial⟩⟩ | exact ⟨⟨_, rfl⟩, .inr ⟨k, Hk.out, hJx3⟩⟩
    · obtain rfl : k = n := by omega
      have hI : ¬ ((k : Int) < k) := by omega
      gi_wp2
      go_end0
      first | exact ⟨⟨_, rfl⟩, .inl ⟨hJk, trivial⟩⟩ | exact ⟨⟨_, rfl⟩, .inl hJk⟩
end Go.Proofs.YtgbkedjjgbhcmaaGreatDoor

/-
  A minute's band: bands.Band of a plan that may be, walked. Conditions stand at each theorem.
-/
namespace Go.Proofs.YtgbkedjjgbhcmaaGreatDoor
open Go Go.RowKit Go.Kw Go.Kw.Cv Go.Shelf
attribute [local go_sem] Oper.semAt_some
set_option linter.unusedVariables false
set_option linter.unusedSimpArgs false

/-- An iterator whose values are known early, as one whose values are known late. -/
theorem seqX_late {α : Type} {F : Fence} {n : Nat} {P : Program} {g : Nat} {lb : Array Value} {encs : α → Array Value} {xs : List α} {Ab : World → World → Prop} {Gi : World → Prop} {G : Nat → World → Prop} {Gd : World → Prop} {Gs : Nat → World → Prop}
    (h : SeqX F n P g lb encs xs Ab Gi G Gd Gs) : SeqV F n P g lb xs.length (fun k v _ => ∃ x, xs[k]? = some x ∧ v = encs x) Ab Gi G Gd Gs :=
  fun l J Jx hJ hJx hY W hG h0 => h l J Jx hJ hJx (fun k x W1 hx hj hg => hY k (encs x) W1 (List.getElem?_eq_some_iff.1 hx).1 ⟨x, hx, rfl⟩ hj hg) W hG h0
theorem keepsBel {W W' : World} (h : Below W.heap.size W W') : KeepsOthers W W' := ⟨h.size, fun k o hk _ => (h.block k (Array.getElem?_eq_some_iff.1 hk).1).trans hk⟩
theorem sizeOwn (B₀ n : Nat) : OwnW B₀ (fun W => n ≤ W.heap.size) := fun _ _ _ h hg _ => Nat.le_trans h hg.size
/-- No stretch so far ends behind the minute; its box, and the band's. -/
def BandI (b0 p : Nat) (w : World) (n : Nat) (g : Nat → Nat → Int) (m : Int) (k : Nat) (W : World) : Prop :=
  (∀ j, j < k → swEnd n g j ≤ m) ∧ Boxed W b0 3 (.int .i64 m) ∧ Boxed W p 3 (.int .i64 0) ∧ Below b0 w W ∧ b0 ≤ W.heap.size
def BandX (b0 p : Nat) (w : World) (n : Nat) (g : Nat → Nat → Int) (m : Int) (c : Code) (k : Nat) (W : World) : Prop :=
  c = .exit 0 ∧ (∃ q, k = q + 1 ∧ q < n ∧ m < swEnd n g q ∧ (∀ j, j < q → swEnd n g j ≤ m) ∧ Boxed W p 3 (.int .i64 (g q 1))) ∧ Below b0 w W ∧ b0 ≤ W.heap.size
theorem bandI_own (b0 p : Nat) (w : World) (n : Nat) (g : Nat → Nat → Int) (m : Int) (k : Nat) (B : Nat) (hB : b0 ≤ B) : OwnW B (BandI b0 p w n g m k) :=
  (OwnW.const _).and ((boxed_ownW _ _ _ _).and ((boxed_ownW _ _ _ _).and (below_own hB)))
theorem bandX_own (b0 p : Nat) (w : World) (n : Nat) (g : Nat → Nat → Int) (m : Int) (c : Code) (k : Nat) (B : Nat) (hB : b0 ≤ B) : OwnW B (BandX b0 p w n g m c k) :=
  (OwnW.const _).and ((OwnW.ex fun q => (OwnW.const _).and ((OwnW.const _).and ((OwnW.const _).and ((OwnW.const _).and (boxed_ownW _ _ _ _))))).and (below_own hB))
theorem bandI_go {b0 p : Nat} {w : World} {n : Nat} {g : Nat → Nat → Int} {m : Int} {k : Nat} {A B : World} (h : BandI b0 p w n g m k A) (hb : Below A.heap.size A B) : BandI b0 p w n g m k B :=
  ⟨h.1, blk_below h.2.1 hb, blk_below h.2.2.1 hb, h.2.2.2.1.trans (hb.mono h.2.2.2.2), Nat.le_trans h.2.2.2.2 hb.size⟩
theorem bandX_go {b0 p : Nat} {w : World} {n : Nat} {g : Nat → Nat → Int} {m : Int} {c : Code} {k : Nat} {A B : World} (h : BandX b0 p w n g m c k A) (hb : Below A.heap.size A B) : BandX b0 p w n g m c k B := by
  obtain ⟨h1, ⟨q, h2, h3, h4, h5, h6⟩, h7, h8⟩ := h
  exact ⟨h1, ⟨q, h2, h3, h4, h5, blk_below h6 hb⟩, h7.trans (hb.mono h8), Nat.le_trans h8 hb.size⟩
theorem planE_ok {n : Nat} {g : Nat → Nat → Int} (h : planOk n g) : planE n g = 0 := if_pos h
theorem results_tmp45 {fn : Func} (hr : fn.results = #[.tmp 4, .tmp 5]) (tmps : Array Value) (P : Program) (W : World) : (results fn tmps).run P W = .ok (.tuple #[tmps.getD 4 undef, tmps.getD 5 undef]) W := by
  simp [results, hr, go_sem]
set_option maxRecDepth 100000 in
set_option maxHeartbeats 8000000 in
theorem band_calls (A : Option Addr) (n c : Nat) (g : Nat → Nat → Int) (m : Int) (hok : planOk n g) (hm : 0 ≤ m ∧ m < 1440) (w : World) (hR : IRows 2 kI w A n c g) :
    Calls Tryz.prog 30 #[.slice A n c, .int .i64 m] w fun e w' => e = .returned (.tuple #[.int .i64 (bandV n g m), .bool true]) ∧ Below w.heap.size w w' := by
  have hF := wide_fn
  obtain ⟨b0, hb0⟩ : ∃ b0, w.heap.size = b0 := ⟨_, rfl⟩
  have Hb0 := Lib.hid hb0
  have hst := bstep w (.cells #[.int .i64 m] 3)
  have hX := checkPlan_calls A n c g (w.alloc (.cells #[.int .i64 m] 3)) (hR.go hst)
  rw [planE_ok hok] at hX
  have HX := Lib.hid hX
  have HS := Lib.hid (And.intro hst (And.intro (Boxed.new w 3 (.int .i64 m)) hR))
  have HM := Lib.hid hm
  have HK := Lib.hid hok
  have k0 : decide (m < 0) = false := decide_eq_false (by omega)
  have k1 : decide (m ≥ 1440) = false := decide_eq_false (by omega)
  clear hst hX hR hm hok
  refine calls_of_marks Tryz.func30 rfl ?_
  simp only [Tryz.ntmps30, List.size_toArray, List.length_cons, List.length_nil, Nat.reduceAdd, Nat.reduceSub, Array.replicate_succ, Array.replicate_zero, List.push_toArray, List.append_toArray, List.nil_append, List.cons_append]
  gi_wp2_with (first | (refine wpIn_scope ?_) | (refine wpIn_label ?_))
  refine (callsIn_wide.2 HX.out).mono ?_
  rintro e w2 ⟨rfl, hb2⟩
  obtain ⟨h1, h2, h3⟩ := HS.out
  have hw2 : Below w.heap.size w w2 := bnext h1 hb2
  have bM : Boxed w2 b0 3 (.int .i64 m) := by rw [← Hb0.out]; exact blk_below h2 hb2
  have cM := bM.cell
  have hb0w : b0 ≤ w2.heap.size := by have := hw2.size; omega
  obtain ⟨p, hp⟩ : ∃ p, w2.heap.size = p := ⟨_, rfl⟩
  have Hp := Lib.hid hp
  have bO : Boxed (w2.alloc (.cells #[.int .i64 0] 3)) p 3 (.int .i64 0) := by rw [← hp]; exact Boxed.new w2 _ _
  have hs1 := bstep w2 (.cells #[.int .i64 0] 3)
  have bM1 := blk_below bM hs1
  have hz1 : (w2.alloc (.cells #[.int .i64 0] 3)).heap.size = p + 1 := by simp [hp]
  have HW := Lib.hid (And.intro hw2 (And.intro hb0w (And.intro bM1 (And.intro bO (And.intro hs1 hz1)))))
  have HR := Lib.hid h3
  clear h1 h2 h3 hw2 bM hb2 hb0w bO hs1 bM1 hz1
  gi_wp2_with (first | (refine wpIn_scope ?_) | (refine wpIn_label ?_))
  clear cM
  obtain ⟨hw2, hb0w, bM1, bO, hs1, hz1⟩ := HW.out
  obtain ⟨W3, hW3⟩ : ∃ W3, w2.alloc (.cells #[.int .i64 0] 3) = W3 := ⟨_, rfl⟩
  rw [hW3] at bM1 bO hs1 hz1
  have hw3 := bnext hw2 hs1
  refine (callsIn_wide.2 (stretches_calls A n c _)).mono ?_
  rw [hW3]
  have hs4 := bstep W3 (.cells #[.slice A n c] 50)
  have bS : Boxed (W3.alloc (.cells #[.slice A n c] 50)) (p + 1) 50 (.slice A n c) := by rw [← hz1]; exact Boxed.new W3 _ _
  have bM4 := blk_below bM1 hs4
  have bO4 := blk_below bO hs4
  have hw4 := bnext hw3 hs4
  have hz4 : (W3.alloc (.cells #[.slice A n c] 50)).heap.size = p + 2 := by simp [hz1]
  obtain ⟨W4, hW4⟩ : ∃ W4, W3.alloc (.cells #[.slice A n c] 50) = W4 := ⟨_, rfl⟩
  rw [hW4] at bS bM4 bO4 hw4 hz4
  rw [hW4, hz1]
  rintro e w4 ⟨rfl, rfl⟩
  have hR4 := HR.out.go hw4
  have hRd : Rd w4 b0 A (n * 2) (fun i => .int (kI (i % 2)) (g (i / 2) (i % 2))) := by
    have h := HR.out.2.2.2.1
    rw [Hb0.out] at h
    exact Rd.below h (Hb0.out ▸ hw4)
  have hcc := And.intro HR.out.1 HR.out.2.1
  have hn48 := HK.out.1.2.1
  rw [Hb0.out] at hw4
  clear hW3 hW4 hw2 hs1 hz1 hw3 hs4 bM1 bO hR4
  gi_wp2_with (first | (refine wpIn_scope ?_) | (refine wpIn_label ?_))
  have hpb : b0 ≤ p := by have := Hp.out; omega
  refine wpIn_rangeV rfl (by decide) (gf := 76) (lb := #[.pointer (some ⟨p + 1, 0, none⟩)]) rfl trivial (enters_of Tryz.func76 (by kernel_rfl) rfl)
    (seqX_late (stretches_seq (p + 1) b0 A n c g (by omega) hcc)) (fun A B h => keepsBel h) (fun k v W hv => by obtain ⟨x, -, rfl⟩ := hv; rfl)
    (HoldT.own.and (sizeOwn _ _)) (fun _ => HoldT.own.and (sizeOwn _ _)) (OwnW.const _) (fun _ => OwnW.const _) ⟨⟨bS, hRd⟩, by omega⟩
    (BandI b0 p w n g m) (BandX b0 p w n g m) (fun k => bandI_own _ _ _ _ _ _ _ _ (by omega)) (fun c k => bandX_own _ _ _ _ _ _ _ _ _ (by omega)) (fun k A B h hb => bandI_go h hb) (fun c k A B h hb => bandX_go h hb)
    ⟨fun j hj => absurd hj (by omega), bM4, bO4, hw4, by omega⟩ ?round ?done ?stop
  case round =>
    rintro lo k x W hk ⟨x, hx, rfl⟩ hI hG
    rw [strL_len] at hk
    rw [strL_at n g hk] at hx
    injection hx with hx
    subst hx
    unfold strE
    obtain ⟨W1, hW1⟩ : ∃ W1, W.alloc (.cells #[.int .i64 (g k 0), .int .i64 (swEnd n g k)] 123) = W1 := ⟨_, rfl⟩
    have hst : Below W.heap.size W W1 := hW1 ▸ bstep W _
    have hr1 : W1.heap[W.heap.size]? = some (.cells #[.int .i64 (g k 0), .int .i64 (swEnd n g k)] 123 (0, 0)) := hW1 ▸ World.alloc_heap_new W _
    obtain ⟨q, hq⟩ : ∃ q, W.heap.size = q := ⟨_, rfl⟩
    have Hq := Lib.hid hq
    rw [hq] at hr1
    have HI := Lib.hid hI
    have HG := Lib.hid (show HoldT (p + 1) b0 A n c g W1 ∧ b0 ≤ W1.heap.size from ⟨⟨blk_below hG.1.1 hst, Rd.below hG.1.2 (hst.mono hG.2)⟩, Nat.le_trans hG.2 hst.size⟩)
    have Hst := Lib.hid hst
    have Hr1 := Lib.hid hr1
    have HW1 := Lib.hid hW1
    clear bS bM4 bO4 hw4 hz4 hRd hcc hn48 hI hG hst hr1 hW1
    gi_wp2
    rw [HW1.out]
    refine ⟨keepsBel Hst.out, bandI_go HI.out Hst.out, HG.out, fun X => X.heap[q]? = some (.cells #[.int .i64 (g k 0), .int .i64 (swEnd n g k)] 123 (0, 0)), block_ownW, Hr1.out, ?_⟩
    rintro X hrX ⟨hall, hbM, hbO, hbw, hbs⟩ hGX hszX
    have cM := hbM.cell
    have c1 := cell_of_row X q 1 _ _ _ hrX
    obtain ⟨E, hE⟩ : ∃ E, swEnd n g k = E := ⟨_, rfl⟩
    rw [hE] at c1
    have HE := Lib.hid hE
    obtain ⟨D, hD⟩ : ∃ D, g k 1 = D := ⟨_, rfl⟩
    rw [hD]
    clear hE
    by_cases hlt : m < E
    · have kl : decide (m < E) = true := decide_eq_true hlt
      have fO := hbO.frozen
      have cO := hbO.cell
      have HH := Lib.hid (show KeepsOthers X (X.setCell ⟨p, 0, none⟩ (.int .i64 D)) ∧ (HoldT (p + 1) b0 A n c g (X.setCell ⟨p, 0, none⟩ (.int .i64 D)) ∧ b0 ≤ (X.setCell ⟨p, 0, none⟩ (.int .i64 D)).heap.size) ∧ BandX b0 p w n g m (.exit 0) (k + 1) (X.setCell ⟨p, 0, none⟩ (.int .i64 D)) from
        ⟨KeepsOthers.setCell _ _ _, ⟨⟨(heap_setCell_other X ⟨p, 0, none⟩ (p + 1) _ (by show p + 1 ≠ p; omega)).trans hGX.1.1, Rd.setCell hGX.1.2 (by show b0 ≤ p; exact hpb) _⟩, by simpa using hGX.2⟩,
          rfl, ⟨k, rfl, hk, by rw [HE.out]; exact hlt, hall, by rw [hD]; exact hbO.set _⟩, hbw.setCell (p := ⟨p, 0, none⟩) hpb _, by simpa using hbs⟩)
      clear hD hall hbM hbO hbw hbs hGX hszX hrX hlt
      gi_wp2
      exact HH.out
    · have kl : decide (m < E) = false := decide_eq_false hlt
      have HH := Lib.hid (show KeepsOthers X X ∧ (HoldT (p + 1) b0 A n c g X ∧ b0 ≤ X.heap.size) ∧ BandI b0 p w n g m (k + 1) X from
        ⟨KeepsOthers.refl _, hGX, fun j hj => by
          by_cases e : j = k
          · rw [e, HE.out]; omega
          · exact hall j (by omega), hbM, hbO, hbw, hbs⟩)
      clear hD hall hbM hbO hbw hbs hGX hszX hrX hlt
      gi_wp2
      exact HH.out
  case done =>
    rintro D W hD ⟨hall, hbM, hbO, hbw, hbs⟩ _ hK
    exfalso
    rw [strL_len] at hall
    have h1 := HK.out.1.1
    have h2 := hall (n - 1) (by omega)
    unfold swEnd at h2
    rw [if_neg (by omega)] at h2
    have := HM.out.2
    omega
  case stop =>
    rintro D c k W hD hk ⟨rfl, ⟨q, hkq, hq, h1, h2, hbO⟩, hbw, hbs⟩ _ hK
    obtain rfl : q = k := by omega
    have hDb : b0 ≤ D := by rw [hz4] at hD; omega
    have hv : bandV n g m = g q 1 := by unfold bandV; rw [swAt_first HK.out HM.out hq h1 h2]
    have HV := Lib.hid hv
    have cb := hbO.cell
    clear hv h1 h2 bS bM4 bO4 hw4 hz4 hRd hcc hn48
    gi_wp2
    refine ⟨by simp, .inl ⟨_, _, rfl, run_takeDeferred hK, ?_⟩⟩
    refine ⟨_, results_tmp45 rfl _ _ _, by rw [HV.out]; rfl, ?_⟩
    first | exact hbw.putObj hDb hbs _ | (rw [Hb0.out]; exact hbw.putObj hDb hbs _)
end Go.Proofs.YtgbkedjjgbhcmaaGreatDoor
