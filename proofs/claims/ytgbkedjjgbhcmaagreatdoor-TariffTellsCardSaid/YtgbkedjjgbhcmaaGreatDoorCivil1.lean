/-
  Leap years, months' days, whether a date may be: both sides, walked. Conditions stand at each theorem.
-/
import Derived.Test.YtgbkedjjgbhcmaaGreatDoorCivilPlain
import Derived.Test.YtgbkedjjgbhcmaaGreatDoorKept
import Derived.Test.YtgbkedjjgbhcmaaGreatDoorChecked
import Derived.LoopTactic
import Derived.Lib.Hide
import Derived.Laws.Rows
import Derived.Laws.Tables
import Derived.Deep.QuietTactic
import Derived.BigQuiet
import Derived.Deep.Draws
namespace Go.Proofs.YtgbkedjjgbhcmaaGreatDoor
open Go Go.RowKit Go.Kw Go.Kw.Cv
set_option linter.unusedVariables false
set_option linter.unusedSimpArgs false

def lenZ : List Int := [31, 28, 31, 30, 31, 30, 31, 31, 30, 31, 30, 31]
/-- The package's table of months' days. -/
def Lens (W : World) : Prop := ∀ i : Nat, i < 12 → W.cell? ⟨0, i, none⟩ = some (.int .i64 (lenZ.getD i 0))
theorem Lens.low {W : World} (h : Lens W) : 0 < W.heap.size := block_lt (h 0 (by omega))
theorem Lens.go {W W' : World} (h : Lens W) (hb : Below W.heap.size W W') : Lens W' := fun i hi => (hb.cell (p := ⟨0, i, none⟩) h.low).trans (h i hi)
theorem Lens.below {W W' : World} {B : Nat} (h : Lens W) (hb : Below B W W') (hB : 0 < B) : Lens W' := fun i hi => (hb.cell (p := ⟨0, i, none⟩) hB).trans (h i hi)
theorem Lens.alloc {W : World} (h : Lens W) (o : Obj) : Lens (W.alloc o) := h.go ((Below.refl _ W).alloc (Nat.le_refl _) o)
theorem Lens.own (B : Nat) : OwnW B Lens := fun W W' row h hg hr i hi => cell_kept (h i hi) hg (fun r e => (hr r e).2)
theorem tmod4 (y : Int) (hy : 0 ≤ y) : y.tmod 4 = y % 4 := Int.tmod_eq_emod_of_nonneg hy
theorem tmod100 (y : Int) (hy : 0 ≤ y) : y.tmod 100 = y % 100 := Int.tmod_eq_emod_of_nonneg hy
theorem tmod400 (y : Int) (hy : 0 ≤ y) : y.tmod 400 = y % 400 := Int.tmod_eq_emod_of_nonneg hy
theorem wrap64_in (x : Int) (h : -9223372036854775808 ≤ x ∧ x ≤ 9223372036854775807) : wrap64 x = x := by unfold wrap64; omega
theorem i64_same (x : Int) (h : -9223372036854775808 ≤ x ∧ x ≤ 9223372036854775807) : IntKind.i64.wrap x = x := IntWalk.i64_in x h
set_option maxHeartbeats 4000000 in
theorem leap_calls (y : Int) (hy : 0 ≤ y ∧ y ≤ 1000000) (w : World) : Calls Tryz.prog 94 #[.int .i64 y] w fun e w' => e = .returned (.bool (leapB y)) ∧ w' = w := by
  have e4 := tmod4 y hy.1
  have e1 := tmod100 y hy.1
  have e0 := tmod400 y hy.1
  have w4 := i64_same (y % 4) (by omega)
  have w1 := i64_same (y % 100) (by omega)
  have w0 := i64_same (y % 400) (by omega)
  have HL := Lib.hid (leapB_true y)
  go_enter Tryz.func94, Tryz.ntmps94
  go_wp2_with fail
  all_goals (go_ret; clear e4 e1 e0 w4 w1 w0 HL; exact ⟨by unfold leapB; simp_all <;> exact Bool.eq_iff_iff.2 (by simp), rfl⟩)
theorem lenZ_dim (y m : Int) (h : 1 ≤ m ∧ m ≤ 12) (h2 : m ≠ 2) : lenZ.getD (m - 1).toNat 0 = dim y m := by
  rcases month_cases h with rfl | rfl | rfl | rfl | rfl | rfl | rfl | rfl | rfl | rfl | rfl | rfl
  all_goals first | rfl | (exfalso; omega)
set_option maxHeartbeats 4000000 in
theorem days_calls (y m : Int) (hy : 0 ≤ y ∧ y ≤ 1000000) (w : World) (hL : Lens w) : Calls Tryz.prog 81 #[.int .i64 y, .int .i64 m] w fun e w' => e = .returned (.int .i64 (dim y m)) ∧ w' = w := by
  have HL := Lib.hid (leap_calls y hy)
  by_cases h1 : m < 1 ∨ 12 < m
  · rw [show dim y m = 0 from if_pos h1]
    have H1 := Lib.hid h1
    clear h1 hL HL
    go_enter Tryz.func81, Tryz.ntmps81
    go_wp2_with fail
    all_goals first | (go_ret; exact ⟨rfl, rfl⟩) | (exfalso; have := H1.out; omega)
  · have hm : 1 ≤ m ∧ m ≤ 12 := by omega
    by_cases h2 : m = 2
    · subst h2
      obtain ⟨b, hb⟩ : ∃ b, leapB y = b := ⟨_, rfl⟩
      have hd : dim y 2 = if b = true then 29 else 28 := by
        unfold dim lp; rw [hb]; cases b <;> rfl
      rw [hb] at HL
      cases b with
      | true =>
        rw [hd]
        clear hd hb h1 hm hL
        go_enter Tryz.func81, Tryz.ntmps81
        go_wp2_with fail
        refine (HL.out _).mono ?_
        rintro e w1 ⟨rfl, rfl⟩
        go_wp2_with fail
        go_ret
        exact ⟨rfl, rfl⟩
      | false =>
        rw [hd]
        have c0 : w.cell? ⟨0, 1, none⟩ = some (.int .i64 28) := hL 1 (by omega)
        clear hd hb h1 hm hL
        go_enter Tryz.func81, Tryz.ntmps81
        go_wp2_with fail
        refine (HL.out _).mono ?_
        rintro e w1 ⟨rfl, rfl⟩
        go_wp2_with fail
        go_ret
        exact ⟨rfl, rfl⟩
    · have c0 := hL (m - 1).toNat (by omega)
      rw [lenZ_dim y m hm h2, show (m - 1).toNat = m.toNat - 1 by omega] at c0
      have hb : (m == 2) = false := beq_eq_false_iff_ne.2 h2
      have w1 := i64_same (m - 1) (by omega)
      have w2 := Lib.hid (wrap64_in (m - 1) (by omega))
      have hm1 : 0 ≤ m - 1 ∧ m - 1 < 12 := by omega
      clear h1 hL h2
      have w3 := w2.out
      go_enter Tryz.func81, Tryz.ntmps81
      go_wp2_with fail
      go_ret
      exact ⟨rfl, rfl⟩
/-- What Check answers of a date. -/
def chkV (y m d : Int) : Int := if okD y m d then 0 else 60
set_option maxHeartbeats 4000000 in
set_option maxRecDepth 100000 in
theorem check_calls (y m d : Int) (w : World) (hL : Lens w) : Calls Tryz.prog 69 #[.agg #[.int .i64 y, .int .i64 m, .int .i64 d]] w fun e w' => e = .returned (.int .i64 (chkV y m d)) ∧ Below w.heap.size w w' := by
  have hb := (Below.refl w.heap.size w).alloc (Nat.le_refl _) (.cells #[.int .i64 y, .int .i64 m, .int .i64 d] 113)
  have hL1 := hL.alloc (.cells #[.int .i64 y, .int .i64 m, .int .i64 d] 113)
  by_cases h1 : 1970 ≤ y
  · have k1 : decide (y < 1970) = false := decide_eq_false (by omega)
    by_cases h2 : y ≤ 9999
    · have k2 : decide (y > 9999) = false := decide_eq_false (by omega)
      have HD := Lib.hid (fun W h => days_calls y m (by omega) W h)
      by_cases h3 : 1 ≤ d
      · have k3 : decide (d < 1) = false := decide_eq_false (by omega)
        obtain ⟨D, hD⟩ : ∃ D, dim y m = D := ⟨_, rfl⟩
        rw [hD] at HD
        by_cases h4 : d ≤ D
        · have k4 : decide (d > D) = false := decide_eq_false (by omega)
          rw [show chkV y m d = 0 from if_pos ⟨h1, h2, h3, by rw [hD]; exact h4⟩]
          clear hD
          have HB := Lib.hid hb
          clear hL hb
          go_enter Tryz.func69, Tryz.ntmps69
          go_wp2_with fail
          go_quiet ((go_at_call 81; exact Calls.quiet_of_same (HD.out _ hL1)))
          go_wp2_with fail
          go_ret
          exact ⟨rfl, HB.out.drewN _⟩
        · have k4 : decide (d > D) = true := decide_eq_true (by omega)
          rw [show chkV y m d = 60 from if_neg (fun h => h4 (by rw [← hD]; exact h.2.2.2))]
          clear hD
          have HB := Lib.hid hb
          clear hL hb
          go_enter Tryz.func69, Tryz.ntmps69
          go_wp2_with fail
          go_quiet ((go_at_call 81; exact Calls.quiet_of_same (HD.out _ hL1)))
          go_wp2_with fail
          go_ret
          exact ⟨rfl, HB.out.drewN _⟩
      · have k3 : decide (d < 1) = true := decide_eq_true (by omega)
        rw [show chkV y m d = 60 from if_neg (fun h => h3 h.2.2.1)]
        clear HD hL1
        have HB := Lib.hid hb
        clear hL hb
        go_enter Tryz.func69, Tryz.ntmps69
        go_wp2_with fail
        go_quiet (fail)
        go_wp2_with fail
        go_ret
        exact ⟨rfl, HB.out.drewN _⟩
    · have k2 : decide (y > 9999) = true := decide_eq_true (by omega)
      rw [show chkV y m d = 60 from if_neg (fun h => h2 h.2.1)]
      clear hL1
      have HB := Lib.hid hb
      clear hL hb
      go_enter Tryz.func69, Tryz.ntmps69
      go_wp2_with fail
      go_quiet (fail)
      go_wp2_with fail
      go_ret
      exact ⟨rfl, HB.out.drewN _⟩
  · have k1 : decide (y < 1970) = true := decide_eq_true (by omega)
    rw [show chkV y m d = 60 from if_neg (fun h => h1 h.1)]
    clear hL1
    have HB := Lib.hid hb
    clear hL hb
    go_enter Tryz.func69, Tryz.ntmps69
    go_wp2_with fail
    go_quiet (fail)
    go_wp2_with fail
    go_ret
    exact ⟨rfl, HB.out.drewN _⟩
end Go.Proofs.YtgbkedjjgbhcmaaGreatDoor
