/-
  The document's calendar, walked: Leap, Days, May, Day, Weekday. Conditions stand at each theorem.
-/
import Derived.Test.YtgbkedjjgbhcmaaGreatDoorCivil6
namespace Go.Proofs.YtgbkedjjgbhcmaaGreatDoor
open Go Go.RowKit Go.Kw Go.Kw.Cv Go.Shelf
set_option linter.unusedVariables false
set_option linter.unusedSimpArgs false

set_option maxHeartbeats 4000000 in
theorem refLeap_calls (y : Int) (hy : 0 ≤ y ∧ y ≤ 1000000) (w : World) : Calls Tryz.prog 78 #[.int .i64 y] w fun e w' => e = .returned (.bool (leapB y)) ∧ w' = w := by
  have e4 := tmod4 y hy.1
  have e1 := tmod100 y hy.1
  have e0 := tmod400 y hy.1
  have w4 := i64_same (y % 4) (by omega)
  have w1 := i64_same (y % 100) (by omega)
  have w0 := i64_same (y % 400) (by omega)
  have HL := Lib.hid (leapB_true y)
  by_cases h400 : y % 400 = 0
  · have hb : (y % 400 == 0) = true := beq_iff_eq.2 h400
    have hl : leapB y = true := (leapB_true y).2 ⟨by omega, .inr h400⟩
    rw [hl]
    clear hl h400 HL
    go_enter Tryz.func78, Tryz.ntmps78
    go_wp2_with fail
    go_ret
    exact ⟨rfl, rfl⟩
  · have hb : (y % 400 == 0) = false := beq_eq_false_iff_ne.2 h400
    have H4 := Lib.hid h400
    go_enter Tryz.func78, Tryz.ntmps78
    go_wp2_with fail
    all_goals (go_ret; clear e4 e1 e0 w4 w1 w0 HL hb; have := H4.out; clear H4; exact ⟨by unfold leapB; simp_all <;> exact Bool.eq_iff_iff.2 (by simp), rfl⟩)
set_option maxHeartbeats 4000000 in
theorem refDays_calls (y m : Int) (hy : 0 ≤ y ∧ y ≤ 1000000) (w : World) : Calls Tryz.prog 66 #[.int .i64 y, .int .i64 m] w fun e w' => e = .returned (.int .i64 (dim y m)) ∧ w' = w := by
  have HL := Lib.hid (refLeap_calls y hy)
  by_cases h2 : m = 2
  · subst h2
    obtain ⟨b, hb⟩ : ∃ b, leapB y = b := ⟨_, rfl⟩
    have hd : dim y 2 = if b = true then 29 else 28 := by
      unfold dim lp; rw [hb]; cases b <;> rfl
    rw [hb] at HL
    cases b with
    | true =>
      rw [hd]
      clear hd hb
      go_enter Tryz.func66, Tryz.ntmps66
      go_wp2_with fail
      refine (HL.out _).mono ?_
      rintro e w1 ⟨rfl, rfl⟩
      go_wp2_with fail
      go_ret
      exact ⟨rfl, rfl⟩
    | false =>
      rw [hd]
      clear hd hb
      go_enter Tryz.func66, Tryz.ntmps66
      go_wp2_with fail
      refine (HL.out _).mono ?_
      rintro e w1 ⟨rfl, rfl⟩
      go_wp2_with fail
      go_ret
      exact ⟨rfl, rfl⟩
  · have hb2 : (m == 2) = false := beq_eq_false_iff_ne.2 h2
    by_cases h30 : m = 4 ∨ m = 6 ∨ m = 9 ∨ m = 11
    · have hd : dim y m = 30 := by
        unfold dim
        rw [if_neg (by omega), if_neg h2, if_pos h30]
      rw [hd]
      clear hd HL
      rcases h30 with rfl | rfl | rfl | rfl
      all_goals
        go_enter Tryz.func66, Tryz.ntmps66
        go_wp2_with fail
        go_ret
        exact ⟨rfl, rfl⟩
    · have k4 : (m == 4) = false := beq_eq_false_iff_ne.2 (by omega)
      have k6 : (m == 6) = false := beq_eq_false_iff_ne.2 (by omega)
      have k9 : (m == 9) = false := beq_eq_false_iff_ne.2 (by omega)
      have k11 : (m == 11) = false := beq_eq_false_iff_ne.2 (by omega)
      by_cases hr : m < 1 ∨ 12 < m
      · rw [show dim y m = 0 from if_pos hr]
        have HR := Lib.hid hr
        clear hr h30 h2 HL
        go_enter Tryz.func66, Tryz.ntmps66
        go_wp2_with fail
        all_goals first | (go_ret; exact ⟨rfl, rfl⟩) | (exfalso; have := HR.out; omega)
      · have hd : dim y m = 31 := by
          unfold dim
          rw [if_neg hr, if_neg h2, if_neg h30]
        have q1 : decide (m < 1) = false := decide_eq_false (by omega)
        have q2 : decide (m > 12) = false := decide_eq_false (by omega)
        rw [hd]
        clear hd hr h30 h2 HL
        go_enter Tryz.func66, Tryz.ntmps66
        go_wp2_with fail
        go_ret
        exact ⟨rfl, rfl⟩
set_option maxHeartbeats 8000000 in
theorem refMay_calls (y m d : Int) (w : World) : Calls Tryz.prog 52 #[.int .i64 y, .int .i64 m, .int .i64 d] w fun e w' => e = .returned (.bool (decide (okD y m d))) ∧ w' = w := by
  by_cases hr : 1970 ≤ y ∧ y ≤ 9999 ∧ 1 ≤ m ∧ m ≤ 12 ∧ 1 ≤ d
  · obtain ⟨D, hD⟩ : ∃ D, dim y m = D := ⟨_, rfl⟩
    have HD := Lib.hid (refDays_calls y m (by omega))
    rw [hD] at HD
    have k1 : decide (y ≥ 1970) = true := decide_eq_true (by omega)
    have k2 : decide (y ≤ 9999) = true := decide_eq_true (by omega)
    have k3 : decide (m ≥ 1) = true := decide_eq_true (by omega)
    have k4 : decide (m ≤ 12) = true := decide_eq_true (by omega)
    have k5 : decide (d ≥ 1) = true := decide_eq_true (by omega)
    have he : decide (okD y m d) = decide (d ≤ D) := by
      rw [decide_eq_decide]; unfold okD; rw [hD]; omega
    rw [he]
    clear he hD hr
    go_enter Tryz.func52, Tryz.ntmps52
    go_wp2_with fail
    refine (HD.out _).mono ?_
    rintro e w1 ⟨rfl, rfl⟩
    go_wp2_with fail
    go_ret
    exact ⟨rfl, rfl⟩
  · have he : decide (okD y m d) = false := decide_eq_false fun h => hr ⟨h.1, h.2.1, (dim_month h).1, (dim_month h).2, h.2.2.1⟩
    rw [he]
    have HR := Lib.hid hr
    clear he hr
    go_enter Tryz.func52, Tryz.ntmps52
    go_wp2_with fail
    trace_state
    all_goals first | (go_ret; exact ⟨rfl, rfl⟩) | (exfalso; have := HR.out; omega)
end Go.Proofs.YtgbkedjjgbhcmaaGreatDoor
