/-
  The document's word on whether a holiday may be, walked. Conditions stand at each theorem.
-/
import Derived.Test.YtgbkedjjgbhcmaaGreatDoorDays1
namespace Go.Proofs.YtgbkedjjgbhcmaaGreatDoor
open Go Go.RowKit Go.Kw Go.Kw.Cv Go.Shelf
set_option linter.unusedVariables false
set_option linter.unusedSimpArgs false

set_option maxRecDepth 100000 in
set_option maxHeartbeats 8000000 in
theorem refHol2 (y m d wd n : Int) (w : World) : Calls Tryz.prog 51 #[.agg #[.int .i64 2, .int .i64 y, .int .i64 m, .int .i64 d, .int .i64 wd, .int .i64 n]] w fun e w' => e = .returned (.bool (decide (mayB 2 y m d wd n))) ∧ Below w.heap.size w w' := by
  by_cases h1 : wd = 0
  · subst h1
    by_cases h2 : n = 0
    · subst h2
      have HI := Lib.hid (refMay_calls y m d)
      by_cases hok : okD y m d
      · rw [decide_eq_true hok] at HI
        rw [show decide (mayB 2 y m d 0 0) = true from decide_eq_true (.inl ⟨rfl, rfl, rfl, hok⟩)]
        clear hok
        go_enter Tryz.func51, Tryz.ntmps51
        go_wp2_with fail
        refine (HI.out _).mono ?_
        rintro e w3 ⟨rfl, rfl⟩
        go_wp2_with fail
        go_ret
        exact ⟨rfl, bstep w _⟩
      · rw [decide_eq_false hok] at HI
        rw [show decide (mayB 2 y m d 0 0) = false from decide_eq_false (fun h => by rcases h with h | h | h | h <;> first | exact hok h.2.2.2 | exact hok h.2.2.2.2 | omega)]
        clear hok
        go_enter Tryz.func51, Tryz.ntmps51
        go_wp2_with fail
        refine (HI.out _).mono ?_
        rintro e w3 ⟨rfl, rfl⟩
        go_wp2_with fail
        go_ret
        exact ⟨rfl, bstep w _⟩
    · rw [show decide (mayB 2 y m d 0 n) = false from decide_eq_false (fun h => by rcases h with h | h | h | h <;> omega)]
      have kb : (n == 0) = false := beq_eq_false_iff_ne.2 h2
      clear h2
      go_enter Tryz.func51, Tryz.ntmps51
      go_wp2_with fail
      go_ret
      exact ⟨rfl, bstep w _⟩
  · rw [show decide (mayB 2 y m d wd n) = false from decide_eq_false (fun h => by rcases h with h | h | h | h <;> omega)]
    have kb : (wd == 0) = false := beq_eq_false_iff_ne.2 h1
    clear h1
    go_enter Tryz.func51, Tryz.ntmps51
    go_wp2_with fail
    go_ret
    exact ⟨rfl, bstep w _⟩
set_option maxRecDepth 100000 in
set_option maxHeartbeats 8000000 in
theorem refHol1 (y m d wd n : Int) (w : World) : Calls Tryz.prog 51 #[.agg #[.int .i64 1, .int .i64 y, .int .i64 m, .int .i64 d, .int .i64 wd, .int .i64 n]] w fun e w' => e = .returned (.bool (decide (mayB 1 y m d wd n))) ∧ Below w.heap.size w w' := by
  by_cases h1 : y = 0
  · subst h1
    by_cases h2 : wd = 0
    · subst h2
      by_cases h3 : n = 0
      · subst h3
        have HI := Lib.hid (refMay_calls 2000 m d)
        by_cases hok : okD 2000 m d
        · rw [decide_eq_true hok] at HI
          rw [show decide (mayB 1 0 m d 0 0) = true from decide_eq_true (.inr (.inl ⟨rfl, rfl, rfl, rfl, hok⟩))]
          clear hok
          go_enter Tryz.func51, Tryz.ntmps51
          go_wp2_with fail
          refine (HI.out _).mono ?_
          rintro e w3 ⟨rfl, rfl⟩
          go_wp2_with fail
          go_ret
          exact ⟨rfl, bstep w _⟩
        · rw [decide_eq_false hok] at HI
          rw [show decide (mayB 1 0 m d 0 0) = false from decide_eq_false (fun h => by rcases h with h | h | h | h <;> first | exact hok h.2.2.2 | exact hok h.2.2.2.2 | omega)]
          clear hok
          go_enter Tryz.func51, Tryz.ntmps51
          go_wp2_with fail
          refine (HI.out _).mono ?_
          rintro e w3 ⟨rfl, rfl⟩
          go_wp2_with fail
          go_ret
          exact ⟨rfl, bstep w _⟩
      · rw [show decide (mayB 1 0 m d 0 n) = false from decide_eq_false (fun h => by rcases h with h | h | h | h <;> omega)]
        have kb : (n == 0) = false := beq_eq_false_iff_ne.2 h3
        clear h3
        go_enter Tryz.func51, Tryz.ntmps51
        go_wp2_with fail
        go_ret
        exact ⟨rfl, bstep w _⟩
    · rw [show decide (mayB 1 0 m d wd n) = false from decide_eq_false (fun h => by rcases h with h | h | h | h <;> omega)]
      have kb : (wd == 0) = false := beq_eq_false_iff_ne.2 h2
      clear h2
      go_enter Tryz.func51, Tryz.ntmps51
      go_wp2_with fail
      go_ret
      exact ⟨rfl, bstep w _⟩
  · rw [show decide (mayB 1 y m d wd n) = false from decide_eq_false (fun h => by rcases h with h | h | h | h <;> omega)]
    have kb : (y == 0) = false := beq_eq_false_iff_ne.2 h1
    clear h1
    go_enter Tryz.func51, Tryz.ntmps51
    go_wp2_with fail
    go_ret
    exact ⟨rfl, bstep w _⟩
set_option maxRecDepth 100000 in
set_option maxHeartbeats 8000000 in
theorem refHol3 (y m d wd n : Int) (w : World) : Calls Tryz.prog 51 #[.agg #[.int .i64 3, .int .i64 y, .int .i64 m, .int .i64 d, .int .i64 wd, .int .i64 n]] w fun e w' => e = .returned (.bool (decide (mayB 3 y m d wd n))) ∧ Below w.heap.size w w' := by
  by_cases h1 : y = 0
  · subst h1
    by_cases h2 : d = 0
    · subst h2
      by_cases h3 : m ≥ 1
      · have bh3 : decide (m ≥ 1) = true := decide_eq_true h3
        by_cases h4 : m ≤ 12
        · have bh4 : decide (m ≤ 12) = true := decide_eq_true h4
          by_cases h5 : wd ≥ 1
          · have bh5 : decide (wd ≥ 1) = true := decide_eq_true h5
            by_cases h6 : wd ≤ 7
            · have bh6 : decide (wd ≤ 7) = true := decide_eq_true h6
              by_cases hn : n = -1
              · subst hn
                rw [show decide (mayB 3 0 m 0 wd (-1)) = true from decide_eq_true (.inr (.inr (.inl ⟨rfl, rfl, rfl, by omega, by omega, by omega, by omega, .inl rfl⟩)))]
                go_enter Tryz.func51, Tryz.ntmps51
                go_wp2_with fail
                go_ret
                exact ⟨rfl, bstep w _⟩
              · have kn : (n == -1) = false := beq_eq_false_iff_ne.2 hn
                by_cases hn1 : n ≥ 1
                · have kn1 : decide (n ≥ 1) = true := decide_eq_true hn1
                  by_cases hn5 : n ≤ 5
                  · have kn5 : decide (n ≤ 5) = true := decide_eq_true hn5
                    rw [show decide (mayB 3 0 m 0 wd n) = true from decide_eq_true (.inr (.inr (.inl ⟨rfl, rfl, rfl, by omega, by omega, by omega, by omega, .inr ⟨by omega, by omega⟩⟩)))]
                    clear hn hn1 hn5
                    go_enter Tryz.func51, Tryz.ntmps51
                    go_wp2_with fail
                    go_ret
                    exact ⟨rfl, bstep w _⟩
                  · have kn5 : decide (n ≤ 5) = false := decide_eq_false hn5
                    rw [show decide (mayB 3 0 m 0 wd n) = false from decide_eq_false (fun h => by rcases h with h | h | h | h <;> omega)]
                    clear hn hn1 hn5
                    go_enter Tryz.func51, Tryz.ntmps51
                    go_wp2_with fail
                    go_ret
                    exact ⟨rfl, bstep w _⟩
                · have kn1 : decide (n ≥ 1) = false := decide_eq_false hn1
                  rw [show decide (mayB 3 0 m 0 wd n) = false from decide_eq_false (fun h => by rcases h with h | h | h | h <;> omega)]
                  clear hn hn1
                  go_enter Tryz.func51, Tryz.ntmps51
                  go_wp2_with fail
                  go_ret
                  exact ⟨rfl, bstep w _⟩
            · rw [show decide (mayB 3 0 m 0 wd n) = false from decide_eq_false (fun h => by rcases h with h | h | h | h <;> omega)]
              have kb : decide (wd ≤ 7) = false := decide_eq_false h6
              clear h6
              go_enter Tryz.func51, Tryz.ntmps51
              go_wp2_with fail
              go_ret
              exact ⟨rfl, bstep w _⟩
          · rw [show decide (mayB 3 0 m 0 wd n) = false from decide_eq_false (fun h => by rcases h with h | h | h | h <;> omega)]
            have kb : decide (wd ≥ 1) = false := decide_eq_false h5
            clear h5
            go_enter Tryz.func51, Tryz.ntmps51
            go_wp2_with fail
            go_ret
            exact ⟨rfl, bstep w _⟩
        · rw [show decide (mayB 3 0 m 0 wd n) = false from decide_eq_false (fun h => by rcases h with h | h | h | h <;> omega)]
          have kb : decide (m ≤ 12) = false := decide_eq_false h4
          clear h4
          go_enter Tryz.func51, Tryz.ntmps51
          go_wp2_with fail
          go_ret
          exact ⟨rfl, bstep w _⟩
      · rw [show decide (mayB 3 0 m 0 wd n) = false from decide_eq_false (fun h => by rcases h with h | h | h | h <;> omega)]
        have kb : decide (m ≥ 1) = false := decide_eq_false h3
        clear h3
        go_enter Tryz.func51, Tryz.ntmps51
        go_wp2_with fail
        go_ret
        exact ⟨rfl, bstep w _⟩
    · rw [show decide (mayB 3 0 m d wd n) = false from decide_eq_false (fun h => by rcases h with h | h | h | h <;> omega)]
      have kb : (d == 0) = false := beq_eq_false_iff_ne.2 h2
      clear h2
      go_enter Tryz.func51, Tryz.ntmps51
      go_wp2_with fail
      go_ret
      exact ⟨rfl, bstep w _⟩
  · rw [show decide (mayB 3 y m d wd n) = false from decide_eq_false (fun h => by rcases h with h | h | h | h <;> omega)]
    have kb : (y == 0) = false := beq_eq_false_iff_ne.2 h1
    clear h1
    go_enter Tryz.func51, Tryz.ntmps51
    go_wp2_with fail
    go_ret
    exact ⟨rfl, bstep w _⟩
set_option maxRecDepth 100000 in
set_option maxHeartbeats 8000000 in
theorem refHol4 (y m d wd n : Int) (w : World) : Calls Tryz.prog 51 #[.agg #[.int .i64 4, .int .i64 y, .int .i64 m, .int .i64 d, .int .i64 wd, .int .i64 n]] w fun e w' => e = .returned (.bool (decide (mayB 4 y m d wd n))) ∧ Below w.heap.size w w' := by
  by_cases h1 : y = 0
  · subst h1
    by_cases h2 : m = 0
    · subst h2
      by_cases h3 : d = 0
      · subst h3
        by_cases h4 : wd = 0
        · subst h4
          by_cases h5 : n ≥ -100
          · have bh5 : decide (n ≥ -100) = true := decide_eq_true h5
            by_cases h6 : n ≤ 200
            · have bh6 : decide (n ≤ 200) = true := decide_eq_true h6
              rw [show decide (mayB 4 0 0 0 0 n) = true from decide_eq_true (.inr (.inr (.inr ⟨rfl, rfl, rfl, rfl, rfl, by omega, by omega⟩)))]
              go_enter Tryz.func51, Tryz.ntmps51
              go_wp2_with fail
              go_ret
              exact ⟨rfl, bstep w _⟩
            · rw [show decide (mayB 4 0 0 0 0 n) = false from decide_eq_false (fun h => by rcases h with h | h | h | h <;> omega)]
              have kb : decide (n ≤ 200) = false := decide_eq_false h6
              clear h6
              go_enter Tryz.func51, Tryz.ntmps51
              go_wp2_with fail
              go_ret
              exact ⟨rfl, bstep w _⟩
          · rw [show decide (mayB 4 0 0 0 0 n) = false from decide_eq_false (fun h => by rcases h with h | h | h | h <;> omega)]
            have kb : decide (n ≥ -100) = false := decide_eq_false h5
            clear h5
            go_enter Tryz.func51, Tryz.ntmps51
            go_wp2_with fail
            go_ret
            exact ⟨rfl, bstep w _⟩
        · rw [show decide (mayB 4 0 0 0 wd n) = false from decide_eq_false (fun h => by rcases h with h | h | h | h <;> omega)]
          have kb : (wd == 0) = false := beq_eq_false_iff_ne.2 h4
          clear h4
          go_enter Tryz.func51, Tryz.ntmps51
          go_wp2_with fail
          go_ret
          exact ⟨rfl, bstep w _⟩
      · rw [show decide (mayB 4 0 0 d wd n) = false from decide_eq_false (fun h => by rcases h with h | h | h | h <;> omega)]
        have kb : (d == 0) = false := beq_eq_false_iff_ne.2 h3
        clear h3
        go_enter Tryz.func51, Tryz.ntmps51
        go_wp2_with fail
        go_ret
        exact ⟨rfl, bstep w _⟩
    · rw [show decide (mayB 4 0 m d wd n) = false from decide_eq_false (fun h => by rcases h with h | h | h | h <;> omega)]
      have kb : (m == 0) = false := beq_eq_false_iff_ne.2 h2
      clear h2
      go_enter Tryz.func51, Tryz.ntmps51
      go_wp2_with fail
      go_ret
      exact ⟨rfl, bstep w _⟩
  · rw [show decide (mayB 4 y m d wd n) = false from decide_eq_false (fun h => by rcases h with h | h | h | h <;> omega)]
    have kb : (y == 0) = false := beq_eq_false_iff_ne.2 h1
    clear h1
    go_enter Tryz.func51, Tryz.ntmps51
    go_wp2_with fail
    go_ret
    exact ⟨rfl, bstep w _⟩
set_option maxRecDepth 100000 in
set_option maxHeartbeats 8000000 in
theorem refHol_calls (k y m d wd n : Int) (w : World) : Calls Tryz.prog 51 #[.agg #[.int .i64 k, .int .i64 y, .int .i64 m, .int .i64 d, .int .i64 wd, .int .i64 n]] w fun e w' => e = .returned (.bool (decide (mayB k y m d wd n))) ∧ Below w.heap.size w w' := by
  by_cases k2 : k = 2
  · subst k2; exact refHol2 y m d wd n w
  · by_cases k1 : k = 1
    · subst k1; exact refHol1 y m d wd n w
    · by_cases k3 : k = 3
      · subst k3; exact refHol3 y m d wd n w
      · by_cases k4 : k = 4
        · subst k4; exact refHol4 y m d wd n w
        · rw [show decide (mayB k y m d wd n) = false from decide_eq_false (fun h => by rcases h with h | h | h | h <;> omega)]
          have q1 : (k == 1) = false := beq_eq_false_iff_ne.2 k1
          have q2 : (k == 2) = false := beq_eq_false_iff_ne.2 k2
          have q3 : (k == 3) = false := beq_eq_false_iff_ne.2 k3
          have q4 : (k == 4) = false := beq_eq_false_iff_ne.2 k4
          clear k1 k2 k3 k4
          go_enter Tryz.func51, Tryz.ntmps51
          go_wp2_with fail
          go_ret
          exact ⟨rfl, bstep w _⟩
end Go.Proofs.YtgbkedjjgbhcmaaGreatDoor
