/-
  Whether a holiday may be: both sides, walked. Conditions stand at each theorem.
-/
import Derived.Test.YtgbkedjjgbhcmaaGreatDoorRefCiv4
import Derived.Test.YtgbkedjjgbhcmaaGreatDoorIntRows
import Derived.Laws.StructEq
import Derived.BigRegion
namespace Go.Proofs.YtgbkedjjgbhcmaaGreatDoor
open Go Go.RowKit Go.Kw Go.Kw.Cv Go.Shelf
set_option linter.unusedVariables false
set_option linter.unusedSimpArgs false

theorem in_calls (n a b : Int) (w : World) : Calls Tryz.prog 41 #[.int .i64 n, .int .i64 a, .int .i64 b] w fun e w' => e = .returned (.bool (decide (a ≤ n) && decide (n ≤ b))) ∧ w' = w := by
  go_enter Tryz.func41, Tryz.ntmps41
  go_wp2_with fail
  all_goals (go_ret; simp_all; try omega)
theorem is_calls (y m d : Int) (w : World) (hL : Lens w) : Calls Tryz.prog 42 #[.int .i64 y, .int .i64 m, .int .i64 d] w fun e w' => e = .returned (.bool (decide (okD y m d))) ∧ Below w.heap.size w w' := by
  have HC := Lib.hid (check_calls y m d w hL)
  by_cases h : okD y m d
  · rw [chk_ok h] at HC
    rw [decide_eq_true h]
    clear h
    go_enter Tryz.func42, Tryz.ntmps42
    go_wp2_with fail
    refine HC.out.mono ?_
    rintro e w1 ⟨rfl, hb⟩
    go_wp2_with fail
    go_ret
    exact ⟨rfl, hb⟩
  · rw [chk_no h] at HC
    rw [decide_eq_false h]
    clear h
    go_enter Tryz.func42, Tryz.ntmps42
    go_wp2_with fail
    refine HC.out.mono ?_
    rintro e w1 ⟨rfl, hb⟩
    go_wp2_with fail
    go_ret
    exact ⟨rfl, hb⟩
theorem place_calls (m d : Int) (w : World) : Calls Tryz.prog 43 #[.int .i64 m, .int .i64 d] w fun e w' => e = .returned (.int .i64 (wrap64 (wrap64 (100 * m) + d))) ∧ w' = w := by
  have w1 : IntKind.i64.wrap (100 * m) = wrap64 (100 * m) := by rw [IntKind.wrap_i64]; unfold wrap64; omega
  go_enter Tryz.func43, Tryz.ntmps43
  go_wp2_with fail
  go_ret
  exact ⟨rfl, rfl⟩
/-- A holiday that may be. -/
def mayB (k y m d wd n : Int) : Prop :=
  (k = 2 ∧ wd = 0 ∧ n = 0 ∧ okD y m d) ∨ (k = 1 ∧ y = 0 ∧ wd = 0 ∧ n = 0 ∧ okD 2000 m d) ∨
    (k = 3 ∧ y = 0 ∧ d = 0 ∧ 1 ≤ m ∧ m ≤ 12 ∧ 1 ≤ wd ∧ wd ≤ 7 ∧ (n = -1 ∨ (1 ≤ n ∧ n ≤ 5))) ∨ (k = 4 ∧ y = 0 ∧ m = 0 ∧ d = 0 ∧ wd = 0 ∧ -100 ≤ n ∧ n ≤ 200)
instance (k y m d wd n : Int) : Decidable (mayB k y m d wd n) := by unfold mayB; infer_instance
set_option maxRecDepth 100000 in
theorem eq_hol (a b c d e f a' b' c' d' e' f' : Int) (w : World) : (Op.equalIn 10000 93 (.agg #[.int .i64 a, .int .i64 b, .int .i64 c, .int .i64 d, .int .i64 e, .int .i64 f]) (.agg #[.int .i64 a', .int .i64 b', .int .i64 c', .int .i64 d', .int .i64 e', .int .i64 f'])).run Tryz.prog w =
    .ok (a == a' && b == b' && c == c' && d == d' && e == e' && f == f') w := by
  have u3 := Tryz.underlying3
  have hS : Tryz.prog.underlying 93 = some (.struct (Tryz.prog.fieldsOf 93)) := by kernel_rfl
  have hp : Tryz.prog.stoodInHeld 93 = false := by kernel_rfl
  rw [show (10000 : Nat) = 9999 + 1 from rfl, run_equalIn_agg _ 9999 93 _ _ hS hp]
  simp only [Program.fieldsOf, Tryz.underlying93]
  have p0 : ∀ a b c d e f : Int, (part 3 #[Value.int .i64 a, .int .i64 b, .int .i64 c, .int .i64 d, .int .i64 e, .int .i64 f] 0).run Tryz.prog w = .ok (.int .i64 a) w := fun a b c d e f => by kernel_rfl
  have p1 : ∀ a b c d e f : Int, (part 3 #[Value.int .i64 a, .int .i64 b, .int .i64 c, .int .i64 d, .int .i64 e, .int .i64 f] 1).run Tryz.prog w = .ok (.int .i64 b) w := fun a b c d e f => by kernel_rfl
  have p2 : ∀ a b c d e f : Int, (part 3 #[Value.int .i64 a, .int .i64 b, .int .i64 c, .int .i64 d, .int .i64 e, .int .i64 f] 2).run Tryz.prog w = .ok (.int .i64 c) w := fun a b c d e f => by kernel_rfl
  have p3 : ∀ a b c d e f : Int, (part 3 #[Value.int .i64 a, .int .i64 b, .int .i64 c, .int .i64 d, .int .i64 e, .int .i64 f] 3).run Tryz.prog w = .ok (.int .i64 d) w := fun a b c d e f => by kernel_rfl
  have p4 : ∀ a b c d e f : Int, (part 3 #[Value.int .i64 a, .int .i64 b, .int .i64 c, .int .i64 d, .int .i64 e, .int .i64 f] 4).run Tryz.prog w = .ok (.int .i64 e) w := fun a b c d e f => by kernel_rfl
  have p5 : ∀ a b c d e f : Int, (part 3 #[Value.int .i64 a, .int .i64 b, .int .i64 c, .int .i64 d, .int .i64 e, .int .i64 f] 5).run Tryz.prog w = .ok (.int .i64 f) w := fun a b c d e f => by kernel_rfl
  have q : ∀ x y : Int, (Op.equalIn 9999 3 (.int .i64 x) (.int .i64 y)).run Tryz.prog w = .ok (x == y) w := fun x y => run_equalIn_int w 9998 3 _ _ x y u3
  simp [Op.eqFields, p0, p1, p2, p3, p4, p5, q]
  by_cases h1 : a = a' <;> by_cases h2 : b = b' <;> by_cases h3 : c = c' <;> by_cases h4 : d = d' <;> by_cases h5 : e = e' <;> by_cases h6 : f = f' <;> simp [h1, h2, h3, h4, h5, h6]
attribute [local go_sem] eq_hol
/-- A holiday's value. -/
def holC (k y m d wd n : Int) : Array Value := #[.int .i64 k, .int .i64 y, .int .i64 m, .int .i64 d, .int .i64 wd, .int .i64 n]
set_option maxRecDepth 100000 in
set_option maxHeartbeats 8000000 in
theorem mayBe2 (y m d wd n : Int) (w : World) (hL : Lens w) : Calls Tryz.prog 40 #[.agg #[.int .i64 2, .int .i64 y, .int .i64 m, .int .i64 d, .int .i64 wd, .int .i64 n]] w fun e w' => e = .returned (.bool (decide (mayB 2 y m d wd n))) ∧ Below w.heap.size w w' := by
  obtain ⟨b0, hb0⟩ : ∃ b0, w.heap.size = b0 := ⟨_, rfl⟩
  have Hb0 := Lib.hid hb0
  by_cases zwd : wd = 0
  · subst zwd
    by_cases zn : n = 0
    · subst zn
      have HI := Lib.hid (fun W hW => is_calls y m d W hW)
      have hL2 : Lens ((w.alloc (.cells #[.int .i64 2, .int .i64 y, .int .i64 m, .int .i64 d, .int .i64 0, .int .i64 0] 93)).alloc (.cells #[.int .i64 2, .int .i64 y, .int .i64 m, .int .i64 d, .int .i64 0, .int .i64 0] 93)).drew := (hL.alloc _).alloc _
      have hB2 : Below w.heap.size w ((w.alloc (.cells #[.int .i64 2, .int .i64 y, .int .i64 m, .int .i64 d, .int .i64 0, .int .i64 0] 93)).alloc (.cells #[.int .i64 2, .int .i64 y, .int .i64 m, .int .i64 d, .int .i64 0, .int .i64 0] 93)).drew := ((bstep w _).alloc (by simp) _).drew
      by_cases hok : okD y m d
      · rw [decide_eq_true hok] at HI
        rw [show decide (mayB 2 y m d 0 0) = true from decide_eq_true (.inl ⟨rfl, rfl, rfl, hok⟩)]
        have HB2 := Lib.hid hB2
        clear hok hB2 hL
        go_enter Tryz.func40, Tryz.ntmps40
        go_wp2_with fail
        go_region
        go_wp2_with fail
        refine (HI.out _ hL2).mono ?_
        rintro e w3 ⟨rfl, hb3⟩
        have hb4 := bnext HB2.out hb3
        clear hb3
        go_wp2_with fail
        go_ret
        exact ⟨rfl, hb4⟩
      · rw [decide_eq_false hok] at HI
        rw [show decide (mayB 2 y m d 0 0) = false from decide_eq_false (fun h => by rcases h with h | h | h | h <;> first | exact hok h.2.2.2 | exact hok h.2.2.2.2 | omega)]
        have HB2 := Lib.hid hB2
        clear hok hB2 hL
        go_enter Tryz.func40, Tryz.ntmps40
        go_wp2_with fail
        go_region
        go_wp2_with fail
        refine (HI.out _ hL2).mono ?_
        rintro e w3 ⟨rfl, hb3⟩
        have hb4 := bnext HB2.out hb3
        clear hb3
        go_wp2_with fail
        go_ret
        exact ⟨rfl, hb4⟩
    · have hv : decide (mayB 2 y m d 0 n) = false := decide_eq_false (fun h => by rcases h with h | h | h | h <;> omega)
      rw [hv]
      have zb : ((0 : Int) == n) = false := beq_eq_false_iff_ne.2 (fun h => zn h.symm)
      clear hv zn hL
      go_enter Tryz.func40, Tryz.ntmps40
      go_wp2_with fail
      go_region
      go_wp2_with fail
      go_ret
      exact ⟨rfl, by rw [Hb0.out]; rw [← Hb0.out]; exact ((bstep w _).alloc (by simp) _).drewN _⟩
  · have hv : decide (mayB 2 y m d wd n) = false := decide_eq_false (fun h => by rcases h with h | h | h | h <;> omega)
    rw [hv]
    have zb : ((0 : Int) == wd) = false := beq_eq_false_iff_ne.2 (fun h => zwd h.symm)
    clear hv zwd hL
    go_enter Tryz.func40, Tryz.ntmps40
    go_wp2_with fail
    go_region
    go_wp2_with fail
    go_ret
    exact ⟨rfl, by rw [Hb0.out]; rw [← Hb0.out]; exact ((bstep w _).alloc (by simp) _).drewN _⟩
set_option maxRecDepth 100000 in
set_option maxHeartbeats 8000000 in
theorem mayBe1 (y m d wd n : Int) (w : World) (hL : Lens w) : Calls Tryz.prog 40 #[.agg #[.int .i64 1, .int .i64 y, .int .i64 m, .int .i64 d, .int .i64 wd, .int .i64 n]] w fun e w' => e = .returned (.bool (decide (mayB 1 y m d wd n))) ∧ Below w.heap.size w w' := by
  obtain ⟨b0, hb0⟩ : ∃ b0, w.heap.size = b0 := ⟨_, rfl⟩
  have Hb0 := Lib.hid hb0
  by_cases zy : y = 0
  · subst zy
    by_cases zwd : wd = 0
    · subst zwd
      by_cases zn : n = 0
      · subst zn
        have HI := Lib.hid (fun W hW => is_calls 2000 m d W hW)
        have hL2 : Lens ((w.alloc (.cells #[.int .i64 1, .int .i64 0, .int .i64 m, .int .i64 d, .int .i64 0, .int .i64 0] 93)).alloc (.cells #[.int .i64 1, .int .i64 0, .int .i64 m, .int .i64 d, .int .i64 0, .int .i64 0] 93)).drew := (hL.alloc _).alloc _
        have hB2 : Below w.heap.size w ((w.alloc (.cells #[.int .i64 1, .int .i64 0, .int .i64 m, .int .i64 d, .int .i64 0, .int .i64 0] 93)).alloc (.cells #[.int .i64 1, .int .i64 0, .int .i64 m, .int .i64 d, .int .i64 0, .int .i64 0] 93)).drew := ((bstep w _).alloc (by simp) _).drew
        by_cases hok : okD 2000 m d
        · rw [decide_eq_true hok] at HI
          rw [show decide (mayB 1 0 m d 0 0) = true from decide_eq_true (.inr (.inl ⟨rfl, rfl, rfl, rfl, hok⟩))]
          have HB2 := Lib.hid hB2
          clear hok hB2 hL
          go_enter Tryz.func40, Tryz.ntmps40
          go_wp2_with fail
          go_region
          go_wp2_with fail
          refine (HI.out _ hL2).mono ?_
          rintro e w3 ⟨rfl, hb3⟩
          have hb4 := bnext HB2.out hb3
          clear hb3
          go_wp2_with fail
          go_ret
          exact ⟨rfl, hb4⟩
        · rw [decide_eq_false hok] at HI
          rw [show decide (mayB 1 0 m d 0 0) = false from decide_eq_false (fun h => by rcases h with h | h | h | h <;> first | exact hok h.2.2.2 | exact hok h.2.2.2.2 | omega)]
          have HB2 := Lib.hid hB2
          clear hok hB2 hL
          go_enter Tryz.func40, Tryz.ntmps40
          go_wp2_with fail
          go_region
          go_wp2_with fail
          refine (HI.out _ hL2).mono ?_
          rintro e w3 ⟨rfl, hb3⟩
          have hb4 := bnext HB2.out hb3
          clear hb3
          go_wp2_with fail
          go_ret
          exact ⟨rfl, hb4⟩
      · have hv : decide (mayB 1 0 m d 0 n) = false := decide_eq_false (fun h => by rcases h with h | h | h | h <;> omega)
        rw [hv]
        have zb : ((0 : Int) == n) = false := beq_eq_false_iff_ne.2 (fun h => zn h.symm)
        clear hv zn hL
        go_enter Tryz.func40, Tryz.ntmps40
        go_wp2_with fail
        go_region
        go_wp2_with fail
        go_ret
        exact ⟨rfl, by rw [Hb0.out]; rw [← Hb0.out]; exact ((bstep w _).alloc (by simp) _).drewN _⟩
    · have hv : decide (mayB 1 0 m d wd n) = false := decide_eq_false (fun h => by rcases h with h | h | h | h <;> omega)
      rw [hv]
      have zb : ((0 : Int) == wd) = false := beq_eq_false_iff_ne.2 (fun h => zwd h.symm)
      clear hv zwd hL
      go_enter Tryz.func40, Tryz.ntmps40
      go_wp2_with fail
      go_region
      go_wp2_with fail
      go_ret
      exact ⟨rfl, by rw [Hb0.out]; rw [← Hb0.out]; exact ((bstep w _).alloc (by simp) _).drewN _⟩
  · have hv : decide (mayB 1 y m d wd n) = false := decide_eq_false (fun h => by rcases h with h | h | h | h <;> omega)
    rw [hv]
    have zb : ((0 : Int) == y) = false := beq_eq_false_iff_ne.2 (fun h => zy h.symm)
    clear hv zy hL
    go_enter Tryz.func40, Tryz.ntmps40
    go_wp2_with fail
    go_region
    go_wp2_with fail
    go_ret
    exact ⟨rfl, by rw [Hb0.out]; rw [← Hb0.out]; exact ((bstep w _).alloc (by simp) _).drewN _⟩
set_option maxRecDepth 100000 in
set_option maxHeartbeats 8000000 in
theorem mayBe3 (y m d wd n : Int) (w : World) (hL : Lens w) : Calls Tryz.prog 40 #[.agg #[.int .i64 3, .int .i64 y, .int .i64 m, .int .i64 d, .int .i64 wd, .int .i64 n]] w fun e w' => e = .returned (.bool (decide (mayB 3 y m d wd n))) ∧ Below w.heap.size w w' := by
  obtain ⟨b0, hb0⟩ : ∃ b0, w.heap.size = b0 := ⟨_, rfl⟩
  have Hb0 := Lib.hid hb0
  by_cases zy : y = 0
  · subst zy
    by_cases zd : d = 0
    · subst zd
      obtain ⟨B1, hB1⟩ : ∃ B, (decide ((1 : Int) ≤ m) && decide (m ≤ 12)) = B := ⟨_, rfl⟩
      obtain ⟨B2, hB2⟩ : ∃ B, (decide ((1 : Int) ≤ wd) && decide (wd ≤ 7)) = B := ⟨_, rfl⟩
      obtain ⟨B3, hB3⟩ : ∃ B, (decide ((1 : Int) ≤ n) && decide (n ≤ 5)) = B := ⟨_, rfl⟩
      have hv : decide (mayB 3 0 m 0 wd n) = (B1 && B2 && (decide (n = -1) || B3)) := by
        rw [← hB1, ← hB2, ← hB3, Bool.eq_iff_iff]
        simp only [decide_eq_true_eq, Bool.and_eq_true, Bool.or_eq_true]
        constructor
        · intro h; rcases h with h | h | h | h <;> omega
        · intro h; exact .inr (.inr (.inl ⟨rfl, rfl, rfl, h.1.1.1, h.1.1.2, h.1.2.1, h.1.2.2, by omega⟩))
      have H1 := in_calls m 1 12
      have H2 := in_calls wd 1 7
      have H3 := in_calls n 1 5
      rw [hB1] at H1
      rw [hB2] at H2
      rw [hB3] at H3
      replace H1 := Lib.hid H1
      replace H2 := Lib.hid H2
      replace H3 := Lib.hid H3
      rw [hv]
      have HB2 := Lib.hid (show Below w.heap.size w ((w.alloc (.cells #[.int .i64 3, .int .i64 0, .int .i64 m, .int .i64 0, .int .i64 wd, .int .i64 n] 93)).alloc (.cells #[.int .i64 3, .int .i64 0, .int .i64 m, .int .i64 0, .int .i64 wd, .int .i64 n] 93)).drew from ((bstep w _).alloc (by simp) _).drew)
      clear hv hB1 hB2 hB3 hL
      cases B1 with
      | false =>
        go_enter Tryz.func40, Tryz.ntmps40
        go_wp2_with fail
        go_region
        go_wp2_with fail
        refine (H1.out _).mono ?_
        rintro e w3 ⟨rfl, rfl⟩
        go_wp2_with fail
        go_ret
        exact ⟨rfl, HB2.out⟩
      | true =>
        cases B2 with
        | false =>
          go_enter Tryz.func40, Tryz.ntmps40
          go_wp2_with fail
          go_region
          go_wp2_with fail
          refine (H1.out _).mono ?_
          rintro e w3 ⟨rfl, rfl⟩
          go_wp2_with fail
          refine (H2.out _).mono ?_
          rintro e w3 ⟨rfl, rfl⟩
          go_wp2_with fail
          go_ret
          exact ⟨rfl, HB2.out⟩
        | true =>
          by_cases hn : n = -1
          · subst hn
            go_enter Tryz.func40, Tryz.ntmps40
            go_wp2_with fail
            go_region
            go_wp2_with fail
            refine (H1.out _).mono ?_
            rintro e w3 ⟨rfl, rfl⟩
            go_wp2_with fail
            refine (H2.out _).mono ?_
            rintro e w3 ⟨rfl, rfl⟩
            go_wp2_with fail
            go_ret
            exact ⟨rfl, HB2.out⟩
          · have k3 : (n == -1) = false := beq_eq_false_iff_ne.2 hn
            rw [show decide (n = -1) = false from decide_eq_false hn]
            clear hn
            cases B3 with
            | false =>
              go_enter Tryz.func40, Tryz.ntmps40
              go_wp2_with fail
              go_region
              go_wp2_with fail
              refine (H1.out _).mono ?_
              rintro e w3 ⟨rfl, rfl⟩
              go_wp2_with fail
              refine (H2.out _).mono ?_
              rintro e w3 ⟨rfl, rfl⟩
              go_wp2_with fail
              refine (H3.out _).mono ?_
              rintro e w3 ⟨rfl, rfl⟩
              go_wp2_with fail
              go_ret
              exact ⟨rfl, HB2.out⟩
            | true =>
              go_enter Tryz.func40, Tryz.ntmps40
              go_wp2_with fail
              go_region
              go_wp2_with fail
              refine (H1.out _).mono ?_
              rintro e w3 ⟨rfl, rfl⟩
              go_wp2_with fail
              refine (H2.out _).mono ?_
              rintro e w3 ⟨rfl, rfl⟩
              go_wp2_with fail
              refine (H3.out _).mono ?_
              rintro e w3 ⟨rfl, rfl⟩
              go_wp2_with fail
              go_ret
              exact ⟨rfl, HB2.out⟩
    · have hv : decide (mayB 3 0 m d wd n) = false := decide_eq_false (fun h => by rcases h with h | h | h | h <;> omega)
      rw [hv]
      have zb : ((0 : Int) == d) = false := beq_eq_false_iff_ne.2 (fun h => zd h.symm)
      clear hv zd hL
      go_enter Tryz.func40, Tryz.ntmps40
      go_wp2_with fail
      go_region
      go_wp2_with fail
      go_ret
      exact ⟨rfl, by rw [Hb0.out]; rw [← Hb0.out]; exact ((bstep w _).alloc (by simp) _).drewN _⟩
  · have hv : decide (mayB 3 y m d wd n) = false := decide_eq_false (fun h => by rcases h with h | h | h | h <;> omega)
    rw [hv]
    have zb : ((0 : Int) == y) = false := beq_eq_false_iff_ne.2 (fun h => zy h.symm)
    clear hv zy hL
    go_enter Tryz.func40, Tryz.ntmps40
    go_wp2_with fail
    go_region
    go_wp2_with fail
    go_ret
    exact ⟨rfl, by rw [Hb0.out]; rw [← Hb0.out]; exact ((bstep w _).alloc (by simp) _).drewN _⟩
set_option maxRecDepth 100000 in
set_option maxHeartbeats 8000000 in
theorem mayBe4 (y m d wd n : Int) (w : World) (hL : Lens w) : Calls Tryz.prog 40 #[.agg #[.int .i64 4, .int .i64 y, .int .i64 m, .int .i64 d, .int .i64 wd, .int .i64 n]] w fun e w' => e = .returned (.bool (decide (mayB 4 y m d wd n))) ∧ Below w.heap.size w w' := by
  obtain ⟨b0, hb0⟩ : ∃ b0, w.heap.size = b0 := ⟨_, rfl⟩
  have Hb0 := Lib.hid hb0
  by_cases zy : y = 0
  · subst zy
    by_cases zm : m = 0
    · subst zm
      by_cases zd : d = 0
      · subst zd
        by_cases zwd : wd = 0
        · subst zwd
          obtain ⟨B1, hB1⟩ : ∃ B, (decide ((-100 : Int) ≤ n) && decide (n ≤ 200)) = B := ⟨_, rfl⟩
          have hv : decide (mayB 4 0 0 0 0 n) = B1 := by
            rw [← hB1, Bool.eq_iff_iff]
            simp only [decide_eq_true_eq, Bool.and_eq_true]
            constructor
            · intro h; rcases h with h | h | h | h <;> omega
            · intro h; exact .inr (.inr (.inr ⟨rfl, rfl, rfl, rfl, rfl, h.1, h.2⟩))
          have H1 := in_calls n (-100) 200
          rw [hB1] at H1
          replace H1 := Lib.hid H1
          rw [hv]
          have HB2 := Lib.hid (show Below w.heap.size w ((w.alloc (.cells #[.int .i64 4, .int .i64 0, .int .i64 0, .int .i64 0, .int .i64 0, .int .i64 n] 93)).alloc (.cells #[.int .i64 4, .int .i64 0, .int .i64 0, .int .i64 0, .int .i64 0, .int .i64 n] 93)) from (bstep w _).alloc (by simp) _)
          clear hv hB1 hL
          cases B1 with
          | false =>
            go_enter Tryz.func40, Tryz.ntmps40
            go_wp2_with fail
            refine (H1.out _).mono ?_
            rintro e w3 ⟨rfl, rfl⟩
            go_wp2_with fail
            go_ret
            exact ⟨rfl, HB2.out⟩
          | true =>
            go_enter Tryz.func40, Tryz.ntmps40
            go_wp2_with fail
            refine (H1.out _).mono ?_
            rintro e w3 ⟨rfl, rfl⟩
            go_wp2_with fail
            go_ret
            exact ⟨rfl, HB2.out⟩
        · have hv : decide (mayB 4 0 0 0 wd n) = false := decide_eq_false (fun h => by rcases h with h | h | h | h <;> omega)
          rw [hv]
          have zb : ((0 : Int) == wd) = false := beq_eq_false_iff_ne.2 (fun h => zwd h.symm)
          clear hv zwd hL
          go_enter Tryz.func40, Tryz.ntmps40
          go_wp2_with fail
          go_ret
          exact ⟨rfl, (bstep w _).alloc (by simp) _⟩
      · have hv : decide (mayB 4 0 0 d wd n) = false := decide_eq_false (fun h => by rcases h with h | h | h | h <;> omega)
        rw [hv]
        have zb : ((0 : Int) == d) = false := beq_eq_false_iff_ne.2 (fun h => zd h.symm)
        clear hv zd hL
        go_enter Tryz.func40, Tryz.ntmps40
        go_wp2_with fail
        go_ret
        exact ⟨rfl, (bstep w _).alloc (by simp) _⟩
    · have hv : decide (mayB 4 0 m d wd n) = false := decide_eq_false (fun h => by rcases h with h | h | h | h <;> omega)
      rw [hv]
      have zb : ((0 : Int) == m) = false := beq_eq_false_iff_ne.2 (fun h => zm h.symm)
      clear hv zm hL
      go_enter Tryz.func40, Tryz.ntmps40
      go_wp2_with fail
      go_ret
      exact ⟨rfl, (bstep w _).alloc (by simp) _⟩
  · have hv : decide (mayB 4 y m d wd n) = false := decide_eq_false (fun h => by rcases h with h | h | h | h <;> omega)
    rw [hv]
    have zb : ((0 : Int) == y) = false := beq_eq_false_iff_ne.2 (fun h => zy h.symm)
    clear hv zy hL
    go_enter Tryz.func40, Tryz.ntmps40
    go_wp2_with fail
    go_ret
    exact ⟨rfl, (bstep w _).alloc (by simp) _⟩
set_option maxRecDepth 100000 in
set_option maxHeartbeats 8000000 in
theorem mayBe_calls (k y m d wd n : Int) (w : World) (hL : Lens w) : Calls Tryz.prog 40 #[.agg #[.int .i64 k, .int .i64 y, .int .i64 m, .int .i64 d, .int .i64 wd, .int .i64 n]] w fun e w' => e = .returned (.bool (decide (mayB k y m d wd n))) ∧ Below w.heap.size w w' := by
  by_cases k2 : k = 2
  · subst k2; exact mayBe2 y m d wd n w hL
  · by_cases k1 : k = 1
    · subst k1; exact mayBe1 y m d wd n w hL
    · by_cases k3 : k = 3
      · subst k3; exact mayBe3 y m d wd n w hL
      · by_cases k4 : k = 4
        · subst k4; exact mayBe4 y m d wd n w hL
        · rw [show decide (mayB k y m d wd n) = false from decide_eq_false (fun h => by rcases h with h | h | h | h <;> omega)]
          have q1 : (k == 1) = false := beq_eq_false_iff_ne.2 k1
          have q2 : (k == 2) = false := beq_eq_false_iff_ne.2 k2
          have q3 : (k == 3) = false := beq_eq_false_iff_ne.2 k3
          have q4 : (k == 4) = false := beq_eq_false_iff_ne.2 k4
          clear k1 k2 k3 k4 hL
          go_enter Tryz.func40, Tryz.ntmps40
          go_wp2_with fail
          go_ret
          exact ⟨rfl, (bstep w _).alloc (by simp) _⟩
end Go.Proofs.YtgbkedjjgbhcmaaGreatDoor
