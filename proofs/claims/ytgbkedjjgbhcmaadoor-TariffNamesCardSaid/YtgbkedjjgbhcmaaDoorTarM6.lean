/-
  Texts that the proof leans on, merged by program, part 6. Conditions stand at each theorem.
-/
import Derived.Test.YtgbkedjjgbhcmaaDoorTarM1
import Derived.Test.YtgbkedjjgbhcmaaDoorTarM3
import Derived.Test.YtgbkedjjgbhcmaaDoorTarM5
import Derived.Laws.StructEq
import Derived.BigRegion
import Derived.Maps.Own
import Derived.Maps.OwnOps
import Derived.Maps.Views
import Derived.Deep.RegionWith
import Derived.Deep.DeepCutAuto
import Derived.Deep.CutRange
import Derived.Laws.EntriesVeiled
import Derived.Test.YtgbkedjjgbhcmaaDoorChecked
import Derived.Shelf.Abstract
import Derived.Shelf.RegionOpen
import Derived.OwnWalkIn
import Derived.TacticsInMore
import Derived.LoopNIn
import Derived.LoopIn
import Derived.Outline
import Derived.Laws.BitsAllLaws
import Derived.ProofKit
import Derived.LoopTactic
import Derived.Lib.Hide
import Derived.Deep.QuietTactic
import Derived.BigQuiet
import Derived.Laws.Externs
/-
  Whether a holiday may be: both sides, walked. Conditions stand at each theorem.
-/
namespace Go.Proofs.YtgbkedjjgbhcmaaDoor
open Go Go.RowKit Go.Kw Go.Kw.Cv Go.Shelf
set_option linter.unusedVariables false
set_option linter.unusedSimpArgs false

theorem in_calls (n a b : Int) (w : World) : Calls Tryd.prog 59 #[.int .i64 n, .int .i64 a, .int .i64 b] w fun e w' => e = .returned (.bool (decide (a ≤ n) && decide (n ≤ b))) ∧ w' = w := by
  go_enter Tryd.func59, Tryd.ntmps59
  go_wp2_with fail
  all_goals (go_ret; simp_all; try omega)
theorem is_calls (y m d : Int) (w : World) (hL : Lens w) : Calls Tryd.prog 60 #[.int .i64 y, .int .i64 m, .int .i64 d] w fun e w' => e = .returned (.bool (decide (okD y m d))) ∧ Below w.heap.size w w' := by
  have HC := Lib.hid (check_calls y m d w hL)
  by_cases h : okD y m d
  · rw [chk_ok h] at HC
    rw [decide_eq_true h]
    clear h
    go_enter Tryd.func60, Tryd.ntmps60
    go_wp2_with fail
    refine HC.out.mono ?_
    rintro e w1 ⟨rfl, hb⟩
    go_wp2_with fail
    go_ret
    exact ⟨rfl, hb⟩
  · rw [chk_no h] at HC
    rw [decide_eq_false h]
    clear h
    go_enter Tryd.func60, Tryd.ntmps60
    go_wp2_with fail
    refine HC.out.mono ?_
    rintro e w1 ⟨rfl, hb⟩
    go_wp2_with fail
    go_ret
    exact ⟨rfl, hb⟩
theorem place_calls (m d : Int) (w : World) : Calls Tryd.prog 53 #[.int .i64 m, .int .i64 d] w fun e w' => e = .returned (.int .i64 (wrap64 (wrap64 (100 * m) + d))) ∧ w' = w := by
  have w1 : IntKind.i64.wrap (100 * m) = wrap64 (100 * m) := by rw [IntKind.wrap_i64]; unfold wrap64; omega
  go_enter Tryd.func53, Tryd.ntmps53
  go_wp2_with fail
  go_ret
  exact ⟨rfl, rfl⟩
/-- A holiday that may be. -/
def mayB (k y m d wd n : Int) : Prop :=
  (k = 2 ∧ wd = 0 ∧ n = 0 ∧ okD y m d) ∨ (k = 1 ∧ y = 0 ∧ wd = 0 ∧ n = 0 ∧ okD 2000 m d) ∨
    (k = 3 ∧ y = 0 ∧ d = 0 ∧ 1 ≤ m ∧ m ≤ 12 ∧ 1 ≤ wd ∧ wd ≤ 7 ∧ (n = -1 ∨ (1 ≤ n ∧ n ≤ 5))) ∨ (k = 4 ∧ y = 0 ∧ m = 0 ∧ d = 0 ∧ wd = 0 ∧ -100 ≤ n ∧ n ≤ 200)
instance (k y m d wd n : Int) : Decidable (mayB k y m d wd n) := by unfold mayB; infer_instance
set_option maxRecDepth 100000 in
theorem eq_hol (a b c d e f a' b' c' d' e' f' : Int) (w : World) : (Op.equalIn 10000 137 (.agg #[.int .i64 a, .int .i64 b, .int .i64 c, .int .i64 d, .int .i64 e, .int .i64 f]) (.agg #[.int .i64 a', .int .i64 b', .int .i64 c', .int .i64 d', .int .i64 e', .int .i64 f'])).run Tryd.prog w =
    .ok (a == a' && b == b' && c == c' && d == d' && e == e' && f == f') w := by
  have u3 := Tryd.underlying3
  have hS : Tryd.prog.underlying 137 = some (.struct (Tryd.prog.fieldsOf 137)) := by kernel_rfl
  have hp : Tryd.prog.stoodInHeld 137 = false := by kernel_rfl
  rw [show (10000 : Nat) = 9999 + 1 from rfl, run_equalIn_agg _ 9999 137 _ _ hS hp]
  simp only [Program.fieldsOf, Tryd.underlying137]
  have p0 : ∀ a b c d e f : Int, (part 3 #[Value.int .i64 a, .int .i64 b, .int .i64 c, .int .i64 d, .int .i64 e, .int .i64 f] 0).run Tryd.prog w = .ok (.int .i64 a) w := fun a b c d e f => by kernel_rfl
  have p1 : ∀ a b c d e f : Int, (part 3 #[Value.int .i64 a, .int .i64 b, .int .i64 c, .int .i64 d, .int .i64 e, .int .i64 f] 1).run Tryd.prog w = .ok (.int .i64 b) w := fun a b c d e f => by kernel_rfl
  have p2 : ∀ a b c d e f : Int, (part 3 #[Value.int .i64 a, .int .i64 b, .int .i64 c, .int .i64 d, .int .i64 e, .int .i64 f] 2).run Tryd.prog w = .ok (.int .i64 c) w := fun a b c d e f => by kernel_rfl
  have p3 : ∀ a b c d e f : Int, (part 3 #[Value.int .i64 a, .int .i64 b, .int .i64 c, .int .i64 d, .int .i64 e, .int .i64 f] 3).run Tryd.prog w = .ok (.int .i64 d) w := fun a b c d e f => by kernel_rfl
  have p4 : ∀ a b c d e f : Int, (part 3 #[Value.int .i64 a, .int .i64 b, .int .i64 c, .int .i64 d, .int .i64 e, .int .i64 f] 4).run Tryd.prog w = .ok (.int .i64 e) w := fun a b c d e f => by kernel_rfl
  have p5 : ∀ a b c d e f : Int, (part 3 #[Value.int .i64 a, .int .i64 b, .int .i64 c, .int .i64 d, .int .i64 e, .int .i64 f] 5).run Tryd.prog w = .ok (.int .i64 f) w := fun a b c d e f => by kernel_rfl
  have q : ∀ x y : Int, (Op.equalIn 9999 3 (.int .i64 x) (.int .i64 y)).run Tryd.prog w = .ok (x == y) w := fun x y => run_equalIn_int w 9998 3 _ _ x y u3
  simp [Op.eqFields, p0, p1, p2, p3, p4, p5, q]
  by_cases h1 : a = a' <;> by_cases h2 : b = b' <;> by_cases h3 : c = c' <;> by_cases h4 : d = d' <;> by_cases h5 : e = e' <;> by_cases h6 : f = f' <;> simp [h1, h2, h3, h4, h5, h6]
attribute [local go_sem] eq_hol
/-- A holiday's value. -/
def holC (k y m d wd n : Int) : Array Value := #[.int .i64 k, .int .i64 y, .int .i64 m, .int .i64 d, .int .i64 wd, .int .i64 n]
set_option maxRecDepth 100000 in
set_option maxHeartbeats 8000000 in
theorem mayBe2 (y m d wd n : Int) (w : World) (hL : Lens w) : Calls Tryd.prog 58 #[.agg #[.int .i64 2, .int .i64 y, .int .i64 m, .int .i64 d, .int .i64 wd, .int .i64 n]] w fun e w' => e = .returned (.bool (decide (mayB 2 y m d wd n))) ∧ Below w.heap.size w w' := by
  obtain ⟨b0, hb0⟩ : ∃ b0, w.heap.size = b0 := ⟨_, rfl⟩
  have Hb0 := Lib.hid hb0
  by_cases zwd : wd = 0
  · subst zwd
    by_cases zn : n = 0
    · subst zn
      have HI := Lib.hid (fun W hW => is_calls y m d W hW)
      have hL2 : Lens ((w.alloc (.cells #[.int .i64 2, .int .i64 y, .int .i64 m, .int .i64 d, .int .i64 0, .int .i64 0] 137)).alloc (.cells #[.int .i64 2, .int .i64 y, .int .i64 m, .int .i64 d, .int .i64 0, .int .i64 0] 137)).drew := (hL.alloc _).alloc _
      have hB2 : Below w.heap.size w ((w.alloc (.cells #[.int .i64 2, .int .i64 y, .int .i64 m, .int .i64 d, .int .i64 0, .int .i64 0] 137)).alloc (.cells #[.int .i64 2, .int .i64 y, .int .i64 m, .int .i64 d, .int .i64 0, .int .i64 0] 137)).drew := ((bstep w _).alloc (by simp) _).drew
      by_cases hok : okD y m d
      · rw [decide_eq_true hok] at HI
        rw [show decide (mayB 2 y m d 0 0) = true from decide_eq_true (.inl ⟨rfl, rfl, rfl, hok⟩)]
        have HB2 := Lib.hid hB2
        clear hok hB2 hL
        go_enter Tryd.func58, Tryd.ntmps58
        go_wp2_with fail
        go_region
        go_wp2_with fail
        refine (HI.out _ hL2).mono ?_
        rintro e w3 ⟨rfl, hb3⟩
        have hb4 := bnext HB2.out hb3
        clear hb3
        go_wp2_with fail
        go_ret
        exact ⟨rfl, hb4⟩
      · rw [decide_eq_false hok] at HI
        rw [show decide (mayB 2 y m d 0 0) = false from decide_eq_false (fun h => by rcases h with h | h | h | h <;> first | exact hok h.2.2.2 | exact hok h.2.2.2.2 | omega)]
        have HB2 := Lib.hid hB2
        clear hok hB2 hL
        go_enter Tryd.func58, Tryd.ntmps58
        go_wp2_with fail
        go_region
        go_wp2_with fail
        refine (HI.out _ hL2).mono ?_
        rintro e w3 ⟨rfl, hb3⟩
        have hb4 := bnext HB2.out hb3
        clear hb3
        go_wp2_with fail
        go_ret
        exact ⟨rfl, hb4⟩
    · have hv : decide (mayB 2 y m d 0 n) = false := decide_eq_false (fun h => by rcases h with h | h | h | h <;> omega)
      rw [hv]
      have zb : ((0 : Int) == n) = false := beq_eq_false_iff_ne.2 (fun h => zn h.symm)
      clear hv zn hL
      go_enter Tryd.func58, Tryd.ntmps58
      go_wp2_with fail
      go_region
      go_wp2_with fail
      go_ret
      exact ⟨rfl, by rw [Hb0.out]; rw [← Hb0.out]; exact ((bstep w _).alloc (by simp) _).drewN _⟩
  · have hv : decide (mayB 2 y m d wd n) = false := decide_eq_false (fun h => by rcases h with h | h | h | h <;> omega)
    rw [hv]
    have zb : ((0 : Int) == wd) = false := beq_eq_false_iff_ne.2 (fun h => zwd h.symm)
    clear hv zwd hL
    go_enter Tryd.func58, Tryd.ntmps58
    go_wp2_with fail
    go_region
    go_wp2_with fail
    go_ret
    exact ⟨rfl, by rw [Hb0.out]; rw [← Hb0.out]; exact ((bstep w _).alloc (by simp) _).drewN _⟩
set_option maxRecDepth 100000 in
set_option maxHeartbeats 8000000 in
theorem mayBe1 (y m d wd n : Int) (w : World) (hL : Lens w) : Calls Tryd.prog 58 #[.agg #[.int .i64 1, .int .i64 y, .int .i64 m, .int .i64 d, .int .i64 wd, .int .i64 n]] w fun e w' => e = .returned (.bool (decide (mayB 1 y m d wd n))) ∧ Below w.heap.size w w' := by
  obtain ⟨b0, hb0⟩ : ∃ b0, w.heap.size = b0 := ⟨_, rfl⟩
  have Hb0 := Lib.hid hb0
  by_cases zy : y = 0
  · subst zy
    by_cases zwd : wd = 0
    · subst zwd
      by_cases zn : n = 0
      · subst zn
        have HI := Lib.hid (fun W hW => is_calls 2000 m d W hW)
        have hL2 : Lens ((w.alloc (.cells #[.int .i64 1, .int .i64 0, .int .i64 m, .int .i64 d, .int .i64 0, .int .i64 0] 137)).alloc (.cells #[.int .i64 1, .int .i64 0, .int .i64 m, .int .i64 d, .int .i64 0, .int .i64 0] 137)).drew := (hL.alloc _).alloc _
        have hB2 : Below w.heap.size w ((w.alloc (.cells #[.int .i64 1, .int .i64 0, .int .i64 m, .int .i64 d, .int .i64 0, .int .i64 0] 137)).alloc (.cells #[.int .i64 1, .int .i64 0, .int .i64 m, .int .i64 d, .int .i64 0, .int .i64 0] 137)).drew := ((bstep w _).alloc (by simp) _).drew
        by_cases hok : okD 2000 m d
        · rw [decide_eq_true hok] at HI
          rw [show decide (mayB 1 0 m d 0 0) = true from decide_eq_true (.inr (.inl ⟨rfl, rfl, rfl, rfl, hok⟩))]
          have HB2 := Lib.hid hB2
          clear hok hB2 hL
          go_enter Tryd.func58, Tryd.ntmps58
          go_wp2_with fail
          go_region
          go_wp2_with fail
          refine (HI.out _ hL2).mono ?_
          rintro e w3 ⟨rfl, hb3⟩
          have hb4 := bnext HB2.out hb3
          clear hb3
          go_wp2_with fail
          go_ret
          exact ⟨rfl, hb4⟩
        · rw [decide_eq_false hok] at HI
          rw [show decide (mayB 1 0 m d 0 0) = false from decide_eq_false (fun h => by rcases h with h | h | h | h <;> first | exact hok h.2.2.2 | exact hok h.2.2.2.2 | omega)]
          have HB2 := Lib.hid hB2
          clear hok hB2 hL
          go_enter Tryd.func58, Tryd.ntmps58
          go_wp2_with fail
          go_region
          go_wp2_with fail
          refine (HI.out _ hL2).mono ?_
          rintro e w3 ⟨rfl, hb3⟩
          have hb4 := bnext HB2.out hb3
          clear hb3
          go_wp2_with fail
          go_ret
          exact ⟨rfl, hb4⟩
      · have hv : decide (mayB 1 0 m d 0 n) = false := decide_eq_false (fun h => by rcases h with h | h | h | h <;> omega)
        rw [hv]
        have zb : ((0 : Int) == n) = false := beq_eq_false_iff_ne.2 (fun h => zn h.symm)
        clear hv zn hL
        go_enter Tryd.func58, Tryd.ntmps58
        go_wp2_with fail
        go_region
        go_wp2_with fail
        go_ret
        exact ⟨rfl, by rw [Hb0.out]; rw [← Hb0.out]; exact ((bstep w _).alloc (by simp) _).drewN _⟩
    · have hv : decide (mayB 1 0 m d wd n) = false := decide_eq_false (fun h => by rcases h with h | h | h | h <;> omega)
      rw [hv]
      have zb : ((0 : Int) == wd) = false := beq_eq_false_iff_ne.2 (fun h => zwd h.symm)
      clear hv zwd hL
      go_enter Tryd.func58, Tryd.ntmps58
      go_wp2_with fail
      go_region
      go_wp2_with fail
      go_ret
      exact ⟨rfl, by rw [Hb0.out]; rw [← Hb0.out]; exact ((bstep w _).alloc (by simp) _).drewN _⟩
  · have hv : decide (mayB 1 y m d wd n) = false := decide_eq_false (fun h => by rcases h with h | h | h | h <;> omega)
    rw [hv]
    have zb : ((0 : Int) == y) = false := beq_eq_false_iff_ne.2 (fun h => zy h.symm)
    clear hv zy hL
    go_enter Tryd.func58, Tryd.ntmps58
    go_wp2_with fail
    go_region
    go_wp2_with fail
    go_ret
    exact ⟨rfl, by rw [Hb0.out]; rw [← Hb0.out]; exact ((bstep w _).alloc (by simp) _).drewN _⟩
set_option maxRecDepth 100000 in
set_option maxHeartbeats 8000000 in
theorem mayBe3 (y m d wd n : Int) (w : World) (hL : Lens w) : Calls Tryd.prog 58 #[.agg #[.int .i64 3, .int .i64 y, .int .i64 m, .int .i64 d, .int .i64 wd, .int .i64 n]] w fun e w' => e = .returned (.bool (decide (mayB 3 y m d wd n))) ∧ Below w.heap.size w w' := by
  obtain ⟨b0, hb0⟩ : ∃ b0, w.heap.size = b0 := ⟨_, rfl⟩
  have Hb0 := Lib.hid hb0
  by_cases zy : y = 0
  · subst zy
    by_cases zd : d = 0
    · subst zd
      obtain ⟨B1, hB1⟩ : ∃ B, (decide ((1 : Int) ≤ m) && decide (m ≤ 12)) = B := ⟨_, rfl⟩
      obtain ⟨B2, hB2⟩ : ∃ B, (decide ((1 : Int) ≤ wd) && decide (wd ≤ 7)) = B := ⟨_, rfl⟩
      obtain ⟨B3, hB3⟩ : ∃ B, (decide ((1 : Int) ≤ n) && decide (n ≤ 5)) = B := ⟨_, rfl⟩
      have hv : decide (mayB 3 0 m 0 wd n) = (B1 && B2 && (decide (n = -1) || B3)) := by
        rw [← hB1, ← hB2, ← hB3, Bool.eq_iff_iff]
        simp only [decide_eq_true_eq, Bool.and_eq_true, Bool.or_eq_true]
        constructor
        · intro h; rcases h with h | h | h | h <;> omega
        · intro h; exact .inr (.inr (.inl ⟨rfl, rfl, rfl, h.1.1.1, h.1.1.2, h.1.2.1, h.1.2.2, by omega⟩))
      have H1 := in_calls m 1 12
      have H2 := in_calls wd 1 7
      have H3 := in_calls n 1 5
      rw [hB1] at H1
      rw [hB2] at H2
      rw [hB3] at H3
      replace H1 := Lib.hid H1
      replace H2 := Lib.hid H2
      replace H3 := Lib.hid H3
      rw [hv]
      have HB2 := Lib.hid (show Below w.heap.size w ((w.alloc (.cells #[.int .i64 3, .int .i64 0, .int .i64 m, .int .i64 0, .int .i64 wd, .int .i64 n] 137)).alloc (.cells #[.int .i64 3, .int .i64 0, .int .i64 m, .int .i64 0, .int .i64 wd, .int .i64 n] 137)).drew from ((bstep w _).alloc (by simp) _).drew)
      clear hv hB1 hB2 hB3 hL
      cases B1 with
      | false =>
        go_enter Tryd.func58, Tryd.ntmps58
        go_wp2_with fail
        go_region
        go_wp2_with fail
        refine (H1.out _).mono ?_
        rintro e w3 ⟨rfl, rfl⟩
        go_wp2_with fail
        go_ret
        exact ⟨rfl, HB2.out⟩
      | true =>
        cases B2 with
        | false =>
          go_enter Tryd.func58, Tryd.ntmps58
          go_wp2_with fail
          go_region
          go_wp2_with fail
          refine (H1.out _).mono ?_
          rintro e w3 ⟨rfl, rfl⟩
          go_wp2_with fail
          refine (H2.out _).mono ?_
          rintro e w3 ⟨rfl, rfl⟩
          go_wp2_with fail
          go_ret
          exact ⟨rfl, HB2.out⟩
        | true =>
          by_cases hn : n = -1
          · subst hn
            go_enter Tryd.func58, Tryd.ntmps58
            go_wp2_with fail
            go_region
            go_wp2_with fail
            refine (H1.out _).mono ?_
            rintro e w3 ⟨rfl, rfl⟩
            go_wp2_with fail
            refine (H2.out _).mono ?_
            rintro e w3 ⟨rfl, rfl⟩
            go_wp2_with fail
            go_ret
            exact ⟨rfl, HB2.out⟩
          · have k3 : (n == -1) = false := beq_eq_false_iff_ne.2 hn
            rw [show decide (n = -1) = false from decide_eq_false hn]
            clear hn
            cases B3 with
            | false =>
              go_enter Tryd.func58, Tryd.ntmps58
              go_wp2_with fail
              go_region
              go_wp2_with fail
              refine (H1.out _).mono ?_
              rintro e w3 ⟨rfl, rfl⟩
              go_wp2_with fail
              refine (H2.out _).mono ?_
              rintro e w3 ⟨rfl, rfl⟩
              go_wp2_with fail
              refine (H3.out _).mono ?_
              rintro e w3 ⟨rfl, rfl⟩
              go_wp2_with fail
              go_ret
              exact ⟨rfl, HB2.out⟩
            | true =>
              go_enter Tryd.func58, Tryd.ntmps58
              go_wp2_with fail
              go_region
              go_wp2_with fail
              refine (H1.out _).mono ?_
              rintro e w3 ⟨rfl, rfl⟩
              go_wp2_with fail
              refine (H2.out _).mono ?_
              rintro e w3 ⟨rfl, rfl⟩
              go_wp2_with fail
              refine (H3.out _).mono ?_
              rintro e w3 ⟨rfl, rfl⟩
              go_wp2_with fail
              go_ret
              exact ⟨rfl, HB2.out⟩
    · have hv : decide (mayB 3 0 m d wd n) = false := decide_eq_false (fun h => by rcases h with h | h | h | h <;> omega)
      rw [hv]
      have zb : ((0 : Int) == d) = false := beq_eq_false_iff_ne.2 (fun h => zd h.symm)
      clear hv zd hL
      go_enter Tryd.func58, Tryd.ntmps58
      go_wp2_with fail
      go_region
      go_wp2_with fail
      go_ret
      exact ⟨rfl, by rw [Hb0.out]; rw [← Hb0.out]; exact ((bstep w _).alloc (by simp) _).drewN _⟩
  · have hv : decide (mayB 3 y m d wd n) = false := decide_eq_false (fun h => by rcases h with h | h | h | h <;> omega)
    rw [hv]
    have zb : ((0 : Int) == y) = false := beq_eq_false_iff_ne.2 (fun h => zy h.symm)
    clear hv zy hL
    go_enter Tryd.func58, Tryd.ntmps58
    go_wp2_with fail
    go_region
    go_wp2_with fail
    go_ret
    exact ⟨rfl, by rw [Hb0.out]; rw [← Hb0.out]; exact ((bstep w _).alloc (by simp) _).drewN _⟩
set_option maxRecDepth 100000 in
set_option maxHeartbeats 8000000 in
theorem mayBe4 (y m d wd n : Int) (w : World) (hL : Lens w) : Calls Tryd.prog 58 #[.agg #[.int .i64 4, .int .i64 y, .int .i64 m, .int .i64 d, .int .i64 wd, .int .i64 n]] w fun e w' => e = .returned (.bool (decide (mayB 4 y m d wd n))) ∧ Below w.heap.size w w' := by
  obtain ⟨b0, hb0⟩ : ∃ b0, w.heap.size = b0 := ⟨_, rfl⟩
  have Hb0 := Lib.hid hb0
  by_cases zy : y = 0
  · subst zy
    by_cases zm : m = 0
    · subst zm
      by_cases zd : d = 0
      · subst zd
        by_cases zwd : wd = 0
        · subst zwd
          obtain ⟨B1, hB1⟩ : ∃ B, (decide ((-100 : Int) ≤ n) && decide (n ≤ 200)) = B := ⟨_, rfl⟩
          have hv : decide (mayB 4 0 0 0 0 n) = B1 := by
            rw [← hB1, Bool.eq_iff_iff]
            simp only [decide_eq_true_eq, Bool.and_eq_true]
            constructor
            · intro h; rcases h with h | h | h | h <;> omega
            · intro h; exact .inr (.inr (.inr ⟨rfl, rfl, rfl, rfl, rfl, h.1, h.2⟩))
          have H1 := in_calls n (-100) 200
          rw [hB1] at H1
          replace H1 := Lib.hid H1
          rw [hv]
          have HB2 := Lib.hid (show Below w.heap.size w ((w.alloc (.cells #[.int .i64 4, .int .i64 0, .int .i64 0, .int .i64 0, .int .i64 0, .int .i64 n] 137)).alloc (.cells #[.int .i64 4, .int .i64 0, .int .i64 0, .int .i64 0, .int .i64 0, .int .i64 n] 137)) from (bstep w _).alloc (by simp) _)
          clear hv hB1 hL
          cases B1 with
          | false =>
            go_enter Tryd.func58, Tryd.ntmps58
            go_wp2_with fail
            refine (H1.out _).mono ?_
            rintro e w3 ⟨rfl, rfl⟩
            go_wp2_with fail
            go_ret
            exact ⟨rfl, HB2.out⟩
          | true =>
            go_enter Tryd.func58, Tryd.ntmps58
            go_wp2_with fail
            refine (H1.out _).mono ?_
            rintro e w3 ⟨rfl, rfl⟩
            go_wp2_with fail
            go_ret
            exact ⟨rfl, HB2.out⟩
        · have hv : decide (mayB 4 0 0 0 wd n) = false := decide_eq_false (fun h => by rcases h with h | h | h | h <;> omega)
          rw [hv]
          have zb : ((0 : Int) == wd) = false := beq_eq_false_iff_ne.2 (fun h => zwd h.symm)
          clear hv zwd hL
          go_enter Tryd.func58, Tryd.ntmps58
          go_wp2_with fail
          go_ret
          exact ⟨rfl, (bstep w _).alloc (by simp) _⟩
      · have hv : decide (mayB 4 0 0 d wd n) = false := decide_eq_false (fun h => by rcases h with h | h | h | h <;> omega)
        rw [hv]
        have zb : ((0 : Int) == d) = false := beq_eq_false_iff_ne.2 (fun h => zd h.symm)
        clear hv zd hL
        go_enter Tryd.func58, Tryd.ntmps58
        go_wp2_with fail
        go_ret
        exact ⟨rfl, (bstep w _).alloc (by simp) _⟩
    · have hv : decide (mayB 4 0 m d wd n) = false := decide_eq_false (fun h => by rcases h with h | h | h | h <;> omega)
      rw [hv]
      have zb : ((0 : Int) == m) = false := beq_eq_false_iff_ne.2 (fun h => zm h.symm)
      clear hv zm hL
      go_enter Tryd.func58, Tryd.ntmps58
      go_wp2_with fail
      go_ret
      exact ⟨rfl, (bstep w _).alloc (by simp) _⟩
  · have hv : decide (mayB 4 y m d wd n) = false := decide_eq_false (fun h => by rcases h with h | h | h | h <;> omega)
    rw [hv]
    have zb : ((0 : Int) == y) = false := beq_eq_false_iff_ne.2 (fun h => zy h.symm)
    clear hv zy hL
    go_enter Tryd.func58, Tryd.ntmps58
    go_wp2_with fail
    go_ret
    exact ⟨rfl, (bstep w _).alloc (by simp) _⟩
set_option maxRecDepth 100000 in
set_option maxHeartbeats 8000000 in
theorem mayBe_calls (k y m d wd n : Int) (w : World) (hL : Lens w) : Calls Tryd.prog 58 #[.agg #[.int .i64 k, .int .i64 y, .int .i64 m, .int .i64 d, .int .i64 wd, .int .i64 n]] w fun e w' => e = .returned (.bool (decide (mayB k y m d wd n))) ∧ Below w.heap.size w w' := by
  by_cases k2 : k = 2
  · subst k2; exact mayBe2 y m d wd n w hL
  · by_cases k1 : k = 1
    · subst k1; exact mayBe1 y m d wd n w hL
    · by_cases k3 : k = 3
      · subst k3; exact mayBe3 y m d wd n w hL
      · by_cases k4 : k = 4
        · subst k4; exact mayBe4 y m d wd n w hL
        · rw [show decide (mayB k y m d wd n) = false from decide_eq_false (fun h => by rcases h with h | h | h | h <;> omega)]
          have q1 : (k == 1) = false := beq_eq_false_iff_ne.2 k1
          have q2 : (k == 2) = false := beq_eq_false_iff_ne.2 k2
          have q3 : (k == 3) = false := beq_eq_false_iff_ne.2 k3
          have q4 : (k == 4) = false := beq_eq_false_iff_ne.2 k4
          clear k1 k2 k3 k4 hL
          go_enter Tryd.func58, Tryd.ntmps58
          go_wp2_with fail
          go_ret
          exact ⟨rfl, (bstep w _).alloc (by simp) _⟩
end Go.Proofs.YtgbkedjjgbhcmaaDoor

/-
  The document's word on whether a holiday may be, walked. Conditions stand at each theorem.
-/
namespace Go.Proofs.YtgbkedjjgbhcmaaDoor
open Go Go.RowKit Go.Kw Go.Kw.Cv Go.Shelf
set_option linter.unusedVariables false
set_option linter.unusedSimpArgs false

end Go.Proofs.YtgbkedjjgbhcmaaDoor

/-
  Whether a calendar may be: days.Check, walked. Conditions stand at each theorem.
-/
namespace Go.Proofs.YtgbkedjjgbhcmaaDoor
open Go Go.RowKit Go.Kw Go.Kw.Cv Go.Shelf Go.Maps
set_option linter.unusedVariables false
set_option linter.unusedSimpArgs false

/-- The holiday i, the season i, one that was met before. -/
def holOk (g : Nat → Nat → Int) (i : Nat) : Prop := mayB (g i 0) (g i 1) (g i 2) (g i 3) (g i 4) (g i 5)
def seaOk (g : Nat → Nat → Int) (i : Nat) : Prop := 1 ≤ g i 0 ∧ g i 0 ≤ 99 ∧ okD 2001 (g i 1) (g i 2)
def seaDup (g : Nat → Nat → Int) (i : Nat) : Prop := ∃ j, j < i ∧ g j 1 = g i 1 ∧ g j 2 = g i 2
/-- May there be such a calendar? -/
def calOk (la : Nat) (gh : Nat → Nat → Int) (lb : Nat) (gs : Nat → Nat → Int) : Prop :=
  la ≤ 100 ∧ lb ≤ 12 ∧ (∀ i, i < la → holOk gh i) ∧ (∀ i, i < lb → seaOk gs i ∧ ¬ seaDup gs i)
noncomputable instance (la : Nat) (gh : Nat → Nat → Int) (lb : Nat) (gs : Nat → Nat → Int) : Decidable (calOk la gh lb gs) := Classical.propDecidable _
noncomputable def calE (la : Nat) (gh : Nat → Nat → Int) (lb : Nat) (gs : Nat → Nat → Int) : Int := if calOk la gh lb gs then 0 else 80
def kInt : Nat → IntKind := fun _ => .i64
/-- A calendar as a value, and what is read of it. -/
def calC (A : Option Addr) (la ca : Nat) (B : Option Addr) (lb cb : Nat) : Value := .agg #[.slice A la ca, .slice B lb cb]
def RdCal (w : World) (A : Option Addr) (la ca : Nat) (gh : Nat → Nat → Int) (B : Option Addr) (lb cb : Nat) (gs : Nat → Nat → Int) : Prop :=
  IRows 6 kInt w A la ca gh ∧ IRows 3 kInt w B lb cb gs
theorem RdCal.go {w w' : World} {A : Option Addr} {la ca : Nat} {gh : Nat → Nat → Int} {B : Option Addr} {lb cb : Nat} {gs : Nat → Nat → Int} (h : RdCal w A la ca gh B lb cb gs) (hb : Below w.heap.size w w') : RdCal w' A la ca gh B lb cb gs := ⟨h.1.go hb, h.2.go hb⟩
theorem lawI : Keyed Tryd.prog 3 := int_keyed Tryd.underlying3
theorem zeroI (w : World) : (zeroValue 3).run Tryd.prog w = .ok (.int .i64 0) w := by kernel_rfl
noncomputable abbrev pInt : Value → Option (DataW Unit × List MemPlace) := plainElem Tryd.prog 3
/-- What the map of beginnings says, of the first k seasons. -/
def MapSays (gs : Nat → Nat → Int) (k : Nat) (D : DataW Unit) : Prop :=
  ∀ m d, okD 2001 m d → ∃ c : Int, D.atKey (.int .i64 (100 * m + d)) (.lit (.int .i64 0)) = .lit (.int .i64 c) ∧ (c = 0 ↔ ¬ ∃ j, j < k ∧ gs j 1 = m ∧ gs j 2 = d)
theorem place_in {m d : Int} (h : okD 2001 m d) : wrap64 (wrap64 (100 * m) + d) = 100 * m + d := by
  have h1 := dim_month h
  have h2 := dim_lo 2001 m h1
  unfold okD at h
  rw [wrap64_in (100 * m) (by omega), wrap64_in _ (by omega)]
theorem place_inj {m d m' d' : Int} (h : okD 2001 m d) (h' : okD 2001 m' d') (e : 100 * m + d = 100 * m' + d') : m = m' ∧ d = d' := by
  have h1 := dim_lo 2001 m (dim_month h)
  have h2 := dim_lo 2001 m' (dim_month h')
  unfold okD at h h'
  omega
theorem mapSays_0 (gs : Nat → Nat → Int) : MapSays gs 0 (.map []) := fun m d h => ⟨0, rfl, by simp⟩
theorem mapSays_put (gs : Nat → Nat → Int) (k : Nat) (D : DataW Unit) (hD : IsMap D) (h : MapSays gs k D) (hn : 1 ≤ gs k 0) (hok : okD 2001 (gs k 1) (gs k 2)) : MapSays gs (k + 1) (D.put (.int .i64 (100 * gs k 1 + gs k 2)) (.lit (.int .i64 (gs k 0)))) := by
  intro m d hmd
  by_cases he : 100 * gs k 1 + gs k 2 = 100 * m + d
  · refine ⟨gs k 0, ?_, ?_⟩
    · rw [← he]; exact atKey_put_same hD (by trivial) _ _
    · obtain ⟨e1, e2⟩ := place_inj hok hmd he
      constructor
      · intro h0; omega
      · intro h0; exact absurd ⟨k, by omega, e1, e2⟩ h0
  · obtain ⟨c, hc, hi⟩ := h m d hmd
    refine ⟨c, ?_, ?_⟩
    · rw [atKey_put_other (fun e => he (by injection e with e1 e2; exact e2.symm))]; exact hc
    · rw [hi]
      constructor
      · rintro h0 ⟨j, hj, e1, e2⟩
        by_cases hjk : j = k
        · subst hjk; exact he (by rw [e1, e2])
        · exact h0 ⟨j, by omega, e1, e2⟩
      · rintro h0 ⟨j, hj, e1, e2⟩; exact h0 ⟨j, by omega, e1, e2⟩
/-- What stands at the head of the first loop, of the second. -/
def Chk1 (la : Nat) (gh : Nat → Nat → Int) (lb : Nat) (k : Nat) (F : Bool) : Prop := F = true ↔ (la ≤ 100 ∧ lb ≤ 12 ∧ ∀ i, i < k → holOk gh i)
def Chk2 (la : Nat) (gh : Nat → Nat → Int) (lb : Nat) (gs : Nat → Nat → Int) (k : Nat) (F : Bool) : Prop := F = true ↔ (la ≤ 100 ∧ lb ≤ 12 ∧ (∀ i, i < la → holOk gh i) ∧ (∀ i, i < k → seaOk gs i ∧ ¬ seaDup gs i))
theorem chk1_step {la : Nat} {gh : Nat → Nat → Int} {lb k : Nat} {F : Bool} (h : Chk1 la gh lb k F) (b : Bool) (hb : b = true ↔ holOk gh k) : Chk1 la gh lb (k + 1) (F && b) := by
  unfold Chk1 at *
  rw [Bool.and_eq_true, h, hb]
  constructor
  · rintro ⟨⟨h1, h2, h3⟩, h4⟩
    refine ⟨h1, h2, fun i hi => ?_⟩
    by_cases e : i = k
    · rw [e]; exact h4
    · exact h3 i (by omega)
  · rintro ⟨h1, h2, h3⟩
    exact ⟨⟨h1, h2, fun i hi => h3 i (by omega)⟩, h3 k (by omega)⟩
theorem chk2_step {la : Nat} {gh : Nat → Nat → Int} {lb : Nat} {gs : Nat → Nat → Int} {k : Nat} {F G : Bool} (h : Chk2 la gh lb gs k F) (hG : G = true ↔ (F = true ∧ seaOk gs k ∧ ¬ seaDup gs k)) : Chk2 la gh lb gs (k + 1) G := by
  unfold Chk2 at *
  rw [hG, h]
  constructor
  · rintro ⟨⟨h1, h2, h3, h4⟩, h5⟩
    refine ⟨h1, h2, h3, fun i hi => ?_⟩
    by_cases e : i = k
    · rw [e]; exact h5
    · exact h4 i (by omega)
  · rintro ⟨h1, h2, h3, h4⟩
    exact ⟨⟨h1, h2, h3, fun i hi => h4 i (by omega)⟩, h4 k (by omega)⟩
theorem meas_step (lb q : Nat) (h : q + 1 ≤ lb) : lb - (intOf (Value.int .i64 ((q : Int) + 1))).toNat < lb - (intOf (Value.int .i64 (q : Int))).toNat := by
  show lb - ((q : Int) + 1).toNat < lb - (q : Int).toNat
  omega
theorem own_map_below {P : Program} {k : TypeId} {R : Value → Option (DataW Unit × List MemPlace)} {b n : Nat} {D : DataW Unit} {w w' : World} (h : w.ownsMap P k R b n D) (hb : Below w.heap.size w w') : w'.ownsMap P k R b n D := by
  have hlt := h.lt
  obtain ⟨es, clock, hh, F, hs, hD⟩ := h
  exact ⟨es, clock, (hb.block b hlt).trans hh, F, hs, hD⟩
set_option maxRecDepth 100000 in
set_option maxHeartbeats 8000000 in
theorem daysCheck_calls (A : Option Addr) (la ca : Nat) (gh : Nat → Nat → Int) (B : Option Addr) (lb cb : Nat) (gs : Nat → Nat → Int) (w : World) (hR : RdCal w A la ca gh B lb cb gs) (hL : Lens w) :
    Calls Tryd.prog 33 #[calC A la ca B lb cb] w fun e w' => e = .returned (.int .i64 (calE la gh lb gs)) ∧ Below w.heap.size w w' := by
  obtain ⟨b0, hb0⟩ : ∃ b0, w.heap.size = b0 := ⟨_, rfl⟩
  have Hb0 := Lib.hid hb0
  have hrow := World.alloc_heap_new w (.cells #[.slice A la ca, .slice B lb cb] 47)
  have hB1 := bstep w (.cells #[.slice A la ca, .slice B lb cb] 47)
  have hs1 : (w.alloc (.cells #[.slice A la ca, .slice B lb cb] 47)).heap.size = b0 + 1 := by simp [hb0]
  have hL1 := hL.alloc (.cells #[.slice A la ca, .slice B lb cb] 47)
  rw [hb0] at hrow hB1
  have HR := Lib.hid hR
  have hla := hR.1.1
  have hca := hR.1.2.1
  have hlb := hR.2.1
  have hcb := hR.2.2.1
  have hmx : maxLen = 9223372036854775807 := rfl
  have Hlen := Lib.hid (show la ≤ 9223372036854775807 ∧ lb ≤ 9223372036854775807 by omega)
  have hmm := @run_makeMap Tryd.prog
  obtain ⟨F0, hF0⟩ : ∃ F : Bool, (decide ((la : Int) ≤ 100) && decide ((lb : Int) ≤ 12)) = F := ⟨_, rfl⟩
  have hC0 : Chk1 la gh lb 0 F0 := by
    unfold Chk1; rw [← hF0, Bool.and_eq_true, decide_eq_true_eq, decide_eq_true_eq]
    constructor
    · rintro ⟨h1, h2⟩; exact ⟨by omega, by omega, fun i hi => absurd hi (by omega)⟩
    · rintro ⟨h1, h2, _⟩; exact ⟨by omega, by omega⟩
  unfold calC
  clear hR hL hla hca hlb hcb hmx
  go_enter Tryd.func33, Tryd.ntmps33
  go_upto_region 1 with fail
  go_cut [3] from 9 (fun s3 wx => s3 = .bool F0 ∧ wx = w.alloc (.cells #[.slice A la ca, .slice B lb cb] 47))
  case first =>
    go_wp2_with fail
    all_goals (go_meet; exact ⟨by rw [← hF0]; by_cases h1 : (la : Int) ≤ 100 <;> first | (exfalso; omega) | simp [h1], rfl⟩)
  case rest =>
    obtain ⟨rfl, rfl⟩ := hcut
    clear hF0
    go_wp2_with fail
    go_loopw [3, 22] (fun f i wr => ∃ (k : Nat) (F : Bool), k ≤ la ∧ i = .int .i64 k ∧ f = .bool F ∧ Chk1 la gh lb k F ∧ Below b0 w wr ∧ b0 + 1 ≤ wr.heap.size ∧ wr.heap[b0]? = some (.cells #[.slice A la ca, .slice B lb cb] 47 (0, 0)) ∧ Lens wr) (fun _ i _ => la - (intOf i).toNat)
    case atStart => exact ⟨0, F0, by omega, rfl, rfl, hC0, hB1, by rw [hs1]; exact Nat.le_refl _, hrow, hL1⟩
    case round =>
      obtain ⟨k, F, hk, rfl, rfl, hC, hB, hs, hr, hLw⟩ := hrel
      by_cases hlt : k < la
      · have hI : (k : Int) < la := by omega
        obtain ⟨sb, off, rfl, hsb, hc⟩ := HR.out.1.at_ (by omega) hlt
        have hsb0 : sb < b0 := by have := Hb0.out; omega
        have hc' : ∀ j, j < 6 → wr.cell? ⟨sb, off + k * 6 + j, none⟩ = some (.int .i64 (gh k j)) := fun j hj => (hB.cell (p := ⟨sb, off + k * 6 + j, none⟩) hsb0).trans (hc j hj)
        have c0 : wr.cell? ⟨sb, off + k * 6, none⟩ = some (.int .i64 (gh k 0)) := hc' 0 (by omega)
        have c1 := hc' 1 (by omega)
        have c2 := hc' 2 (by omega)
        have c3 := hc' 3 (by omega)
        have c4 := hc' 4 (by omega)
        have c5 := hc' 5 (by omega)
        have w1 : IntKind.i64.wrap ((k : Int) + 1) = (k : Int) + 1 := i64_same _ (by have := Hlen.out; omega)
        have X1 := Lib.hid (wrap64_in ((k : Int) + 1) (by have := Hlen.out; omega))
        have hL2 := hLw.alloc (.cells #[.int .i64 (gh k 0), .int .i64 (gh k 1), .int .i64 (gh k 2), .int .i64 (gh k 3), .int .i64 (gh k 4), .int .i64 (gh k 5)] 137)
        have hM := mayBe_calls (gh k 0) (gh k 1) (gh k 2) (gh k 3) (gh k 4) (gh k 5) _ hL2
        obtain ⟨b, hb⟩ : ∃ b, decide (mayB (gh k 0) (gh k 1) (gh k 2) (gh k 3) (gh k 4) (gh k 5)) = b := ⟨_, rfl⟩
        rw [hb] at hM
        have hN := chk1_step hC b (by rw [← hb, decide_eq_true_eq]; rfl)
        have hst := bstep wr (.cells #[.int .i64 (gh k 0), .int .i64 (gh k 1), .int .i64 (gh k 2), .int .i64 (gh k 3), .int .i64 (gh k 4), .int .i64 (gh k 5)] 137)
        have HM := Lib.hid hM
        have Hk := Lib.hid (show k + 1 ≤ la from hlt)
        clear hc hc' hM hb
        cases F with
        | true =>
          rw [Bool.true_and] at hN
          have HN := Lib.hid hN
          clear hN hC hk hlt
          have x1 := X1.out
          go_wp2_with fail
          refine HM.out.mono ?_
          rintro e w2 ⟨rfl, hb2⟩
          have hbb := bnext hst hb2
          go_wp2_with fail
          refine ⟨⟨k + 1, b, Hk.out, by push_cast; rfl, rfl, HN.out, hB.trans (hbb.mono (by omega)), Nat.le_trans hs hbb.size, blk_below hr hbb, hLw.go hbb⟩, by simp [intOf]; have := Hk.out; omega⟩
        | false =>
          rw [Bool.false_and] at hN
          have HN := Lib.hid hN
          clear hN hC hk hlt
          have x1 := X1.out
          go_wp2_with fail
          refine ⟨⟨k + 1, false, Hk.out, by push_cast; rfl, rfl, HN.out, hB.trans (hst.mono (by omega)), Nat.le_trans hs hst.size, blk_below hr hst, hLw.go hst⟩, by simp [intOf]; have := Hk.out; omega⟩
      · obtain rfl : k = la := by omega
        have hC2 : Chk2 k gh lb gs 0 F := by
          unfold Chk1 at hC; unfold Chk2
          rw [hC]
          exact ⟨fun h => ⟨h.1, h.2.1, h.2.2, fun i hi => absurd hi (by omega)⟩, fun h => ⟨h.1, h.2.1, h.2.2.1⟩⟩
        obtain ⟨mb, hmb⟩ : ∃ mb, wr.heap.size = mb := ⟨_, rfl⟩
        have Hmb := Lib.hid hmb
        have hom : (wr.alloc (.map #[] 0)).ownsMap Tryd.prog 3 pInt mb 0 (.map []) := hmb ▸ World.ownsMap_made wr _ _ _
        have hst := bstep wr (.map #[] 0)
        have hr2 := blk_below hr hst
        have hL2 := hLw.go hst
        have hB2 := hB.trans (hst.mono (by omega))
        have hs2 : mb + 1 ≤ (wr.alloc (.map #[] 0)).heap.size := by simp [hmb]
        have Hmb0 := Lib.hid (show b0 + 1 ≤ mb by omega)
        have e1 := cell_of_row _ b0 1 _ _ _ hr2
        clear hC hk hlt hst hr hLw hB hs hC0
        go_wp2_with fail
        clear e1
        go_loopw [3, 36] (fun f i wq => ∃ (q : Nat) (G : Bool) (D : DataW Unit), q ≤ lb ∧ i = .int .i64 q ∧ f = .bool G ∧ Chk2 k gh lb gs q G ∧ Below b0 w wq ∧ mb + 1 ≤ wq.heap.size ∧ Lens wq ∧
          wq.ownsMap Tryd.prog 3 pInt mb q D ∧ IsMap D ∧ (G = true → MapSays gs q D)) (fun _ i _ => lb - (intOf i).toNat)
        case atStart => exact ⟨0, F, _, by omega, rfl, rfl, hC2, hB2, hs2, hL2, hom, ⟨_, rfl⟩, fun _ => mapSays_0 gs⟩
        case round =>
          obtain ⟨q, G, D, hq, rfl, rfl, hG, hBq, hsq, hLq, hoq, hD, hMs⟩ := hrel
          by_cases hlt : q < lb
          · have hI : (q : Int) < lb := by omega
            obtain ⟨sb, off, rfl, hsb, hc⟩ := HR.out.2.at_ (by omega) hlt
            have hsb0 : sb < b0 := by have := Hb0.out; omega
            have hwf := HR.out.2.2.2.2.2 q 0 hlt (by omega)
            have hc' : ∀ j, j < 3 → wr.cell? ⟨sb, off + q * 3 + j, none⟩ = some (.int .i64 (gs q j)) := fun j hj => (hBq.cell (p := ⟨sb, off + q * 3 + j, none⟩) hsb0).trans (hc j hj)
            have c0 : wr.cell? ⟨sb, off + q * 3, none⟩ = some (.int .i64 (gs q 0)) := hc' 0 (by omega)
            have c1 := hc' 1 (by omega)
            have c2 := hc' 2 (by omega)
            obtain ⟨W1, hW1⟩ : ∃ W1, wr.alloc (.cells #[.int .i64 (gs q 0), .int .i64 (gs q 1), .int .i64 (gs q 2)] 125) = W1 := ⟨_, rfl⟩
            have hst : Below wr.heap.size wr W1 := hW1 ▸ bstep wr _
            have hrS : W1.heap[wr.heap.size]? = some (.cells #[.int .i64 (gs q 0), .int .i64 (gs q 1), .int .i64 (gs q 2)] 125 (0, 0)) := hW1 ▸ World.alloc_heap_new wr _
            have hB1 : Below b0 w W1 := hBq.trans (hst.mono (by have := Hmb0.out; omega))
            have hs1' : mb + 1 ≤ W1.heap.size := Nat.le_trans hsq hst.size
            have hL1' : Lens W1 := hLq.go hst
            have ho1 : W1.ownsMap Tryd.prog 3 pInt mb q D := hW1 ▸ hoq.alloc _
            have w1 : IntKind.i64.wrap ((q : Int) + 1) = (q : Int) + 1 := i64_same _ (by have := Hlen.out; omega)
            have X1 := Lib.hid (wrap64_in ((q : Int) + 1) (by have := Hlen.out; omega))
            have Hq := Lib.hid (show q + 1 ≤ lb from hlt)
            have HG := Lib.hid hG
            have hmbW : mb < W1.heap.size := by omega
            clear hc hc' hG hBq hsq hLq hoq hq hlt hst
            go_upto_region 11 with fail
            try rw [hW1]
            clear hW1
            go_cut [3] from 40 to 71 (fun s3 wx => ∃ G' : Bool, s3 = .bool G' ∧ (G' = true ↔ (G = true ∧ seaOk gs q ∧ ¬ seaDup gs q)) ∧ Below W1.heap.size W1 wx)
            case first =>
              have d0 := cell_of_row W1 wr.heap.size 0 _ _ _ hrS
              have d1 := cell_of_row W1 wr.heap.size 1 _ _ _ hrS
              have d2 := cell_of_row W1 wr.heap.size 2 _ _ _ hrS
              cases G with
              | false =>
                go_wp2_with fail
                go_meet
                exact ⟨false, rfl, by simp, Below.refl _ _⟩
              | true =>
                obtain ⟨N1, hN1⟩ : ∃ N, (decide (1 ≤ gs q 0) && decide (gs q 0 ≤ 99)) = N := ⟨_, rfl⟩
                have H1 := in_calls (gs q 0) 1 99
                rw [hN1] at H1
                replace H1 := Lib.hid H1
                cases N1 with
                | false =>
                  have hno : ¬ seaOk gs q := fun h => by
                    have : (decide (1 ≤ gs q 0) && decide (gs q 0 ≤ 99)) = true := by rw [Bool.and_eq_true, decide_eq_true_eq, decide_eq_true_eq]; exact ⟨h.1, h.2.1⟩
                    rw [hN1] at this; cases this
                  have HNo := Lib.hid hno
                  clear hN1 hno
                  go_wp2_with fail
                  refine (H1.out _).mono ?_
                  rintro e w3 ⟨rfl, rfl⟩
                  go_wp2_with fail
                  go_meet
                  exact ⟨false, rfl, by simp [HNo.out], Below.refl _ _⟩
                | true =>
                  have hn1 : 1 ≤ gs q 0 ∧ gs q 0 ≤ 99 := by
                    rw [Bool.and_eq_true, decide_eq_true_eq, decide_eq_true_eq] at hN1; exact hN1
                  have Hn1 := Lib.hid hn1
                  have HI := is_calls 2001 (gs q 1) (gs q 2) W1 hL1'
                  by_cases hok : okD 2001 (gs q 1) (gs q 2)
                  · rw [decide_eq_true hok] at HI
                    replace HI := Lib.hid HI
                    have Hok := Lib.hid hok
                    have HP := place_calls (gs q 1) (gs q 2)
                    rw [place_in hok] at HP
                    replace HP := Lib.hid HP
                    obtain ⟨c, hc, hci⟩ := hMs rfl (gs q 1) (gs q 2) hok
                    have Hc := Lib.hid hc
                    have Hci := Lib.hid hci
                    clear hN1 hn1 hok hMs hc hci
                    go_wp2_with fail
                    refine (H1.out _).mono ?_
                    rintro e w3 ⟨rfl, rfl⟩
                    go_wp2_with fail
                    refine HI.out.mono ?_
                    rintro e w4 ⟨rfl, hb4⟩
                    have e1 := cell_of_row w4 wr.heap.size 1 _ _ _ (blk_below hrS hb4)
                    have e2 := cell_of_row w4 wr.heap.size 2 _ _ _ (blk_below hrS hb4)
                    have ho4 := own_map_below ho1 hb4
                    go_wp2_with fail
                    refine (HP.out _).mono ?_
                    rintro e w5 ⟨rfl, rfl⟩
                    have hkw : (Lit.int .i64 (100 * gs q 1 + gs q 2)).wf = true := by rw [← place_in Hok.out]; exact wrap64_wf _
                    obtain ⟨c', hrun, hat, -⟩ := ho4.lookup_int lawI Tryd.underlying139 Tryd.underlying3 (zeroI _) (keyOf_int_mk Tryd.underlying3 hkw)
                    rw [Hc.out] at hat
                    have hcc : c = c' := by injection hat with h1; injection h1
                    subst hcc
                    clear hat hkw ho4 hmm
                    by_cases hc0 : c = 0
                    · have Hdup := Lib.hid (show ¬ seaDup gs q from Hci.out.1 hc0)
                      have kc : (c == 0) = true := beq_iff_eq.2 hc0
                      clear hc0
                      go_wp2_with fail
                      go_meet
                      exact ⟨true, rfl, by simp only [true_iff]; exact ⟨trivial, ⟨Hn1.out.1, Hn1.out.2, Hok.out⟩, Hdup.out⟩, hb4⟩
                    · have Hdup := Lib.hid (show seaDup gs q from Classical.not_not.1 (fun h => hc0 (Hci.out.2 h)))
                      have kc : (c == 0) = false := beq_eq_false_iff_ne.2 hc0
                      clear hc0
                      go_wp2_with fail
                      go_meet
                      exact ⟨false, rfl, by simp [Hdup.out], hb4⟩
                  · rw [decide_eq_false hok] at HI
                    replace HI := Lib.hid HI
                    have HNo := Lib.hid (show ¬ seaOk gs q from fun h => hok h.2.2)
                    clear hN1 hn1 hok
                    go_wp2_with fail
                    refine (H1.out _).mono ?_
                    rintro e w3 ⟨rfl, rfl⟩
                    go_wp2_with fail
                    refine HI.out.mono ?_
                    rintro e w4 ⟨rfl, hb4⟩
                    go_wp2_with fail
                    go_meet
                    exact ⟨false, rfl, by simp [HNo.out], hb4⟩
            case rest =>
              obtain ⟨G', rfl, hG', hbx⟩ := hcut
              have hrx := blk_below hrS hbx
              have d0 := cell_of_row wc wr.heap.size 0 _ _ _ hrx
              have d1 := cell_of_row wc wr.heap.size 1 _ _ _ hrx
              have d2 := cell_of_row wc wr.heap.size 2 _ _ _ hrx
              have hox := own_map_below ho1 hbx
              obtain ⟨wu, hupd, hou, hgu⟩ := World.ownsMap.update (w := wc.drew) hox.drew lawI Tryd.underlying139 (by have := Hlen.out; have := Hq.out; unfold maxLen; omega) (keyOf_int_mk Tryd.underlying3 (wrap64_wf (wrap64 (100 * gs q 1) + gs q 2))) (plainElem_int Tryd.underlying3 hwf)
              have HP := Lib.hid (place_calls (gs q 1) (gs q 2))
              have hN := chk2_step HG.out hG'
              have hsz : wc.heap.size ≤ wu.heap.size := hgu.size
              have hDu : IsMap (D.put (.int .i64 (wrap64 (wrap64 (100 * gs q 1) + gs q 2))) (.lit (.int .i64 (gs q 0)))) := hD.put _ _
              have hMu : G' = true → MapSays gs (q + 1) (D.put (.int .i64 (wrap64 (wrap64 (100 * gs q 1) + gs q 2))) (.lit (.int .i64 (gs q 0)))) := fun h => by
                obtain ⟨h1, h2, -⟩ := hG'.1 h
                rw [place_in h2.2.2]
                exact mapSays_put gs q D hD (hMs h1) h2.1 h2.2.2
              have hm0 := Hmb0.out
              have hxs := hbx.size
              have hBc : Below b0 w wc.drew := (hB1.trans (hbx.mono (by omega))).drew
              have hBu : Below b0 w wu := hBc.grown hgu (by show b0 ≤ wc.heap.size; omega) (fun j e => by injection e with e; omega)
              have hLu : Lens wu := by
                have hLc : Lens wc := hL1'.go hbx
                refine Lens.own mb wc.drew wu (some mb) hLc hgu (fun r e => ?_)
                injection e with e
                subst e
                obtain ⟨es, clock, hh, -, -, -⟩ := hox
                exact ⟨Nat.le_refl _, _, hh, rfl⟩
              have HE := Lib.hid (show Chk2 k gh lb gs (q + 1) G' ∧ Below b0 w wu ∧ mb + 1 ≤ wu.heap.size ∧ Lens wu ∧ wu.ownsMap Tryd.prog 3 pInt mb (q + 1) (D.put (.int .i64 (wrap64 (wrap64 (100 * gs q 1) + gs q 2))) (.lit (.int .i64 (gs q 0)))) ∧ IsMap (D.put (.int .i64 (wrap64 (wrap64 (100 * gs q 1) + gs q 2))) (.lit (.int .i64 (gs q 0)))) ∧ (G' = true → MapSays gs (q + 1) (D.put (.int .i64 (wrap64 (wrap64 (100 * gs q 1) + gs q 2))) (.lit (.int .i64 (gs q 0))))) from
                ⟨hN, hBu, by have := hbx.size; omega, hLu, hou, hDu, hMu⟩)
              clear hN hsz hDu hMu hBu hLu hou hgu hox hmm hG' hMs HG hm0 hxs hBc
              have x1 := X1.out
              go_wp2_with fail
              go_region_with (go_at_call 53; refine (HP.out _).mono ?_; rintro e w3 ⟨rfl, rfl⟩)
              all_goals
                go_wp2_with fail
                clear x1
                have Hq2 := Hq.out
                exact ⟨⟨q + 1, G', (D.put (.int .i64 (wrap64 (wrap64 (100 * gs q 1) + gs q 2))) (.lit (.int .i64 (gs q 0)))), Hq.out, by push_cast; rfl, rfl, HE.out.1, HE.out.2.1, HE.out.2.2.1, HE.out.2.2.2.1, HE.out.2.2.2.2.1, HE.out.2.2.2.2.2.1, HE.out.2.2.2.2.2.2⟩, meas_step lb q Hq2⟩
          · obtain rfl : q = lb := by omega
            have hI : ¬ ((q : Int) < q) := by omega
            have hfin : (G = true → calE k gh q gs = 0) ∧ (G = false → calE k gh q gs = 80) := by
              unfold Chk2 at hG
              constructor
              · intro h; exact if_pos (hG.1 h)
              · intro h; exact if_neg (fun hh => by have := hG.2 hh; rw [h] at this; cases this)
            have Hfin := Lib.hid hfin
            have HBq := Lib.hid hBq
            clear hG hq hlt hBq hsq hLq hoq hD hMs hfin
            cases G with
            | true =>
              go_wp2_with fail
              go_ret
              rw [Hfin.out.1 trivial]
              exact ⟨rfl, by first | exact HBq.out | (rw [Hb0.out]; exact HBq.out)⟩
            | false =>
              go_wp2_with fail
              go_ret
              rw [Hfin.out.2 trivial]
              exact ⟨rfl, by first | exact HBq.out | (rw [Hb0.out]; exact HBq.out)⟩
end Go.Proofs.YtgbkedjjgbhcmaaDoor

/-
  Whether a tariff may be: tariff.Check and its closures, walked. Conditions stand at each theorem.
-/
namespace Go.Proofs.YtgbkedjjgbhcmaaDoor
open Go Go.RowKit Go.Kw Go.Kw.Cv Go.Shelf
set_option linter.unusedVariables false
set_option linter.unusedSimpArgs false

/-- A tariff's parts: zone, calendar, bands, prices: where they lie, and what they say. -/
structure Tar where
  o : Int
  zA : Option Addr
  lr : Nat
  cr : Nat
  zg : Nat → Nat → Int
  hA : Option Addr
  la : Nat
  ca : Nat
  gh : Nat → Nat → Int
  sA : Option Addr
  lb : Nat
  cb : Nat
  gs : Nat → Nat → Int
  pA : Option Addr
  np : Nat
  cp : Nat
  pF : Nat → SlX
  gp : Nat → Nat → Nat → Int
  rA : Option Addr
  nr : Nat
  rc : Nat
  rr : Nat → Nat → Int
  vA : Option Addr
  nv : Nat
  cv : Nat
  vf : Nat → Int
  vF : Nat → SlX
  vp : Nat → Nat → Int
def tarRow (x : Tar) : Array Value := #[.int .i64 x.o, .slice x.zA x.lr x.cr, .slice x.hA x.la x.ca, .slice x.sA x.lb x.cb, .slice x.pA x.np x.cp, .slice x.rA x.nr x.rc, .slice x.vA x.nv x.cv]
def tarV (x : Tar) : Value := .agg (tarRow x)
def RdTar (W : World) (x : Tar) : Prop := RdZ W x.zA x.lr x.cr x.zg ∧ RdCal W x.hA x.la x.ca x.gh x.sA x.lb x.cb x.gs ∧ RdPl W x.pA x.np x.cp x.pF x.gp ∧ IRows 3 kI W x.rA x.nr x.rc x.rr ∧ RdRt W x.vA x.nv x.cv x.vf x.vF x.vp
theorem RdTar.go {W W' : World} {x : Tar} (h : RdTar W x) (hb : Below W.heap.size W W') : RdTar W' x := ⟨h.1.go hb, h.2.1.go hb, h.2.2.1.go hb, h.2.2.2.1.go hb, h.2.2.2.2.go hb⟩
noncomputable def tE1 (x : Tar) : Int := zonE x.o x.lr x.zg
noncomputable def tE2 (x : Tar) : Int := calE x.la x.gh x.lb x.gs
noncomputable def tE3 (x : Tar) : Int := tabE x.np (fun i => (x.pF i).2.1) x.gp x.nr x.rr
noncomputable def tE4 (x : Tar) : Int := ratE x.nv x.vf (fun i => (x.vF i).2.1) x.vp
/-- Is a version of another number of prices? -/
def noEight (x : Tar) : Bool := anyI (fun k => (((x.vF k).2.1 : Int) != 8)) x.nv
def tE5 (x : Tar) : Int := if x.nv = 0 then 110 else if noEight x = true then 110 else 0
noncomputable def tarE (x : Tar) : Int := if tE1 x ≠ 0 then tE1 x else if tE2 x ≠ 0 then tE2 x else if tE3 x ≠ 0 then tE3 x else if tE4 x ≠ 0 then tE4 x else tE5 x
/-- May a tariff be? -/
def TarOk (x : Tar) : Prop := zonOk x.o x.lr x.zg ∧ calOk x.la x.gh x.lb x.gs ∧ tabOk x.np (fun i => (x.pF i).2.1) x.gp x.nr x.rr ∧ ratOk x.nv x.vf (fun i => (x.vF i).2.1) x.vp ∧ 0 < x.nv ∧ ∀ i, i < x.nv → (x.vF i).2.1 = 8
theorem noEight_iff (x : Tar) : noEight x = false ↔ ∀ i, i < x.nv → (x.vF i).2.1 = 8 := by
  unfold noEight
  rw [← Bool.not_eq_true, anyI_iff]
  constructor
  · intro h i hi
    exact Classical.byContradiction fun q => h ⟨i, hi, bne_iff_ne.2 (by omega)⟩
  · rintro h ⟨i, hi, q⟩
    have := bne_iff_ne.1 q
    have := h i hi
    omega
theorem tarE_ok (x : Tar) : tarE x = 0 ↔ TarOk x := by
  have z1 : tE1 x = 0 ↔ zonOk x.o x.lr x.zg := by unfold tE1 zonE; split <;> simp [*]
  have z2 : tE2 x = 0 ↔ calOk x.la x.gh x.lb x.gs := by unfold tE2 calE; split <;> simp [*]
  have z3 : tE3 x = 0 ↔ tabOk x.np (fun i => (x.pF i).2.1) x.gp x.nr x.rr := by unfold tE3 tabE; split <;> simp [*]
  have z4 : tE4 x = 0 ↔ ratOk x.nv x.vf (fun i => (x.vF i).2.1) x.vp := by unfold tE4 ratE; split <;> simp [*]
  have z5 : tE5 x = 0 ↔ 0 < x.nv ∧ ∀ i, i < x.nv → (x.vF i).2.1 = 8 := by
    rw [← noEight_iff]
    unfold tE5
    split
    · simp; omega
    · split
      · simp [*]
      · simp [*]; omega
  unfold TarOk
  rw [← z1, ← z2, ← z3, ← z4, ← z5]
  unfold tarE
  by_cases h1 : tE1 x = 0
  · rw [if_neg (by simp [h1])]
    by_cases h2 : tE2 x = 0
    · rw [if_neg (by simp [h2])]
      by_cases h3 : tE3 x = 0
      · rw [if_neg (by simp [h3])]
        by_cases h4 : tE4 x = 0
        · rw [if_neg (by simp [h4])]; simp [h1, h2, h3, h4]
        · rw [if_pos h4]; simp [h4]
      · rw [if_pos h3]; simp [h3]
    · rw [if_pos h2]; simp [h2]
  · rw [if_pos h1]; simp [h1]

set_option maxRecDepth 100000 in
set_option maxHeartbeats 8000000 in
theorem tC1_calls (x : Tar) (b : Nat) (w : World) (hT : RdTar w x) (hL : Lens w) (hb : w.heap[b]? = some (.cells (tarRow x) 54 (0, 0))) :
    Calls Tryd.prog 30 #[.pointer (some ⟨b, 0, none⟩)] w fun e w' => e = .returned (.int .i64 (tE1 x)) ∧ Below w.heap.size w w' := by
  have hC := zCheck_calls x.o x.zA x.lr x.cr x.zg w hT.1
  try unfold zonC at hC
  try unfold calC at hC
  have HC := Lib.hid hC
  unfold tarRow at hb
  have c0 := cell_of_row w b 0 _ _ _ hb
  have c1 := cell_of_row w b 1 _ _ _ hb
  clear hC hT hL hb
  go_enter Tryd.func30, Tryd.ntmps30
  go_wp2_with fail
  refine HC.out.mono ?_
  rintro e w2 ⟨rfl, hb2⟩
  have HB := Lib.hid hb2
  clear hb2
  go_wp2_with fail
  go_ret
  exact ⟨rfl, HB.out⟩

set_option maxRecDepth 100000 in
set_option maxHeartbeats 8000000 in
theorem tC2_calls (x : Tar) (b : Nat) (w : World) (hT : RdTar w x) (hL : Lens w) (hb : w.heap[b]? = some (.cells (tarRow x) 54 (0, 0))) :
    Calls Tryd.prog 32 #[.pointer (some ⟨b, 0, none⟩)] w fun e w' => e = .returned (.int .i64 (tE2 x)) ∧ Below w.heap.size w w' := by
  have hC := daysCheck_calls x.hA x.la x.ca x.gh x.sA x.lb x.cb x.gs w hT.2.1 hL
  try unfold zonC at hC
  try unfold calC at hC
  have HC := Lib.hid hC
  unfold tarRow at hb
  have c2 := cell_of_row w b 2 _ _ _ hb
  have c3 := cell_of_row w b 3 _ _ _ hb
  clear hC hT hL hb
  go_enter Tryd.func32, Tryd.ntmps32
  go_wp2_with fail
  refine HC.out.mono ?_
  rintro e w2 ⟨rfl, hb2⟩
  have HB := Lib.hid hb2
  clear hb2
  go_wp2_with fail
  go_ret
  exact ⟨rfl, HB.out⟩

set_option maxRecDepth 100000 in
set_option maxHeartbeats 8000000 in
theorem tC3_calls (x : Tar) (b : Nat) (w : World) (hT : RdTar w x) (hL : Lens w) (hb : w.heap[b]? = some (.cells (tarRow x) 54 (0, 0))) :
    Calls Tryd.prog 34 #[.pointer (some ⟨b, 0, none⟩)] w fun e w' => e = .returned (.int .i64 (tE3 x)) ∧ Below w.heap.size w w' := by
  have hC := bandsCheck_calls x.pA x.np x.cp x.pF x.gp x.rA x.nr x.rc x.rr w hT.2.2.1 hT.2.2.2.1
  try unfold zonC at hC
  try unfold calC at hC
  have HC := Lib.hid hC
  unfold tarRow at hb
  have c4 := cell_of_row w b 4 _ _ _ hb
  have c5 := cell_of_row w b 5 _ _ _ hb
  clear hC hT hL hb
  go_enter Tryd.func34, Tryd.ntmps34
  go_wp2_with fail
  refine HC.out.mono ?_
  rintro e w2 ⟨rfl, hb2⟩
  have HB := Lib.hid hb2
  clear hb2
  go_wp2_with fail
  go_ret
  exact ⟨rfl, HB.out⟩

set_option maxRecDepth 100000 in
set_option maxHeartbeats 8000000 in
theorem tC4_calls (x : Tar) (b : Nat) (w : World) (hT : RdTar w x) (hL : Lens w) (hb : w.heap[b]? = some (.cells (tarRow x) 54 (0, 0))) :
    Calls Tryd.prog 36 #[.pointer (some ⟨b, 0, none⟩)] w fun e w' => e = .returned (.int .i64 (tE4 x)) ∧ Below w.heap.size w w' := by
  have hC := ratCheck_calls x.vA x.nv x.cv x.vf x.vF x.vp w hT.2.2.2.2
  try unfold zonC at hC
  try unfold calC at hC
  have HC := Lib.hid hC
  unfold tarRow at hb
  have c6 := cell_of_row w b 6 _ _ _ hb
  clear hC hT hL hb
  go_enter Tryd.func36, Tryd.ntmps36
  go_wp2_with fail
  refine HC.out.mono ?_
  rintro e w2 ⟨rfl, hb2⟩
  have HB := Lib.hid hb2
  clear hb2
  go_wp2_with fail
  go_ret
  exact ⟨rfl, HB.out⟩

set_option maxRecDepth 100000 in
set_option maxHeartbeats 8000000 in
theorem tC5_calls (f : Int) (A : Option Addr) (n c : Nat) (w : World) :
    Calls Tryd.prog 39 #[.agg #[.int .i64 f, .slice A n c]] w fun e w' => e = .returned (.bool ((n : Int) != 8)) ∧ Below w.heap.size w w' := by
  have hst := bstep w (.cells #[.int .i64 f, .slice A n c] 58)
  obtain ⟨V, hV⟩ : ∃ V, ((n : Int) != 8) = V := ⟨_, rfl⟩
  have hV2 : ((n : Int) == 8) = !V := by rw [← hV]; simp [bne]
  rw [hV]
  go_enter Tryd.func39, Tryd.ntmps39
  go_wp2_with fail
  go_ret
  exact ⟨rfl, hst⟩

set_option maxRecDepth 100000 in
set_option maxHeartbeats 8000000 in
theorem idxEight_calls (A : Option Addr) (n c : Nat) (f : Nat → Int) (F : Nat → SlX) (p : Nat → Nat → Int) (w : World) (hR : RdRt w A n c f F p) :
    Calls Tryd.prog 65 #[.slice A n c, .func (.func 39) #[] #[]] w fun e w' => e = .returned (.int .i64 (idxI (fun k => (((F k).2.1 : Int) != 8)) n)) ∧ Below w.heap.size w w' := by
  obtain ⟨b0, hb0⟩ : ∃ b0, w.heap.size = b0 := ⟨_, rfl⟩
  have Hb0 := Lib.hid hb0
  have HR := Lib.hid hR
  have hla := hR.1
  have hca := hR.2.1
  have hmx : maxLen = 9223372036854775807 := rfl
  have Hlen := Lib.hid (show n ≤ 9223372036854775807 by omega)
  obtain ⟨P, hP⟩ : ∃ P : Nat → Bool, (fun k => (((F k).2.1 : Int) != 8)) = P := ⟨_, rfl⟩
  have HPd := Lib.hid hP
  have hB0 := Below.refl b0 w
  rw [hP]
  clear hR hla hca hmx hP
  go_enter Tryd.func65, Tryd.ntmps65
  go_wp2_with fail
  go_loopw [5, 8] (fun s5 i wr => ∃ k : Nat, k ≤ n ∧ i = .int .i64 k ∧ (∀ j, j < k → P j = false) ∧ Below b0 w wr) (fun _ i _ => n - (intOf i).toNat)
  case atStart => exact ⟨0, by omega, rfl, fun j hj => absurd hj (by omega), hB0⟩
  case round =>
    obtain ⟨k, hk, rfl, hA, hB⟩ := hrel
    clear hB0
    by_cases hlt : k < n
    · have hI : (k : Int) < n := by omega
      have hRw : RdRt wr A n c f F p := HR.out.go (by rw [Hb0.out]; exact hB)
      obtain ⟨sb, off, rfl, hsb, q0, q1⟩ := hRw.at_ hlt
      unfold slV at q1
      obtain ⟨P1, hP1⟩ : ∃ x, (F k).1 = x := ⟨_, rfl⟩
      obtain ⟨P2, hP2⟩ : ∃ x, (F k).2.1 = x := ⟨_, rfl⟩
      obtain ⟨P3, hP3⟩ : ∃ x, (F k).2.2 = x := ⟨_, rfl⟩
      rw [hP1, hP2, hP3] at q1
      have hc := hsb

      have HO := tC5_calls (f k) P1 P2 P3 wr
      obtain ⟨V, hV⟩ : ∃ V, (fun k => (((F k).2.1 : Int) != 8)) k = V := ⟨_, rfl⟩
      have hV2 : P k = V := by rw [← HPd.out]; exact hV
      dsimp only at hV
      rw [hP2] at hV
      rw [hV] at HO
      replace HO := Lib.hid HO
      have HV := Lib.hid hV2
      have w1 : IntKind.i64.wrap ((k : Int) + 1) = (k : Int) + 1 := i64_same _ (by have := Hlen.out; omega)
      have X1 := Lib.hid (wrap64_in ((k : Int) + 1) (by have := Hlen.out; omega))
      have Hk := Lib.hid (show k + 1 ≤ n from hlt)
      have Hlt := Lib.hid hlt
      have HA := Lib.hid hA
      have HB := Lib.hid hB
      clear hc hRw hP1 hP2 hP3 hA hB hk hlt hV hV2
      cases V with
      | true =>
        go_wp2_with fail
        refine HO.out.mono ?_
        rintro e w4 ⟨rfl, hb4⟩
        go_wp2_with fail
        go_ret
        have hF : fstI P n = k := fstI_unique P n k (by have := Hlt.out; omega) (fun _ => HV.out) HA.out
        have hlt := Hlt.out
        have hv : idxI P n = (k : Int) := by unfold idxI; rw [hF, if_pos hlt]
        rw [hv]
        have hZ := HB.out.trans (hb4.mono (Hb0.out ▸ HB.out.size))
        exact ⟨rfl, by first | exact hZ | (rw [Hb0.out]; exact hZ)⟩
      | false =>
        have x1 := X1.out
        go_wp2_with fail
        refine HO.out.mono ?_
        rintro e w4 ⟨rfl, hb4⟩
        go_wp2_with fail
        clear x1
        exact ⟨⟨k + 1, Hk.out, by push_cast; rfl, fst_step HV.out HA.out, HB.out.trans (hb4.mono (Hb0.out ▸ HB.out.size))⟩, meas_z n k Hk.out⟩
    · obtain rfl : k = n := by omega
      have hI : ¬ ((k : Int) < k) := by omega
      have HBq := Lib.hid hB
      have hF : fstI P k = k := fstI_unique P k k (Nat.le_refl _) (fun h => absurd h (Nat.lt_irrefl _)) hA
      have hv : idxI P k = -1 := by unfold idxI; rw [hF, if_neg (Nat.lt_irrefl _)]
      have Hv := Lib.hid hv
      clear hA hk hlt hB hF hv
      go_wp2_with fail
      go_ret
      rw [Hv.out]
      exact ⟨rfl, by first | exact HBq.out | (rw [Hb0.out]; exact HBq.out)⟩

set_option maxRecDepth 100000 in
set_option maxHeartbeats 8000000 in
theorem containsEight_calls (A : Option Addr) (n c : Nat) (f : Nat → Int) (F : Nat → SlX) (p : Nat → Nat → Int) (w : World) (hR : RdRt w A n c f F p) :
    Calls Tryd.prog 38 #[.slice A n c, .func (.func 39) #[] #[]] w fun e w' => e = .returned (.bool (anyI (fun k => (((F k).2.1 : Int) != 8)) n)) ∧ Below w.heap.size w w' := by
  have HI := idxEight_calls A n c f F p w hR
  obtain ⟨I, hI⟩ : ∃ I, idxI (fun k => (((F k).2.1 : Int) != 8)) n = I := ⟨_, rfl⟩
  obtain ⟨B, hB⟩ : ∃ B, anyI (fun k => (((F k).2.1 : Int) != 8)) n = B := ⟨_, rfl⟩
  have hIB : decide (I ≥ 0) = B := by rw [← hI, ← hB]; exact idxI_any _ _
  rw [hI] at HI
  rw [hB]
  replace HI := Lib.hid HI
  clear hI hB hR
  go_enter Tryd.func38, Tryd.ntmps38
  go_wp2_with fail
  refine HI.out.mono ?_
  rintro e w2 ⟨rfl, hb⟩
  go_wp2_with fail
  go_ret
  exact ⟨rfl, hb⟩

end Go.Proofs.YtgbkedjjgbhcmaaDoor

/-
  Add, Sub, Mul of package fixq, walked. Conditions: the numbers lie in their range.
-/
namespace Go.Proofs.YtgbkedjjgbhcmaaDoor
open Go Go.RowKit Go.Kw Go.Shelf
attribute [local go_sem] Oper.semAt_some
set_option linter.unusedVariables false
set_option linter.unusedSimpArgs false

/-- A number of 64 bits with a sign. -/
def inR (x : Int) : Prop := -9223372036854775808 ≤ x ∧ x ≤ 9223372036854775807
instance (x : Int) : Decidable (inR x) := inferInstanceAs (Decidable (_ ∧ _))
/-- What Add, Sub, Mul, Sum answer of the number x. -/
def okV (x : Int) : Value := if inR x then .tuple #[.int .i64 x, .int .i64 0] else .tuple #[.int .i64 0, .int .i64 10]
theorem okV_in {x : Int} (h : inR x) : okV x = .tuple #[.int .i64 x, .int .i64 0] := if_pos h
theorem okV_out {x : Int} (h : ¬ inR x) : okV x = .tuple #[.int .i64 0, .int .i64 10] := if_neg h
theorem wrap_i64 (x : Int) : ∃ n : Int, IntKind.i64.wrap x = n ∧ inR n ∧ ∃ k : Int, n = x + 18446744073709551616 * k := by
  refine ⟨_, rfl, ?_, ?_⟩
  · rw [IntKind.wrap_i64]; unfold inR; omega
  · rw [IntKind.wrap_i64]; exact ⟨-((x + 9223372036854775808) / 18446744073709551616), by omega⟩

theorem mul_far (a b n k : Int) (ha : inR a) (hb : inR b) (hr : inR n) (ha0 : a ≠ 0) (hk : n = a * b + 18446744073709551616 * k) (h : ¬ inR (a * b)) (hq : IntKind.i64.wrap (n.tdiv a) = b) : a = -1 ∧ b = -9223372036854775808 := by
  have hd := Int.mul_tdiv_add_tmod n a
  have hm : (n.tmod a).natAbs < a.natAbs := by rw [Int.natAbs_tmod]; exact Nat.mod_lt _ (by omega)
  have ht : (n.tdiv a).natAbs = n.natAbs / a.natAbs := Int.natAbs_tdiv n a
  have hle : n.natAbs / a.natAbs ≤ n.natAbs := Nat.div_le_self _ _
  generalize htd : n.tdiv a = t at *
  generalize n.tmod a = r at *
  unfold inR at ha hb hr
  by_cases h1 : inR t
  · have : IntKind.i64.wrap t = t := by rw [IntKind.wrap_i64]; unfold inR at h1; omega
    rw [this] at hq
    subst hq
    have hk0 : k ≠ 0 := by
      rintro rfl
      apply h; unfold inR; omega
    omega
  · have h2 : t = 9223372036854775808 := by unfold inR at h1; omega
    have h3 : n.natAbs = 9223372036854775808 := by omega
    have h4 : n = -9223372036854775808 := by omega
    rw [h3] at ht
    have h5 : a.natAbs = 1 := by
      have : 9223372036854775808 / a.natAbs = 9223372036854775808 := by omega
      by_cases h6 : 2 ≤ a.natAbs
      · have : 9223372036854775808 / a.natAbs ≤ 9223372036854775808 / 2 := Nat.div_le_div_left h6 (by omega)
        omega
      · omega
    have h6 : a = 1 ∨ a = -1 := by omega
    rcases h6 with rfl | rfl
    · rw [Int.tdiv_one] at htd; omega
    · subst h2
      rw [IntKind.wrap_i64] at hq
      omega

end Go.Proofs.YtgbkedjjgbhcmaaDoor
