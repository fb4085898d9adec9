/-
  Add, Sub, Mul of package fixq, walked. Conditions: the numbers lie in their range.
-/
import Derived.Test.YtbbbjgilbddabaaBase
import Derived.Test.YtbbbjgilbddabaaChecked
import Derived.Shelf.Abstract
import Derived.Shelf.RegionOpen
import Derived.OwnWalkIn
import Derived.TacticsInMore
import Derived.LoopNIn
import Derived.LoopIn
import Derived.Outline
import Derived.Laws.BitsAllLaws
import Derived.ProofKit
import Derived.LoopTactic
import Derived.Lib.Hide
import Derived.Deep.QuietTactic
import Derived.BigQuiet
import Derived.Laws.Externs
namespace Go.Proofs.Ytbbbjgilbddabaa
open Go Go.RowKit Go.Kw Go.Shelf
attribute [local go_sem] Oper.semAt_some
set_option linter.unusedVariables false
set_option linter.unusedSimpArgs false

/-- A number of 64 bits with a sign. -/
def inR (x : Int) : Prop := -9223372036854775808 ≤ x ∧ x ≤ 9223372036854775807
instance (x : Int) : Decidable (inR x) := inferInstanceAs (Decidable (_ ∧ _))
/-- What Add, Sub, Mul, Sum answer of the number x. -/
def okV (x : Int) : Value := if inR x then .tuple #[.int .i64 x, .int .i64 0] else .tuple #[.int .i64 0, .int .i64 10]
theorem okV_in {x : Int} (h : inR x) : okV x = .tuple #[.int .i64 x, .int .i64 0] := if_pos h
theorem okV_out {x : Int} (h : ¬ inR x) : okV x = .tuple #[.int .i64 0, .int .i64 10] := if_neg h
theorem wrap_i64 (x : Int) : ∃ n : Int, IntKind.i64.wrap x = n ∧ inR n ∧ ∃ k : Int, n = x + 18446744073709551616 * k := by
  refine ⟨_, rfl, ?_, ?_⟩
  · rw [IntKind.wrap_i64]; unfold inR; omega
  · rw [IntKind.wrap_i64]; exact ⟨-((x + 9223372036854775808) / 18446744073709551616), by omega⟩

theorem add_calls (a b : Int) (ha : inR a) (hb : inR b) (w : World) :
    Calls Try.prog 8 #[.int .i64 a, .int .i64 b] w fun e w' => e = .returned (okV (a + b)) ∧ w' = w := by
  obtain ⟨n, hn, hr, k, hk⟩ := wrap_i64 (a + b)
  unfold inR at ha hb hr
  by_cases h : inR (a + b)
  · rw [okV_in h]
    unfold inR at h
    have hnn : IntKind.i64.wrap (a + b) = a + b := by rw [hn]; omega
    have ht : decide (a < a + b) = decide (0 < b) := by rw [Bool.eq_iff_iff]; simp; omega
    clear hn hr hk
    go_enter Try.func8, Try.ntmps8
    go_wp2
    go_ret2
    exact ⟨rfl, rfl⟩
  · rw [okV_out h]
    unfold inR at h
    have ht : (decide (a < n) == decide (0 < b)) = false := by
      by_cases hb0 : 0 < b
      · have : decide (a < n) = false := by simp; omega
        rw [this]; simp [hb0]
      · have : decide (a < n) = true := by simp; omega
        rw [this]; simp [hb0]
    clear hr hk
    go_enter Try.func8, Try.ntmps8
    go_wp2
    go_ret2
    exact ⟨rfl, rfl⟩
theorem sub_calls (a b : Int) (ha : inR a) (hb : inR b) (w : World) :
    Calls Try.prog 10 #[.int .i64 a, .int .i64 b] w fun e w' => e = .returned (okV (a - b)) ∧ w' = w := by
  obtain ⟨n, hn, hr, k, hk⟩ := wrap_i64 (a - b)
  unfold inR at ha hb hr
  by_cases h : inR (a - b)
  · rw [okV_in h]
    unfold inR at h
    have hnn : IntKind.i64.wrap (a - b) = a - b := by rw [hn]; omega
    have ht : decide (a - b < a) = decide (0 < b) := by rw [Bool.eq_iff_iff]; simp; omega
    clear hn hr hk
    go_enter Try.func10, Try.ntmps10
    go_wp2
    go_ret2
    exact ⟨rfl, rfl⟩
  · rw [okV_out h]
    unfold inR at h
    have ht : (decide (n < a) == decide (0 < b)) = false := by
      by_cases hb0 : 0 < b
      · have : decide (n < a) = false := by simp; omega
        rw [this]; simp [hb0]
      · have : decide (n < a) = true := by simp; omega
        rw [this]; simp [hb0]
    clear hr hk
    go_enter Try.func10, Try.ntmps10
    go_wp2
    go_ret2
    exact ⟨rfl, rfl⟩
theorem mul_far (a b n k : Int) (ha : inR a) (hb : inR b) (hr : inR n) (ha0 : a ≠ 0) (hk : n = a * b + 18446744073709551616 * k) (h : ¬ inR (a * b)) (hq : IntKind.i64.wrap (n.tdiv a) = b) : a = -1 ∧ b = -9223372036854775808 := by
  have hd := Int.mul_tdiv_add_tmod n a
  have hm : (n.tmod a).natAbs < a.natAbs := by rw [Int.natAbs_tmod]; exact Nat.mod_lt _ (by omega)
  have ht : (n.tdiv a).natAbs = n.natAbs / a.natAbs := Int.natAbs_tdiv n a
  have hle : n.natAbs / a.natAbs ≤ n.natAbs := Nat.div_le_self _ _
  generalize htd : n.tdiv a = t at *
  generalize n.tmod a = r at *
  unfold inR at ha hb hr
  by_cases h1 : inR t
  · have : IntKind.i64.wrap t = t := by rw [IntKind.wrap_i64]; unfold inR at h1; omega
    rw [this] at hq
    subst hq
    have hk0 : k ≠ 0 := by
      rintro rfl
      apply h; unfold inR; omega
    omega
  · have h2 : t = 9223372036854775808 := by unfold inR at h1; omega
    have h3 : n.natAbs = 9223372036854775808 := by omega
    have h4 : n = -9223372036854775808 := by omega
    rw [h3] at ht
    have h5 : a.natAbs = 1 := by
      have : 9223372036854775808 / a.natAbs = 9223372036854775808 := by omega
      by_cases h6 : 2 ≤ a.natAbs
      · have : 9223372036854775808 / a.natAbs ≤ 9223372036854775808 / 2 := Nat.div_le_div_left h6 (by omega)
        omega
      · omega
    have h6 : a = 1 ∨ a = -1 := by omega
    rcases h6 with rfl | rfl
    · rw [Int.tdiv_one] at htd; omega
    · subst h2
      rw [IntKind.wrap_i64] at hq
      omega

set_option maxHeartbeats 1000000 in
theorem mul_calls (a b : Int) (ha : inR a) (hb : inR b) (w : World) :
    Calls Try.prog 12 #[.int .i64 a, .int .i64 b] w fun e w' => e = .returned (okV (a * b)) ∧ w' = w := by
  by_cases ha0 : a = 0
  · subst ha0
    rw [Int.zero_mul, okV_in (by decide)]
    have h0 : IntKind.i64.wrap 0 = 0 := rfl
    go_enter Try.func12, Try.ntmps12
    go_wp2
    go_ret2
    exact ⟨rfl, rfl⟩
  · have hz1 : (a == 0) = false := by simp [ha0]
    have hz2 : (a != 0) = true := by simp [ha0]
    by_cases h : inR (a * b)
    · rw [okV_in h]
      have hn : IntKind.i64.wrap (a * b) = a * b := by rw [IntKind.wrap_i64]; unfold inR at h; omega
      have hq : IntKind.i64.wrap ((a * b).tdiv a) = b := by rw [Int.mul_tdiv_cancel_left b ha0, IntKind.wrap_i64]; unfold inR at hb; omega
      have hw : wrap64 b = b := by unfold wrap64; unfold inR at hb; omega
      clear hq
      by_cases h1 : a = -1
      · have e1 : (a == -1) = true := by simp [h1]
        have e2 : (b == -9223372036854775808) = false := by
          simp only [beq_eq_false_iff_ne]; rintro rfl; subst h1; exact absurd h (by decide)
        clear h1 ha hb h
        go_enter Try.func12, Try.ntmps12
        go_wp2
        go_ret2
        exact ⟨rfl, rfl⟩
      · have e1 : (a == -1) = false := by simp [h1]
        clear h1 ha hb h
        go_enter Try.func12, Try.ntmps12
        go_wp2
        go_ret2
        exact ⟨rfl, rfl⟩
    · rw [okV_out h]
      obtain ⟨n, hn, hr, k, hk⟩ := wrap_i64 (a * b)
      obtain ⟨q, hq⟩ : ∃ q, IntKind.i64.wrap (n.tdiv a) = q := ⟨_, rfl⟩
      have hq2 : wrap64 (n.tdiv a) = q := by rw [← hq, IntKind.wrap_i64]; unfold wrap64; omega
      by_cases hqb : q = b
      · subst hqb
        obtain ⟨h1, h2⟩ := mul_far a q n k ha hb hr ha0 hk h hq
        have e1 : (a == -1) = true := by simp [h1]
        have e2 : (q == -9223372036854775808) = true := by simp [h2]
        clear h1 h2 ha hb h hk hr
        go_enter Try.func12, Try.ntmps12
        go_wp2
        go_ret2
        exact ⟨rfl, rfl⟩
      · have e1 : (q != b) = true := by simp [hqb]
        clear ha hb h hk hr hqb
        go_enter Try.func12, Try.ntmps12
        go_wp2
        go_ret2
        exact ⟨rfl, rfl⟩
theorem floor_calls (w : World) :
    Calls Try.prog 14 #[.int .i64 (-7), .int .i64 2] w fun e w' => e = .returned (.tuple #[.int .i64 (-4), .int .i64 1, .int .i64 0]) ∧ Below w.heap.size w w' := by
  have h1 : (-7 : Int).tdiv 2 = -3 := rfl
  have h2 : (-7 : Int).tmod 2 = -1 := rfl
  go_enter Try.func14, Try.ntmps14
  go_wp2
  go_quiet (fail)
  go_wp2
  go_ret3
  exact ⟨rfl, ⟨rfl, rfl, rfl, Nat.le_refl _, fun _ _ => rfl⟩⟩
end Go.Proofs.Ytbbbjgilbddabaa
