/-
  fixq.Floor, walked. Conditions stand at each theorem.
-/
import Derived.Test.YtbbbjgilbddabaaFloorPlain
import Derived.Test.YtbbbjgilbddabaaFixqArith
import Derived.BigQuiet
namespace Go.Proofs.Ytbbbjgilbddabaa
open Go Go.RowKit Go.Kw
set_option linter.unusedVariables false
set_option linter.unusedSimpArgs false

/-- What Floor answers. -/
def floorV (a b : Int) : Value := if b = 0 then .tuple #[.int .i64 0, .int .i64 0, .int .i64 11] else if a = -9223372036854775808 ∧ b = -1 then .tuple #[.int .i64 0, .int .i64 0, .int .i64 10] else .tuple #[.int .i64 (flQ a b), .int .i64 (flR a b), .int .i64 0]
theorem floor_walk (a b : Int) (ha : inR a) (hb : inR b) (w : World) :
    Calls Try.prog 14 #[.int .i64 a, .int .i64 b] w fun e w' => e = .returned (floorV a b) ∧ Below w.heap.size w w' := by
  unfold floorV
  by_cases h0 : b = 0
  · rw [if_pos h0]
    subst h0
    go_enter Try.func14, Try.ntmps14
    go_wp2_with fail
    go_ret3
    exact ⟨rfl, Below.refl _ _⟩
  · rw [if_neg h0]
    by_cases ho : a = -9223372036854775808 ∧ b = -1
    · rw [if_pos ho]
      obtain ⟨rfl, rfl⟩ := ho
      go_enter Try.func14, Try.ntmps14
      go_wp2_with fail
      go_ret3
      exact ⟨rfl, Below.refl _ _⟩
    · rw [if_neg ho]
      obtain ⟨q, r, hq, hr, rq, rr, hc⟩ := fl_code a b ha hb h0 ho
      have w1 : IntKind.i64.wrap q = q := IntWalk.i64_in _ (by omega)
      have w2 : IntKind.i64.wrap r = r := IntWalk.i64_in _ (by omega)
      have k1 : (b == 0) = false := by simp; exact h0
      have kb : Below w.heap.size w (w.drewN 1) := ⟨rfl, rfl, rfl, Nat.le_refl _, fun _ _ => rfl⟩
      have Hq := Lib.hid hq
      have Hr := Lib.hid hr
      by_cases hm : a = -9223372036854775808
      all_goals
        first
          | (have km : (a == -9223372036854775808) = true := by simpa using hm
             have km2 : (b == -1) = false := by simp; intro h; exact ho ⟨hm, h⟩)
          | (have km : (a == -9223372036854775808) = false := by simpa using hm)
        clear hm
        rcases hc with ⟨h1, h2, h3⟩ | ⟨h1, h2, h3, h4⟩ | ⟨h1, h2, h3, h4, h5, h6⟩
        · have k3 : (r != 0) = false := by simp; exact h1
          have k3' : (r == 0) = true := by simp; exact h1
          rw [h2, h3]
          clear ha hb rq rr ho h1 h2 h3
          go_enter Try.func14, Try.ntmps14
          go_wp2_with fail
          go_quiet (fail)
          go_wp2_with fail
          go_ret3
          exact ⟨rfl, ⟨rfl, rfl, rfl, Nat.le_refl _, fun _ _ => rfl⟩⟩
        · have k3 : (r != 0) = true := by simp; exact h1
          have h2b : (decide (r < 0) == decide (b < 0)) = true := by rw [h2]; simp
          rw [h3, h4]
          clear ha hb rq rr ho h1 h3 h4
          go_enter Try.func14, Try.ntmps14
          go_wp2_with fail
          go_quiet (fail)
          go_wp2_with fail
          go_ret3
          exact ⟨rfl, ⟨rfl, rfl, rfl, Nat.le_refl _, fun _ _ => rfl⟩⟩
        · have k3 : (r != 0) = true := by simp; exact h1
          have h2b : (decide (r < 0) == decide (b < 0)) = false := by rw [bne, Bool.not_eq_true'] at h2; exact h2
          have w3 : IntKind.i64.wrap (q - 1) = q - 1 := IntWalk.i64_in _ (by omega)
          have w4 : IntKind.i64.wrap (r + b) = r + b := IntWalk.i64_in _ (by omega)
          rw [h3, h4]
          clear ha hb rq rr ho h1 h3 h4 h5 h6
          go_enter Try.func14, Try.ntmps14
          go_wp2_with fail
          go_quiet (fail)
          go_wp2_with fail
          go_ret3
          exact ⟨rfl, ⟨rfl, rfl, rfl, Nat.le_refl _, fun _ _ => rfl⟩⟩
end Go.Proofs.Ytbbbjgilbddabaa
