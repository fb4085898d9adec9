/-
  Add, Sub, Mul of package fixq, walked. Conditions: the numbers lie in their range.
-/
import Derived.Test.YtjmkbpgakfeceaaBase
import Derived.Test.YtjmkbpgakfeceaaChecked
import Derived.Shelf.Abstract
import Derived.Shelf.RegionOpen
import Derived.OwnWalkIn
import Derived.TacticsInMore
import Derived.LoopNIn
import Derived.LoopIn
import Derived.Outline
import Derived.Laws.BitsAllLaws
import Derived.ProofKit
import Derived.LoopTactic
import Derived.Lib.Hide
import Derived.Deep.QuietTactic
import Derived.BigQuiet
import Derived.Laws.Externs
namespace Go.Proofs.Ytjmkbpgakfeceaa
open Go Go.RowKit Go.Kw Go.Shelf
attribute [local go_sem] Oper.semAt_some
set_option linter.unusedVariables false
set_option linter.unusedSimpArgs false

/-- A number of 64 bits with a sign. -/
def inR (x : Int) : Prop := -9223372036854775808 ≤ x ∧ x ≤ 9223372036854775807
instance (x : Int) : Decidable (inR x) := inferInstanceAs (Decidable (_ ∧ _))
/-- What Add, Sub, Mul, Sum answer of the number x. -/
def okV (x : Int) : Value := if inR x then .tuple #[.int .i64 x, .int .i64 0] else .tuple #[.int .i64 0, .int .i64 10]
theorem okV_in {x : Int} (h : inR x) : okV x = .tuple #[.int .i64 x, .int .i64 0] := if_pos h
theorem okV_out {x : Int} (h : ¬ inR x) : okV x = .tuple #[.int .i64 0, .int .i64 10] := if_neg h
theorem wrap_i64 (x : Int) : ∃ n : Int, IntKind.i64.wrap x = n ∧ inR n ∧ ∃ k : Int, n = x + 18446744073709551616 * k := by
  refine ⟨_, rfl, ?_, ?_⟩
  · rw [IntKind.wrap_i64]; unfold inR; omega
  · rw [IntKind.wrap_i64]; exact ⟨-((x + 9223372036854775808) / 18446744073709551616), by omega⟩

theorem mul_far (a b n k : Int) (ha : inR a) (hb : inR b) (hr : inR n) (ha0 : a ≠ 0) (hk : n = a * b + 18446744073709551616 * k) (h : ¬ inR (a * b)) (hq : IntKind.i64.wrap (n.tdiv a) = b) : a = -1 ∧ b = -9223372036854775808 := by
  have hd := Int.mul_tdiv_add_tmod n a
  have hm : (n.tmod a).natAbs < a.natAbs := by rw [Int.natAbs_tmod]; exact Nat.mod_lt _ (by omega)
  have ht : (n.tdiv a).natAbs = n.natAbs / a.natAbs := Int.natAbs_tdiv n a
  have hle : n.natAbs / a.natAbs ≤ n.natAbs := Nat.div_le_self _ _
  generalize htd : n.tdiv a = t at *
  generalize n.tmod a = r at *
  unfold inR at ha hb hr
  by_cases h1 : inR t
  · have : IntKind.i64.wrap t = t := by rw [IntKind.wrap_i64]; unfold inR at h1; omega
    rw [this] at hq
    subst hq
    have hk0 : k ≠ 0 := by
      rintro rfl
      apply h; unfold inR; omega
    omega
  · have h2 : t = 9223372036854775808 := by unfold inR at h1; omega
    have h3 : n.natAbs = 9223372036854775808 := by omega
    have h4 : n = -9223372036854775808 := by omega
    rw [h3] at ht
    have h5 : a.natAbs = 1 := by
      have : 9223372036854775808 / a.natAbs = 9223372036854775808 := by omega
      by_cases h6 : 2 ≤ a.natAbs
      · have : 9223372036854775808 / a.natAbs ≤ 9223372036854775808 / 2 := Nat.div_le_div_left h6 (by omega)
        omega
      · omega
    have h6 : a = 1 ∨ a = -1 := by omega
    rcases h6 with rfl | rfl
    · rw [Int.tdiv_one] at htd; omega
    · subst h2
      rw [IntKind.wrap_i64] at hq
      omega

end Go.Proofs.Ytjmkbpgakfeceaa
