/-
  slices.Grow (of nil) and slices.Concat at bytes, walked; bytes.Equal. Conditions: at most 1,000 pieces, 1,000,000 bytes in all.
-/
import Derived.Test.YtfbeihfpflhdaaaKept
import Derived.Test.YtfbeihfpflhdaaaBytesLib
import Derived.Lib.AppendZerosOnto
import Derived.Lib.Walk
import Derived.Lib.Hide
import Derived.Lib.SliceRun
namespace Go.Proofs.Ytfbeihfpflhdaaa
open Go Go.RowKit Go.Kw
set_option linter.unusedVariables false
set_option linter.unusedSimpArgs false

/-- The pieces one behind the other. -/
def allB (bs : Nat → List UInt8) (k : Nat) : List UInt8 := ((List.range k).map bs).flatten
theorem allB_succ (bs : Nat → List UInt8) (k : Nat) : allB bs (k + 1) = allB bs k ++ bs k := by
  unfold allB; rw [List.range_succ, List.map_append, List.flatten_append]; simp
theorem allB_le (bs : Nat → List UInt8) (k : Nat) : ∀ n, k ≤ n → (allB bs k).length ≤ (allB bs n).length := by
  intro n h
  induction n with
  | zero => obtain rfl : k = 0 := by omega
            exact Nat.le_refl _
  | succ n ih =>
    rcases Nat.lt_or_ge n k with h1 | h1
    · obtain rfl : k = n + 1 := by omega
      exact Nat.le_refl _
    · rw [allB_succ, List.length_append]; have := ih h1; omega

end Go.Proofs.Ytfbeihfpflhdaaa
