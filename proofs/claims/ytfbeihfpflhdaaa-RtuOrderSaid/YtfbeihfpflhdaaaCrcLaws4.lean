/-
  What was sealed is opened as it was; the chapter's examples: the walks of CrcBack and CrcNames. Conditions: none beyond the given rows.
-/
import Derived.Test.YtfbeihfpflhdaaaCrcOpen
namespace Go.Proofs.Ytfbeihfpflhdaaa
open Go Go.RowKit Go.Kw Go.Kw.Crc
set_option linter.unusedVariables false
set_option linter.unusedSimpArgs false

theorem open_seal16 (l : List UInt8) : openOf seal16 2 (seal16 l) = some l := by
  have : (seal16 l).take ((seal16 l).length - 2) = l := by rw [seal16_length]; simp [seal16]
  unfold openOf
  rw [this, if_pos ⟨by rw [seal16_length]; omega, rfl⟩]
theorem open_seal32 (l : List UInt8) : openOf seal32 4 (seal32 l) = some l := by
  have : (seal32 l).take ((seal32 l).length - 4) = l := by rw [seal32_length]; simp [seal32]
  unfold openOf
  rw [this, if_pos ⟨by rw [seal32_length]; omega, rfl⟩]
theorem own_caps {w : World} {base : Nat} {e : TypeId} {A : Option Addr} {n c k : Nat} {xs : List Value} (h : w.ownsRow base e 1 (.slice A n c) k xs) : n ≤ c ∧ c ≤ 9223372036854775807 := by
  rcases h.2 with ⟨h, _⟩ | ⟨g, cap, cur, h, _, _, h1, h2, _⟩
  · injection h with _ h1 h2; subst h1 h2; exact ⟨Nat.le_refl _, by omega⟩
  · injection h with _ h3 h4; subst h3 h4; unfold maxLen at h2; exact ⟨h1, by omega⟩

theorem xs1 : seal16 [1, 3, 0, 0, 0, 10] = [1, 3, 0, 0, 0, 10, 197, 205] := by decide +kernel
theorem xs2 : seal32 [] = [0, 0, 0, 0] := by decide +kernel
theorem xo1 : openOf seal16 2 [255] = none := by decide +kernel
theorem xo2 : openOf seal16 2 [255, 255] = some [] := by decide +kernel
theorem xo3 : openOf seal16 2 [] = none := by decide +kernel
theorem xo4 : openOf seal32 4 [0, 0, 0] = none := by decide +kernel
theorem xo5 : openOf seal32 4 [0, 0, 0, 0] = some [] := by decide +kernel

end Go.Proofs.Ytfbeihfpflhdaaa
