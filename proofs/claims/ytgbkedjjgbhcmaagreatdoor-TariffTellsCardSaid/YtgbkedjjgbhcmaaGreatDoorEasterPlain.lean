/-
  Easter Sunday is a Sunday, from 22 March to 25 April: all years, by calculation. No program here but the definitions.
-/
import Derived.Test.YtgbkedjjgbhcmaaGreatDoorEaster
namespace Go.Proofs.YtgbkedjjgbhcmaaGreatDoor
open Go Go.Kw Go.Kw.Cv

/-- What is to be shown of a year. -/
def easB (y : Int) : Bool :=
  decide (1 ≤ easD y) && (decide (easD y ≤ dim y (easM y)) && (decide (easM y = 3 ∧ 22 ≤ easD y ∨ easM y = 4 ∧ easD y ≤ 25) && decide ((dayN y (easM y) (easD y) + 3) % 7 = 6)))
def easAll : Nat → Bool
  | 0 => true
  | n + 1 => easB (1970 + (n : Int)) && easAll n
theorem easAll_at : ∀ n, easAll n = true → ∀ k, k < n → easB (1970 + (k : Int)) = true
  | 0, _, k, hk => absurd hk (by omega)
  | n + 1, h, k, hk => by
    rw [easAll, Bool.and_eq_true] at h
    by_cases e : k = n
    · rw [e]; exact h.1
    · exact easAll_at n h.2 k (by omega)
theorem easAll_8030 : easAll 8030 = true := by decide +kernel
theorem eas_all {y : Int} (h : 1970 ≤ y ∧ y ≤ 9999) : easB y = true := by
  have := easAll_at 8030 easAll_8030 (y - 1970).toNat (by omega)
  rwa [show (1970 : Int) + ((y - 1970).toNat : Int) = y by omega] at this
/-- Easter Sunday: the date may be, lies from 22 March to 25 April, and is a Sunday. -/
theorem eas_ok {y : Int} (h : 1970 ≤ y ∧ y ≤ 9999) : okD y (easM y) (easD y) := by
  have := eas_all h
  simp only [easB, Bool.and_eq_true, decide_eq_true_eq] at this
  exact ⟨h.1, h.2, this.1, this.2.1⟩
theorem eas_in {y : Int} (h : 1970 ≤ y ∧ y ≤ 9999) : easM y = 3 ∧ 22 ≤ easD y ∨ easM y = 4 ∧ easD y ≤ 25 := by
  have := eas_all h
  simp only [easB, Bool.and_eq_true, decide_eq_true_eq] at this
  exact this.2.2.1
theorem eas_sun {y : Int} (h : 1970 ≤ y ∧ y ≤ 9999) : wdN (dayN y (easM y) (easD y)) = 7 := by
  have := eas_all h
  simp only [easB, Bool.and_eq_true, decide_eq_true_eq] at this
  rw [wd_in (eas_ok h)]
  have := this.2.2.2
  omega
end Go.Proofs.YtgbkedjjgbhcmaaGreatDoor
