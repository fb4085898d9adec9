/-
  Quotients rounded down, in plain numbers. Conditions stand at each theorem.
-/
import Derived.Below
namespace Go.Proofs.Ytbbbjgilbddabaa
open Go
set_option linter.unusedSimpArgs false

/-- Do two stand on different sides of 0? -/
def diffS (a b : Int) : Bool := decide (a < 0) != decide (b < 0)
/-- The quotient without its sign, rounded as the sign wants, and the rest without its sign. -/
def flN (a b : Int) : Nat := if diffS a b && decide (0 < a.natAbs % b.natAbs) then a.natAbs / b.natAbs + 1 else a.natAbs / b.natAbs
def flM (a b : Int) : Nat := if diffS a b && decide (0 < a.natAbs % b.natAbs) then b.natAbs - a.natAbs % b.natAbs else a.natAbs % b.natAbs
def flQ (a b : Int) : Int := if diffS a b then -(flN a b : Int) else flN a b
def flR (a b : Int) : Int := if b < 0 then -(flM a b : Int) else flM a b
theorem neg_no (m : Nat) : decide (Int.ofNat m < 0) = false := decide_eq_false (by simp)
theorem neg_yes (m : Nat) : decide (Int.negSucc m < 0) = true := decide_eq_true (Int.negSucc_lt_zero m)
theorem tdiv_abs (a b : Int) : a.tdiv b = if diffS a b then -((a.natAbs / b.natAbs : Nat) : Int) else ((a.natAbs / b.natAbs : Nat) : Int) := by
  unfold diffS
  cases a with
  | ofNat m =>
    cases b with
    | ofNat n => rw [neg_no, neg_no]; rfl
    | negSucc n => rw [neg_no, neg_yes]; rfl
  | negSucc m =>
    cases b with
    | ofNat n => rw [neg_no, neg_yes]; rfl
    | negSucc n => rw [neg_yes, neg_yes]; rfl
theorem tmod_abs (a b : Int) : a.tmod b = if a < 0 then -((a.natAbs % b.natAbs : Nat) : Int) else ((a.natAbs % b.natAbs : Nat) : Int) := by
  cases a with
  | ofNat m =>
    rw [if_neg (by simp)]
    cases b with
    | ofNat n => rfl
    | negSucc n => rfl
  | negSucc m =>
    rw [if_pos (Int.negSucc_lt_zero m)]
    cases b with
    | ofNat n => rfl
    | negSucc n => rfl
/-- What the program's own quotient and rest come to. -/
theorem fl_code (a b : Int) (ha : -9223372036854775808 ≤ a ∧ a ≤ 9223372036854775807) (hb : -9223372036854775808 ≤ b ∧ b ≤ 9223372036854775807) (h0 : b ≠ 0) (ho : ¬ (a = -9223372036854775808 ∧ b = -1)) :
    ∃ q r : Int, a.tdiv b = q ∧ a.tmod b = r ∧ (-9223372036854775808 ≤ q ∧ q ≤ 9223372036854775807) ∧ (-9223372036854775808 ≤ r ∧ r ≤ 9223372036854775807) ∧
      ((r = 0 ∧ flQ a b = q ∧ flR a b = r) ∨ (r ≠ 0 ∧ decide (r < 0) = decide (b < 0) ∧ flQ a b = q ∧ flR a b = r) ∨
        (r ≠ 0 ∧ (decide (r < 0) != decide (b < 0)) = true ∧ flQ a b = q - 1 ∧ flR a b = r + b ∧ (-9223372036854775808 ≤ q - 1 ∧ q - 1 ≤ 9223372036854775807) ∧ (-9223372036854775808 ≤ r + b ∧ r + b ≤ 9223372036854775807))) := by
  refine ⟨_, _, rfl, rfl, ?_⟩
  rw [tdiv_abs, tmod_abs]
  unfold flQ flR flN flM
  have hd := Nat.div_le_self a.natAbs b.natAbs
  have hm := Nat.mod_lt a.natAbs (show 0 < b.natAbs by omega)
  have hh : 2 ≤ b.natAbs → a.natAbs / b.natAbs ≤ 4611686018427387904 := fun h => by
    refine Nat.div_le_of_le_mul ?_
    have := Nat.mul_le_mul_right 4611686018427387904 h
    omega
  have h1 : b.natAbs = 1 → a.natAbs % b.natAbs = 0 := fun h => by rw [h, Nat.mod_one]
  generalize a.natAbs / b.natAbs = Q at *
  generalize hR : a.natAbs % b.natAbs = R at *
  unfold diffS
  by_cases sa : a < 0 <;> by_cases sb : b < 0 <;> by_cases hr : 0 < R <;> simp only [sa, sb, hr, decide_true, decide_false, bne_self_eq_false, Bool.false_and, Bool.true_and, Bool.false_bne, Bool.true_bne, Bool.bne_true, Bool.bne_false, Bool.not_true, Bool.not_false, if_true, if_false, Bool.false_eq_true]
  all_goals first
    | exact ⟨by omega, by omega, .inl ⟨by omega, (by first | trivial | omega), (by first | trivial | omega)⟩⟩
    | exact ⟨by omega, by omega, .inr (.inl ⟨by omega, (by first | exact decide_eq_true (by omega) | exact decide_eq_false (by omega) | (rw [decide_eq_true (by omega)]; done) | (rw [decide_eq_false (by omega)]; done) | (rw [decide_eq_true (by omega)]; rfl) | (rw [decide_eq_false (by omega)]; rfl)), (by first | trivial | omega), (by first | trivial | omega)⟩)⟩
    | exact ⟨by omega, by omega, .inr (.inr ⟨by omega, (by first | exact decide_eq_true (by omega) | exact decide_eq_false (by omega) | (rw [decide_eq_true (by omega)]; done) | (rw [decide_eq_false (by omega)]; done) | (rw [decide_eq_true (by omega)]; rfl) | (rw [decide_eq_false (by omega)]; rfl)), (by first | trivial | omega), (by first | trivial | omega), by omega, by omega⟩)⟩
end Go.Proofs.Ytbbbjgilbddabaa
