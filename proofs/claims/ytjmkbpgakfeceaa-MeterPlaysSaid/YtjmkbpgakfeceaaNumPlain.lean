/-
  Numbers as rows of 200 bits, the lowest first: plain laws. Conditions stand at each theorem.
-/
import Derived.Below
namespace Go.Kw.Nm
set_option linter.unusedVariables false

def bitF (N i : Nat) : Nat := N / 2 ^ i % 2
theorem bitF_lt (N i : Nat) : bitF N i < 2 := Nat.mod_lt _ (by omega)
theorem p2 (i : Nat) : 0 < 2 ^ i := Nat.pow_pos (by omega)
theorem mod_succ (A i : Nat) : A % 2 ^ (i + 1) = A % 2 ^ i + 2 ^ i * bitF A i := by
  rw [Nat.pow_succ, Nat.mod_mul]; rfl
theorem div_succ (A i : Nat) : A / 2 ^ (i + 1) = A / 2 ^ i / 2 := by rw [Nat.pow_succ, Nat.div_div_eq_div_mul]
theorem div_bit (A i : Nat) : A / 2 ^ i = 2 * (A / 2 ^ (i + 1)) + bitF A i := by rw [div_succ]; unfold bitF; omega
theorem bitF_big (N i k : Nat) (h : N < 2 ^ k) (hk : k ≤ i) : bitF N i = 0 := by
  unfold bitF
  have : 2 ^ k ≤ 2 ^ i := Nat.pow_le_pow_right (by omega) hk
  rw [Nat.div_eq_of_lt (by omega)]
theorem bitF_zero (i : Nat) : bitF 0 i = 0 := by unfold bitF; simp

/-! The sum. -/
def carryOf (A B i : Nat) : Nat := (A % 2 ^ i + B % 2 ^ i) / 2 ^ i
theorem carry_le (A B i : Nat) : carryOf A B i ≤ 1 := by
  have h1 := Nat.mod_lt A (p2 i)
  have h2 := Nat.mod_lt B (p2 i)
  have : carryOf A B i < 2 := by
    unfold carryOf
    rw [Nat.div_lt_iff_lt_mul (p2 i)]; omega
  omega
theorem carry_zero (A B : Nat) : carryOf A B 0 = 0 := by unfold carryOf; simp; omega
theorem plus_div (A B i : Nat) : (A + B) / 2 ^ i = A / 2 ^ i + B / 2 ^ i + carryOf A B i := by
  have h1 := Nat.div_add_mod A (2 ^ i)
  have h2 := Nat.div_add_mod B (2 ^ i)
  have e : A + B = 2 ^ i * (A / 2 ^ i + B / 2 ^ i) + (A % 2 ^ i + B % 2 ^ i) := by rw [Nat.mul_add]; omega
  unfold carryOf
  rw [e, Nat.mul_add_div (p2 i)]
theorem plus_bit (A B i : Nat) : (bitF A i + bitF B i + carryOf A B i) % 2 = bitF (A + B) i := by
  unfold bitF; rw [plus_div]; omega
theorem plus_carry (A B i : Nat) : (bitF A i + bitF B i + carryOf A B i) / 2 = carryOf A B (i + 1) := by
  have h1 := plus_div A B i
  have h2 := plus_div A B (i + 1)
  have h3 := div_bit A i
  have h4 := div_bit B i
  have h5 := div_succ (A + B) i
  omega

/-! The difference. -/
def borrowOf (A B i : Nat) : Nat := if A % 2 ^ i < B % 2 ^ i then 1 else 0
theorem borrow_zero (A B : Nat) : borrowOf A B 0 = 0 := by unfold borrowOf; rw [if_neg (by simp [Nat.mod_one])]
theorem borrow_le (A B i : Nat) : borrowOf A B i ≤ 1 := by unfold borrowOf; split <;> omega
theorem minus_div (A B i : Nat) (h : B ≤ A) : (A - B) / 2 ^ i + B / 2 ^ i + borrowOf A B i = A / 2 ^ i := by
  have h1 := Nat.div_add_mod A (2 ^ i)
  have h2 := Nat.div_add_mod B (2 ^ i)
  have h3 := Nat.mod_lt A (p2 i)
  have h4 := Nat.mod_lt B (p2 i)
  have hq : B / 2 ^ i ≤ A / 2 ^ i := Nat.div_le_div_right h
  obtain ⟨d, hd⟩ : ∃ d, A / 2 ^ i = B / 2 ^ i + d := ⟨A / 2 ^ i - B / 2 ^ i, by omega⟩
  unfold borrowOf
  split
  · rename_i hlt
    rcases d with _ | d
    · rw [hd] at h1; simp at h1; omega
    · have e : A - B = 2 ^ i * d + (2 ^ i + A % 2 ^ i - B % 2 ^ i) := by
        rw [hd, Nat.mul_add, Nat.mul_add] at h1
        omega
      rw [e, Nat.mul_add_div (p2 i), Nat.div_eq_of_lt (by omega), hd]; omega
  · have e : A - B = 2 ^ i * d + (A % 2 ^ i - B % 2 ^ i) := by
      rw [hd, Nat.mul_add] at h1
      omega
    rw [e, Nat.mul_add_div (p2 i), Nat.div_eq_of_lt (by omega), hd]; omega
/-- A digit of the difference, as the code makes it. -/
theorem minus_step (A B i : Nat) (h : B ≤ A) :
    ((bitF A i : Int) - bitF B i - borrowOf A B i < 0 → (bitF A i : Int) - bitF B i - borrowOf A B i + 2 = bitF (A - B) i ∧ borrowOf A B (i + 1) = 1) ∧
    (0 ≤ (bitF A i : Int) - bitF B i - borrowOf A B i → (bitF A i : Int) - bitF B i - borrowOf A B i = bitF (A - B) i ∧ borrowOf A B (i + 1) = 0) := by
  have h1 := minus_div A B i h
  have h2 := minus_div A B (i + 1) h
  have h3 := div_bit A i
  have h4 := div_bit B i
  have h5 := div_bit (A - B) i
  have h6 := bitF_lt A i
  have h7 := bitF_lt B i
  have h8 := bitF_lt (A - B) i
  have h9 := borrow_le A B i
  have h10 := borrow_le A B (i + 1)
  constructor <;> intro hh <;> constructor <;> omega

/-! The product. -/
theorem shl_bit (A i j : Nat) : bitF (A * 2 ^ i) j = if j < i then 0 else bitF A (j - i) := by
  unfold bitF
  split
  · rename_i h
    have e : 2 ^ i = 2 ^ (i - j - 1) * 2 * 2 ^ j := by rw [← Nat.pow_succ, ← Nat.pow_add]; congr 1; omega
    rw [e, ← Nat.mul_assoc, Nat.mul_div_cancel _ (p2 j), ← Nat.mul_assoc, Nat.mul_mod_left]
  · rename_i h
    have e : 2 ^ j = 2 ^ i * 2 ^ (j - i) := by rw [← Nat.pow_add]; congr 1; omega
    rw [e, ← Nat.div_div_eq_div_mul, Nat.mul_div_cancel _ (p2 i)]
theorem times_skip (A B i : Nat) (h : bitF B i = 0) : A * (B % 2 ^ (i + 1)) = A * (B % 2 ^ i) := by rw [mod_succ, h]; simp
theorem times_add (A B i : Nat) (h : bitF B i ≠ 0) : A * (B % 2 ^ (i + 1)) = A * (B % 2 ^ i) + A * 2 ^ i := by
  have := bitF_lt B i
  have e : bitF B i = 1 := by omega
  rw [mod_succ, e, Nat.mul_one, Nat.mul_add]

/-! The quotient. -/
theorem parts_bit (A i j : Nat) (R : Nat) : bitF (2 * R + bitF A i) j = if j = 0 then bitF A i else bitF R (j - 1) := by
  have := bitF_lt A i
  cases j with
  | zero =>
    rw [if_pos rfl]
    unfold bitF
    rw [Nat.pow_zero, Nat.div_one]; omega
  | succ j =>
    simp only [Nat.add_sub_cancel, if_neg (show ¬ j + 1 = 0 by omega)]
    unfold bitF
    rw [Nat.pow_succ', ← Nat.div_div_eq_div_mul]
    unfold bitF at this
    rw [show (2 * R + A / 2 ^ i % 2) / 2 = R by omega]
theorem div_div2 (A B k : Nat) : A / 2 ^ k / B = A / B / 2 ^ k := by rw [Nat.div_div_eq_div_mul, Nat.div_div_eq_div_mul, Nat.mul_comm]
/-- R is what is left of the upper digits; R' with the next one. -/
theorem parts_step (A B i R : Nat) (hB : 0 < B) (hR : R = A / 2 ^ (i + 1) % B) :
    (B ≤ 2 * R + bitF A i → 2 * R + bitF A i - B = A / 2 ^ i % B ∧ bitF (A / B) i = 1) ∧ (2 * R + bitF A i < B → 2 * R + bitF A i = A / 2 ^ i % B ∧ bitF (A / B) i = 0) := by
  have h1 := Nat.div_add_mod (A / 2 ^ (i + 1)) B
  rw [← hR] at h1
  have hlt : R < B := by rw [hR]; exact Nat.mod_lt _ hB
  have h2 := div_bit A i
  have h3 := div_div2 A B i
  have h4 := div_div2 A B (i + 1)
  have h5 := div_succ (A / B) i
  have h6 := bitF_lt A i
  obtain ⟨Q, hQ⟩ : ∃ Q, A / 2 ^ (i + 1) / B = Q := ⟨_, rfl⟩
  rw [hQ] at h1 h4
  have key : ∀ b R', A / 2 ^ i = B * (2 * Q + b) + R' → R' < B → A / 2 ^ i % B = R' ∧ A / 2 ^ i / B = 2 * Q + b := fun b R' e hl => by
    rw [e]; exact ⟨by rw [Nat.mul_add_mod, Nat.mod_eq_of_lt hl], by rw [Nat.mul_add_div hB, Nat.div_eq_of_lt hl]; omega⟩
  constructor
  · intro hge
    have e : A / 2 ^ i = B * (2 * Q + 1) + (2 * R + bitF A i - B) := by
      rw [Nat.mul_add, Nat.mul_left_comm]; omega
    obtain ⟨k1, k2⟩ := key 1 _ e (by omega)
    refine ⟨k1.symm, ?_⟩
    unfold bitF; rw [← h3, k2]; omega
  · intro hl
    have e : A / 2 ^ i = B * (2 * Q + 0) + (2 * R + bitF A i) := by
      rw [Nat.add_zero, Nat.mul_left_comm]; omega
    obtain ⟨k1, k2⟩ := key 0 _ e hl
    refine ⟨k1.symm, ?_⟩
    unfold bitF; rw [← h3, k2]; omega

/-! How two stand. -/
def cmpN (A B : Nat) : Int := if A < B then -1 else if A = B then 0 else 1
theorem cmp_bit (A B i : Nat) (h : A / 2 ^ (i + 1) = B / 2 ^ (i + 1)) (hne : bitF A i ≠ bitF B i) : (bitF A i : Int) - bitF B i = cmpN A B := by
  have h1 := div_bit A i
  have h2 := div_bit B i
  have h3 := bitF_lt A i
  have h4 := bitF_lt B i
  unfold cmpN
  by_cases hlt : bitF A i < bitF B i
  · have : A < B := Nat.lt_of_not_le fun hle => by have := Nat.div_le_div_right (c := 2 ^ i) hle; omega
    rw [if_pos this]; omega
  · have : B < A := Nat.lt_of_not_le fun hle => by have := Nat.div_le_div_right (c := 2 ^ i) hle; omega
    rw [if_neg (by omega), if_neg (by omega)]; omega
theorem cmp_same (A B i : Nat) (h : A / 2 ^ (i + 1) = B / 2 ^ (i + 1)) (he : bitF A i = bitF B i) : A / 2 ^ i = B / 2 ^ i := by rw [div_bit A i, div_bit B i, h, he]
theorem cmp_end (A B : Nat) (h : A / 2 ^ 0 = B / 2 ^ 0) : cmpN A B = 0 := by simp at h; unfold cmpN; rw [if_neg (by omega), if_pos h]
end Go.Kw.Nm
