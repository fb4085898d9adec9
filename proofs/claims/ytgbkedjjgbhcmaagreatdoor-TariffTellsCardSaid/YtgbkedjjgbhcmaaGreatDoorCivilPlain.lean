/-
  The calendar in plain numbers: leap years, months' days, a date's day; no program in sight. Conditions stand at each theorem.
-/
import Derived.Below
namespace Go.Kw.Cv
set_option linter.unusedVariables false
set_option linter.unusedSimpArgs false

def leapB (y : Int) : Bool := decide (y % 4 = 0) && (decide (y % 100 ≠ 0) || decide (y % 400 = 0))
/-- A leap year's one day more. -/
def lp (y : Int) : Int := if leapB y = true then 1 else 0
/-- How many days a month has. -/
def dim (y m : Int) : Int := if m < 1 ∨ 12 < m then 0 else if m = 2 then 28 + lp y else if m = 4 ∨ m = 6 ∨ m = 9 ∨ m = 11 then 30 else 31
/-- The days ahead of a year; of a month in its year. -/
def ahd (y : Int) : Int := 365 * (y - 1970) + ((y - 1) / 4 - (y - 1) / 100 + (y - 1) / 400) - 477
def mst (y m : Int) : Int :=
  if m = 1 then 0 else if m = 2 then 31 else if m = 3 then 59 + lp y else if m = 4 then 90 + lp y else if m = 5 then 120 + lp y else if m = 6 then 151 + lp y else
  if m = 7 then 181 + lp y else if m = 8 then 212 + lp y else if m = 9 then 243 + lp y else if m = 10 then 273 + lp y else if m = 11 then 304 + lp y else 334 + lp y
/-- May a date be? Its day. -/
def okD (y m d : Int) : Prop := 1970 ≤ y ∧ y ≤ 9999 ∧ 1 ≤ d ∧ d ≤ dim y m
instance (y m d : Int) : Decidable (okD y m d) := by unfold okD; infer_instance
def dayN (y m d : Int) : Int := ahd y + mst y m + d - 1
theorem leapB_true (y : Int) : leapB y = true ↔ y % 4 = 0 ∧ (y % 100 ≠ 0 ∨ y % 400 = 0) := by unfold leapB; simp
theorem lp_cases (y : Int) : (lp y = 1 ∧ y % 4 = 0 ∧ (y % 100 ≠ 0 ∨ y % 400 = 0)) ∨ (lp y = 0 ∧ ¬ (y % 4 = 0 ∧ (y % 100 ≠ 0 ∨ y % 400 = 0))) := by
  unfold lp
  by_cases h : leapB y = true
  · exact .inl ⟨if_pos h, (leapB_true y).1 h⟩
  · exact .inr ⟨if_neg h, fun h2 => h ((leapB_true y).2 h2)⟩
theorem lp_01 (y : Int) : 0 ≤ lp y ∧ lp y ≤ 1 := by rcases lp_cases y with h | h <;> omega
theorem ahd_step (y : Int) : ahd (y + 1) = ahd y + 365 + lp y := by
  have h := lp_cases y
  unfold ahd
  rcases h with h | h <;> omega
theorem ahd_up (y : Int) : ∀ k : Nat, ahd y + 365 * k ≤ ahd (y + k)
  | 0 => by simp
  | k + 1 => by
    have h1 := ahd_up y k
    have h2 := ahd_step (y + k)
    have h3 := lp_01 (y + k)
    rw [show y + ((k + 1 : Nat) : Int) = y + k + 1 by push_cast; omega, h2]
    push_cast; omega
theorem ahd_mono {y y' : Int} (h : y ≤ y') : ahd y + 365 * (y' - y) ≤ ahd y' := by
  obtain ⟨k, rfl⟩ : ∃ k : Nat, y' = y + k := ⟨(y' - y).toNat, by omega⟩
  have := ahd_up y k
  omega
theorem ahd_1970 : ahd 1970 = 0 := by decide
theorem ahd_10000 : ahd 10000 = 2932897 := by decide
theorem dim_month {y m d : Int} (h : okD y m d) : 1 ≤ m ∧ m ≤ 12 := by
  unfold okD dim at h
  by_cases h1 : m < 1 ∨ 12 < m
  · rw [if_pos h1] at h; omega
  · omega
theorem month_cases {m : Int} (h : 1 ≤ m ∧ m ≤ 12) : m = 1 ∨ m = 2 ∨ m = 3 ∨ m = 4 ∨ m = 5 ∨ m = 6 ∨ m = 7 ∨ m = 8 ∨ m = 9 ∨ m = 10 ∨ m = 11 ∨ m = 12 := by omega
theorem mst_step (y m : Int) (h : 1 ≤ m ∧ m ≤ 11) : mst y (m + 1) = mst y m + dim y m := by
  rcases month_cases (show 1 ≤ m ∧ m ≤ 12 by omega) with rfl | rfl | rfl | rfl | rfl | rfl | rfl | rfl | rfl | rfl | rfl | rfl
  all_goals first | (exfalso; omega) | (simp [mst, dim]; try omega)
theorem mst_1 (y : Int) : mst y 1 = 0 := rfl
theorem mst_12 (y : Int) : mst y 12 + dim y 12 = 365 + lp y := by simp [mst, dim]; omega
theorem dim_lo (y m : Int) (h : 1 ≤ m ∧ m ≤ 12) : 28 ≤ dim y m ∧ dim y m ≤ 31 := by
  have := lp_01 y
  rcases month_cases h with rfl | rfl | rfl | rfl | rfl | rfl | rfl | rfl | rfl | rfl | rfl | rfl
  all_goals (simp [dim]; try omega)
theorem mst_up (y : Int) : ∀ (k : Nat) (m : Int), 1 ≤ m → m + k ≤ 12 → 0 < k → mst y m + dim y m ≤ mst y (m + k)
  | 0, m, h1, h2, h3 => by omega
  | 1, m, h1, h2, h3 => by
    have := mst_step y m (by omega)
    rw [show m + ((1 : Nat) : Int) = m + 1 by omega, this]; exact Int.le_refl _
  | k + 2, m, h1, h2, h3 => by
    have ih := mst_up y (k + 1) m h1 (by push_cast at h2 ⊢; omega) (by omega)
    have := mst_step y (m + (k + 1 : Nat)) (by push_cast at h2 ⊢; omega)
    have hd := dim_lo y (m + (k + 1 : Nat)) (by push_cast at h2 ⊢; omega)
    rw [show m + ((k + 2 : Nat) : Int) = m + ((k + 1 : Nat) : Int) + 1 by push_cast; omega, this]
    omega
theorem mst_mono {y m m' : Int} (h : 1 ≤ m) (hm : m < m') (h' : m' ≤ 12) : mst y m + dim y m ≤ mst y m' := by
  obtain ⟨k, rfl⟩ : ∃ k : Nat, m' = m + k := ⟨(m' - m).toNat, by omega⟩
  exact mst_up y k m h (by omega) (by omega)
theorem mst_lo (y m : Int) (h : 1 ≤ m ∧ m ≤ 12) : 0 ≤ mst y m ∧ mst y m + dim y m ≤ 365 + lp y := by
  have h12 := mst_12 y
  have hd := dim_lo y m h
  have h0 := dim_lo y 1 (by omega)
  have h1 := mst_1 y
  rcases Int.lt_trichotomy m 12 with h2 | h2 | h2
  · have := mst_mono (y := y) h.1 h2 (Int.le_refl _)
    have hd12 := dim_lo y 12 (by omega)
    rcases Int.lt_trichotomy m 1 with h3 | h3 | h3
    · omega
    · subst h3; omega
    · have := mst_mono (y := y) (Int.le_refl 1) h3 h.2; omega
  · subst h2
    have := mst_mono (y := y) (Int.le_refl 1) (show (1 : Int) < 12 by omega) (Int.le_refl _)
    omega
  · omega
theorem day_in {y m d : Int} (h : okD y m d) : ahd y ≤ dayN y m d ∧ dayN y m d < ahd (y + 1) := by
  have hm := dim_month h
  have h1 := mst_lo y m hm
  have h2 := ahd_step y
  unfold okD at h
  unfold dayN
  omega
theorem day_range {y m d : Int} (h : okD y m d) : 0 ≤ dayN y m d ∧ dayN y m d ≤ 2932896 := by
  have h1 := day_in h
  have h2 := ahd_mono (show (1970 : Int) ≤ y from h.1)
  have h3 := ahd_mono (show y + 1 ≤ 10000 by have := h.2.1; omega)
  rw [ahd_1970] at h2
  rw [ahd_10000] at h3
  unfold okD at h
  omega
theorem day_inj {y m d y' m' d' : Int} (h : okD y m d) (h' : okD y' m' d') (e : dayN y m d = dayN y' m' d') : y = y' ∧ m = m' ∧ d = d' := by
  have hy : y = y' := by
    have h1 := day_in h
    have h2 := day_in h'
    rcases Int.lt_trichotomy y y' with h3 | h3 | h3
    · have := ahd_mono (show y + 1 ≤ y' by omega); omega
    · exact h3
    · have := ahd_mono (show y' + 1 ≤ y by omega); omega
  subst hy
  have k1 := dim_month h
  have k2 := dim_month h'
  have hm : m = m' := by
    unfold dayN at e
    unfold okD at h h'
    rcases Int.lt_trichotomy m m' with h3 | h3 | h3
    · have := mst_mono (y := y) k1.1 h3 k2.2; omega
    · exact h3
    · have := mst_mono (y := y) k2.1 h3 k1.2; omega
  subst hm
  unfold dayN at e
  exact ⟨rfl, rfl, by omega⟩
theorem month_ex (y r : Int) (h : 0 ≤ r ∧ r < 365 + lp y) : ∃ m, 1 ≤ m ∧ m ≤ 12 ∧ mst y m ≤ r ∧ r < mst y m + dim y m := by
  have h12 := mst_12 y
  have : ∀ k : Nat, k < 12 → (∃ m, 1 ≤ m ∧ m ≤ 12 ∧ mst y m ≤ r ∧ r < mst y m + dim y m) ∨ mst y (k + 1) ≤ r := by
    intro k
    induction k with
    | zero => intro _; right; show mst y 1 ≤ r; rw [mst_1]; exact h.1
    | succ k ih =>
      intro hk
      rcases ih (by omega) with h1 | h1
      · exact .inl h1
      · by_cases h2 : r < mst y (k + 1) + dim y (k + 1)
        · exact .inl ⟨k + 1, by omega, by omega, h1, h2⟩
        · right
          have := mst_step y (k + 1) (by omega)
          rw [show ((k + 1 : Nat) : Int) + 1 = (k : Int) + 1 + 1 by push_cast; rfl, this]; omega
  rcases this 11 (by omega) with h1 | h1
  · exact h1
  · have h1 : mst y 12 ≤ r := h1
    exact ⟨12, by omega, by omega, h1, by omega⟩
theorem year_ex (n : Int) (h : 0 ≤ n ∧ n ≤ 2932896) : ∃ y, 1970 ≤ y ∧ y ≤ 9999 ∧ ahd y ≤ n ∧ n < ahd (y + 1) := by
  have : ∀ k : Nat, k ≤ 8030 → (∃ y, 1970 ≤ y ∧ y ≤ 9999 ∧ ahd y ≤ n ∧ n < ahd (y + 1)) ∨ ahd (1970 + k) ≤ n := by
    intro k
    induction k with
    | zero => intro _; right; show ahd (1970 + 0) ≤ n; rw [Int.add_zero, ahd_1970]; exact h.1
    | succ k ih =>
      intro hk
      rcases ih (by omega) with h1 | h1
      · exact .inl h1
      · by_cases h2 : n < ahd (1970 + k + 1)
        · exact .inl ⟨1970 + k, by omega, by omega, h1, h2⟩
        · right
          rw [show (1970 : Int) + ((k + 1 : Nat) : Int) = 1970 + k + 1 by push_cast; omega]; omega
  rcases this 8030 (Nat.le_refl _) with h1 | h1
  · exact h1
  · have h1 : ahd 10000 ≤ n := h1
    rw [ahd_10000] at h1; omega
theorem day_ex (n : Int) (h : 0 ≤ n ∧ n ≤ 2932896) : ∃ y m d, okD y m d ∧ dayN y m d = n := by
  obtain ⟨y, h1, h2, h3, h4⟩ := year_ex n h
  have h5 := ahd_step y
  obtain ⟨m, k1, k2, k3, k4⟩ := month_ex y (n - ahd y) (by omega)
  exact ⟨y, m, n - ahd y - mst y m + 1, ⟨h1, h2, by omega, by omega⟩, by unfold dayN; omega⟩
end Go.Kw.Cv
