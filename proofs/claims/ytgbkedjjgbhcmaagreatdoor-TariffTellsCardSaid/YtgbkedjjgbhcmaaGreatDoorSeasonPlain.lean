/-
  A day's season, going back day by day: in plain numbers; no walk here. Conditions stand at each theorem.
-/
import Derived.Test.YtgbkedjjgbhcmaaGreatDoorFeastPlain
namespace Go.Proofs.YtgbkedjjgbhcmaaGreatDoor
open Go Go.Kw Go.Kw.Cv
set_option linter.unusedVariables false
set_option linter.unusedSimpArgs false

def seasAll (gs : Nat → Nat → Int) (lb : Nat) : Prop := ∀ i, i < lb → seaOk gs i ∧ ¬ seaDup gs i
theorem plc_inj {gs : Nat → Nat → Int} {lb i j : Nat} (h : seasAll gs lb) (hi : i < lb) (hj : j < lb) (e : plc gs i = plc gs j) : i = j := by
  obtain ⟨e1, e2⟩ := place_inj (h i hi).1.2.2 (h j hj).1.2.2 e
  rcases Nat.lt_trichotomy i j with h1 | h1 | h1
  · exact absurd ⟨i, h1, e1, e2⟩ (h j hj).2
  · exact h1
  · exact absurd ⟨j, h1, e1.symm, e2.symm⟩ (h i hi).2
theorem dim_2001 (y m : Int) (h : 1 ≤ m ∧ m ≤ 12) : dim 2001 m ≤ dim y m := by
  have h0 := lp_01 y
  have h1 : lp 2001 = 0 := by decide
  unfold dim
  rcases month_cases h with rfl | rfl | rfl | rfl | rfl | rfl | rfl | rfl | rfl | rfl | rfl | rfl
  all_goals (simp; try omega)
/-- Where the going back stands: at y', m', d', k steps behind y, m, d. -/
def SeaI (gs : Nat → Nat → Int) (lb : Nat) (y m d y' m' d' : Int) (k : Nat) : Prop :=
  1 ≤ m' ∧ m' ≤ 12 ∧ 1 ≤ d' ∧ d' ≤ dim y' m' ∧ y - k ≤ y' ∧ y' ≤ y ∧
  (lb = 0 ∨ (y' = y ∧ 100 * m' + d' ≤ 100 * m + d ∧ (∀ i, i < lb → ¬ (100 * m' + d' < plc gs i ∧ plc gs i ≤ 100 * m + d)) ∧ k + (mst y m' + d') = mst y m + d) ∨
    (y' = y - 1 ∧ (∀ i, i < lb → ¬ plc gs i ≤ 100 * m + d) ∧ (∀ i, i < lb → plc gs i ≤ 100 * m' + d') ∧ k + (mst (y - 1) m' + d') = mst y m + d + 365 + lp (y - 1)))
theorem seaI_0 (gs : Nat → Nat → Int) (lb : Nat) (y m d : Int) (h : okD y m d) : SeaI gs lb y m d y m d 0 := by
  have hm := dim_month h
  refine ⟨hm.1, hm.2, h.2.2.1, h.2.2.2, by omega, by omega, .inr (.inl ⟨rfl, by omega, fun i _ => by omega, by omega⟩)⟩
theorem sea_ne {gs : Nat → Nat → Int} {lb : Nat} (h : seasAll gs lb) {m' d' : Int} (hd : 1 ≤ d' ∧ d' ≤ 31) (hno : ∀ i, i < lb → ¬ (gs i 1 = m' ∧ gs i 2 = d')) (i : Nat) (hi : i < lb) : plc gs i ≠ 100 * m' + d' := by
  intro e
  have h1 := (h i hi).1.2.2
  have h2 := dim_lo 2001 _ (dim_month h1)
  unfold okD at h1
  unfold plc at e
  exact hno i hi ⟨by omega, by omega⟩
theorem seaI_step1 {gs : Nat → Nat → Int} {lb : Nat} (h : seasAll gs lb) {y m d y' m' d' : Int} {k : Nat} (hI : SeaI gs lb y m d y' m' d' k) (hno : ∀ i, i < lb → ¬ (gs i 1 = m' ∧ gs i 2 = d')) (h2 : 2 ≤ d') :
    SeaI gs lb y m d y' m' (d' - 1) (k + 1) := by
  obtain ⟨a1, a2, a3, a4, a5, a6, hI⟩ := hI
  have hd := dim_lo y' m' ⟨a1, a2⟩
  have hne := sea_ne h ⟨a3, by omega⟩ hno
  refine ⟨a1, a2, by omega, by omega, by push_cast; omega, a6, ?_⟩
  rcases hI with hI | ⟨rfl, b1, b2, b3⟩ | ⟨rfl, b1, b2, b3⟩
  · exact .inl hI
  · refine .inr (.inl ⟨rfl, by omega, fun i hi => ?_, by push_cast; omega⟩)
    have := hne i hi; have := b2 i hi; omega
  · refine .inr (.inr ⟨rfl, b1, fun i hi => ?_, by push_cast; omega⟩)
    have := hne i hi; have := b2 i hi; omega
theorem sea_gap {gs : Nat → Nat → Int} {i : Nat} (h : seaOk gs i) (y m' : Int) (hm : 2 ≤ m' ∧ m' ≤ 12) (h1 : 100 * (m' - 1) + dim y (m' - 1) < plc gs i) : 100 * m' + 1 ≤ plc gs i := by
  have h2 := h.2.2
  have h3 := dim_month h2
  have h4 := dim_2001 y (m' - 1) (by omega)
  have h5 := dim_lo y (m' - 1) (by omega)
  unfold okD at h2
  unfold plc at h1 ⊢
  by_cases e : gs i 1 = m' - 1
  · rw [e] at h2; omega
  · have := dim_lo 2001 (gs i 1) h3
    omega
theorem seaI_step2 {gs : Nat → Nat → Int} {lb : Nat} (h : seasAll gs lb) {y m d y' m' : Int} {k : Nat} (hI : SeaI gs lb y m d y' m' 1 k) (hno : ∀ i, i < lb → ¬ (gs i 1 = m' ∧ gs i 2 = 1)) (h2 : 2 ≤ m') :
    SeaI gs lb y m d y' (m' - 1) (dim y' (m' - 1)) (k + 1) := by
  obtain ⟨a1, a2, a3, a4, a5, a6, hI⟩ := hI
  have hd := dim_lo y' (m' - 1) (by omega)
  have hst := mst_step y' (m' - 1) (by omega)
  rw [show m' - 1 + 1 = m' by omega] at hst
  have hne := sea_ne h ⟨Int.le_refl 1, by omega⟩ hno
  refine ⟨by omega, by omega, by omega, Int.le_refl _, by push_cast; omega, a6, ?_⟩
  rcases hI with hI | ⟨rfl, b1, b2, b3⟩ | ⟨rfl, b1, b2, b3⟩
  · exact .inl hI
  · refine .inr (.inl ⟨rfl, by omega, fun i hi => ?_, by push_cast; omega⟩)
    intro hc
    have := sea_gap (h i hi).1 y' m' ⟨h2, a2⟩ hc.1
    have := hne i hi; have := b2 i hi; omega
  · refine .inr (.inr ⟨rfl, b1, fun i hi => ?_, by push_cast; omega⟩)
    rcases Int.lt_or_le (100 * (m' - 1) + dim (y - 1) (m' - 1)) (plc gs i) with hc | hc
    · have := sea_gap (h i hi).1 (y - 1) m' ⟨h2, a2⟩ hc
      have := hne i hi; have := b2 i hi; omega
    · exact hc
theorem seaI_step3 {gs : Nat → Nat → Int} {lb : Nat} (h : seasAll gs lb) {y m d y' : Int} {k : Nat} (hI : SeaI gs lb y m d y' 1 1 k) (hno : ∀ i, i < lb → ¬ (gs i 1 = 1 ∧ gs i 2 = 1)) :
    SeaI gs lb y m d (y' - 1) 12 (dim (y' - 1) 12) (k + 1) := by
  obtain ⟨a1, a2, a3, a4, a5, a6, hI⟩ := hI
  have hne := sea_ne h ⟨Int.le_refl 1, by omega⟩ hno
  have hdim : dim (y' - 1) 12 = 31 := rfl
  refine ⟨by omega, by omega, by rw [hdim]; omega, Int.le_refl _, by push_cast; omega, by omega, ?_⟩
  rcases hI with hI | ⟨rfl, b1, b2, b3⟩ | ⟨rfl, b1, b2, b3⟩
  · exact .inl hI
  · refine .inr (.inr ⟨rfl, fun i hi => ?_, fun i hi => ?_, ?_⟩)
    · have := hne i hi; have := b2 i hi; have := sea_place (h i hi).1; omega
    · have := sea_place (h i hi).1; rw [hdim]; omega
    · have h12 := mst_12 (y' - 1)
      rw [mst_1] at b3
      push_cast; omega
  · refine .inl ?_
    rcases Nat.eq_zero_or_pos lb with h0 | h0
    · exact h0
    · have := hne 0 h0; have := b2 0 h0; have := sea_place (h 0 h0).1; omega
theorem seaI_hit {gs : Nat → Nat → Int} {lb : Nat} (h : seasAll gs lb) {y m d y' m' d' : Int} {k i : Nat} (hI : SeaI gs lb y m d y' m' d' k) (hi : i < lb) (e1 : gs i 1 = m') (e2 : gs i 2 = d') : seasN gs lb m d = gs i 0 := by
  obtain ⟨a1, a2, a3, a4, a5, a6, hI⟩ := hI
  have hp : plc gs i = 100 * m' + d' := by unfold plc; rw [e1, e2]
  have hpos : ∀ j, j < lb → 0 ≤ plc gs j := fun j hj => by have := sea_place (h j hj).1; omega
  unfold seasN
  rcases hI with hI | ⟨rfl, b1, b2, b3⟩ | ⟨rfl, b1, b2, b3⟩
  · omega
  · rcases mxS_spec gs (100 * m + d) lb hpos with ⟨h1, h2⟩ | ⟨j, hj, h1, h2, h3⟩
    · exact absurd (by rw [hp]; exact b1) (h2 i hi)
    · have h4 := h3 i hi (by rw [hp]; exact b1)
      have h5 := b2 j hj
      have : j = i := plc_inj h hj hi (by omega)
      rw [h2, this]
      unfold seasB
      rw [if_neg (by have := hpos i hi; show ¬ plc gs i < 0; omega)]
  · have hm : mxS gs (100 * m + d) lb = (-1, 0) := by
      rcases mxS_spec gs (100 * m + d) lb hpos with ⟨h1, h2⟩ | ⟨j, hj, h1, h2, h3⟩
      · exact h1
      · exact absurd h1 (b1 j hj)
    rw [hm]
    unfold seasB
    rw [if_pos (show (-1 : Int) < 0 by omega)]
    have hle : ∀ j, j < lb → plc gs j ≤ 9999 := fun j hj => by have := sea_place (h j hj).1; omega
    rcases mxS_spec gs 9999 lb hpos with ⟨h1, h2⟩ | ⟨j, hj, h1, h2, h3⟩
    · exact absurd (hle i hi) (h2 i hi)
    · have h4 := h3 i hi (hle i hi)
      have h5 := b2 j hj
      have : j = i := plc_inj h hj hi (by omega)
      rw [h2, this]
theorem seaI_end {gs : Nat → Nat → Int} {lb : Nat} {y m d y' m' d' : Int} (hok : okD y m d) (hI : SeaI gs lb y m d y' m' d' 800) : seasN gs lb m d = 0 := by
  obtain ⟨a1, a2, a3, a4, a5, a6, hI⟩ := hI
  have hm := dim_month hok
  have h1 := mst_lo y m hm
  have h2 := lp_01 y
  have h3 := lp_01 (y - 1)
  have hd := hok.2.2.2
  rcases hI with rfl | ⟨rfl, b1, b2, b3⟩ | ⟨rfl, b1, b2, b3⟩
  · rfl
  · have := mst_lo y' m' ⟨a1, a2⟩; omega
  · have := mst_lo (y - 1) m' ⟨a1, a2⟩; omega
theorem seaI_bd {gs : Nat → Nat → Int} {lb : Nat} {y m d y' m' d' : Int} {k : Nat} (hI : SeaI gs lb y m d y' m' d' k) : 1 ≤ m' ∧ m' ≤ 12 ∧ 1 ≤ d' ∧ d' ≤ 31 ∧ y - k ≤ y' ∧ y' ≤ y := by
  obtain ⟨a1, a2, a3, a4, a5, a6, -⟩ := hI
  have := dim_lo y' m' ⟨a1, a2⟩
  omega
noncomputable def seasD (gs : Nat → Nat → Int) (lb : Nat) (n : Int) : Int := seasN gs lb (dOf n).2.1 (dOf n).2.2
end Go.Proofs.YtgbkedjjgbhcmaaGreatDoor
