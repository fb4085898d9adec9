/-
  Zones in plain numbers: whether one may be, a year's rule and its edges, an instant's offset; no walk here. Conditions stand at each theorem.
-/
import Derived.Test.YtgbkedjjgbhcmaaGreatDoorRefCiv4
namespace Go.Proofs.YtgbkedjjgbhcmaaGreatDoor
open Go Go.Kw Go.Kw.Cv
set_option linter.unusedVariables false
set_option linter.unusedSimpArgs false

/-- May a change be? -/
def chgOk (m wd n mi : Int) : Prop := 1 ≤ m ∧ m ≤ 12 ∧ 1 ≤ wd ∧ wd ≤ 7 ∧ (n = -1 ∨ (1 ≤ n ∧ n ≤ 4)) ∧ 0 ≤ mi ∧ mi ≤ 1439
instance (m wd n mi : Int) : Decidable (chgOk m wd n mi) := by unfold chgOk; infer_instance
/-- May rule i be? Its cells: First, Last, On (4), Off (4), Extra. -/
def rulOk (g : Nat → Nat → Int) (i : Nat) : Prop := 1970 ≤ g i 0 ∧ g i 0 ≤ g i 1 ∧ g i 1 ≤ 9999 ∧ 1 ≤ g i 10 ∧ g i 10 ≤ 7200 ∧ chgOk (g i 2) (g i 3) (g i 4) (g i 5) ∧ chgOk (g i 6) (g i 7) (g i 8) (g i 9)
instance (g : Nat → Nat → Int) (i : Nat) : Decidable (rulOk g i) := by unfold rulOk; infer_instance
def zonOk (o : Int) (lr : Nat) (g : Nat → Nat → Int) : Prop := -50400 ≤ o ∧ o ≤ 50400 ∧ lr ≤ 20 ∧ ∀ i, i < lr → rulOk g i
noncomputable instance (o : Int) (lr : Nat) (g : Nat → Nat → Int) : Decidable (zonOk o lr g) := Classical.propDecidable _
noncomputable def zonE (o : Int) (lr : Nat) (g : Nat → Nat → Int) : Int := if zonOk o lr g then 0 else 70
/-- The first rule of a year among the first k; k: there is none. -/
def inYearZ (g : Nat → Nat → Int) (i : Nat) (y : Int) : Bool := decide (g i 0 ≤ y) && decide (y ≤ g i 1)
def rulF (g : Nat → Nat → Int) (y : Int) : Nat → Nat
  | 0 => 0
  | k + 1 => if rulF g y k < k then rulF g y k else if inYearZ g k y = true then k else k + 1
theorem rulF_le (g : Nat → Nat → Int) (y : Int) : ∀ k, rulF g y k ≤ k
  | 0 => Nat.le_refl _
  | k + 1 => by
    have := rulF_le g y k
    unfold rulF
    split
    · omega
    · split <;> omega
theorem rulF_spec (g : Nat → Nat → Int) (y : Int) : ∀ k, (rulF g y k < k → inYearZ g (rulF g y k) y = true) ∧ ∀ i, i < rulF g y k → i < k → inYearZ g i y = false
  | 0 => ⟨fun h => absurd h (Nat.not_lt_zero _), fun i _ h => absurd h (Nat.not_lt_zero _)⟩
  | k + 1 => by
    obtain ⟨h1, h2⟩ := rulF_spec g y k
    have hle := rulF_le g y k
    by_cases hc : rulF g y k < k
    · have e : rulF g y (k + 1) = rulF g y k := by rw [rulF, if_pos hc]
      rw [e]
      exact ⟨fun _ => h1 hc, fun i hi _ => h2 i hi (by omega)⟩
    · have e0 : rulF g y k = k := by omega
      by_cases hk : inYearZ g k y = true
      · have e : rulF g y (k + 1) = k := by rw [rulF, if_neg hc, if_pos hk]
        rw [e]
        exact ⟨fun _ => hk, fun i hi _ => h2 i (by omega) hi⟩
      · have e : rulF g y (k + 1) = k + 1 := by rw [rulF, if_neg hc, if_neg hk]
        rw [e]
        refine ⟨fun h => absurd h (Nat.lt_irrefl _), fun i hi _ => ?_⟩
        by_cases hik : i = k
        · rw [hik]; exact Bool.eq_false_iff.2 hk
        · exact h2 i (by omega) (by omega)
/-- Whatever place is the first is this one. -/
theorem rulF_unique (g : Nat → Nat → Int) (y : Int) (k j : Nat) (hj : j ≤ k) (h1 : j < k → inYearZ g j y = true) (h2 : ∀ i, i < j → inYearZ g i y = false) : rulF g y k = j := by
  obtain ⟨s1, s2⟩ := rulF_spec g y k
  have hle := rulF_le g y k
  rcases Nat.lt_trichotomy (rulF g y k) j with h | h | h
  · have a := s1 (by omega)
    rw [h2 _ h] at a; cases a
  · exact h
  · have a := s2 j h (by omega)
    rw [h1 (by omega)] at a; cases a
/-- The standard time of a change in a year. -/
def chgT (y m wd n mi : Int) : Int := dayN y m (nthN y m wd n) * 86400 + mi * 60
theorem chg_nth {m wd n mi y : Int} (h : chgOk m wd n mi) (hy : 1970 ≤ y ∧ y ≤ 9999) : nthOk y m wd n ∧ nthN y m wd n ≤ dim y m := by
  obtain ⟨h1, h2, h3, h4, h5, h6, h7⟩ := h
  have hd := d1_in y m wd ⟨hy.1, hy.2, h1, h2⟩
  have hl := dim_lo y m ⟨h1, h2⟩
  refine ⟨⟨hy.1, hy.2, h1, h2, h3, h4, by rcases h5 with h5 | h5 <;> omega⟩, ?_⟩
  unfold nthN
  split
  · omega
  · rcases h5 with h5 | h5 <;> omega
theorem chgT_range {m wd n mi y : Int} (h : chgOk m wd n mi) (hy : 1970 ≤ y ∧ y ≤ 9999) : 0 ≤ chgT y m wd n mi ∧ chgT y m wd n mi ≤ 253402300799 := by
  obtain ⟨h1, h2⟩ := chg_nth h hy
  have hok : okD y m (nthN y m wd n) := ⟨hy.1, hy.2, (nth_lo y m wd n h1).1, h2⟩
  have hr := day_range hok
  obtain ⟨-, -, -, -, -, h6, h7⟩ := h
  unfold chgT
  omega
def onT (g : Nat → Nat → Int) (i : Nat) (y : Int) : Int := chgT y (g i 2) (g i 3) (g i 4) (g i 5)
def offT (g : Nat → Nat → Int) (i : Nat) (y : Int) : Int := chgT y (g i 6) (g i 7) (g i 8) (g i 9)
/-- Is it summer, at a standard time, by edges? -/
def sumB (on off s : Int) : Bool := (decide (on < off) && (decide (on ≤ s) && decide (s < off))) || (decide (off < on) && (decide (s < off) || decide (on ≤ s)))
/-- A day's date. -/
noncomputable def zD (n : Int) : Int × Int × Int := if h : 0 ≤ n ∧ n ≤ 2932896 then ((day_ex n h).choose, (day_ex n h).choose_spec.choose, (day_ex n h).choose_spec.choose_spec.choose) else (0, 0, 0)
theorem zD_spec (n : Int) (h : 0 ≤ n ∧ n ≤ 2932896) : okD (zD n).1 (zD n).2.1 (zD n).2.2 ∧ dayN (zD n).1 (zD n).2.1 (zD n).2.2 = n := by
  unfold zD
  rw [dif_pos h]
  exact (day_ex n h).choose_spec.choose_spec.choose_spec
theorem zD_day {y m d : Int} (h : okD y m d) : zD (dayN y m d) = (y, m, d) := by
  obtain ⟨h1, h2⟩ := zD_spec _ (day_range h)
  obtain ⟨e1, e2, e3⟩ := day_inj h1 h h2
  exact Prod.ext_iff.2 ⟨e1, Prod.ext_iff.2 ⟨e2, e3⟩⟩
/-- May a second be? Its day may be. -/
def secOk (s : Int) : Prop := 0 ≤ s ∧ s < 253402300800
instance (s : Int) : Decidable (secOk s) := by unfold secOk; infer_instance
theorem sec_day {s : Int} (h : secOk s) : 0 ≤ s / 86400 ∧ s / 86400 ≤ 2932896 := by unfold secOk at h; omega
/-- What summer adds at a standard time. -/
noncomputable def extV (g : Nat → Nat → Int) (lr : Nat) (s : Int) : Int :=
  if rulF g (zD (s / 86400)).1 lr < lr then (if sumB (onT g (rulF g (zD (s / 86400)).1 lr) (zD (s / 86400)).1) (offT g (rulF g (zD (s / 86400)).1 lr) (zD (s / 86400)).1) s = true then g (rulF g (zD (s / 86400)).1 lr) 10 else 0) else 0
theorem extV_range {o : Int} {lr : Nat} {g : Nat → Nat → Int} (h : zonOk o lr g) (s : Int) : 0 ≤ extV g lr s ∧ extV g lr s ≤ 7200 := by
  unfold extV
  split
  · rename_i hi
    have hr := h.2.2.2 _ hi
    unfold rulOk at hr
    split <;> omega
  · omega
/-- An instant's offset, and the error. -/
noncomputable def offE (o : Int) (lr : Nat) (g : Nat → Nat → Int) (t : Int) : Int :=
  if zonOk o lr g then (if secOk (t + o) ∧ secOk (t + o + extV g lr (t + o)) then 0 else 60) else 70
noncomputable def offV (o : Int) (lr : Nat) (g : Nat → Nat → Int) (t : Int) : Int := if offE o lr g t = 0 then o + extV g lr (t + o) else 0
end Go.Proofs.YtgbkedjjgbhcmaaGreatDoor
