/-
  Holidays' days, a day's kind, its season: in plain numbers; no walk here. Conditions stand at each theorem.
-/
import Derived.Test.YtgbkedjjgbhcmaaGreatDoorEasterPlain
import Derived.Test.YtgbkedjjgbhcmaaGreatDoorDays4
namespace Go.Proofs.YtgbkedjjgbhcmaaGreatDoor
open Go Go.Kw Go.Kw.Cv
set_option linter.unusedVariables false
set_option linter.unusedSimpArgs false

/-- A holiday's day in a year; below 0: it has none. -/
def onV (k hy m d wd n y : Int) : Int :=
  if k = 2 then (if hy = y ∧ okD y m d then dayN y m d else -1)
  else if k = 1 then (if okD y m d then dayN y m d else -1)
  else if k = 3 then (if nthOk y m wd n ∧ nthN y m wd n ≤ dim y m then dayN y m (nthN y m wd n) else -1)
  else (if 1970 ≤ y ∧ y ≤ 9999 then dayN y (easM y) (easD y) + n else -1)
/-- The document's question: is a day that holiday? -/
def behD (D j : Int) : Int := D - dayN j (easM j) (easD j)
def oneP (k hy m d wd n y0 m0 d0 : Int) : Prop :=
  (k = 1 ∧ m0 = m ∧ d0 = d) ∨ (k = 2 ∧ y0 = hy ∧ m0 = m ∧ d0 = d) ∨ (k = 3 ∧ m0 = m ∧ nthV y0 m0 wd n = (d0, 0)) ∨
  (k = 4 ∧ ∃ j, y0 - 1 ≤ j ∧ j ≤ y0 + 1 ∧ 1970 ≤ j ∧ j ≤ 9999 ∧ behD (dayN y0 m0 d0) j = n)
theorem nth_ok (y m k n : Int) (h : nthOk y m k n ∧ nthN y m k n ≤ dim y m) : okD y m (nthN y m k n) := ⟨h.1.1, h.1.2.1, (nth_lo y m k n h.1).1, h.2⟩
theorem nthV_ok {y m k n : Int} (h : nthOk y m k n ∧ nthN y m k n ≤ dim y m) : nthV y m k n = (nthN y m k n, 0) := if_pos h
theorem nthV_no {y m k n : Int} (h : ¬ (nthOk y m k n ∧ nthN y m k n ≤ dim y m)) : nthV y m k n = (0, 60) := if_neg h
theorem one_on (k hy m d wd n y0 m0 d0 : Int) (h : mayB k hy m d wd n) (hok : okD y0 m0 d0) :
    oneP k hy m d wd n y0 m0 d0 ↔ ∃ j, y0 - 1 ≤ j ∧ j ≤ y0 + 1 ∧ onV k hy m d wd n j = dayN y0 m0 d0 := by
  have hr := day_range hok
  unfold oneP
  rcases h with ⟨rfl, -, -, h⟩ | ⟨rfl, -, -, -, h⟩ | ⟨rfl, -, -, h⟩ | ⟨rfl, -, -, -, -, h⟩
  · constructor
    · rintro (⟨h1, _⟩ | ⟨-, rfl, rfl, rfl⟩ | ⟨h1, _⟩ | ⟨h1, _⟩)
      · omega
      · refine ⟨y0, by omega, by omega, ?_⟩
        unfold onV; rw [if_pos rfl, if_pos ⟨rfl, hok⟩]
      · omega
      · omega
    · rintro ⟨j, -, -, hj⟩
      unfold onV at hj
      rw [if_pos rfl] at hj
      by_cases hc : hy = j ∧ okD j m d
      · rw [if_pos hc] at hj
        obtain ⟨h1, h2, h3⟩ := day_inj hc.2 hok hj
        exact .inr (.inl ⟨rfl, by omega, h2.symm, h3.symm⟩)
      · rw [if_neg hc] at hj; omega
  · constructor
    · rintro (⟨-, rfl, rfl⟩ | ⟨h1, _⟩ | ⟨h1, _⟩ | ⟨h1, _⟩)
      · refine ⟨y0, by omega, by omega, ?_⟩
        unfold onV; rw [if_neg (by omega), if_pos rfl, if_pos hok]
      · omega
      · omega
      · omega
    · rintro ⟨j, -, -, hj⟩
      unfold onV at hj
      rw [if_neg (by omega), if_pos rfl] at hj
      by_cases hc : okD j m d
      · rw [if_pos hc] at hj
        obtain ⟨h1, h2, h3⟩ := day_inj hc hok hj
        exact .inl ⟨rfl, h2.symm, h3.symm⟩
      · rw [if_neg hc] at hj; omega
  · constructor
    · rintro (⟨h1, _⟩ | ⟨h1, _⟩ | ⟨-, rfl, h2⟩ | ⟨h1, _⟩)
      · omega
      · omega
      · refine ⟨y0, by omega, by omega, ?_⟩
        unfold onV; rw [if_neg (by omega), if_neg (by omega), if_pos rfl]
        by_cases hc : nthOk y0 m0 wd n ∧ nthN y0 m0 wd n ≤ dim y0 m0
        · rw [if_pos hc]
          rw [nthV_ok hc] at h2
          injection h2 with h2 _
          rw [h2]
        · rw [nthV_no hc] at h2
          injection h2 with _ h2
          omega
      · omega
    · rintro ⟨j, -, -, hj⟩
      unfold onV at hj
      rw [if_neg (by omega), if_neg (by omega), if_pos rfl] at hj
      by_cases hc : nthOk j m wd n ∧ nthN j m wd n ≤ dim j m
      · rw [if_pos hc] at hj
        obtain ⟨h1, h2, h3⟩ := day_inj (nth_ok _ _ _ _ hc) hok hj
        subst h1 h2
        exact .inr (.inr (.inl ⟨rfl, rfl, by rw [nthV_ok hc, h3]⟩))
      · rw [if_neg hc] at hj; omega
  · constructor
    · rintro (⟨h1, _⟩ | ⟨h1, _⟩ | ⟨h1, _⟩ | ⟨-, j, h1, h2, h3, h4, h5⟩)
      · omega
      · omega
      · omega
      · refine ⟨j, h1, h2, ?_⟩
        unfold onV; rw [if_neg (by omega), if_neg (by omega), if_neg (by omega), if_pos ⟨h3, h4⟩]
        unfold behD at h5; omega
    · rintro ⟨j, h1, h2, hj⟩
      unfold onV at hj
      rw [if_neg (by omega), if_neg (by omega), if_neg (by omega)] at hj
      by_cases hc : 1970 ≤ j ∧ j ≤ 9999
      · rw [if_pos hc] at hj
        exact .inr (.inr (.inr ⟨rfl, j, h1, h2, hc.1, hc.2, by unfold behD; omega⟩))
      · rw [if_neg hc] at hj; omega
theorem on_range (k hy m d wd n y : Int) (h : mayB k hy m d wd n) : -200 ≤ onV k hy m d wd n y ∧ onV k hy m d wd n y ≤ 2933200 := by
  unfold onV
  split
  · split
    · rename_i hc; have := day_range hc.2; omega
    · omega
  · split
    · split
      · rename_i hc; have := day_range hc; omega
      · omega
    · split
      · split
        · rename_i hc; have := day_range (nth_ok _ _ _ _ hc); omega
        · omega
      · split
        · rename_i hc
          have h1 := day_range (eas_ok hc)
          rcases h with h | h | h | h <;> omega
        · omega
def onH (g : Nat → Nat → Int) (i : Nat) (y : Int) : Int := onV (g i 0) (g i 1) (g i 2) (g i 3) (g i 4) (g i 5) y
def oneH (g : Nat → Nat → Int) (i : Nat) (y0 m0 d0 : Int) : Prop := oneP (g i 0) (g i 1) (g i 2) (g i 3) (g i 4) (g i 5) y0 m0 d0
/-- What the iterator 'feasts' hands over: place q is holiday q / 3, year y - 1 + q % 3. -/
def feF (g : Nat → Nat → Int) (y : Int) (q : Nat) : Option Int := if 0 ≤ onH g (q / 3) (y - 1 + (q % 3 : Nat)) then some (onH g (q / 3) (y - 1 + (q % 3 : Nat))) else none
def feastL (g : Nat → Nat → Int) (la : Nat) (y : Int) : List Int := (List.range (3 * la)).filterMap (feF g y)
def fePos (g : Nat → Nat → Int) (y : Int) (q : Nat) : Nat := ((List.range q).filterMap (feF g y)).length
theorem fePos_0 (g : Nat → Nat → Int) (y : Int) : fePos g y 0 = 0 := rfl
theorem fePos_end (g : Nat → Nat → Int) (la : Nat) (y : Int) : fePos g y (3 * la) = (feastL g la y).length := rfl
theorem fe_hit (g : Nat → Nat → Int) (la : Nat) (y : Int) (q : Nat) (hq : q < 3 * la) (h : 0 ≤ onH g (q / 3) (y - 1 + (q % 3 : Nat))) :
    (feastL g la y)[fePos g y q]? = some (onH g (q / 3) (y - 1 + (q % 3 : Nat))) ∧ fePos g y (q + 1) = fePos g y q + 1 := by
  have hf : feF g y q = some (onH g (q / 3) (y - 1 + (q % 3 : Nat))) := if_pos h
  have hs : (List.range (q + 1)).filterMap (feF g y) = (List.range q).filterMap (feF g y) ++ [onH g (q / 3) (y - 1 + (q % 3 : Nat))] := by
    rw [List.range_succ, List.filterMap_append]; simp [hf]
  obtain ⟨r, hr⟩ : ∃ r, 3 * la = q + 1 + r := ⟨3 * la - (q + 1), by omega⟩
  constructor
  · unfold feastL fePos
    rw [hr, List.range_add, List.filterMap_append, hs, List.append_assoc, List.getElem?_append_right (Nat.le_refl _)]
    simp
  · unfold fePos; rw [hs]; simp
theorem fe_miss (g : Nat → Nat → Int) (y : Int) (q : Nat) (h : ¬ 0 ≤ onH g (q / 3) (y - 1 + (q % 3 : Nat))) : fePos g y (q + 1) = fePos g y q := by
  have hf : feF g y q = none := if_neg h
  unfold fePos
  rw [List.range_succ, List.filterMap_append]; simp [hf]
theorem fe_mem (g : Nat → Nat → Int) (la : Nat) (y x : Int) : x ∈ feastL g la y ↔ 0 ≤ x ∧ ∃ i j, i < la ∧ y - 1 ≤ j ∧ j ≤ y + 1 ∧ onH g i j = x := by
  unfold feastL
  rw [List.mem_filterMap]
  constructor
  · rintro ⟨q, hq, hx⟩
    rw [List.mem_range] at hq
    unfold feF at hx
    split at hx
    · rename_i h
      injection hx with hx
      rw [hx] at h
      exact ⟨h, q / 3, y - 1 + (q % 3 : Nat), by omega, by omega, by omega, hx⟩
    · cases hx
  · rintro ⟨h0, i, j, hi, h1, h2, hx⟩
    refine ⟨3 * i + (j - (y - 1)).toNat, by rw [List.mem_range]; omega, ?_⟩
    have e1 : (3 * i + (j - (y - 1)).toNat) / 3 = i := by omega
    have e2 : y - 1 + (((3 * i + (j - (y - 1)).toNat) % 3 : Nat) : Int) = j := by omega
    unfold feF
    rw [e1, e2, hx, if_pos h0]
theorem fe_range (g : Nat → Nat → Int) (la : Nat) (y : Int) (hall : ∀ i, i < la → holOk g i) (x : Int) (hx : x ∈ feastL g la y) : 0 ≤ x ∧ x ≤ 2933200 := by
  obtain ⟨h0, i, j, hi, -, -, rfl⟩ := (fe_mem g la y x).1 hx
  exact ⟨h0, (on_range _ _ _ _ _ _ _ (hall i hi)).2⟩
/-- Both say the same of a day. -/
theorem fe_one (g : Nat → Nat → Int) (la : Nat) (hall : ∀ i, i < la → holOk g i) (y m d : Int) (hok : okD y m d) :
    dayN y m d ∈ feastL g la y ↔ ∃ i, i < la ∧ oneH g i y m d := by
  rw [fe_mem]
  constructor
  · rintro ⟨-, i, j, hi, h1, h2, hx⟩
    exact ⟨i, hi, (one_on _ _ _ _ _ _ y m d (hall i hi) hok).2 ⟨j, h1, h2, hx⟩⟩
  · rintro ⟨i, hi, h⟩
    obtain ⟨j, h1, h2, hx⟩ := (one_on _ _ _ _ _ _ y m d (hall i hi) hok).1 h
    exact ⟨(day_range hok).1, i, j, hi, h1, h2, hx⟩
/-- A day's date. -/
noncomputable def dOf (n : Int) : Int × Int × Int := if h : 0 ≤ n ∧ n ≤ 2932896 then ((day_ex n h).choose, (day_ex n h).choose_spec.choose, (day_ex n h).choose_spec.choose_spec.choose) else (0, 0, 0)
theorem dOf_spec (n : Int) (h : 0 ≤ n ∧ n ≤ 2932896) : okD (dOf n).1 (dOf n).2.1 (dOf n).2.2 ∧ dayN (dOf n).1 (dOf n).2.1 (dOf n).2.2 = n := by
  unfold dOf
  rw [dif_pos h]
  exact (day_ex n h).choose_spec.choose_spec.choose_spec
theorem dOf_day {y m d : Int} (h : okD y m d) : dOf (dayN y m d) = (y, m, d) := by
  obtain ⟨h1, h2⟩ := dOf_spec _ (day_range h)
  obtain ⟨e1, e2, e3⟩ := day_inj h1 h h2
  exact Prod.ext_iff.2 ⟨e1, Prod.ext_iff.2 ⟨e2, e3⟩⟩
/-- Is a day a holiday? Its kind. -/
noncomputable def isF (g : Nat → Nat → Int) (la : Nat) (n : Int) : Bool := decide (n ∈ feastL g la (dOf n).1)
def kindB (b : Bool) (w : Int) : Int := if b = true then 4 else if w = 7 then 3 else if w = 6 then 2 else 1
noncomputable def kindD (g : Nat → Nat → Int) (la : Nat) (n : Int) : Int := kindB (isF g la n) (wdN n)
theorem isF_day (g : Nat → Nat → Int) (la : Nat) {y m d : Int} (h : okD y m d) : isF g la (dayN y m d) = decide (dayN y m d ∈ feastL g la y) := by
  unfold isF; rw [dOf_day h]
/-- What is answered of a calendar and a day. -/
noncomputable def errA (la : Nat) (gh : Nat → Nat → Int) (lb : Nat) (gs : Nat → Nat → Int) (n : Int) : Int := if calOk la gh lb gs then (if 0 ≤ n ∧ n ≤ 2932896 then 0 else 60) else 80
theorem errA_bad {la : Nat} {gh : Nat → Nat → Int} {lb : Nat} {gs : Nat → Nat → Int} {n : Int} (h : ¬ calOk la gh lb gs) : errA la gh lb gs n = 80 := if_neg h
theorem errA_out {la : Nat} {gh : Nat → Nat → Int} {lb : Nat} {gs : Nat → Nat → Int} {n : Int} (h : calOk la gh lb gs) (hn : ¬ (0 ≤ n ∧ n ≤ 2932896)) : errA la gh lb gs n = 60 := by unfold errA; rw [if_pos h, if_neg hn]
theorem errA_ok {la : Nat} {gh : Nat → Nat → Int} {lb : Nat} {gs : Nat → Nat → Int} {n : Int} (h : calOk la gh lb gs) (hn : 0 ≤ n ∧ n ≤ 2932896) : errA la gh lb gs n = 0 := by unfold errA; rw [if_pos h, if_pos hn]
theorem errA_0 {la : Nat} {gh : Nat → Nat → Int} {lb : Nat} {gs : Nat → Nat → Int} {n : Int} : errA la gh lb gs n = 0 ↔ calOk la gh lb gs ∧ 0 ≤ n ∧ n ≤ 2932896 := by
  unfold errA
  by_cases h : calOk la gh lb gs
  · rw [if_pos h]
    by_cases hn : 0 ≤ n ∧ n ≤ 2932896
    · rw [if_pos hn]; exact ⟨fun _ => ⟨h, hn⟩, fun _ => rfl⟩
    · rw [if_neg hn]; exact ⟨fun h => by omega, fun h => absurd h.2 hn⟩
  · rw [if_neg h]; exact ⟨fun h => by omega, fun h2 => absurd h2.1 h⟩
/-- The seasons: the latest that begins at a place or ahead of it. -/
def plc (gs : Nat → Nat → Int) (i : Nat) : Int := 100 * gs i 1 + gs i 2
def mxS (gs : Nat → Nat → Int) (p : Int) : Nat → Int × Int
  | 0 => (-1, 0)
  | k + 1 => if plc gs k ≤ p ∧ plc gs k > (mxS gs p k).1 then (plc gs k, gs k 0) else mxS gs p k
def seasB (a b : Int × Int) : Int := if a.1 < 0 then b.2 else a.2
def seasN (gs : Nat → Nat → Int) (lb : Nat) (m d : Int) : Int := seasB (mxS gs (100 * m + d) lb) (mxS gs 9999 lb)
theorem mxS_spec (gs : Nat → Nat → Int) (p : Int) : ∀ k, (∀ i, i < k → 0 ≤ plc gs i) →
    ((mxS gs p k = (-1, 0) ∧ ∀ i, i < k → ¬ plc gs i ≤ p) ∨ ∃ j, j < k ∧ plc gs j ≤ p ∧ mxS gs p k = (plc gs j, gs j 0) ∧ ∀ i, i < k → plc gs i ≤ p → plc gs i ≤ plc gs j)
  | 0, _ => .inl ⟨rfl, fun i hi => absurd hi (by omega)⟩
  | k + 1, h => by
    have ih := mxS_spec gs p k (fun i hi => h i (by omega))
    have hk := h k (by omega)
    rw [mxS]
    by_cases hc : plc gs k ≤ p ∧ plc gs k > (mxS gs p k).1
    · rw [if_pos hc]
      refine .inr ⟨k, by omega, hc.1, rfl, fun i hi hle => ?_⟩
      by_cases e : i = k
      · rw [e]; exact Int.le_refl _
      · rcases ih with ⟨h1, h2⟩ | ⟨j, hj, h1, h2, h3⟩
        · exact absurd hle (h2 i (by omega))
        · have := h3 i (by omega) hle
          have h4 := hc.2
          rw [h2] at h4
          show plc gs i ≤ plc gs k
          have h4 : plc gs k > plc gs j := h4
          omega
    · rw [if_neg hc]
      rcases ih with ⟨h1, h2⟩ | ⟨j, hj, h1, h2, h3⟩
      · refine .inl ⟨h1, fun i hi => ?_⟩
        by_cases e : i = k
        · subst e; intro hle; apply hc; rw [h1]; exact ⟨hle, by show plc gs i > -1; omega⟩
        · exact h2 i (by omega)
      · refine .inr ⟨j, by omega, h1, h2, fun i hi hle => ?_⟩
        by_cases e : i = k
        · subst e
          rcases Int.lt_or_le (plc gs j) (plc gs i) with h4 | h4
          · exact absurd ⟨hle, by rw [h2]; exact h4⟩ hc
          · exact h4
        · exact h3 i (by omega) hle
theorem sea_place {gs : Nat → Nat → Int} {i : Nat} (h : seaOk gs i) : 101 ≤ plc gs i ∧ plc gs i ≤ 1231 := by
  have h1 := dim_month h.2.2
  have h2 := dim_lo 2001 _ h1
  have h3 := h.2.2
  unfold okD at h3
  unfold plc
  omega
end Go.Proofs.YtgbkedjjgbhcmaaGreatDoor
