/-
  A year's holidays in order: in plain numbers; no walk here. Conditions stand at each theorem.
-/
import Derived.Test.YthmgngmhnjeegaaDoorFeastPlain
import Derived.Lib.SlicesCompact
namespace Go.Proofs.YthmgngmhnjeegaaDoor
open Go Go.Kw Go.Kw.Cv
set_option linter.unusedVariables false
set_option linter.unusedSimpArgs false

/-- Of a list in order, what 'compact' leaves: strictly in order, of the same elements. -/
theorem compact_mem (zs : List Int) (x : Int) : x ∈ Lib.compact zs ↔ x ∈ zs := by
  unfold Lib.compact Lib.compactUpTo
  rw [List.mem_map]
  constructor
  · rintro ⟨j, hj, rfl⟩
    rw [List.mem_filter, List.mem_range] at hj
    have : zs.toArray[j]! = zs[j] := by simp [hj.1]
    rw [this]; exact List.getElem_mem hj.1
  · intro hx
    obtain ⟨j, hj, rfl⟩ := List.getElem_of_mem hx
    clear hx
    induction j with
    | zero => exact ⟨0, by rw [List.mem_filter, List.mem_range]; exact ⟨hj, by simp [Lib.keeps]⟩, by simp [hj]⟩
    | succ j ih =>
      by_cases hk : Lib.keeps zs.toArray (j + 1) = true
      · exact ⟨j + 1, by rw [List.mem_filter, List.mem_range]; exact ⟨hj, hk⟩, by simp [hj]⟩
      · obtain ⟨i, h1, h2⟩ := ih (by omega)
        refine ⟨i, h1, ?_⟩
        rw [h2]
        have h3 : zs.toArray[j + 1]! = zs.toArray[j + 1 - 1]! := by
          by_cases h4 : zs.toArray[j + 1]! = zs.toArray[j + 1 - 1]!
          · exact h4
          · exact absurd (Lib.keeps_pos h4) hk
        have e1 : zs.toArray[j + 1]! = zs[j + 1] := by simp [hj]
        have e2 : zs.toArray[j + 1 - 1]! = zs[j] := by simp [show j < zs.length by omega]
        rw [e1, e2] at h3
        exact h3.symm
theorem compact_sorted (zs : List Int) (h : zs.Pairwise (· ≤ ·)) : (Lib.compact zs).Pairwise (· < ·) := by
  unfold Lib.compact Lib.compactUpTo
  rw [List.pairwise_map]
  have hp : ((List.range zs.length).filter (Lib.keeps zs.toArray)).Pairwise (· < ·) := List.Pairwise.filter _ List.pairwise_lt_range
  refine List.Pairwise.imp_of_mem ?_ hp
  intro i j hi hj hlt
  rw [List.mem_filter, List.mem_range] at hi hj
  have e1 : zs.toArray[i]! = zs[i] := by simp [hi.1]
  have e2 : zs.toArray[j]! = zs[j] := by simp [hj.1]
  have e3 : zs.toArray[j - 1]! = zs[j - 1] := by simp [show j - 1 < zs.length by omega]
  have h1 : zs[j] ≠ zs[j - 1] := by
    intro e
    have := Lib.keeps_neg (d := zs.toArray) (m := j) (by omega) (by rw [e2, e3]; exact e)
    rw [this] at hj; exact absurd hj.2 (by decide)
  have hle : ∀ a b (ha : a < zs.length) (hb : b < zs.length), a ≤ b → zs[a] ≤ zs[b] := fun a b ha hb hab => by
    rcases Nat.lt_or_eq_of_le hab with h2 | rfl
    · exact (List.pairwise_iff_getElem.1 h) a b ha hb h2
    · exact Int.le_refl _
  have h2 := hle i (j - 1) hi.1 (by omega) (by omega)
  have h3 := hle (j - 1) j (by omega) hj.1 (by omega)
  rw [e1, e2]; omega
/-- How many of a list are below a number. -/
def cntL (L : List Int) (n : Int) : Nat := (L.filter (fun x => decide (x < n))).length
theorem cnt_above {L : List Int} {n : Int} (h : ∀ x ∈ L, n ≤ x) : cntL L n = 0 := by
  unfold cntL
  rw [List.length_eq_zero_iff, List.filter_eq_nil_iff]
  intro x hx; have := h x hx; simp; omega
theorem cnt_below {L : List Int} {n : Int} (h : ∀ x ∈ L, x < n) : cntL L n = L.length := by
  unfold cntL
  rw [List.filter_eq_self.2 (fun x hx => by simp [h x hx])]
theorem cntL_hit : ∀ {L : List Int} (hs : L.Pairwise (· < ·)) {n : Int}, n ∈ L → L[cntL L n]? = some n ∧ cntL L (n + 1) = cntL L n + 1
  | [], _, n, h => by cases h
  | a :: t, hs, n, h => by
    rw [List.pairwise_cons] at hs
    by_cases h1 : a < n
    · have hn : n ∈ t := by rcases List.mem_cons.1 h with rfl | h; (exact absurd h1 (Int.lt_irrefl _)); exact h
      obtain ⟨i1, i2⟩ := cntL_hit hs.2 hn
      have e1 : cntL (a :: t) n = cntL t n + 1 := by unfold cntL; rw [List.filter_cons_of_pos (by simpa using h1)]; rfl
      have e2 : cntL (a :: t) (n + 1) = cntL t (n + 1) + 1 := by unfold cntL; rw [List.filter_cons_of_pos (by simp; omega)]; rfl
      rw [e1, e2, i2]
      exact ⟨by simpa using i1, rfl⟩
    · have ha : a = n := by
        rcases List.mem_cons.1 h with e | hn
        · exact e.symm
        · have := hs.1 n hn; omega
      subst ha
      have e0 : cntL t (a + 1) = 0 := cnt_above (fun x hx => by have := hs.1 x hx; omega)
      have e1 : cntL (a :: t) a = 0 := cnt_above (fun x hx => by rcases List.mem_cons.1 hx with rfl | hx; (exact Int.le_refl _); have := hs.1 x hx; omega)
      have e2 : cntL (a :: t) (a + 1) = cntL t (a + 1) + 1 := by unfold cntL; rw [List.filter_cons_of_pos (by simp; omega)]; rfl
      rw [e1, e2, e0]; exact ⟨rfl, rfl⟩
theorem cntL_miss {L : List Int} {n : Int} (h : n ∉ L) : cntL L (n + 1) = cntL L n := by
  unfold cntL
  congr 1
  refine List.filter_congr (fun x hx => ?_)
  have : x ≠ n := fun e => h (e ▸ hx)
  rw [decide_eq_decide]; omega
/-- A year's holidays, in order. -/
noncomputable def inY (y n : Int) : Bool := decide (0 ≤ n ∧ n ≤ 2932896 ∧ (dOf n).1 = y)
noncomputable def rawL (gh : Nat → Nat → Int) (la : Nat) (y : Int) : List Int := (feastL gh la y).filter (inY y)
noncomputable def listL (gh : Nat → Nat → Int) (la : Nat) (y : Int) : List Int := Lib.compact ((rawL gh la y).mergeSort fun x y => decide (x ≤ y))
theorem list_sorted (gh : Nat → Nat → Int) (la : Nat) (y : Int) : (listL gh la y).Pairwise (· < ·) := by
  refine compact_sorted _ ?_
  have h := List.pairwise_mergeSort (le := fun x y : Int => decide (x ≤ y)) (fun a b c h1 h2 => by simp at *; omega) (fun a b => by simp; omega) (rawL gh la y)
  exact h.imp (fun h => by simpa using h)
theorem list_mem (gh : Nat → Nat → Int) (la : Nat) (y n : Int) : n ∈ listL gh la y ↔ n ∈ feastL gh la y ∧ inY y n = true := by
  unfold listL rawL
  rw [compact_mem, List.mem_mergeSort, List.mem_filter]
theorem year_of {y n : Int} (hy : 1970 ≤ y ∧ y ≤ 9999) (h : ahd y ≤ n ∧ n < ahd (y + 1)) : (0 ≤ n ∧ n ≤ 2932896) ∧ (dOf n).1 = y := by
  have h1 := ahd_mono (show (1970 : Int) ≤ y from hy.1)
  have h2 := ahd_mono (show y + 1 ≤ 10000 by omega)
  rw [ahd_1970] at h1
  rw [ahd_10000] at h2
  have hn : 0 ≤ n ∧ n ≤ 2932896 := by omega
  refine ⟨hn, ?_⟩
  obtain ⟨hok, hday⟩ := dOf_spec n hn
  have h3 := day_in hok
  rw [hday] at h3
  rcases Int.lt_trichotomy (dOf n).1 y with h4 | h4 | h4
  · have := ahd_mono (show (dOf n).1 + 1 ≤ y by omega); omega
  · exact h4
  · have := ahd_mono (show y + 1 ≤ (dOf n).1 by omega); omega
theorem in_year {y n : Int} (h : inY y n = true) : ahd y ≤ n ∧ n < ahd (y + 1) := by
  unfold inY at h
  rw [decide_eq_true_eq] at h
  obtain ⟨hok, hday⟩ := dOf_spec n ⟨h.1, h.2.1⟩
  have h3 := day_in hok
  rw [hday, h.2.2] at h3
  exact h3
theorem list_is (gh : Nat → Nat → Int) (la : Nat) {y n : Int} (hy : 1970 ≤ y ∧ y ≤ 9999) (h : ahd y ≤ n ∧ n < ahd (y + 1)) : n ∈ listL gh la y ↔ isF gh la n = true := by
  obtain ⟨hn, he⟩ := year_of hy h
  rw [list_mem]
  unfold isF
  rw [he, decide_eq_true_eq]
  exact ⟨fun h => h.1, fun h => ⟨h, decide_eq_true ⟨hn.1, hn.2, he⟩⟩⟩
end Go.Proofs.YthmgngmhnjeegaaDoor
