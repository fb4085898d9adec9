/-
  Sorted lists of numbers: compact of a sort; two strictly sorted lists of the same members are one; a zone's extras, its instants of a local time, in plain numbers. Conditions stand at each theorem.
-/
import Derived.Test.YtoipmhmghcngcaaDoorZonePlain
import Derived.Lib.SlicesCompact
namespace Go.Proofs.YtoipmhmghcngcaaDoor
open Go Go.Kw Go.Kw.Cv
set_option linter.unusedVariables false
set_option linter.unusedSimpArgs false

theorem compact_mem (zs : List Int) (x : Int) : x ∈ Lib.compact zs ↔ x ∈ zs := by
  unfold Lib.compact Lib.compactUpTo
  rw [List.mem_map]
  constructor
  · rintro ⟨j, hj, rfl⟩
    rw [List.mem_filter, List.mem_range] at hj
    have : zs.toArray[j]! = zs[j] := by simp [hj.1]
    rw [this]; exact List.getElem_mem hj.1
  · intro hx
    obtain ⟨j, hj, rfl⟩ := List.getElem_of_mem hx
    clear hx
    induction j with
    | zero => exact ⟨0, by rw [List.mem_filter, List.mem_range]; exact ⟨hj, by simp [Lib.keeps]⟩, by simp [hj]⟩
    | succ j ih =>
      by_cases hk : Lib.keeps zs.toArray (j + 1) = true
      · exact ⟨j + 1, by rw [List.mem_filter, List.mem_range]; exact ⟨hj, hk⟩, by simp [hj]⟩
      · obtain ⟨i, h1, h2⟩ := ih (by omega)
        refine ⟨i, h1, ?_⟩
        rw [h2]
        have h3 : zs.toArray[j + 1]! = zs.toArray[j + 1 - 1]! := by
          by_cases h4 : zs.toArray[j + 1]! = zs.toArray[j + 1 - 1]!
          · exact h4
          · exact absurd (Lib.keeps_pos h4) hk
        have e1 : zs.toArray[j + 1]! = zs[j + 1] := by simp [hj]
        have e2 : zs.toArray[j + 1 - 1]! = zs[j] := by simp [show j < zs.length by omega]
        rw [e1, e2] at h3
        exact h3.symm
theorem compact_sorted (zs : List Int) (h : zs.Pairwise (· ≤ ·)) : (Lib.compact zs).Pairwise (· < ·) := by
  unfold Lib.compact Lib.compactUpTo
  rw [List.pairwise_map]
  have hp : ((List.range zs.length).filter (Lib.keeps zs.toArray)).Pairwise (· < ·) := List.Pairwise.filter _ List.pairwise_lt_range
  refine List.Pairwise.imp_of_mem ?_ hp
  intro i j hi hj hlt
  rw [List.mem_filter, List.mem_range] at hi hj
  have e1 : zs.toArray[i]! = zs[i] := by simp [hi.1]
  have e2 : zs.toArray[j]! = zs[j] := by simp [hj.1]
  have e3 : zs.toArray[j - 1]! = zs[j - 1] := by simp [show j - 1 < zs.length by omega]
  have h1 : zs[j] ≠ zs[j - 1] := by
    intro e
    have := Lib.keeps_neg (d := zs.toArray) (m := j) (by omega) (by rw [e2, e3]; exact e)
    rw [this] at hj; exact absurd hj.2 (by decide)
  have hle : ∀ a b (ha : a < zs.length) (hb : b < zs.length), a ≤ b → zs[a] ≤ zs[b] := fun a b ha hb hab => by
    rcases Nat.lt_or_eq_of_le hab with h2 | rfl
    · exact (List.pairwise_iff_getElem.1 h) a b ha hb h2
    · exact Int.le_refl _
  have h2 := hle i (j - 1) hi.1 (by omega) (by omega)
  have h3 := hle (j - 1) j (by omega) hj.1 (by omega)
  rw [e1, e2]; omega
/-- How many of a list are below a number. -/
def cntL (L : List Int) (n : Int) : Nat := (L.filter (fun x => decide (x < n))).length
theorem cnt_above {L : List Int} {n : Int} (h : ∀ x ∈ L, n ≤ x) : cntL L n = 0 := by
  unfold cntL
  rw [List.length_eq_zero_iff, List.filter_eq_nil_iff]
  intro x hx; have := h x hx; simp; omega
theorem cnt_below {L : List Int} {n : Int} (h : ∀ x ∈ L, x < n) : cntL L n = L.length := by
  unfold cntL
  rw [List.filter_eq_self.2 (fun x hx => by simp [h x hx])]
theorem cntL_hit : ∀ {L : List Int} (hs : L.Pairwise (· < ·)) {n : Int}, n ∈ L → L[cntL L n]? = some n ∧ cntL L (n + 1) = cntL L n + 1
  | [], _, n, h => by cases h
  | a :: t, hs, n, h => by
    rw [List.pairwise_cons] at hs
    by_cases h1 : a < n
    · have hn : n ∈ t := by rcases List.mem_cons.1 h with rfl | h; (exact absurd h1 (Int.lt_irrefl _)); exact h
      obtain ⟨i1, i2⟩ := cntL_hit hs.2 hn
      have e1 : cntL (a :: t) n = cntL t n + 1 := by unfold cntL; rw [List.filter_cons_of_pos (by simpa using h1)]; rfl
      have e2 : cntL (a :: t) (n + 1) = cntL t (n + 1) + 1 := by unfold cntL; rw [List.filter_cons_of_pos (by simp; omega)]; rfl
      rw [e1, e2, i2]
      exact ⟨by simpa using i1, rfl⟩
    · have ha : a = n := by
        rcases List.mem_cons.1 h with e | hn
        · exact e.symm
        · have := hs.1 n hn; omega
      subst ha
      have e0 : cntL t (a + 1) = 0 := cnt_above (fun x hx => by have := hs.1 x hx; omega)
      have e1 : cntL (a :: t) a = 0 := cnt_above (fun x hx => by rcases List.mem_cons.1 hx with rfl | hx; (exact Int.le_refl _); have := hs.1 x hx; omega)
      have e2 : cntL (a :: t) (a + 1) = cntL t (a + 1) + 1 := by unfold cntL; rw [List.filter_cons_of_pos (by simp; omega)]; rfl
      rw [e1, e2, e0]; exact ⟨rfl, rfl⟩
theorem cntL_miss {L : List Int} {n : Int} (h : n ∉ L) : cntL L (n + 1) = cntL L n := by
  unfold cntL
  congr 1
  refine List.filter_congr (fun x hx => ?_)
  have : x ≠ n := fun e => h (e ▸ hx)
  rw [decide_eq_decide]; omega
/-- A year's holidays, in order. -/
theorem sorted_ext : ∀ {A B : List Int}, A.Pairwise (· < ·) → B.Pairwise (· < ·) → (∀ x, x ∈ A ↔ x ∈ B) → A = B
  | [], [], _, _, _ => rfl
  | [], b :: B, _, _, h => by have := (h b).2 (by simp); cases this
  | a :: A, [], _, _, h => by have := (h a).1 (by simp); cases this
  | a :: A, b :: B, hA, hB, h => by
    rw [List.pairwise_cons] at hA hB
    have hab : a = b := by
      have h1 := (h a).1 (by simp)
      have h2 := (h b).2 (by simp)
      rw [List.mem_cons] at h1 h2
      rcases h1 with h1 | h1
      · exact h1
      · rcases h2 with h2 | h2
        · exact h2.symm
        · have := hB.1 a h1; have := hA.1 b h2; omega
    subst hab
    rw [sorted_ext hA.2 hB.2 (fun x => ?_)]
    have hx := h x
    rw [List.mem_cons, List.mem_cons] at hx
    constructor
    · intro h1
      rcases hx.1 (.inr h1) with e | h2
      · subst e; exact absurd (hA.1 x h1) (by omega)
      · exact h2
    · intro h1
      rcases hx.2 (.inr h1) with e | h2
      · subst e; exact absurd (hB.1 x h1) (by omega)
      · exact h2
theorem sort_le (l : List Int) : (l.mergeSort fun x y => decide (x ≤ y)).Pairwise (· ≤ ·) := by
  have h := List.pairwise_mergeSort (le := fun x y : Int => decide (x ≤ y)) (fun a b c h1 h2 => by simp at *; omega) (fun a b => by simp; omega) l
  exact h.imp (fun h => by simpa using h)
theorem sort_lt {l : List Int} (hn : l.Nodup) : (l.mergeSort fun x y => decide (x ≤ y)).Pairwise (· < ·) := by
  have h1 := sort_le l
  have h2 : (l.mergeSort fun x y => decide (x ≤ y)).Nodup := (List.mergeSort_perm l _).nodup_iff.2 hn
  exact (h1.and h2).imp (fun h => by have := h.1; have := h.2; omega)
/-- What summers add: nothing, and each rule's; sorted, each once. -/
def exRaw (g : Nat → Nat → Int) (lr : Nat) : List Int := 0 :: (List.range lr).map (fun i => g i 10)
def exL (g : Nat → Nat → Int) (lr : Nat) : List Int := Lib.compact ((exRaw g lr).mergeSort fun x y => decide (x ≤ y))
theorem exL_sorted (g : Nat → Nat → Int) (lr : Nat) : (exL g lr).Pairwise (· < ·) := compact_sorted _ (sort_le _)
theorem exL_mem (g : Nat → Nat → Int) (lr : Nat) (x : Int) : x ∈ exL g lr ↔ x ∈ exRaw g lr := by
  unfold exL; rw [compact_mem, List.mem_mergeSort]
theorem exRaw_mem (g : Nat → Nat → Int) (lr : Nat) (x : Int) : x ∈ exRaw g lr ↔ x = 0 ∨ ∃ i, i < lr ∧ g i 10 = x := by
  unfold exRaw
  rw [List.mem_cons, List.mem_map]
  simp only [List.mem_range]
/-- Does a local time x, read by what e adds, come? -/
noncomputable def outB (o : Int) (lr : Nat) (g : Nat → Nat → Int) (x e : Int) : Bool := decide (offE o lr g (x - (o + e)) = 0 ∧ offV o lr g (x - (o + e)) = o + e)
noncomputable def outRaw (o : Int) (lr : Nat) (g : Nat → Nat → Int) (x : Int) (L : List Int) : List Int := (L.filter (outB o lr g x)).map (fun e => x - (o + e))
noncomputable def instL (o : Int) (lr : Nat) (g : Nat → Nat → Int) (x : Int) : List Int := (outRaw o lr g x (exL g lr)).mergeSort fun x y => decide (x ≤ y)
theorem outRaw_nodup (o : Int) (lr : Nat) (g : Nat → Nat → Int) (x : Int) : (outRaw o lr g x (exL g lr)).Nodup := by
  unfold outRaw
  have h1 : ((exL g lr).filter (outB o lr g x)).Pairwise (· < ·) := (exL_sorted g lr).filter _
  show List.Pairwise _ _
  rw [List.pairwise_map]
  exact h1.imp (fun h => by omega)
theorem instL_sorted (o : Int) (lr : Nat) (g : Nat → Nat → Int) (x : Int) : (instL o lr g x).Pairwise (· < ·) := sort_lt (outRaw_nodup o lr g x)
theorem instL_mem (o : Int) (lr : Nat) (g : Nat → Nat → Int) (x t : Int) : t ∈ instL o lr g x ↔ ∃ e, (e = 0 ∨ ∃ i, i < lr ∧ g i 10 = e) ∧ outB o lr g x e = true ∧ x - (o + e) = t := by
  unfold instL outRaw
  rw [List.mem_mergeSort, List.mem_map]
  constructor
  · rintro ⟨e, he, rfl⟩
    rw [List.mem_filter, exL_mem, exRaw_mem] at he
    exact ⟨e, he.1, he.2, rfl⟩
  · rintro ⟨e, h1, h2, rfl⟩
    exact ⟨e, by rw [List.mem_filter, exL_mem, exRaw_mem]; exact ⟨h1, h2⟩, rfl⟩
/-- An instant is among those of a local time, just if its own local time is that. -/
theorem inst_iff {o : Int} {lr : Nat} {g : Nat → Nat → Int} (hok : zonOk o lr g) (x t : Int) : t ∈ instL o lr g x ↔ offE o lr g t = 0 ∧ t + offV o lr g t = x := by
  rw [instL_mem]
  constructor
  · rintro ⟨e, -, h2, rfl⟩
    unfold outB at h2
    rw [decide_eq_true_eq] at h2
    exact ⟨h2.1, by rw [h2.2]; omega⟩
  · rintro ⟨h1, h2⟩
    have hv : offV o lr g t = o + extV g lr (t + o) := if_pos h1
    rw [hv] at h2
    refine ⟨extV g lr (t + o), ?_, ?_, by omega⟩
    · unfold extV
      split
      · rename_i hi
        split
        · exact .inr ⟨_, hi, rfl⟩
        · exact .inl rfl
      · exact .inl rfl
    · unfold outB
      rw [decide_eq_true_eq, show x - (o + extV g lr (t + o)) = t by omega]
      exact ⟨h1, hv⟩
/-- The document's way: t put at its place, if it is not there. -/
def putS (t : Int) : List Int → List Int
  | [] => [t]
  | a :: l => if a < t then a :: putS t l else if a = t then a :: l else t :: a :: l
theorem putS_mem (t : Int) : ∀ (l : List Int) (x : Int), x ∈ putS t l ↔ x = t ∨ x ∈ l
  | [], x => by simp [putS]
  | a :: l, x => by
    unfold putS
    have ih := putS_mem t l x
    split
    · rw [List.mem_cons, ih, List.mem_cons]
      constructor
      · rintro (h | h | h)
        · exact .inr (.inl h)
        · exact .inl h
        · exact .inr (.inr h)
      · rintro (h | h | h)
        · exact .inr (.inl h)
        · exact .inl h
        · exact .inr (.inr h)
    · split
      · rename_i h1 h2
        subst h2
        rw [List.mem_cons]
        constructor
        · exact .inr
        · rintro (h | h)
          · exact .inl h
          · exact h
      · rw [List.mem_cons]
theorem putS_sorted (t : Int) : ∀ (l : List Int), l.Pairwise (· < ·) → (putS t l).Pairwise (· < ·)
  | [], _ => by simp [putS]
  | a :: l, h => by
    rw [List.pairwise_cons] at h
    unfold putS
    split
    · rename_i h1
      rw [List.pairwise_cons]
      refine ⟨fun x hx => ?_, putS_sorted t l h.2⟩
      rcases (putS_mem t l x).1 hx with e | e
      · omega
      · exact h.1 x e
    · split
      · rw [List.pairwise_cons]; exact h
      · rename_i h1 h2
        rw [List.pairwise_cons]
        refine ⟨fun x hx => ?_, List.pairwise_cons.2 h⟩
        rw [List.mem_cons] at hx
        rcases hx with e | e
        · omega
        · have := h.1 x e; omega
/-- The document's list, behind its rounds lr, lr - 1 .. down to number k. -/
def exAt (g : Nat → Nat → Int) (k : Nat) : Int := if k = 0 then 0 else g (k - 1) 10
noncomputable def refL (o : Int) (lr : Nat) (g : Nat → Nat → Int) (x : Int) : Nat → List Int
  | 0 => []
  | j + 1 => if outB o lr g x (exAt g (lr - j)) = true then putS (x - (o + exAt g (lr - j))) (refL o lr g x j) else refL o lr g x j
theorem refL_sorted (o : Int) (lr : Nat) (g : Nat → Nat → Int) (x : Int) : ∀ j, (refL o lr g x j).Pairwise (· < ·)
  | 0 => by simp [refL]
  | j + 1 => by
    unfold refL
    split
    · exact putS_sorted _ _ (refL_sorted o lr g x j)
    · exact refL_sorted o lr g x j
theorem refL_mem (o : Int) (lr : Nat) (g : Nat → Nat → Int) (x t : Int) : ∀ j, t ∈ refL o lr g x j ↔ ∃ i, i < j ∧ outB o lr g x (exAt g (lr - i)) = true ∧ x - (o + exAt g (lr - i)) = t
  | 0 => by simp [refL]
  | j + 1 => by
    have ih := refL_mem o lr g x t j
    unfold refL
    split
    · rename_i h
      rw [putS_mem, ih]
      constructor
      · rintro (e | ⟨i, h1, h2, h3⟩)
        · exact ⟨j, by omega, h, e.symm⟩
        · exact ⟨i, by omega, h2, h3⟩
      · rintro ⟨i, h1, h2, h3⟩
        by_cases e : i = j
        · subst e; exact .inl h3.symm
        · exact .inr ⟨i, by omega, h2, h3⟩
    · rename_i h
      rw [ih]
      constructor
      · rintro ⟨i, h1, h2, h3⟩; exact ⟨i, by omega, h2, h3⟩
      · rintro ⟨i, h1, h2, h3⟩
        by_cases e : i = j
        · subst e; exact absurd h2 h
        · exact ⟨i, by omega, h2, h3⟩
theorem ref_is (o : Int) (lr : Nat) (g : Nat → Nat → Int) (x : Int) : refL o lr g x (lr + 1) = instL o lr g x := by
  refine sorted_ext (refL_sorted o lr g x _) (instL_sorted o lr g x) (fun t => ?_)
  rw [refL_mem, instL_mem]
  constructor
  · rintro ⟨i, h1, h2, h3⟩
    refine ⟨exAt g (lr - i), ?_, h2, h3⟩
    unfold exAt
    split
    · exact .inl rfl
    · exact .inr ⟨lr - i - 1, by omega, rfl⟩
  · rintro ⟨e, he, h2, h3⟩
    rcases he with rfl | ⟨i, hi, rfl⟩
    · refine ⟨lr, by omega, ?_⟩
      rw [Nat.sub_self]
      exact ⟨h2, h3⟩
    · refine ⟨lr - (i + 1), by omega, ?_⟩
      have e1 : exAt g (lr - (lr - (i + 1))) = g i 10 := by
        rw [show lr - (lr - (i + 1)) = i + 1 by omega]; rfl
      rw [e1]
      exact ⟨h2, h3⟩
end Go.Proofs.YtoipmhmghcngcaaDoor
