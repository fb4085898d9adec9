/-
  What the laws of a zone ask, in plain numbers: a year's seconds, one rule's summer, the instants of a local time of one rule. Conditions stand at each theorem.
-/
import Derived.Test.YtoipmhmghcngcaaDoorInst
import Derived.Test.YtoipmhmghcngcaaDoorExtPlain
namespace Go.Proofs.YtoipmhmghcngcaaDoor
open Go Go.RowKit Go.Kw Go.Kw.Cv Go.Shelf
set_option linter.unusedVariables false
set_option linter.unusedSimpArgs false

theorem zD_year {y n : Int} (h : ahd y ≤ n ∧ n < ahd (y + 1)) (hn : 0 ≤ n ∧ n ≤ 2932896) : (zD n).1 = y := by
  obtain ⟨h1, h2⟩ := zD_spec n hn
  have h3 := day_in h1
  rw [h2] at h3
  obtain ⟨y', hy⟩ : ∃ y', (zD n).1 = y' := ⟨_, rfl⟩
  rw [hy] at h3 ⊢
  rcases Int.lt_trichotomy y' y with h4 | h4 | h4
  · have := ahd_mono (show y' + 1 ≤ y by omega); omega
  · exact h4
  · have := ahd_mono (show y + 1 ≤ y' by omega); omega
theorem ext_at {g : Nat → Nat → Int} {lr : Nat} {y s : Int} (h : ahd y * 86400 ≤ s ∧ s < ahd (y + 1) * 86400) (hs : secOk s) :
    extV g lr s = if rulF g y lr < lr then (if sumB (onT g (rulF g y lr) y) (offT g (rulF g y lr) y) s = true then g (rulF g y lr) 10 else 0) else 0 := by
  have hd := sec_day hs
  have hy := zD_year (y := y) (n := s / 86400) (by omega) hd
  unfold extV
  rw [hy]
theorem off_is {o : Int} {lr : Nat} {g : Nat → Nat → Int} {t e : Int} (hok : zonOk o lr g) (h1 : secOk (t + o)) (he : extV g lr (t + o) = e) (h2 : secOk (t + o + e)) : offE o lr g t = 0 ∧ offV o lr g t = o + e := by
  have h : offE o lr g t = 0 := by unfold offE; rw [if_pos hok, if_pos ⟨h1, by rw [he]; exact h2⟩]
  exact ⟨h, by unfold offV; rw [if_pos h, he]⟩
theorem out_is {o : Int} {lr : Nat} {g : Nat → Nat → Int} {x e : Int} (hok : zonOk o lr g) (h1 : secOk (x - e)) (he : extV g lr (x - e) = e) (h2 : secOk x) : outB o lr g x e = true := by
  have q := off_is (t := x - (o + e)) (e := e) hok (by rw [show x - (o + e) + o = x - e by omega]; exact h1) (by rw [show x - (o + e) + o = x - e by omega]; exact he) (by rw [show x - (o + e) + o + e = x by omega]; exact h2)
  unfold outB; rw [decide_eq_true_eq]; exact q
theorem out_no {o : Int} {lr : Nat} {g : Nat → Nat → Int} {x e : Int} (he : extV g lr (x - e) ≠ e) : outB o lr g x e = false := by
  unfold outB
  rw [decide_eq_false_iff_not]
  rintro ⟨h1, h2⟩
  have hv : offV o lr g (x - (o + e)) = o + extV g lr (x - (o + e) + o) := if_pos h1
  rw [show x - (o + e) + o = x - e by omega] at hv
  exact he (by omega)
/-- The instants of a local time, one rule: none. -/
theorem inst_none {o : Int} {g : Nat → Nat → Int} {x : Int} (h0 : outB o 1 g x 0 = false) (h1 : outB o 1 g x (g 0 10) = false) : instL o 1 g x = [] := by
  refine List.eq_nil_iff_forall_not_mem.2 (fun t ht => ?_)
  rw [instL_mem] at ht
  obtain ⟨e, he, h2, -⟩ := ht
  rcases he with rfl | ⟨i, hi, rfl⟩
  · rw [h0] at h2; cases h2
  · obtain rfl : i = 0 := by omega
    rw [h1] at h2; cases h2
/-- .. two. -/
theorem inst_both {o : Int} {g : Nat → Nat → Int} {x : Int} (h0 : outB o 1 g x 0 = true) (h1 : outB o 1 g x (g 0 10) = true) (hE : 0 < g 0 10) : instL o 1 g x = [x - (o + g 0 10), x - (o + 0)] := by
  refine sorted_ext (instL_sorted _ _ _ _) (by simp; omega) (fun t => ?_)
  rw [instL_mem]
  constructor
  · rintro ⟨e, he, h2, rfl⟩
    rcases he with rfl | ⟨i, hi, rfl⟩
    · simp
    · obtain rfl : i = 0 := by omega
      simp
  · intro ht
    simp only [List.mem_cons, List.not_mem_nil, or_false] at ht
    rcases ht with rfl | rfl
    · exact ⟨g 0 10, .inr ⟨0, by omega, rfl⟩, h1, rfl⟩
    · exact ⟨0, .inl rfl, h0, rfl⟩
/-- .. of a zone without rules: its own. -/
theorem inst_own {o : Int} {g : Nat → Nat → Int} {x t : Int} (h : t ∈ instL o 0 g x) : instL o 0 g x = [t] := by
  refine sorted_ext (instL_sorted _ _ _ _) (by simp) (fun u => ?_)
  have hh := h
  rw [instL_mem] at h ⊢
  obtain ⟨e, he, h2, h3⟩ := h
  rcases he with rfl | ⟨i, hi, -⟩
  · constructor
    · rintro ⟨e', he', -, h4⟩
      rcases he' with rfl | ⟨i, hi, -⟩
      · rw [List.mem_singleton]; omega
      · omega
    · intro hu
      rw [List.mem_singleton] at hu
      subst hu
      exact ⟨0, .inl rfl, h2, h3⟩
  · omega
theorem zon_less {o : Int} {lr : Nat} {g : Nat → Nat → Int} (h : zonOk o lr g) : zonOk o 0 g := ⟨h.1, h.2.1, by omega, fun i hi => absurd hi (Nat.not_lt_zero _)⟩
theorem ext_zero (g : Nat → Nat → Int) (s : Int) : extV g 0 s = 0 := by
  unfold extV
  rw [if_neg (Nat.not_lt_zero _)]
/-- A year's third day, and its third last. -/
theorem day_3 (y : Int) : dayN y 1 3 = ahd y + 2 := by unfold dayN; rw [mst_1]; omega
theorem day_29 (y : Int) : dayN y 12 29 = ahd (y + 1) - 3 := by
  have h1 := mst_12 y
  have h2 := ahd_step y
  have h3 : dim y 12 = 31 := rfl
  unfold dayN
  omega
/-- What the law ZoneEdges asks, in numbers. -/
structure EdgN (o : Int) (g : Nat → Nat → Int) (y A B : Int) : Prop where
  ok : zonOk o 1 g
  hA : onT g 0 y = A
  hB : offT g 0 y = B
  e1 : offE o 1 g (A - o - 1) = 0 ∧ offV o 1 g (A - o - 1) = o
  e2 : offE o 1 g (A - o) = 0 ∧ offV o 1 g (A - o) = o + g 0 10
  e3 : offE o 1 g (B - o - 1) = 0 ∧ offV o 1 g (B - o - 1) = o + g 0 10
  e4 : offE o 1 g (B - o) = 0 ∧ offV o 1 g (B - o) = o
  i1 : instL o 1 g (A + g 0 10 - 1) = []
  i2 : instL o 1 g (B + g 0 10 - 1) = [B + g 0 10 - 1 - (o + g 0 10), B + g 0 10 - 1 - (o + 0)]
  rE : 1 ≤ g 0 10 ∧ g 0 10 ≤ 7200
  rA : 86400 ≤ A ∧ A + 86400 ≤ B ∧ B ≤ 253402214400
  ro : -50400 ≤ o ∧ o ≤ 50400
theorem edg_n {o : Int} {g : Nat → Nat → Int} {y : Int} (hi : OfIs o 1 g y) (hy : 1970 < y ∧ y < 9999)
    (h1 : dayN y 1 3 * 86400 ≤ onT g 0 y - o) (h2 : offT g 0 y - o ≤ dayN y 12 29 * 86400) (h3 : 86400 ≤ (offT g 0 y - o) - (onT g 0 y - o)) : EdgN o g y (onT g 0 y) (offT g 0 y) := by
  have hok := hi.1
  have hF : rulF g y 1 = 0 := by have := hi.2; omega
  obtain ⟨A, hA⟩ : ∃ A, onT g 0 y = A := ⟨_, rfl⟩
  obtain ⟨B, hB⟩ : ∃ B, offT g 0 y = B := ⟨_, rfl⟩
  rw [hA] at h1 h3 ⊢
  rw [hB] at h2 h3 ⊢
  rw [day_3] at h1
  rw [day_29] at h2
  have ro := hok.1
  have ro2 := hok.2.1
  have hr := hok.2.2.2 0 (by omega)
  unfold rulOk at hr
  have a1 : ahd 1970 = 0 := ahd_1970
  have a2 : ahd 10000 = 2932897 := ahd_10000
  have a3 := ahd_mono (show (1970 : Int) ≤ y by omega)
  have a4 := ahd_mono (show y + 1 ≤ (10000 : Int) by omega)
  obtain ⟨E, hE⟩ : ∃ E, g 0 10 = E := ⟨_, rfl⟩
  have hrE : 1 ≤ E ∧ E ≤ 7200 := by omega
  have q : ∀ s, A - 1 ≤ s → s ≤ B + 7200 → extV g 1 s = if sumB A B s = true then E else 0 := fun s q1 q2 => by
    rw [ext_at (y := y) (by omega) (by unfold secOk; omega), hF, if_pos (by omega), hA, hB, hE]
  have qs : ∀ s, A - 1 ≤ s → s ≤ B + 7200 → secOk s := fun s q1 q2 => by unfold secOk; omega
  have s0 : ∀ s, A - 1 ≤ s → s < A → extV g 1 s = 0 := fun s q1 q2 => by
    rw [q s q1 (by omega), if_neg (by rw [sumB_iff]; omega)]
  have s1 : ∀ s, A ≤ s → s < B → extV g 1 s = E := fun s q1 q2 => by
    rw [q s (by omega) (by omega), if_pos (by rw [sumB_iff]; omega)]
  have s2 : ∀ s, B ≤ s → s ≤ B + 7200 → extV g 1 s = 0 := fun s q1 q2 => by
    rw [q s (by omega) (by omega), if_neg (by rw [sumB_iff]; omega)]
  refine ⟨hok, hA, hB, ?_, ?_, ?_, ?_, ?_, ?_, by rw [hE]; exact hrE, by omega, ⟨ro, ro2⟩⟩
  · have := off_is (t := A - o - 1) (e := 0) hok (by rw [show A - o - 1 + o = A - 1 by omega]; exact qs _ (by omega) (by omega)) (by rw [show A - o - 1 + o = A - 1 by omega]; exact s0 _ (by omega) (by omega)) (by rw [show A - o - 1 + o + 0 = A - 1 by omega]; exact qs _ (by omega) (by omega))
    exact ⟨this.1, by rw [this.2]; omega⟩
  · have := off_is (t := A - o) (e := E) hok (by rw [show A - o + o = A by omega]; exact qs _ (by omega) (by omega)) (by rw [show A - o + o = A by omega]; exact s1 _ (by omega) (by omega)) (by rw [show A - o + o + E = A + E by omega]; exact qs _ (by omega) (by omega))
    rw [hE]; exact this
  · have := off_is (t := B - o - 1) (e := E) hok (by rw [show B - o - 1 + o = B - 1 by omega]; exact qs _ (by omega) (by omega)) (by rw [show B - o - 1 + o = B - 1 by omega]; exact s1 _ (by omega) (by omega)) (by rw [show B - o - 1 + o + E = B - 1 + E by omega]; exact qs _ (by omega) (by omega))
    rw [hE]; exact this
  · have := off_is (t := B - o) (e := 0) hok (by rw [show B - o + o = B by omega]; exact qs _ (by omega) (by omega)) (by rw [show B - o + o = B by omega]; exact s2 _ (by omega) (by omega)) (by rw [show B - o + o + 0 = B by omega]; exact qs _ (by omega) (by omega))
    exact ⟨this.1, by rw [this.2]; omega⟩
  · rw [hE]
    refine inst_none (out_no ?_) (out_no ?_)
    · rw [show A + E - 1 - 0 = A + E - 1 by omega, s1 _ (by omega) (by omega)]; omega
    · rw [hE, show A + E - 1 - E = A - 1 by omega, s0 _ (by omega) (by omega)]; omega
  · rw [hE]
    have := inst_both (o := o) (g := g) (x := B + E - 1) (out_is hok (by rw [Int.sub_zero]; exact qs _ (by omega) (by omega)) (by rw [Int.sub_zero]; exact s2 _ (by omega) (by omega)) (qs _ (by omega) (by omega)))
      (by rw [hE]; exact out_is hok (by rw [show B + E - 1 - E = B - 1 by omega]; exact qs _ (by omega) (by omega)) (by rw [show B + E - 1 - E = B - 1 by omega]; exact s1 _ (by omega) (by omega)) (qs _ (by omega) (by omega))) (by omega)
    rw [hE] at this
    exact this
end Go.Proofs.YtoipmhmghcngcaaDoor
