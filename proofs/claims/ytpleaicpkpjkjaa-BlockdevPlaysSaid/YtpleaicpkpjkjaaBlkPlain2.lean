/-
  A device's crash as plain lists: the writes that come, one by one. No program here.
-/
import Derived.Test.YtpleaicpkpjkjaaBlkPlain
namespace Go.Kw
open Go Go.RowKit
set_option linter.unusedVariables false

/-- Does write i come? -/
def comesB (kp : List UInt8) (to : Int) (i : Nat) : Bool := decide ((i : Int) = to) || decide (i / 8 < kp.length ∧ (kp.getD (i / 8) 0).toNat / 2 ^ (i % 8) % 2 = 1)
/-- The sectors behind one write of so many bytes. -/
def crStep (m : Nat → Nat) (C : List (Nat × List UInt8)) (S : List (List UInt8)) (i : Nat) : List (List UInt8) :=
  S.set (C.getD i default).1 ((C.getD i default).2.take (m i) ++ (S.getD (C.getD i default).1 []).drop (m i))
def crL (m : Nat → Nat) (C : List (Nat × List UInt8)) (S : List (List UInt8)) (l : List Nat) : List (List UInt8) := l.foldl (crStep m C) S
theorem crStep_none {m : Nat → Nat} {C : List (Nat × List UInt8)} {S : List (List UInt8)} {i : Nat} (h : m i = 0) : crStep m C S i = S := by
  unfold crStep
  rw [h, List.take_zero, List.nil_append, List.drop_zero]
  by_cases hn : (C.getD i default).1 < S.length
  · rw [List.getD_eq_getElem?_getD (l := S), List.getElem?_eq_getElem hn, Option.getD_some, List.set_getElem_self]
  · rw [List.set_eq_of_length_le (by omega)]
theorem crL_filter (m : Nat → Nat) (C : List (Nat × List UInt8)) (p : Nat → Bool) (h : ∀ i, p i = false → m i = 0) : ∀ (l : List Nat) (S : List (List UInt8)), crL m C S (l.filter p) = crL m C S l
  | [], _ => rfl
  | i :: l, S => by
    rw [List.filter_cons]
    cases hp : p i
    · rw [if_neg (by simp), crL_filter m C p h l S]
      show _ = crL m C (crStep m C S i) l
      rw [crStep_none (h i hp)]
    · rw [if_pos rfl]
      show crL m C (crStep m C S i) (l.filter p) = crL m C (crStep m C S i) l
      exact crL_filter m C p h l _
theorem crS_eq (m : Nat → Nat) (C : List (Nat × List UInt8)) (S : List (List UInt8)) : ∀ k, crS m C S k = crL m C S (List.range k)
  | 0 => rfl
  | k + 1 => by rw [crS, crS_eq m C S k, List.range_succ, crL, crL, List.foldl_append]; rfl
theorem many_no {kp : List UInt8} {to at' : Int} {i : Nat} (h : comesB kp to i = false) : many kp to at' i = 0 := by
  unfold comesB at h
  rw [Bool.or_eq_false_iff] at h
  unfold many
  rw [if_neg (by simpa using h.1), if_neg (by simpa using h.2)]
/-- The writes that come, of the first n. -/
def cxs (kp : List UInt8) (to : Int) (n : Nat) : List Nat := (List.range n).filter (comesB kp to)
theorem cxs_succ (kp : List UInt8) (to : Int) (n : Nat) : cxs kp to (n + 1) = cxs kp to n ++ if comesB kp to n = true then [n] else [] := by
  unfold cxs
  rw [List.range_succ, List.filter_append, List.filter_cons, List.filter_nil]
theorem cxs_get (kp : List UInt8) (to : Int) {i n : Nat} (hi : i < n) (hp : comesB kp to i = true) : (cxs kp to n)[(cxs kp to i).length]? = some i := by
  induction n with
  | zero => omega
  | succ n ih =>
    rw [cxs_succ]
    by_cases h : i = n
    · subst h
      rw [if_pos hp, List.getElem?_append_right (Nat.le_refl _)]; simp
    · have := ih (by omega)
      rw [List.getElem?_append_left (List.getElem?_eq_some_iff.1 this).1, this]
theorem cxs_lt {kp : List UInt8} {to : Int} {n x : Nat} (h : x ∈ cxs kp to n) : x < n ∧ comesB kp to x = true := by
  unfold cxs at h
  rw [List.mem_filter, List.mem_range] at h
  exact h
theorem crS_cxs (kp : List UInt8) (to at' : Int) (C : List (Nat × List UInt8)) (S : List (List UInt8)) (n : Nat) : crL (many kp to at') C S (cxs kp to n) = crS (many kp to at') C S n := by
  rw [crS_eq, cxs, crL_filter _ _ _ (fun i h => many_no h)]
theorem crL_take (m : Nat → Nat) (C : List (Nat × List UInt8)) (S : List (List UInt8)) (l : List Nat) (k x : Nat) (h : l[k]? = some x) : crL m C S (l.take (k + 1)) = crStep m C (crL m C S (l.take k)) x := by
  obtain ⟨hk, rfl⟩ := List.getElem?_eq_some_iff.1 h
  rw [List.take_succ_eq_append_getElem hk, crL, crL, List.foldl_append]; rfl
theorem crStep_length (m : Nat → Nat) (C : List (Nat × List UInt8)) (S : List (List UInt8)) (i : Nat) : (crStep m C S i).length = S.length := by unfold crStep; rw [List.length_set]
theorem crL_length (m : Nat → Nat) (C : List (Nat × List UInt8)) : ∀ (l : List Nat) (S : List (List UInt8)), (crL m C S l).length = S.length
  | [], _ => rfl
  | i :: l, S => by show (crL m C (crStep m C S i) l).length = _; rw [crL_length m C l, crStep_length]
theorem crL_128 {m : Nat → Nat} (hm : ∀ i, m i ≤ 128) {C : List (Nat × List UInt8)} {N : Nat} (hc : ∀ x ∈ C, x.1 < N ∧ x.2.length = 128) : ∀ (l : List Nat) (S : List (List UInt8)), S.length = N → (∀ i ∈ l, i < C.length) → (∀ x ∈ S, x.length = 128) → ∀ x ∈ crL m C S l, x.length = 128
  | [], _, _, _, hs => hs
  | i :: l, S, hN, hl, hs => by
    refine crL_128 hm hc l (crStep m C S i) (by rw [crStep_length]; exact hN) (fun j hj => hl j (List.mem_cons_of_mem _ hj)) (fun x hx => ?_)
    have hC := hc _ (getD_mem' (hl i List.mem_cons_self))
    unfold crStep at hx
    rcases List.mem_or_eq_of_mem_set hx with hx | rfl
    · exact hs x hx
    · have h1 := hC.1
      rw [← hN] at h1
      have h2 : (S.getD (C.getD i default).1 []).length = 128 := by
        rw [List.getD_eq_getElem?_getD, List.getElem?_eq_getElem h1]; exact hs _ (List.getElem_mem h1)
      have h3 := hm i
      rw [List.length_append, List.length_take, List.length_drop, h2, hC.2]; omega
/-- A row with the beginning of one of its elements laid anew. -/
theorem setL_part {α : Type} (f : α → List Value) (s : Nat) (l : List α) (h : ∀ x ∈ l, (f x).length = s) (hs : 0 < s) (n : Nat) (hn : n < l.length) (x : α) (u : List Value) (hu : u.length ≤ s) (hx : f x = u ++ (f l[n]).drop u.length) : setL (l.flatMap f) (n * s) u = (l.set n x).flatMap f := by
  have hln : (f l[n]).length = s := h _ (List.getElem_mem hn)
  have hxl : (f x).length = s := by rw [hx, List.length_append, List.length_drop, hln]; omega
  have h' : ∀ y ∈ l.set n x, (f y).length = s := fun y hy => by
    rcases List.mem_or_eq_of_mem_set hy with hy | rfl
    · exact h y hy
    · exact hxl
  have hb : n * s + s ≤ l.length * s := by rw [← Nat.succ_mul]; exact Nat.mul_le_mul_right _ hn
  apply List.ext_getElem?
  intro i
  rw [setL_get _ _ _ _ (by rw [flat_len f s l h]; omega)]
  have hi := Nat.div_add_mod i s
  have hm := Nat.mod_lt i hs
  rw [Nat.mul_comm] at hi
  rcases Nat.lt_or_ge (i / s) l.length with hk | hk
  · rw [← hi, flat_get f s _ h' (i / s) (by simpa using hk) _ hm, flat_get f s _ h (i / s) hk _ hm, List.getElem_set]
    by_cases he : n = i / s
    · subst he
      rw [if_pos rfl, hx]
      by_cases hj : i % s < u.length
      · rw [if_pos (by omega), Nat.add_sub_cancel_left, List.getElem?_append_left hj]
      · rw [if_neg (by omega), List.getElem?_append_right (by omega), List.getElem?_drop, show u.length + (i % s - u.length) = i % s by omega]
    · rw [if_neg he, if_neg]
      rintro ⟨h1, h2⟩
      apply he
      have a1 : n * s < (i / s + 1) * s := by rw [Nat.succ_mul]; omega
      have a2 : i / s * s < (n + 1) * s := by rw [Nat.succ_mul]; omega
      have b1 := Nat.lt_of_mul_lt_mul_right a1
      have b2 := Nat.lt_of_mul_lt_mul_right a2
      omega
  · have hq : l.length * s ≤ i := by rw [← hi]; exact Nat.le_trans (Nat.mul_le_mul_right _ hk) (Nat.le_add_right _ _)
    rw [flat_none f s _ h' i (by simpa using hq), flat_none f s _ h i hq, if_neg (by omega)]
theorem secC_part {S : List (List UInt8)} (h : ∀ x ∈ S, x.length = 128) (n : Nat) (hn : n < S.length) (b : List UInt8) (k : Nat) (hb : b.length = 128) (hk : k ≤ 128) : setL (secC S) (n * 128) ((bv b).take k) = secC (S.set n (b.take k ++ (S.getD n []).drop k)) := by
  refine setL_part bv 128 S (fun x hx => by rw [bv_length]; exact h x hx) (by omega) n hn _ _ (by rw [List.length_take, bv_length]; omega) ?_
  rw [List.length_take, bv_length, hb, Nat.min_eq_left hk, List.getD_eq_getElem?_getD, List.getElem?_eq_getElem hn]
  simp [bv]
end Go.Kw
