/-
  What a crash leaves of a device's sectors: the plain law of BlockdevKeeps. No program here.
-/
import Derived.Test.YtpleaicpkpjkjaaBlkPlain2
namespace Go.Kw
open Go Go.RowKit
set_option linter.unusedVariables false

/-- What was safe of a sector, and all writes of it. -/
def allG (S : List (List UInt8)) (C : List (Nat × List UInt8)) (n : Nat) : List (List UInt8) := S.getD n [] :: (C.filter (fun x => x.1 == n)).map (·.2)
theorem allG_nil (S : List (List UInt8)) (n : Nat) : allG S [] n = [S.getD n []] := rfl
theorem allG_snoc (S : List (List UInt8)) (C : List (Nat × List UInt8)) (x : Nat × List UInt8) (n : Nat) : allG S (C ++ [x]) n = if n = x.1 then allG S C x.1 ++ [x.2] else allG S C n := by
  unfold allG
  rw [List.filter_append, List.filter_cons, List.filter_nil]
  by_cases h : n = x.1
  · subst h; simp
  · rw [if_neg h, if_neg (by simpa using fun e : x.1 = n => h e.symm)]; simp
theorem getD_set (S : List (List UInt8)) (i n : Nat) (b : List UInt8) (hn : n < S.length) : (S.set i b).getD n [] = if i = n then b else S.getD n [] := by
  rw [List.getD_eq_getElem?_getD, List.getElem?_set, List.getD_eq_getElem?_getD]
  by_cases h : i = n
  · subst h; rw [if_pos rfl, if_pos hn, if_pos rfl]; rfl
  · rw [if_neg h, if_neg h]
theorem many_two {kp : List UInt8} {to at' : Int} {i : Nat} (h : (i : Int) ≠ to) : many kp to at' i = 0 ∨ many kp to at' i = 128 := by
  unfold many
  rw [if_neg h]
  split
  · exact .inr rfl
  · exact .inl rfl
theorem take_snoc (C : List (Nat × List UInt8)) (k : Nat) (h : k < C.length) : C.take (k + 1) = C.take k ++ [C.getD k default] := by
  rw [List.take_succ_eq_append_getElem h]; simp [h]
/-- Behind any crash a sector is what was safe, or a write of it, but where the torn write went. -/
theorem crS_mem {kp : List UInt8} {to at' : Int} {C : List (Nat × List UInt8)} {S : List (List UInt8)} (hc : ∀ x ∈ C, x.1 < S.length ∧ x.2.length = 128) (hs : ∀ x ∈ S, x.length = 128) {n : Nat} (hn : n < S.length) :
    ∀ k, k ≤ C.length → (∀ i, i < k → (i : Int) = to → (C.getD i default).1 ≠ n) → (crS (many kp to at') C S k).getD n [] ∈ allG S (C.take k) n
  | 0, _, _ => by rw [List.take_zero, allG_nil]; exact List.mem_singleton.2 rfl
  | k + 1, h, ht => by
    have ih := crS_mem (at' := at') (kp := kp) hc hs hn k (by omega) (fun i hi => ht i (by omega))
    have hx := hc _ (getD_mem' (l := C) (k := k) (by omega))
    have hl : n < (crS (many kp to at') C S k).length := by rw [crS_length]; exact hn
    have h128 : ((crS (many kp to at') C S k).getD n []).length = 128 := by
      rw [List.getD_eq_getElem?_getD, List.getElem?_eq_getElem hl]
      exact crS_128 (many_le kp to at') hc hs k (by omega) _ (List.getElem_mem hl)
    rw [take_snoc C k (by omega), allG_snoc, crS, getD_set _ _ _ _ hl]
    by_cases e : (C.getD k default).1 = n
    · rw [if_pos e, if_pos e.symm, e]
      have hto : (k : Int) ≠ to := fun e2 => ht k (by omega) e2 e
      rcases many_two (kp := kp) (at' := at') hto with h0 | h0
      · rw [h0, List.take_zero, List.nil_append, List.drop_zero]
        exact List.mem_append_left _ ih
      · rw [h0, List.take_of_length_le (Nat.le_of_eq hx.2), List.drop_of_length_le (Nat.le_of_eq h128), List.append_nil]
        exact List.mem_append_right _ (List.mem_singleton.2 rfl)
    · rw [if_neg e, if_neg (fun e2 => e e2.symm)]; exact ih
/-- Behind a crash that keeps all a sector is its newest write, or what was safe. -/
theorem crS_last {m : Nat → Nat} {C : List (Nat × List UInt8)} {S : List (List UInt8)} (hm : ∀ i, i < C.length → m i = 128) (hc : ∀ x ∈ C, x.1 < S.length ∧ x.2.length = 128) (hs : ∀ x ∈ S, x.length = 128) {n : Nat} (hn : n < S.length) :
    ∀ k, k ≤ C.length → some ((crS m C S k).getD n []) = (allG S (C.take k) n).getLast?
  | 0, _ => by rw [List.take_zero, allG_nil]; rfl
  | k + 1, h => by
    have ih := crS_last hm hc hs hn k (by omega)
    have hx := hc _ (getD_mem' (l := C) (k := k) (by omega))
    have hl : n < (crS m C S k).length := by rw [crS_length]; exact hn
    have hl2 : (C.getD k default).1 < (crS m C S k).length := by rw [crS_length]; exact hx.1
    have h128 : ((crS m C S k).getD (C.getD k default).1 []).length ≤ 128 := by
      have : ∀ j, j ≤ k → ∀ x ∈ crS m C S j, x.length = 128 := by
        intro j
        induction j with
        | zero => intro _; exact hs
        | succ j ihj =>
          intro hj x hxm
          have hxj := hc _ (getD_mem' (l := C) (k := j) (by omega))
          have hlj : (C.getD j default).1 < (crS m C S j).length := by rw [crS_length]; exact hxj.1
          rw [crS] at hxm
          rcases List.mem_or_eq_of_mem_set hxm with hxm | rfl
          · exact ihj (by omega) x hxm
          · rw [hm j (by omega), List.length_append, List.length_take, List.length_drop, hxj.2]
            have := ihj (by omega) _ (List.getElem_mem hlj)
            rw [List.getD_eq_getElem?_getD, List.getElem?_eq_getElem hlj, Option.getD_some, this]; rfl
      have := this k (by omega) _ (List.getElem_mem hl2)
      rw [List.getD_eq_getElem?_getD, List.getElem?_eq_getElem hl2, Option.getD_some, this]; omega
    rw [take_snoc C k (by omega), allG_snoc, crS, getD_set _ _ _ _ hl]
    by_cases e : (C.getD k default).1 = n
    · rw [if_pos e, if_pos e.symm, hm k (by omega), List.take_of_length_le (Nat.le_of_eq hx.2), List.drop_of_length_le h128, List.append_nil, List.getLast?_append]; rfl
    · rw [if_neg e, if_neg (fun e2 => e e2.symm)]; exact ih
/-- The sector of the write that a crash tears. -/
def tornS (C : List (Nat × List UInt8)) (to : Int) : Nat := if 0 ≤ to ∧ to < (C.length : Int) then (C.getD to.toNat default).1 else 8
theorem keeps_mem {kp : List UInt8} {to at' : Int} {C : List (Nat × List UInt8)} {S : List (List UInt8)} (hc : ∀ x ∈ C, x.1 < S.length ∧ x.2.length = 128) (hs : ∀ x ∈ S, x.length = 128) {n : Nat} (hn : n < S.length) (h : n ≠ tornS C to) :
    (crS (many kp to at') C S C.length).getD n [] ∈ allG S C n := by
  have := crS_mem (kp := kp) (to := to) (at' := at') hc hs hn C.length (Nat.le_refl _) (fun i hi e e2 => by
    unfold tornS at h
    rw [if_pos (by omega), ← e, Int.toNat_natCast] at h
    exact h e2.symm)
  rwa [List.take_length] at this
/-- A sector that was not written stays. -/
theorem keeps_one {kp : List UInt8} {to at' : Int} {C : List (Nat × List UInt8)} {S : List (List UInt8)} (hc : ∀ x ∈ C, x.1 < S.length ∧ x.2.length = 128) (hs : ∀ x ∈ S, x.length = 128) {n : Nat} (hn : n < S.length) (h : (allG S C n).length = 1) :
    (crS (many kp to at') C S C.length).getD n [] = S.getD n [] := by
  have hf : C.filter (fun x => x.1 == n) = [] := by
    unfold allG at h
    simpa using h
  have := crS_mem (kp := kp) (to := to) (at' := at') hc hs hn C.length (Nat.le_refl _) (fun i hi e e2 => by
    have hm : C.getD i default ∈ C.filter (fun x => x.1 == n) := List.mem_filter.2 ⟨getD_mem' hi, by simpa using e2⟩
    rw [hf] at hm; cases hm)
  rw [List.take_length] at this
  unfold allG at this
  rw [hf] at this
  exact List.mem_singleton.1 this
theorem many_full (i : Nat) (h : i < 320) : many (List.replicate 40 255) (-1) 0 i = 128 := by
  unfold many
  have h0 : ((List.replicate 40 (255 : UInt8)).getD (i / 8) 0) = 255 := by
    rw [List.getD_eq_getElem?_getD, List.getElem?_replicate, if_pos (by omega)]; first | rfl | done
  rw [if_neg (by omega), h0]
  refine if_pos ⟨by rw [List.length_replicate]; omega, ?_⟩
  have : ∀ r : Fin 8, (255 : UInt8).toNat / 2 ^ r.val % 2 = 1 := by decide
  exact this ⟨i % 8, by omega⟩
theorem keeps_last {C : List (Nat × List UInt8)} {S : List (List UInt8)} (hC : C.length ≤ 256) (hc : ∀ x ∈ C, x.1 < S.length ∧ x.2.length = 128) (hs : ∀ x ∈ S, x.length = 128) {n : Nat} (hn : n < S.length) :
    some ((crS (many (List.replicate 40 255) (-1) 0) C S C.length).getD n []) = (allG S C n).getLast? := by
  have := crS_last (m := many (List.replicate 40 255) (-1) 0) (fun i hi => many_full i (by omega)) hc hs hn C.length (Nat.le_refl _)
  rwa [List.take_length] at this
end Go.Kw
