/-
  A device of sectors as plain lists: what is safe, the cache, and what the calls do; its cells in rows. No program here.
-/
import Derived.Test.YtpleaicpkpjkjaaKept
namespace Go.Kw
open Go Go.RowKit
set_option linter.unusedVariables false

/-- A device: its sectors, its cache, the plan, whether it is down, its calls. -/
structure Dv where
  S : List (List UInt8)
  C : List (Nat × List UInt8)
  p : Int
  dn : Bool
  k : Int
/-- The plan behind a call that the device outlives. -/
def planN (p : Int) : Int := if p = 0 then 0 else p - 1
/-- What is counted as a call, and done to 'a' if it goes down at it, to 'b' if not. -/
def cntV (D : Dv) (a b : Dv) : Int × Dv := if D.p = 1 then (120, { a with dn := true, p := 0, k := D.k + 1 }) else (0, { b with p := planN D.p, k := D.k + 1 })
/-- Why Write cannot be, if the device is up. -/
def putE (D : Dv) (n : Int) (l : Nat) : Int :=
  if D.dn = true then 120 else if ¬ (0 ≤ n ∧ n < (D.S.length : Int)) then 121 else if l ≠ 128 then 2 else if 256 ≤ D.C.length then 122 else 0
def putV (D : Dv) (n : Int) (b : List UInt8) : Int × Dv :=
  if putE D n b.length = 0 then cntV D { D with C := D.C ++ [(n.toNat, b)] } { D with C := D.C ++ [(n.toNat, b)] } else (putE D n b.length, D)
/-- The sectors behind k writes of a cache. -/
def flS (C : List (Nat × List UInt8)) (S : List (List UInt8)) : Nat → List (List UInt8)
  | 0 => S
  | k + 1 => (flS C S k).set (C.getD k default).1 (C.getD k default).2
def flushV (D : Dv) : Int × Dv := if D.dn = true then (120, D) else cntV D D { D with S := flS D.C D.S D.C.length, C := [] }
/-- How many bytes of write i come. -/
def many (kp : List UInt8) (to at' : Int) (i : Nat) : Nat :=
  if (i : Int) = to then (max 0 (min at' 128)).toNat else if i / 8 < kp.length ∧ (kp.getD (i / 8) 0).toNat / 2 ^ (i % 8) % 2 = 1 then 128 else 0
def crS (m : Nat → Nat) (C : List (Nat × List UInt8)) (S : List (List UInt8)) : Nat → List (List UInt8)
  | 0 => S
  | k + 1 => (crS m C S k).set (C.getD k default).1 ((C.getD k default).2.take (m k) ++ ((crS m C S k).getD (C.getD k default).1 []).drop (m k))
def restV (D : Dv) (kp : List UInt8) (to at' : Int) : Int × Dv :=
  if D.dn = true then (0, { S := crS (many kp to at') D.C D.S D.C.length, C := [], p := 0, dn := false, k := D.k }) else (2, D)
def planV (D : Dv) (i : Int) : Int × Dv := if D.dn = true then (120, D) else if i < 0 then (2, D) else (0, { D with p := i })
/-- The bytes that a sector reads as: the newest write of it, or what is safe. -/
def seenD (D : Dv) (n : Nat) : List UInt8 := (((D.C.filter (fun x => x.1 == n)).getLast?).map (·.2)).getD (D.S.getD n [])
/-- What holds of a device at all times. -/
structure DvOk (D : Dv) : Prop where
  s : ∀ x ∈ D.S, x.length = 128
  c : ∀ x ∈ D.C, x.1 < D.S.length ∧ x.2.length = 128
  m : D.C.length ≤ 256
  n : 0 < D.S.length ∧ D.S.length ≤ 65536
  p : 0 ≤ D.p ∧ D.p < 9223372036854775808

/-- The cells of the sectors, and of the cache. -/
def secC (S : List (List UInt8)) : List Value := S.flatMap bv
def cW (x : Nat × List UInt8) : List Value := .int .i64 (x.1 : Int) :: bv x.2
def cacC (C : List (Nat × List UInt8)) : List Value := C.flatMap cW

section
variable {α β : Type}
theorem flat_len (f : α → List β) (s : Nat) : ∀ (l : List α), (∀ x ∈ l, (f x).length = s) → (l.flatMap f).length = l.length * s
  | [], _ => by simp
  | x :: r, h => by
    rw [List.flatMap_cons, List.length_append, flat_len f s r (fun y hy => h y (List.mem_cons_of_mem _ hy)), h x List.mem_cons_self, List.length_cons, Nat.succ_mul]; omega
theorem flat_get (f : α → List β) (s : Nat) : ∀ (l : List α), (∀ x ∈ l, (f x).length = s) → ∀ (k : Nat) (hk : k < l.length) (j : Nat), j < s → (l.flatMap f)[k * s + j]? = (f l[k])[j]?
  | [], _, k, hk, _, _ => by simp at hk
  | x :: r, h, k, hk, j, hj => by
    have hx := h x List.mem_cons_self
    rw [List.flatMap_cons]
    rcases k with _ | k
    · rw [List.getElem?_append_left (by omega)]; simp
    · rw [List.getElem?_append_right (by rw [hx, Nat.succ_mul]; omega), hx, show (k + 1) * s + j - s = k * s + j by rw [Nat.succ_mul]; omega,
        flat_get f s r (fun y hy => h y (List.mem_cons_of_mem _ hy)) k (by simpa using hk) j hj]
      simp
theorem flat_none (f : α → List β) (s : Nat) (l : List α) (h : ∀ x ∈ l, (f x).length = s) (i : Nat) (hi : l.length * s ≤ i) : (l.flatMap f)[i]? = none := List.getElem?_eq_none (by rw [flat_len f s l h]; exact hi)
end
/-- A list with others laid over it from a place on, one by one. -/
def setL (xs : List Value) (o : Nat) : List Value → List Value
  | [] => xs
  | v :: r => setL (xs.set o v) (o + 1) r
theorem setL_length : ∀ (vs : List Value) (xs : List Value) (o : Nat), (setL xs o vs).length = xs.length
  | [], _, _ => rfl
  | v :: r, xs, o => by rw [setL, setL_length r, List.length_set]
theorem setL_get : ∀ (vs : List Value) (xs : List Value) (o i : Nat), o + vs.length ≤ xs.length → (setL xs o vs)[i]? = if o ≤ i ∧ i < o + vs.length then vs[i - o]? else xs[i]?
  | [], xs, o, i, _ => by simp [setL]; omega
  | v :: r, xs, o, i, h => by
    rw [setL, setL_get r _ _ i (by simp at h ⊢; omega), List.getElem?_set]
    simp only [List.length_cons] at h ⊢
    by_cases h1 : o = i
    · subst h1
      rw [if_neg (by omega), if_pos rfl, if_pos (by omega), if_pos (by omega)]; simp
    · rw [if_neg h1]
      by_cases h2 : o + 1 ≤ i ∧ i < o + 1 + r.length
      · rw [if_pos h2, if_pos (by omega), show i - o = (i - (o + 1)) + 1 by omega]; simp
      · rw [if_neg h2, if_neg (by omega)]
/-- A row with one of its elements laid anew, whole. -/
theorem setL_flat {α : Type} (f : α → List Value) (s : Nat) (l : List α) (h : ∀ x ∈ l, (f x).length = s) (hs : 0 < s) (n : Nat) (hn : n < l.length) (x : α) (hx : (f x).length = s) : setL (l.flatMap f) (n * s) (f x) = (l.set n x).flatMap f := by
  have h' : ∀ y ∈ l.set n x, (f y).length = s := fun y hy => by
    rcases List.mem_or_eq_of_mem_set hy with hy | rfl
    · exact h y hy
    · exact hx
  have hb : n * s + s ≤ l.length * s := by rw [← Nat.succ_mul]; exact Nat.mul_le_mul_right _ hn
  apply List.ext_getElem?
  intro i
  rw [setL_get _ _ _ _ (by rw [flat_len f s l h, hx]; exact hb), hx]
  have hi := Nat.div_add_mod i s
  have hm := Nat.mod_lt i hs
  rw [Nat.mul_comm] at hi
  rcases Nat.lt_or_ge (i / s) l.length with hk | hk
  · rw [← hi, flat_get f s _ h' (i / s) (by simpa using hk) _ hm, flat_get f s _ h (i / s) hk _ hm, List.getElem_set]
    by_cases he : n = i / s
    · subst he
      rw [if_pos (by omega), if_pos rfl, Nat.add_sub_cancel_left]
    · rw [if_neg he, if_neg]
      rintro ⟨h1, h2⟩
      apply he
      have a1 : n * s < (i / s + 1) * s := by rw [Nat.succ_mul]; omega
      have a2 : i / s * s < (n + 1) * s := by rw [Nat.succ_mul]; omega
      have b1 := Nat.lt_of_mul_lt_mul_right a1
      have b2 := Nat.lt_of_mul_lt_mul_right a2
      omega
  · have hq : l.length * s ≤ i := by rw [← hi]; exact Nat.le_trans (Nat.mul_le_mul_right _ hk) (Nat.le_add_right _ _)
    rw [flat_none f s _ h' i (by simpa using hq), flat_none f s _ h i hq, if_neg (by omega)]
theorem cW_len {x : Nat × List UInt8} (h : x.2.length = 128) : (cW x).length = 129 := by simp [cW, bv_length, h]
theorem secC_len {S : List (List UInt8)} (h : ∀ x ∈ S, x.length = 128) : (secC S).length = S.length * 128 := flat_len bv 128 S (fun x hx => by rw [bv_length]; exact h x hx)
theorem secC_set {S : List (List UInt8)} (h : ∀ x ∈ S, x.length = 128) (n : Nat) (hn : n < S.length) (b : List UInt8) (hb : b.length = 128) : setL (secC S) (n * 128) (bv b) = secC (S.set n b) :=
  setL_flat bv 128 S (fun x hx => by rw [bv_length]; exact h x hx) (by omega) n hn b (by rw [bv_length]; exact hb)
theorem secC_get {S : List (List UInt8)} (h : ∀ x ∈ S, x.length = 128) (n : Nat) (hn : n < S.length) (j : Nat) (hj : j < 128) : (secC S)[n * 128 + j]? = some (.int .u8 (bAt (S.getD n []) j)) := by
  have hs : S[n].length = 128 := h _ (List.getElem_mem hn)
  unfold secC
  rw [flat_get bv 128 S (fun x hx => by rw [bv_length]; exact h x hx) n hn j hj]
  have hj' : j < S[n].length := by omega
  simp [bv, bAt, hn, hj']
theorem cacC_get {C : List (Nat × List UInt8)} (h : ∀ x ∈ C, x.2.length = 128) (k : Nat) (hk : k < C.length) (j : Nat) (hj : j < 129) : (cacC C)[k * 129 + j]? = (cW (C.getD k default))[j]? := by
  unfold cacC
  rw [flat_get cW 129 C (fun x hx => cW_len (h x hx)) k hk j hj]
  simp [hk]
theorem cacC_len {C : List (Nat × List UInt8)} (h : ∀ x ∈ C, x.2.length = 128) : (cacC C).length = C.length * 129 := flat_len cW 129 C (fun x hx => cW_len (h x hx))
theorem cacC_snoc (C : List (Nat × List UInt8)) (x : Nat × List UInt8) : cacC C ++ cW x = cacC (C ++ [x]) := by simp [cacC]
theorem secC_new (n : Nat) : secC (List.replicate n (List.replicate 128 0)) = List.replicate (n * 128) (.int .u8 0) := by
  unfold secC
  induction n with
  | zero => simp
  | succ n ih =>
    rw [List.replicate_succ, List.flatMap_cons, ih, Nat.succ_mul, Nat.add_comm, ← List.replicate_append_replicate]
    simp [bv]

theorem flS_length (C : List (Nat × List UInt8)) (S : List (List UInt8)) : ∀ k, (flS C S k).length = S.length
  | 0 => rfl
  | k + 1 => by rw [flS, List.length_set, flS_length C S k]
theorem crS_length (m : Nat → Nat) (C : List (Nat × List UInt8)) (S : List (List UInt8)) : ∀ k, (crS m C S k).length = S.length
  | 0 => rfl
  | k + 1 => by rw [crS, List.length_set, crS_length m C S k]
theorem getD_mem' {α : Type} [Inhabited α] {l : List α} {k : Nat} (h : k < l.length) : l.getD k default ∈ l := by
  rw [List.getD_eq_getElem?_getD, List.getElem?_eq_getElem h]; exact List.getElem_mem h
theorem flS_128 {C : List (Nat × List UInt8)} {S : List (List UInt8)} (hc : ∀ x ∈ C, x.2.length = 128) (hs : ∀ x ∈ S, x.length = 128) : ∀ k, k ≤ C.length → ∀ x ∈ flS C S k, x.length = 128
  | 0, _ => hs
  | k + 1, h => fun x hx => by
    rw [flS] at hx
    rcases List.mem_or_eq_of_mem_set hx with hx | rfl
    · exact flS_128 hc hs k (by omega) x hx
    · exact hc _ (getD_mem' (by omega))
theorem crS_128 {m : Nat → Nat} (hm : ∀ i, m i ≤ 128) {C : List (Nat × List UInt8)} {S : List (List UInt8)} (hc : ∀ x ∈ C, x.1 < S.length ∧ x.2.length = 128) (hs : ∀ x ∈ S, x.length = 128) : ∀ k, k ≤ C.length → ∀ x ∈ crS m C S k, x.length = 128
  | 0, _ => hs
  | k + 1, h => fun x hx => by
    have ih := crS_128 hm hc hs k (by omega)
    have hC := hc _ (getD_mem' (l := C) (k := k) (by omega))
    rw [crS] at hx
    rcases List.mem_or_eq_of_mem_set hx with hx | rfl
    · exact ih x hx
    · have h1 := hC.1
      rw [← crS_length m C S k] at h1
      have h2 : ((crS m C S k).getD (C.getD k default).1 []).length = 128 := by
        rw [List.getD_eq_getElem?_getD, List.getElem?_eq_getElem h1]; exact ih _ (List.getElem_mem h1)
      have h3 := hm k
      rw [List.length_append, List.length_take, List.length_drop, h2, hC.2]; omega
theorem many_le (kp : List UInt8) (to at' : Int) (i : Nat) : many kp to at' i ≤ 128 := by unfold many; split <;> (try split) <;> omega
theorem putE_cases (D : Dv) (n : Int) (l : Nat) : (putE D n l = 120 ∧ D.dn = true) ∨ (D.dn = false ∧ (putE D n l = 121 ∧ ¬ (0 ≤ n ∧ n < (D.S.length : Int)) ∨ (0 ≤ n ∧ n < (D.S.length : Int)) ∧ (putE D n l = 2 ∧ l ≠ 128 ∨ l = 128 ∧ (putE D n l = 122 ∧ 256 ≤ D.C.length ∨ D.C.length < 256 ∧ putE D n l = 0)))) := by
  unfold putE
  cases D.dn <;> simp <;> (repeat' split) <;> simp_all <;> omega
section
variable {D : Dv} (h : DvOk D)
include h
theorem cnt_okA (a b : Dv) (ha : DvOk a) (hb : DvOk b) (hap : a.p = D.p) (hbp : b.p = D.p) : DvOk (cntV D a b).2 := by
  have hp := h.p
  unfold cntV
  split
  · exact ⟨ha.s, ha.c, ha.m, ha.n, by simp⟩
  · refine ⟨hb.s, hb.c, hb.m, hb.n, ?_⟩
    simp only [planN]; split <;> omega
theorem put_ok (n : Int) (b : List UInt8) : DvOk (putV D n b).2 := by
  unfold putV
  split
  · next h0 =>
    rcases putE_cases D n b.length with h1 | ⟨_, h1 | ⟨hn, h1 | ⟨hl, h1 | ⟨hc, _⟩⟩⟩⟩
    · omega
    · omega
    · omega
    · omega
    · have : DvOk { D with C := D.C ++ [(n.toNat, b)] } := ⟨h.s, fun x hx => by
        rcases List.mem_append.1 hx with hx | hx
        · exact h.c x hx
        · obtain rfl := List.mem_singleton.1 hx; exact ⟨by show n.toNat < D.S.length; omega, hl⟩, by simp; omega, h.n, h.p⟩
      exact cnt_okA h _ _ this this rfl rfl
  · exact h
theorem flush_ok : DvOk (flushV D).2 := by
  unfold flushV
  split
  · exact h
  · refine cnt_okA h _ _ h ⟨flS_128 (fun x hx => (h.c x hx).2) h.s _ (Nat.le_refl _), by simp, by simp, by rw [flS_length]; exact h.n, h.p⟩ rfl rfl
theorem rest_ok (kp : List UInt8) (to at' : Int) : DvOk (restV D kp to at').2 := by
  unfold restV
  split
  · exact ⟨crS_128 (many_le kp to at') h.c h.s _ (Nat.le_refl _), by simp, by simp, by rw [crS_length]; exact h.n, by simp⟩
  · exact h
theorem plan_ok (i : Int) (hi : i < 9223372036854775808) : DvOk (planV D i).2 := by
  unfold planV
  split
  · exact h
  · split
    · exact h
    · exact ⟨h.s, h.c, h.m, h.n, by simp; omega⟩
theorem pull_ok : DvOk { D with dn := true } := ⟨h.s, h.c, h.m, h.n, h.p⟩
end
/-- A device that is new. -/
def newV (n : Nat) : Dv := { S := List.replicate n (List.replicate 128 0), C := [], p := 0, dn := false, k := 0 }
theorem newV_ok (n : Nat) (h : 1 ≤ n) (h2 : n ≤ 65536) : DvOk (newV n) := ⟨fun x hx => by obtain ⟨_, rfl⟩ := List.mem_replicate.1 hx; simp, by simp [newV], by simp [newV], by simp [newV]; omega, by simp [newV]⟩
end Go.Kw
