/-
  A meter as plain numbers: what stays, sums of energies, the chain of intervals. No program here.
-/
import Derived.Test.YtjmkbpgakfeceaaMtPlain
namespace Go.Kw.Mt
set_option linter.unusedVariables false

def sumE : List En → Int
  | [] => 0
  | x :: r => x.en + sumE r
theorem sumE_append (a b : List En) : sumE (a ++ b) = sumE a + sumE b := by
  induction a with
  | nil => simp [sumE]
  | cons x r ih => simp [sumE, ih]; omega
theorem sumE_snoc (a : List En) (x : En) : sumE (a ++ [x]) = sumE a + x.en := by rw [sumE_append]; simp [sumE]
theorem or16 {a b : Nat} (ha : a < 16) (hb : b < 16) : a ||| b < 16 := Nat.or_lt_two_pow (n := 4) ha hb
section
variable {s : Stp} {m : M} {t' : Int} {d fl i : Nat}
theorem passE_length (j : Nat) : (passE s m t' d fl j).length = j := by
  induction j with
  | zero => rfl
  | succ j ih => rw [passE, List.length_append, ih]; rfl
theorem passE_get (j k : Nat) (h : k < j) : (passE s m t' d fl j)[k]? = some (tellE s (passM s m t' d k) (nowJ s m t' d k) fl) := by
  induction j with
  | zero => omega
  | succ j ih =>
    rw [passE]
    rcases Nat.lt_or_ge k j with hk | hk
    · rw [List.getElem?_append_left (by rw [passE_length]; exact hk)]; exact ih hk
    · have : k = j := by omega
      subst this
      rw [List.getElem?_append_right (by rw [passE_length]; omega), passE_length]; simp
/-- What is told is what the open interval's beginning moves by. -/
theorem pass_sum (j : Nat) : sumE (passE s m t' d fl j) = ((passM s m t' d j).fr - (passM s m t' d j).k) - (m.fr - m.k) := by
  induction j with
  | zero => simp [passE, sumE, passM]
  | succ j ih =>
    rw [passE, sumE_snoc, ih]
    simp only [tellE, passM, tellM]
    omega
theorem many_o (hl : 60 ≤ s.len) (h : Ok s m i) (ht : m.t ≤ t') : m.o + (many s m t' : Int) = t' / s.len ∧ m.o ≤ t' / s.len := by
  have h1 : m.o ≤ t' / s.len := (Int.le_ediv_iff_mul_le (by omega)).2 (by have := h.o.1; omega)
  unfold many
  omega
theorem pass_ok (hs : s.Ok) (h : Ok s m i) (hd : d < 4294967296) (ht : m.t ≤ t') (ht2 : t' < 253402300800) (hfl : fl < 16) (hb : m.bg = true) : Ok s (passZ s m t' d fl) (i + 1) := by
  have hl := hs.len
  obtain ⟨ho, ho2⟩ := many_o hl.1 h ht
  have h2 := eng_add s hs m.c d hd
  have hm : eng s m.c ≤ eng s (m.c + d) := eng_mono s (by omega)
  have hfr := h.fr
  have hk := h.k
  have e1 : (passZ s m t' d fl).o = t' / s.len := by show (passM s m t' d (many s m t')).o = _; rw [passM_o, ho]
  have hf2 : passF s m t' fl < 16 := by unfold passF; split; exact or16 hfl (by omega); exact hfl
  have hf1 : (passM s m t' d (many s m t')).f < 16 := by rw [passM_f]; split; exact h.f; omega
  refine ⟨⟨by have := h.t.1; show 0 ≤ t'; omega, ht2⟩, ?_, ?_, ?_, ?_, ?_, ?_, ?_⟩
  · show (passM s m t' d (many s m t')).v < _; rw [passM_v]; exact h.v
  · rw [e1]
    show t' / s.len * s.len ≤ t' ∧ t' < (t' / s.len + 1) * s.len
    have h3 := Int.ediv_mul_le t' (show s.len ≠ 0 by omega)
    have h4 := Int.lt_ediv_add_one_mul_self t' (show 0 < s.len by omega)
    exact ⟨h3, h4⟩
  · show (if _ then _ else _) < 16
    split
    · exact or16 hf1 hf2
    · exact hf1
  · show m.c + d ≤ _
    have := h.c
    omega
  · show 0 ≤ (passM s m t' d (many s m t')).fr ∧ (passM s m t' d (many s m t')).fr ≤ (eng s (m.c + d) : Int)
    rcases hj : many s m t' with _ | j
    · rw [passM_fr0]; omega
    · have ha := atEnd (d := d) hs h hd (show j < many s m t' by omega)
      rw [passM_fr]
      have := ha.now
      omega
  · show 0 ≤ (passM s m t' d (many s m t')).k ∧ (passM s m t' d (many s m t')).k + (eng s (m.c + d) : Int) ≤ ((i + 1 : Nat) : Int) * 9007199254740992
    rw [passM_k]
    have e : ((i + 1 : Nat) : Int) * 9007199254740992 = (i : Int) * 9007199254740992 + 9007199254740992 := by push_cast; omega
    rw [e]
    split <;> omega
  · intro hz
    have : (passM s m t' d (many s m t')).bg = false := hz
    rw [passM_bg, hb] at this
    cases this
theorem begin_ok (hs : s.Ok) {t : Int} (ht : ¬ timeBad t) {v : Nat} (hv : v < 4294967296) : Ok s (beginM s t v) (i + 1) := by
  have hl := hs.len
  unfold timeBad at ht
  have h3 := Int.ediv_mul_le t (show s.len ≠ 0 by omega)
  have h4 := Int.lt_ediv_add_one_mul_self t (show 0 < s.len by omega)
  refine ⟨by show 0 ≤ t ∧ t < 253402300800; omega, hv, ⟨h3, h4⟩, ?_, Nat.zero_le _, ?_, ?_, fun h => by cases h⟩
  · show (if _ then _ else _) < 16; split <;> omega
  · show 0 ≤ (0 : Int) ∧ (0 : Int) ≤ _; omega
  · show 0 ≤ (0 : Int) ∧ (0 : Int) + ((eng s 0 : Nat) : Int) ≤ _
    have : eng s 0 = 0 := by unfold eng; simp
    rw [this]; omega
theorem Ok.mono {j : Nat} (h : Ok s m i) (hj : i ≤ j) : Ok s m j := by
  have hk := h.k
  have e : (i : Int) * 9007199254740992 ≤ (j : Int) * 9007199254740992 := Int.mul_le_mul_of_nonneg_right (by omega) (by omega)
  exact ⟨h.t, h.v, h.o, h.f, Nat.le_trans h.c (Nat.mul_le_mul_right _ hj), h.fr, ⟨hk.1, Int.le_trans hk.2 e⟩, h.z⟩
theorem zero_ok (hs : s.Ok) : Ok s zeroM i := by
  have hl := hs.len
  refine ⟨by simp [zeroM], by simp [zeroM], ?_, by simp [zeroM], Nat.zero_le _, ?_, ?_, fun _ => rfl⟩
  · show (0 : Int) * s.len ≤ 0 ∧ 0 < (0 + 1) * s.len; omega
  · show (0 : Int) ≤ 0 ∧ (0 : Int) ≤ _; omega
  · show (0 : Int) ≤ 0 ∧ (0 : Int) + ((eng s 0 : Nat) : Int) ≤ _
    have : eng s 0 = 0 := by unfold eng; simp
    rw [this]; omega
theorem back_ok {t : Int} (h : Ok s m i) (hb : m.bg = true) : Ok s (backM m t) i := by
  unfold backM
  split
  · exact ⟨h.t, h.v, h.o, or16 h.f (by omega), h.c, h.fr, h.k, fun hz => by have : m.bg = false := hz; rw [hb] at this; cases this⟩
  · exact h
theorem back_same (t : Int) : (backM m t).t = m.t ∧ (backM m t).v = m.v ∧ (backM m t).c = m.c ∧ (backM m t).o = m.o ∧ (backM m t).k = m.k ∧ (backM m t).fr = m.fr ∧ (backM m t).bg = m.bg := by
  unfold backM; split <;> simp
theorem dif_lt (v : Nat) : difV m v < 4294967296 := Nat.mod_lt _ (by omega)
/-- The sample's counts and flags. -/
def smD (s : Stp) (m : M) (v : Nat) : Nat := if difV m v > s.bound then 0 else difV m v
def smF (s : Stp) (m : M) (v : Nat) : Nat := if difV m v > s.bound then 4 else 0
theorem smD_lt (v : Nat) : smD s m v < 4294967296 := by unfold smD; have := dif_lt (m := m) v; split <;> omega
theorem smF_lt (v : Nat) : smF s m v < 16 := by unfold smF; split <;> omega
theorem sample_form (s : Stp) (m : M) (t : Int) (v : Nat) : sampleV s m t v =
  if timeBad t then (60, [], m)
  else if m.bg = false then (0, [], beginM s t v)
  else if max t m.t / s.len - m.o > 1000 then (242, [], m)
  else (0, passE s (backM m t) (max t m.t) (smD s m v) (passF s (backM m t) (max t m.t) (smF s m v)) (many s (backM m t) (max t m.t)) ++ (if difV m v > s.bound then [⟨2, max t m.t, 0, 0, difV m v⟩] else []),
      { passZ s (backM m t) (max t m.t) (smD s m v) (smF s m v) with v := v }) := by
  have ho : (backM m t).o = m.o := (back_same t).2.2.2.1
  unfold sampleV
  by_cases h1 : timeBad t
  · rw [if_pos h1, if_pos h1]
  rw [if_neg h1, if_neg h1]
  by_cases h2 : m.bg = false
  · rw [if_pos h2, if_pos h2]
  rw [if_neg h2, if_neg h2]
  unfold passV
  rw [ho]
  by_cases h3 : max t m.t / s.len - m.o > 1000
  · rw [if_pos h3, if_neg (by simp), if_pos h3]
  · rw [if_neg h3, if_pos rfl, if_neg h3]
    rfl
theorem sample_ok (hs : s.Ok) (h : Ok s m i) (t : Int) {v : Nat} (hv : v < 4294967296) : Ok s (sampleV s m t v).2.2 (i + 1) := by
  rw [sample_form]
  split
  · exact h.mono (by omega)
  · next ht =>
    split
    · exact begin_ok hs ht hv
    · next hb =>
      split
      · exact h.mono (by omega)
      · have hb : m.bg = true := by cases hq : m.bg with
          | true => rfl
          | false => exact absurd hq hb
        have hbs := back_same (m := m) t
        unfold timeBad at ht
        have := pass_ok (d := smD s m v) (fl := smF s m v) (t' := max t m.t) hs (back_ok (t := t) h hb) (smD_lt v) (by rw [hbs.1]; omega) (by have := h.t; omega) (smF_lt v) (by rw [hbs.2.2.2.2.2.2]; exact hb)
        exact ⟨this.t, hv, this.o, this.f, this.c, this.fr, this.k, fun hz => by
          have hz : (passZ s (backM m t) (max t m.t) (smD s m v) (smF s m v)).bg = false := hz
          have e : (passZ s (backM m t) (max t m.t) (smD s m v) (smF s m v)).bg = (backM m t).bg := passM_bg _
          rw [e, hbs.2.2.2.2.2.2, hb] at hz
          cases hz⟩
theorem repl_form (s : Stp) (m : M) (t : Int) (v : Nat) : replV s m t v =
  if timeBad t then (60, [], m)
  else if m.bg = false then (0, [], beginM s t v)
  else if t < m.t then (241, [], m)
  else if t / s.len - m.o > 1000 then (242, [], m)
  else (0, passE s m t 0 (passF s m t 0) (many s m t), { passZ s m t 0 0 with k := (passZ s m t 0 0).k + ((eng s (passZ s m t 0 0).c : Int) - (passZ s m t 0 0).fr), c := 0, fr := 0, v := v, f := (passZ s m t 0 0).f ||| 8 }) := by
  unfold replV
  by_cases h1 : timeBad t
  · rw [if_pos h1, if_pos h1]
  rw [if_neg h1, if_neg h1]
  by_cases h2 : m.bg = false
  · rw [if_pos h2, if_pos h2]
  rw [if_neg h2, if_neg h2]
  by_cases h4 : t < m.t
  · rw [if_pos h4, if_pos h4]
  rw [if_neg h4, if_neg h4]
  unfold passV
  by_cases h3 : t / s.len - m.o > 1000
  · rw [if_pos h3, if_neg (by simp), if_pos h3]
  · rw [if_neg h3, if_pos rfl, if_neg h3]
theorem repl_ok (hs : s.Ok) (h : Ok s m i) (t : Int) {v : Nat} (hv : v < 4294967296) : Ok s (replV s m t v).2.2 (i + 1) := by
  rw [repl_form]
  split
  · exact h.mono (by omega)
  · next ht =>
    split
    · exact begin_ok hs ht hv
    · next hb =>
      split
      · exact h.mono (by omega)
      · next hbk =>
        split
        · exact h.mono (by omega)
        · have hb : m.bg = true := by cases hq : m.bg with
            | true => rfl
            | false => exact absurd hq hb
          unfold timeBad at ht
          have := pass_ok (d := 0) (fl := 0) (t' := t) hs h (by omega) (by omega) (by omega) (by omega) hb
          have hk := this.k
          have hfr := this.fr
          have e0 : eng s 0 = 0 := by unfold eng; simp
          refine ⟨this.t, hv, this.o, or16 this.f (by omega), Nat.zero_le _, ?_, ?_, fun hz => ?_⟩
          · show (0 : Int) ≤ 0 ∧ (0 : Int) ≤ _; omega
          · show 0 ≤ (passZ s m t 0 0).k + ((eng s (passZ s m t 0 0).c : Int) - (passZ s m t 0 0).fr) ∧ (passZ s m t 0 0).k + ((eng s (passZ s m t 0 0).c : Int) - (passZ s m t 0 0).fr) + ((eng s 0 : Nat) : Int) ≤ _
            rw [e0]; omega
          · have hz : (passZ s m t 0 0).bg = false := hz
            have e : (passZ s m t 0 0).bg = m.bg := passM_bg _
            rw [e, hb] at hz
            cases hz
end
end Go.Kw.Mt
