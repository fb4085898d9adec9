/-
  A meter as plain numbers: its state, what a span, a sample and a replacement make of it, and what they tell. No program here.
-/
import Derived.Test.YtjmkbpgakfeceaaBase
namespace Go.Kw.Mt
set_option linter.unusedVariables false

/-- A setup. -/
structure Stp where
  num : Nat
  den : Nat
  bound : Nat
  gap : Int
  len : Int
structure Stp.Ok (s : Stp) : Prop where
  num : 1 ≤ s.num ∧ s.num ≤ 1048576
  den : 1 ≤ s.den ∧ s.den ≤ 1048576
  bound : s.bound < 4294967296
  gap : 0 ≤ s.gap ∧ s.gap < 9223372036854775808
  len : 60 ≤ s.len ∧ s.len ≤ 86400
/-- A meter: has it begun, its last sample, its stretch's counts, the open interval's number, flags, what is kept of it, the energy at its beginning. -/
structure M where
  bg : Bool
  t : Int
  v : Nat
  c : Nat
  o : Int
  f : Nat
  k : Int
  fr : Int
/-- What is told: kind, start, energy, flags, count. -/
structure En where
  kind : Nat
  start : Int
  en : Int
  f : Nat
  cnt : Nat
def eng (s : Stp) (c : Nat) : Nat := c * s.num / s.den
def zeroM : M := ⟨false, 0, 0, 0, 0, 0, 0, 0⟩
def beginM (s : Stp) (t : Int) (v : Nat) : M := ⟨true, t, v, 0, t / s.len, if t % s.len = 0 then 0 else 1, 0, 0⟩
/-- The j-th end of a span, and the counts by then. -/
def endJ (s : Stp) (m : M) (j : Nat) : Int := (m.o + 1 + j) * s.len
def cnJ (s : Stp) (m : M) (t' : Int) (d : Nat) (j : Nat) : Nat := d * (endJ s m j - m.t).toNat / (t' - m.t).toNat
def tellM (m : M) (now : Int) : M := { m with o := m.o + 1, f := 0, k := 0, fr := now }
def tellE (s : Stp) (m : M) (now : Int) (fl : Nat) : En := ⟨1, m.o * s.len, m.k + now - m.fr, m.f ||| fl, 0⟩
/-- The energy at the j-th end. -/
def nowJ (s : Stp) (m : M) (t' : Int) (d : Nat) (j : Nat) : Int := (eng s (m.c + cnJ s m t' d j) : Int)
def passM (s : Stp) (m : M) (t' : Int) (d : Nat) : Nat → M
  | 0 => m
  | j + 1 => tellM (passM s m t' d j) (nowJ s m t' d j)
def passE (s : Stp) (m : M) (t' : Int) (d fl : Nat) : Nat → List En
  | 0 => []
  | j + 1 => passE s m t' d fl j ++ [tellE s (passM s m t' d j) (nowJ s m t' d j) fl]
/-- How many ends a span has. -/
def many (s : Stp) (m : M) (t' : Int) : Nat := (t' / s.len - m.o).toNat
def passF (s : Stp) (m : M) (t' : Int) (fl : Nat) : Nat := if t' - m.t > s.gap then fl ||| 2 else fl
def passZ (s : Stp) (m : M) (t' : Int) (d fl : Nat) : M :=
  { passM s m t' d (many s m t') with f := if max (m.t + 1) ((passM s m t' d (many s m t')).o * s.len) < t' then (passM s m t' d (many s m t')).f ||| passF s m t' fl else (passM s m t' d (many s m t')).f, c := m.c + d, t := t' }
/-- A span: the error, what is told, the meter. -/
def passV (s : Stp) (m : M) (t' : Int) (d fl : Nat) : Int × List En × M := if t' / s.len - m.o > 1000 then (242, [], m) else (0, passE s m t' d (passF s m t' fl) (many s m t'), passZ s m t' d fl)
def timeBad (t : Int) : Prop := t < 0 ∨ 253402300800 ≤ t
instance (t : Int) : Decidable (timeBad t) := by unfold timeBad; infer_instance
def difV (m : M) (v : Nat) : Nat := (v + 4294967296 - m.v) % 4294967296
def backM (m : M) (t : Int) : M := if t < m.t then { m with f := m.f ||| 2 } else m
/-- A sample. -/
def sampleV (s : Stp) (m : M) (t : Int) (v : Nat) : Int × List En × M :=
  if timeBad t then (60, [], m)
  else if m.bg = false then (0, [], beginM s t v)
  else if (passV s (backM m t) (max t m.t) (if difV m v > s.bound then 0 else difV m v) (if difV m v > s.bound then 4 else 0)).1 = 0 then
    (0, (passV s (backM m t) (max t m.t) (if difV m v > s.bound then 0 else difV m v) (if difV m v > s.bound then 4 else 0)).2.1 ++ (if difV m v > s.bound then [⟨2, max t m.t, 0, 0, difV m v⟩] else []),
      { (passV s (backM m t) (max t m.t) (if difV m v > s.bound then 0 else difV m v) (if difV m v > s.bound then 4 else 0)).2.2 with v := v })
  else (242, [], m)
/-- A replacement. -/
def replV (s : Stp) (m : M) (t : Int) (v : Nat) : Int × List En × M :=
  if timeBad t then (60, [], m)
  else if m.bg = false then (0, [], beginM s t v)
  else if t < m.t then (241, [], m)
  else if (passV s m t 0 0).1 = 0 then
    (0, (passV s m t 0 0).2.1, { (passV s m t 0 0).2.2 with k := (passV s m t 0 0).2.2.k + ((eng s (passV s m t 0 0).2.2.c : Int) - (passV s m t 0 0).2.2.fr), c := 0, fr := 0, v := v, f := (passV s m t 0 0).2.2.f ||| 8 })
  else (242, [], m)
/-- What holds of a meter, behind at most i calls. -/
structure Ok (s : Stp) (m : M) (i : Nat) : Prop where
  t : 0 ≤ m.t ∧ m.t < 253402300800
  v : m.v < 4294967296
  o : m.o * s.len ≤ m.t ∧ m.t < (m.o + 1) * s.len
  f : m.f < 16
  c : m.c ≤ i * 4294967296
  fr : 0 ≤ m.fr ∧ m.fr ≤ eng s m.c
  k : 0 ≤ m.k ∧ m.k + eng s m.c ≤ i * 9007199254740992
  z : m.bg = false → m = zeroM

theorem eng_mono (s : Stp) {a b : Nat} (h : a ≤ b) : eng s a ≤ eng s b := Nat.div_le_div_right (Nat.mul_le_mul_right _ h)
/-- One more call's energy. -/
theorem eng_add (s : Stp) (hs : s.Ok) (c d : Nat) (hd : d < 4294967296) : eng s (c + d) ≤ eng s c + 4503599627370496 := by
  unfold eng
  have h1 : (c + d) * s.num ≤ c * s.num + 4294967295 * 1048576 := by
    rw [Nat.add_mul]
    exact Nat.add_le_add_left (Nat.mul_le_mul (by omega) hs.num.2) _
  have h2 : (c * s.num + 4294967295 * 1048576) / s.den ≤ c * s.num / s.den + 4503599627370496 := by
    have hd0 : 0 < s.den := hs.den.1
    have h3 : 4294967295 * 1048576 ≤ s.den * 4503599627370495 := Nat.le_trans (by decide) (Nat.mul_le_mul_right _ hd0)
    have h5 : c * s.num + 4294967295 * 1048576 ≤ c * s.num + s.den * 4503599627370495 := by omega
    have h4 : (c * s.num + s.den * 4503599627370495) / s.den = c * s.num / s.den + 4503599627370495 := Nat.add_mul_div_left _ _ hd0
    have := Nat.div_le_div_right (c := s.den) h5
    omega
  exact Nat.le_trans (Nat.div_le_div_right h1) h2
section
variable {s : Stp} {m : M} {t' : Int} {d : Nat}
theorem passM_o (j : Nat) : (passM s m t' d j).o = m.o + j := by
  induction j with
  | zero => simp [passM]
  | succ j ih => simp only [passM, tellM, ih]; push_cast; omega
theorem passM_t (j : Nat) : (passM s m t' d j).t = m.t := by
  induction j with
  | zero => rfl
  | succ j ih => exact ih
theorem passM_c (j : Nat) : (passM s m t' d j).c = m.c := by
  induction j with
  | zero => rfl
  | succ j ih => exact ih
theorem passM_v (j : Nat) : (passM s m t' d j).v = m.v := by
  induction j with
  | zero => rfl
  | succ j ih => exact ih
theorem passM_bg (j : Nat) : (passM s m t' d j).bg = m.bg := by
  induction j with
  | zero => rfl
  | succ j ih => exact ih
theorem passM_f (j : Nat) : (passM s m t' d j).f = if j = 0 then m.f else 0 := by
  cases j <;> simp [passM, tellM]
theorem passM_k (j : Nat) : (passM s m t' d j).k = if j = 0 then m.k else 0 := by
  cases j <;> simp [passM, tellM]
theorem passM_fr0 : (passM s m t' d 0).fr = m.fr := rfl
theorem passM_fr (j : Nat) : (passM s m t' d (j + 1)).fr = nowJ s m t' d j := rfl
theorem endJ_mono {i j : Nat} (hl : 0 ≤ s.len) (h : i ≤ j) : endJ s m i ≤ endJ s m j := by
  unfold endJ
  exact Int.mul_le_mul_of_nonneg_right (by omega) hl
theorem cnJ_mono {i j : Nat} (hl : 0 ≤ s.len) (h : i ≤ j) : cnJ s m t' d i ≤ cnJ s m t' d j := by
  unfold cnJ
  have := endJ_mono (s := s) (m := m) hl h
  exact Nat.div_le_div_right (Nat.mul_le_mul_left _ (by omega))
theorem cnJ_le {j : Nat} (h : endJ s m j ≤ t') : cnJ s m t' d j ≤ d := by
  unfold cnJ
  rcases Nat.eq_zero_or_pos (t' - m.t).toNat with h0 | h0
  · rw [h0, Nat.div_zero]; omega
  · exact Nat.div_le_of_le_mul (by rw [Nat.mul_comm]; exact Nat.mul_le_mul_right _ (by omega))
/-- A number below how many ends there are: the end lies within the span. -/
theorem endJ_in (hl : 60 ≤ s.len) {j : Nat} (h : j < many s m t') : endJ s m j ≤ t' := by
  unfold many at h
  unfold endJ
  have h1 : (m.o + 1 + j) ≤ t' / s.len := by omega
  have h2 := Int.mul_le_mul_of_nonneg_right h1 (show 0 ≤ s.len by omega)
  have h3 := Int.ediv_mul_le t' (show s.len ≠ 0 by omega)
  omega
theorem endJ_out (hl : 60 ≤ s.len) (ho : m.o ≤ t' / s.len) : t' < endJ s m (many s m t') := by
  unfold many endJ
  have h1 : m.o + 1 + ((t' / s.len - m.o).toNat : Int) = t' / s.len + 1 := by omega
  rw [h1]
  have := Int.lt_ediv_add_one_mul_self t' (show 0 < s.len by omega)
  omega
end
/-- Facts of an end within a span. -/
structure AtEnd (s : Stp) (m : M) (t' : Int) (d i j : Nat) : Prop where
  e : m.t < endJ s m j ∧ endJ s m j ≤ t'
  fr : 0 ≤ (passM s m t' d j).fr ∧ (passM s m t' d j).fr ≤ nowJ s m t' d j
  k : 0 ≤ (passM s m t' d j).k
  now : 0 ≤ nowJ s m t' d j ∧ nowJ s m t' d j ≤ eng s (m.c + d)
  sum : (passM s m t' d j).k + nowJ s m t' d j ≤ (i + 1) * 9007199254740992
  cn : cnJ s m t' d j ≤ d
theorem atEnd {s : Stp} {m : M} {t' : Int} {d i j : Nat} (hs : s.Ok) (h : Ok s m i) (hd : d < 4294967296) (hj : j < many s m t') : AtEnd s m t' d i j := by
  have hl := hs.len
  have he := endJ_in (s := s) (m := m) hl.1 hj
  have hc := cnJ_le (d := d) he
  have h1 : eng s (m.c + cnJ s m t' d j) ≤ eng s (m.c + d) := eng_mono s (by omega)
  have h2 := eng_add s hs m.c d hd
  have hk := h.k
  have hfr := h.fr
  have h0 : eng s m.c ≤ eng s (m.c + cnJ s m t' d j) := eng_mono s (by omega)
  have hee : endJ s m 0 ≤ endJ s m j := endJ_mono (by omega) (by omega)
  have he0 : endJ s m 0 = (m.o + 1) * s.len := by unfold endJ; simp
  refine ⟨⟨by have := h.o.2; omega, he⟩, ?_, ?_, ⟨by unfold nowJ; omega, by unfold nowJ; omega⟩, ?_, hc⟩
  · cases j with
    | zero => rw [passM_fr0]; unfold nowJ; omega
    | succ j =>
      rw [passM_fr]
      have := cnJ_mono (s := s) (m := m) (t' := t') (d := d) (show 0 ≤ s.len by omega) (show j ≤ j + 1 by omega)
      have := eng_mono s (show m.c + cnJ s m t' d j ≤ m.c + cnJ s m t' d (j + 1) by omega)
      unfold nowJ
      omega
  · rw [passM_k]; split <;> omega
  · rw [passM_k]
    unfold nowJ
    split <;> omega
end Go.Kw.Mt
