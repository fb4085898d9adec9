/-
  A meter as plain numbers: the plain laws of the stage's theorems. No program here.
-/
import Derived.Test.YtjmkbpgakfeceaaMtPlain2
namespace Go.Kw.Mt
set_option linter.unusedVariables false

theorem or2 (a : Nat) : (a ||| 2) &&& 2 ≠ 0 := by
  intro h
  have h3 := congrArg (fun n => n.testBit 1) h
  have e : Nat.testBit 2 1 = true := by decide
  simp [e] at h3
theorem or2r (a b : Nat) (h : b &&& 2 ≠ 0) : (a ||| b) &&& 2 ≠ 0 := by
  intro h2
  apply h
  apply Nat.eq_of_testBit_eq
  intro i
  have := congrArg (fun n => n.testBit i) h2
  simp only [Nat.testBit_and, Nat.testBit_or, Nat.zero_testBit] at this ⊢
  cases hb : b.testBit i <;> simp_all
section
variable {s : Stp} {m : M} {t' : Int} {d fl i : Nat}
theorem passF_gap (h : t' - m.t > s.gap) : passF s m t' fl &&& 2 ≠ 0 := by
  unfold passF; rw [if_pos h]; exact or2 fl
theorem span_ok (hs : s.Ok) (h : Ok s m i) {t2 : Int} (h2 : t2 ≤ m.t + 59999) : ¬ t2 / s.len - m.o > 1000 := by
  have hl := hs.len
  have ho := h.o.2
  have h3 : t2 < (m.o + 1001) * s.len := by
    have e : (m.o + 1001) * s.len = (m.o + 1) * s.len + 1000 * s.len := by rw [← Int.add_mul]; congr 1; omega
    rw [e]; omega
  have := Int.ediv_lt_of_lt_mul (show 0 < s.len by omega) h3
  omega
/-- A sample that is not earlier, and not too late. -/
structure FwdI (s : Stp) (m : M) (t2 : Int) (v2 : Nat) (E : List En) (m2 : M) : Prop where
  v : sampleV s m t2 v2 = (0, E, m2)
  bg : m2.bg = true
  t : m2.t = t2
  vv : m2.v = v2
  c : m2.c = m.c + smD s m v2
  sum : sumE E = (m2.fr - m2.k) - (m.fr - m.k)
  kinds : ∃ P S, E = P ++ S ∧ (∀ x ∈ P, x.kind = 1) ∧ (∀ x ∈ S, x.kind = 2) ∧ S.length = if difV m v2 > s.bound then 1 else 0
theorem passE_kind (j : Nat) : ∀ x ∈ passE s m t' d fl j, x.kind = 1 := by
  induction j with
  | zero => simp [passE]
  | succ j ih =>
    intro x hx
    rw [passE] at hx
    rcases List.mem_append.1 hx with hx | hx
    · exact ih x hx
    · rw [List.mem_singleton.1 hx]; rfl
theorem sample_fwd (hs : s.Ok) (h : Ok s m i) (hb : m.bg = true) {t2 : Int} (h1 : m.t ≤ t2) (h2 : t2 ≤ m.t + 59999) (h3 : t2 < 253402300800) (v2 : Nat) : ∃ E m2, FwdI s m t2 v2 E m2 := by
  have ht := h.t
  have hbk : backM m t2 = m := if_neg (by omega)
  have hmx : max t2 m.t = t2 := by omega
  have hf := sample_form s m t2 v2
  rw [if_neg (by unfold timeBad; omega), if_neg (by rw [hb]; simp), hmx, if_neg (span_ok hs h h2), hbk] at hf
  refine ⟨_, _, hf, ?_, rfl, rfl, rfl, ?_, ⟨_, _, rfl, passE_kind _, ?_, ?_⟩⟩
  · show (passM s m t2 (smD s m v2) (many s m t2)).bg = true
    rw [passM_bg]; exact hb
  · rw [sumE_append, pass_sum]
    have e : sumE (if difV m v2 > s.bound then [(⟨2, t2, 0, 0, difV m v2⟩ : En)] else []) = 0 := by split <;> simp [sumE]
    rw [e]
    show _ = (passM s m t2 (smD s m v2) (many s m t2)).fr - (passM s m t2 (smD s m v2) (many s m t2)).k - (m.fr - m.k)
    omega
  · intro x hx
    split at hx
    · rw [List.mem_singleton.1 hx]
    · simp at hx
  · split <;> rfl
theorem dif_add (hv : m.v < 4294967296) {y : Nat} (hy : y < 4294967296) : difV m ((m.v + y) % 4294967296) = y := by
  unfold difV
  omega
/-- What the law of the runs asks of a call. -/
structure RunI (s : Stp) (m m2 : M) (E : List En) : Prop where
  bg : m.bg = true → m2.bg = true
  e : ∃ P S, E = P ++ S ∧ (∀ x ∈ S, x.kind ≠ 1) ∧ (∀ (k : Nat) (x : En), P[k]? = some x → m.bg = true ∧ x.kind = 1 ∧ x.start = (m.o + k) * s.len ∧ 0 ≤ x.en ∧ x.start + s.len ≤ m2.t ∧ m.t < x.start + s.len ∧ (m2.t - m.t > s.gap → x.f &&& 2 ≠ 0)) ∧ (m.bg = true → m2.o = m.o + (P.length : Int))
  f : m.bg = true → m2.t - m.t > s.gap → max (m.t + 1) (m2.o * s.len) < m2.t → m2.f &&& 2 ≠ 0
theorem run_same (hs : s.Ok) : RunI s m m [] := by
  have := hs.gap
  exact ⟨id, ⟨[], [], rfl, by simp, by simp, fun _ => by simp⟩, fun _ h => by omega⟩
theorem run_begin {m2 : M} (hb : m.bg = false) : RunI s m m2 [] :=
  ⟨fun h => absurd h (by rw [hb]; simp), ⟨[], [], rfl, by simp, by simp, fun h => absurd h (by rw [hb]; simp)⟩, fun h => absurd h (by rw [hb]; simp)⟩
theorem run_pass (hs : s.Ok) (h : Ok s m i) (hb : m.bg = true) (hd : d < 4294967296) (ht : m.t ≤ t') (S : List En) (hS : ∀ x ∈ S, x.kind ≠ 1) (m2 : M) (e1 : m2.bg = m.bg) (e2 : m2.t = t') (e3 : m2.o = (passM s m t' d (many s m t')).o) (e4 : ∀ g : Nat, (passZ s m t' d fl).f &&& 2 ≠ 0 → m2.f &&& 2 ≠ 0) :
    RunI s m m2 (passE s m t' d (passF s m t' fl) (many s m t') ++ S) := by
  have hl := hs.len
  refine ⟨fun _ => by rw [e1, hb], ⟨_, S, rfl, hS, fun k x hx => ?_, fun _ => by rw [e3, passM_o, passE_length]⟩, fun _ hg hm => ?_⟩
  · have hk : k < many s m t' := by
      have := (List.getElem?_eq_some_iff.1 hx).1
      rwa [passE_length] at this
    rw [passE_get _ _ hk] at hx
    injection hx with hx
    subst hx
    have ha := atEnd (d := d) hs h hd hk
    have he : (m.o + (k : Int)) * s.len + s.len = endJ s m k := by
      unfold endJ
      rw [show m.o + 1 + (k : Int) = (m.o + k) + 1 by omega, Int.add_mul (m.o + k) 1]; omega
    refine ⟨hb, rfl, ?_, ?_, ?_, ?_, ?_⟩
    · show (passM s m t' d k).o * s.len = _; rw [passM_o]
    · show 0 ≤ (passM s m t' d k).k + nowJ s m t' d k - (passM s m t' d k).fr
      have := ha.fr; have := ha.k; omega
    · show (passM s m t' d k).o * s.len + s.len ≤ m2.t
      rw [passM_o, he, e2]; exact ha.e.2
    · show m.t < (passM s m t' d k).o * s.len + s.len
      rw [passM_o, he]; exact ha.e.1
    · intro hg
      rw [e2] at hg
      exact or2r _ _ (passF_gap hg)
  · rw [e2] at hg hm
    rw [e3] at hm
    apply e4 0
    show (if _ then _ else _) &&& 2 ≠ 0
    rw [if_pos hm]
    exact or2r _ _ (passF_gap hg)
theorem sample_run (hs : s.Ok) (h : Ok s m i) (t : Int) (v : Nat) : RunI s m (sampleV s m t v).2.2 (sampleV s m t v).2.1 := by
  rw [sample_form]
  split
  · exact run_same hs
  · split
    · next hb => exact run_begin hb
    · next hb =>
      have hb : m.bg = true := by cases hq : m.bg with
        | true => rfl
        | false => exact absurd hq hb
      split
      · exact run_same hs
      · have hbs := back_same (m := m) t
        have hr := run_pass (d := smD s m v) (fl := smF s m v) (t' := max t m.t) hs (back_ok (t := t) h hb) (by rw [hbs.2.2.2.2.2.2]; exact hb) (smD_lt v) (by rw [hbs.1]; omega)
          (if difV m v > s.bound then [⟨2, max t m.t, 0, 0, difV m v⟩] else []) (fun x hx => by
            split at hx
            · rw [List.mem_singleton.1 hx]; show (2 : Nat) ≠ 1; decide
            · simp at hx) { passZ s (backM m t) (max t m.t) (smD s m v) (smF s m v) with v := v } (passM_bg _) rfl rfl (fun _ h => h)
        obtain ⟨r1, ⟨P, S, r2, r3, r4, r5⟩, r6⟩ := hr
        rw [hbs.2.2.2.2.2.2] at r1 r5 r6
        rw [hbs.1] at r6
        rw [hbs.2.2.2.1] at r5
        refine ⟨r1, ⟨P, S, r2, r3, fun k x hx => ?_, r5⟩, r6⟩
        have := r4 k x hx
        rw [hbs.1, hbs.2.2.2.1, hbs.2.2.2.2.2.2] at this
        exact this
theorem repl_run (hs : s.Ok) (h : Ok s m i) (t : Int) (v : Nat) : RunI s m (replV s m t v).2.2 (replV s m t v).2.1 := by
  rw [repl_form]
  split
  · exact run_same hs
  · split
    · next hb => exact run_begin hb
    · next hb =>
      have hb : m.bg = true := by cases hq : m.bg with
        | true => rfl
        | false => exact absurd hq hb
      split
      · exact run_same hs
      · split
        · exact run_same hs
        · have hr := run_pass (d := 0) (fl := 0) (t' := t) hs h hb (by omega) (by omega) [] (by simp) { passZ s m t 0 0 with k := (passZ s m t 0 0).k + ((eng s (passZ s m t 0 0).c : Int) - (passZ s m t 0 0).fr), c := 0, fr := 0, v := v, f := (passZ s m t 0 0).f ||| 8 } (passM_bg _) rfl rfl (fun _ h => by
            show ((passZ s m t 0 0).f ||| 8) &&& 2 ≠ 0
            rw [Nat.or_comm]
            exact or2r _ _ h)
          rw [List.append_nil] at hr
          exact hr
/-- A replacement that is not earlier, and not too late. -/
theorem repl_fwd (hs : s.Ok) (h : Ok s m i) (hb : m.bg = true) {t2 : Int} (h1 : m.t ≤ t2) (h2 : t2 ≤ m.t + 59999) (h3 : t2 < 253402300800) (v2 : Nat) : ∃ E m2, replV s m t2 v2 = (0, E, m2) ∧ m2.bg = true ∧ m2.t = t2 ∧ m2.v = v2 ∧ m2.c = 0 ∧ m2.fr = 0 ∧ m2.f &&& 8 ≠ 0 := by
  have ht := h.t
  have hf := repl_form s m t2 v2
  rw [if_neg (by unfold timeBad; omega), if_neg (by rw [hb]; simp), if_neg (by omega), if_neg (span_ok hs h h2)] at hf
  refine ⟨_, _, hf, ?_, rfl, rfl, rfl, rfl, ?_⟩
  · show (passM s m t2 0 (many s m t2)).bg = true
    rw [passM_bg]; exact hb
  · show ((passZ s m t2 0 0).f ||| 8) &&& 8 ≠ 0
    intro hz
    have h3 := congrArg (fun n => n.testBit 3) hz
    have e : Nat.testBit 8 3 = true := by decide
    simp [e] at h3
end
end Go.Kw.Mt
