/-
  Texts that the proof leans on, merged by program, part 1. Conditions stand at each theorem.
-/
import Derived.Test.YtgbkedjjgbhcmaaGreatDoorRange
import Derived.Test.YtgbkedjjgbhcmaaGreatDoorZoneOpen
import Derived.Deep.Matrix
/-
  Plans of bands, and tables of them, in plain numbers; no program in sight. Conditions stand at each theorem.
-/
namespace Go.Kw
open Go
set_option linter.unusedVariables false
set_option linter.unusedSimpArgs false

/-- Entry i of a plan: minute g i 0, band g i 1. -/
def swOk (g : Nat → Nat → Int) (i : Nat) : Prop := 0 ≤ g i 1 ∧ g i 1 ≤ 7 ∧ g i 0 < 1440 ∧ (0 < i → g (i - 1) 0 < g i 0)
instance (g : Nat → Nat → Int) (i : Nat) : Decidable (swOk g i) := by unfold swOk; infer_instance
def planOk (n : Nat) (g : Nat → Nat → Int) : Prop := (1 ≤ n ∧ n ≤ 48 ∧ g 0 0 = 0) ∧ ∀ i, i < n → swOk g i
noncomputable instance (n : Nat) (g : Nat → Nat → Int) : Decidable (planOk n g) := Classical.propDecidable _
noncomputable def planE (n : Nat) (g : Nat → Nat → Int) : Int := if planOk n g then 0 else 90
/-- The first k entries: the place of the last whose minute is not above m. -/
def swAt (g : Nat → Nat → Int) (m : Int) : Nat → Nat
  | 0 => 0
  | k + 1 => if g k 0 ≤ m then k else swAt g m k
theorem plan_mono {n : Nat} {g : Nat → Nat → Int} (h : planOk n g) : ∀ (k i : Nat), i + k < n → g i 0 + k ≤ g (i + k) 0
  | 0, i, _ => by simp
  | k + 1, i, hi => by
    have h1 := plan_mono h k i (by omega)
    have h2 := (h.2 (i + k + 1) (by omega)).2.2.2 (by omega)
    rw [show i + k + 1 - 1 = i + k by omega] at h2
    rw [show i + (k + 1) = i + k + 1 by omega]
    push_cast; omega
theorem plan_lt {n : Nat} {g : Nat → Nat → Int} (h : planOk n g) {i j : Nat} (hij : i < j) (hj : j < n) : g i 0 < g j 0 := by
  have := plan_mono h (j - i) i (by omega)
  rw [show i + (j - i) = j by omega] at this
  omega
theorem plan_lo {n : Nat} {g : Nat → Nat → Int} (h : planOk n g) {i : Nat} (hi : i < n) : 0 ≤ g i 0 := by
  rcases Nat.eq_zero_or_pos i with h0 | h0
  · rw [h0, h.1.2.2]; omega
  · have := plan_lt h h0 hi; rw [h.1.2.2] at this; omega
/-- The end of entry i. -/
def swEnd (n : Nat) (g : Nat → Nat → Int) (i : Nat) : Int := if i + 1 < n then g (i + 1) 0 else 1440
theorem swAt_spec (g : Nat → Nat → Int) (m : Int) : ∀ k, (∃ i, i < k ∧ g i 0 ≤ m) → swAt g m k < k ∧ g (swAt g m k) 0 ≤ m ∧ ∀ j, swAt g m k < j → j < k → m < g j 0
  | 0, ⟨i, h, _⟩ => absurd h (Nat.not_lt_zero _)
  | k + 1, ⟨i, h1, h2⟩ => by
    unfold swAt
    split
    · rename_i h; exact ⟨by omega, h, fun j h3 h4 => by omega⟩
    · rename_i h
      have hne : i ≠ k := fun e => h (e ▸ h2)
      obtain ⟨s1, s2, s3⟩ := swAt_spec g m k ⟨i, by omega, h2⟩
      refine ⟨by omega, s2, fun j h3 h4 => ?_⟩
      by_cases e : j = k
      · rw [e]; omega
      · exact s3 j h3 (by omega)
/-- Of a plan that may be: the first entry whose end is above m is the last that does not begin above m. -/
theorem swAt_first {n : Nat} {g : Nat → Nat → Int} (h : planOk n g) {m : Int} (hm : 0 ≤ m ∧ m < 1440) {k : Nat} (hk : k < n) (h1 : m < swEnd n g k) (h2 : ∀ j, j < k → swEnd n g j ≤ m) : swAt g m n = k := by
  have hex : ∃ i, i < n ∧ g i 0 ≤ m := ⟨0, by omega, by rw [h.1.2.2]; omega⟩
  obtain ⟨s1, s2, s3⟩ := swAt_spec g m n hex
  have hgk : g k 0 ≤ m := by
    rcases Nat.eq_zero_or_pos k with h0 | h0
    · rw [h0, h.1.2.2]; omega
    · have := h2 (k - 1) (by omega)
      unfold swEnd at this
      rw [if_pos (by omega), show k - 1 + 1 = k by omega] at this
      exact this
  rcases Nat.lt_trichotomy (swAt g m n) k with h3 | h3 | h3
  · have := s3 k h3 hk; omega
  · exact h3
  · have h4 : m < g (swAt g m n) 0 := by
      unfold swEnd at h1
      rw [if_pos (by omega)] at h1
      rcases Nat.lt_or_ge (k + 1) (swAt g m n) with h5 | h5
      · have := plan_lt h h5 s1; omega
      · rw [show swAt g m n = k + 1 by omega]; exact h1
    omega
def bandV (n : Nat) (g : Nat → Nat → Int) (m : Int) : Int := g (swAt g m n) 1
/-- Rule i of a table: season, kind, plan. -/
def brOk (np : Nat) (r : Nat → Nat → Int) (i : Nat) : Prop := 0 ≤ r i 0 ∧ r i 0 ≤ 99 ∧ 0 ≤ r i 1 ∧ r i 1 ≤ 4 ∧ 0 ≤ r i 2 ∧ r i 2 < np
instance (np : Nat) (r : Nat → Nat → Int) (i : Nat) : Decidable (brOk np r i) := by unfold brOk; infer_instance
def tabOk (np : Nat) (pl : Nat → Nat) (gp : Nat → Nat → Nat → Int) (nr : Nat) (r : Nat → Nat → Int) : Prop := (1 ≤ np ∧ np ≤ 50 ∧ nr ≤ 100) ∧ (∀ i, i < nr → brOk np r i) ∧ ∀ i, i < np → planOk (pl i) (gp i)
noncomputable instance (np : Nat) (pl : Nat → Nat) (gp : Nat → Nat → Nat → Int) (nr : Nat) (r : Nat → Nat → Int) : Decidable (tabOk np pl gp nr r) := Classical.propDecidable _
noncomputable def tabE (np : Nat) (pl : Nat → Nat) (gp : Nat → Nat → Nat → Int) (nr : Nat) (r : Nat → Nat → Int) : Int := if tabOk np pl gp nr r then 0 else 90
/-- Does rule i meet a season and a kind? -/
def brIs (r : Nat → Nat → Int) (s k : Int) (i : Nat) : Bool := (decide (r i 0 = 0) || decide (r i 0 = s)) && (decide (r i 1 = 0) || decide (r i 1 = k))
/-- The first of n places at which P says yes; n: none. -/
def fstI (P : Nat → Bool) : Nat → Nat
  | 0 => 0
  | n + 1 => if fstI P n < n then fstI P n else if P n = true then n else n + 1
theorem fstI_le (P : Nat → Bool) : ∀ n, fstI P n ≤ n
  | 0 => Nat.le_refl _
  | n + 1 => by
    have := fstI_le P n
    unfold fstI
    split
    · omega
    · split <;> omega
theorem fstI_spec (P : Nat → Bool) : ∀ n, (fstI P n < n → P (fstI P n) = true) ∧ ∀ i, i < fstI P n → i < n → P i = false
  | 0 => ⟨fun h => absurd h (Nat.not_lt_zero _), fun i _ h => absurd h (Nat.not_lt_zero _)⟩
  | n + 1 => by
    obtain ⟨h1, h2⟩ := fstI_spec P n
    have hle := fstI_le P n
    by_cases hc : fstI P n < n
    · have e : fstI P (n + 1) = fstI P n := by rw [fstI, if_pos hc]
      rw [e]
      exact ⟨fun _ => h1 hc, fun i hi _ => h2 i hi (by omega)⟩
    · have e0 : fstI P n = n := by omega
      by_cases hk : P n = true
      · have e : fstI P (n + 1) = n := by rw [fstI, if_neg hc, if_pos hk]
        rw [e]
        exact ⟨fun _ => hk, fun i hi _ => h2 i (by omega) hi⟩
      · have e : fstI P (n + 1) = n + 1 := by rw [fstI, if_neg hc, if_neg hk]
        rw [e]
        refine ⟨fun h => absurd h (Nat.lt_irrefl _), fun i hi _ => ?_⟩
        by_cases hik : i = n
        · rw [hik]; exact Bool.eq_false_iff.2 hk
        · exact h2 i (by omega) (by omega)
theorem fstI_unique (P : Nat → Bool) (n j : Nat) (hj : j ≤ n) (h1 : j < n → P j = true) (h2 : ∀ i, i < j → P i = false) : fstI P n = j := by
  obtain ⟨s1, s2⟩ := fstI_spec P n
  have hle := fstI_le P n
  rcases Nat.lt_trichotomy (fstI P n) j with h | h | h
  · have a := s1 (by omega)
    rw [h2 _ h] at a; cases a
  · exact h
  · have a := s2 j h (by omega)
    rw [h1 (by omega)] at a; cases a
theorem fst_step {P : Nat → Bool} {k : Nat} (h : P k = false) (hA : ∀ j, j < k → P j = false) : ∀ j, j < k + 1 → P j = false := fun j hj => by
  by_cases e : j = k
  · rw [e]; exact h
  · exact hA j (by omega)
/-- Its place as IndexFunc says it; whether there is one, as ContainsFunc. -/
def idxI (P : Nat → Bool) (n : Nat) : Int := if fstI P n < n then (fstI P n : Int) else -1
def anyI (P : Nat → Bool) (n : Nat) : Bool := decide (fstI P n < n)
theorem anyI_iff (P : Nat → Bool) (n : Nat) : anyI P n = true ↔ ∃ i, i < n ∧ P i = true := by
  unfold anyI
  rw [decide_eq_true_eq]
  obtain ⟨s1, s2⟩ := fstI_spec P n
  constructor
  · intro h; exact ⟨_, h, s1 h⟩
  · rintro ⟨i, hi, hp⟩
    have hle := fstI_le P n
    rcases Nat.lt_or_ge (fstI P n) n with h | h
    · exact h
    · have := s2 i (by omega) hi
      rw [hp] at this; cases this
theorem idxI_any (P : Nat → Bool) (n : Nat) : decide (idxI P n ≥ 0) = anyI P n := by
  unfold idxI anyI
  by_cases h : fstI P n < n
  · rw [if_pos h, decide_eq_true h, decide_eq_true (by omega)]
  · rw [if_neg h, decide_eq_false h]; rfl
def planV (r : Nat → Nat → Int) (nr : Nat) (s k : Int) : Int := if fstI (brIs r s k) nr < nr then r (fstI (brIs r s k) nr) 2 else 0
theorem planV_in {np : Nat} {pl : Nat → Nat} {gp : Nat → Nat → Nat → Int} {nr : Nat} {r : Nat → Nat → Int} (h : tabOk np pl gp nr r) (s k : Int) : 0 ≤ planV r nr s k ∧ planV r nr s k < np := by
  unfold planV
  split
  · rename_i hi
    have := h.2.1 _ hi
    exact ⟨this.2.2.2.2.1, this.2.2.2.2.2⟩
  · have := h.1.1; omega
/-- Version i of rates: from, and its len i prices. -/
def ver1 (f : Int) (n : Nat) (p : Nat → Int) : Prop := (0 ≤ f ∧ f < 253402300800 ∧ 1 ≤ n ∧ n ≤ 16) ∧ ∀ j, j < n → 0 ≤ p j ∧ p j ≤ 1073741824
noncomputable instance (f : Int) (n : Nat) (p : Nat → Int) : Decidable (ver1 f n p) := Classical.propDecidable _
def verOk (f : Nat → Int) (ln : Nat → Nat) (p : Nat → Nat → Int) (i : Nat) : Prop := ver1 (f i) (ln i) (p i)
def prNo (p : Int) : Bool := decide (p < 0) || decide (p > 1073741824)
theorem prNo_iff (p : Int) : prNo p = false ↔ 0 ≤ p ∧ p ≤ 1073741824 := by unfold prNo; simp
theorem prs_ok (n : Nat) (p : Nat → Int) : anyI (fun k => prNo (p k)) n = false ↔ ∀ j, j < n → 0 ≤ p j ∧ p j ≤ 1073741824 := by
  rw [← Bool.not_eq_true, anyI_iff]
  constructor
  · intro h j hj
    rw [← prNo_iff]
    exact Bool.eq_false_iff.2 (fun q => h ⟨j, hj, q⟩)
  · rintro h ⟨j, hj, q⟩
    rw [(prNo_iff _).2 (h j hj)] at q; cases q
def goB (f : Nat → Int) (ln : Nat → Nat) (i : Nat) : Prop := 0 < i → f (i - 1) < f i ∧ ln i = ln (i - 1)
instance (f : Nat → Int) (ln : Nat → Nat) (i : Nat) : Decidable (goB f ln i) := by unfold goB; infer_instance
def ratOk (nv : Nat) (f : Nat → Int) (ln : Nat → Nat) (p : Nat → Nat → Int) : Prop := nv ≤ 200 ∧ ∀ i, i < nv → verOk f ln p i ∧ goB f ln i
noncomputable instance (nv : Nat) (f : Nat → Int) (ln : Nat → Nat) (p : Nat → Nat → Int) : Decidable (ratOk nv f ln p) := Classical.propDecidable _
noncomputable def ratE (nv : Nat) (f : Nat → Int) (ln : Nat → Nat) (p : Nat → Nat → Int) : Int := if ratOk nv f ln p then 0 else 100
/-- How many of the first n begin at t or ahead of it (they stand in order). -/
def verN (f : Nat → Int) (t : Int) : Nat → Nat
  | 0 => 0
  | n + 1 => if f n ≤ t then n + 1 else verN f t n
theorem rat_lt {nv : Nat} {f : Nat → Int} {ln : Nat → Nat} {p : Nat → Nat → Int} (h : ratOk nv f ln p) : ∀ (k i : Nat), i + k + 1 < nv → f i < f (i + k + 1)
  | 0, i, hi => by
    have := ((h.2 (i + 1) (by omega)).2 (by omega)).1
    rw [show i + 1 - 1 = i by omega] at this
    exact this
  | k + 1, i, hi => by
    have h1 := rat_lt h k i (by omega)
    have h2 := ((h.2 (i + (k + 1) + 1) (by omega)).2 (by omega)).1
    rw [show i + (k + 1) + 1 - 1 = i + k + 1 by omega] at h2
    omega
theorem rat_sorted {nv : Nat} {f : Nat → Int} {ln : Nat → Nat} {p : Nat → Nat → Int} (h : ratOk nv f ln p) {i j : Nat} (hij : i < j) (hj : j < nv) : f i < f j := by
  have := rat_lt h (j - i - 1) i (by omega)
  rw [show i + (j - i - 1) + 1 = j by omega] at this
  exact this
theorem verN_le (f : Nat → Int) (t : Int) : ∀ n, verN f t n ≤ n
  | 0 => Nat.le_refl _
  | n + 1 => by
    have := verN_le f t n
    unfold verN
    split <;> omega
theorem verN_hi (f : Nat → Int) (t : Int) : ∀ n j, verN f t n ≤ j → j < n → t < f j
  | 0, j, _, h => absurd h (Nat.not_lt_zero _)
  | n + 1, j, h1, h2 => by
    unfold verN at h1
    split at h1
    · omega
    · by_cases e : j = n
      · rw [e]; omega
      · exact verN_hi f t n j h1 (by omega)
theorem verN_at (f : Nat → Int) (t : Int) : ∀ n, 0 < verN f t n → f (verN f t n - 1) ≤ t
  | 0, h => absurd h (Nat.not_lt_zero _)
  | n + 1, h => by
    unfold verN at h ⊢
    split
    · rename_i h1; simpa using h1
    · rename_i h1
      rw [if_neg h1] at h
      exact verN_at f t n h
/-- Whatever number parts the versions is this one. -/
theorem verN_unique {nv : Nat} {f : Nat → Int} {ln : Nat → Nat} {p : Nat → Nat → Int} (h : ratOk nv f ln p) (t : Int) (k : Nat) (hk : k ≤ nv) (h1 : ∀ i, i < k → f i ≤ t) (h2 : ∀ i, k ≤ i → i < nv → t < f i) : verN f t nv = k := by
  have hle := verN_le f t nv
  rcases Nat.lt_trichotomy (verN f t nv) k with h3 | h3 | h3
  · have := verN_hi f t nv (verN f t nv) (Nat.le_refl _) (by omega)
    have := h1 _ h3
    omega
  · exact h3
  · have h4 := verN_at f t nv (by omega)
    have h5 := h2 (verN f t nv - 1) (by omega) (by omega)
    omega
theorem verN_lo {nv : Nat} {f : Nat → Int} {ln : Nat → Nat} {p : Nat → Nat → Int} (h : ratOk nv f ln p) (t : Int) {i : Nat} (hi : i < verN f t nv) : f i ≤ t := by
  have h4 := verN_at f t nv (by omega)
  have hle := verN_le f t nv
  by_cases e : i = verN f t nv - 1
  · rw [e]; exact h4
  · have := rat_sorted h (show i < verN f t nv - 1 by omega) (by omega); omega
end Go.Kw

/-
  What is read of a tariff's bands and prices: slices of slices of integers, slices of an integer beside a slice. Conditions stand at each theorem.
-/
namespace Go.Proofs.YtgbkedjjgbhcmaaGreatDoor
open Go Go.RowKit Go.Kw Go.Kw.Cv Go.Joins Go.ChangeShapes Go.WideShapes Go.ChangeAt Go.Deep
set_option linter.unusedVariables false
set_option linter.unusedSimpArgs false

/-- A slice's address, length, capacity. -/
abbrev SlX : Type := Option Addr × Nat × Nat
def slV (x : SlX) : Value := .slice x.1 x.2.1 x.2.2
/-- Plans. -/
def RdPl (W : World) (A : Option Addr) (np cp : Nat) (F : Nat → SlX) (g : Nat → Nat → Nat → Int) : Prop :=
  np ≤ cp ∧ cp ≤ maxLen ∧ (A = none → np = 0) ∧ Rd W W.heap.size A np (fun i => slV (F i)) ∧ ∀ i, i < np → IRows 2 kI W (F i).1 (F i).2.1 (F i).2.2 (g i)
theorem RdPl.go {W W' : World} {A : Option Addr} {np cp : Nat} {F : Nat → SlX} {g : Nat → Nat → Nat → Int} (h : RdPl W A np cp F g) (hb : Below W.heap.size W W') : RdPl W' A np cp F g :=
  ⟨h.1, h.2.1, h.2.2.1, h.2.2.2.1.go hb, fun i hi => (h.2.2.2.2 i hi).go hb⟩
/-- Versions: from, and a slice of prices. -/
def RdRt (W : World) (A : Option Addr) (nv cv : Nat) (f : Nat → Int) (F : Nat → SlX) (p : Nat → Nat → Int) : Prop :=
  nv ≤ cv ∧ cv ≤ maxLen ∧ (A = none → nv = 0) ∧ Rd W W.heap.size A (nv * 2) (fun i => if i % 2 = 0 then .int .i64 (f (i / 2)) else slV (F (i / 2))) ∧ ∀ i, i < nv → IRows 1 kI W (F i).1 (F i).2.1 (F i).2.2 (fun j _ => p i j)
theorem RdRt.go {W W' : World} {A : Option Addr} {nv cv : Nat} {f : Nat → Int} {F : Nat → SlX} {p : Nat → Nat → Int} (h : RdRt W A nv cv f F p) (hb : Below W.heap.size W W') : RdRt W' A nv cv f F p :=
  ⟨h.1, h.2.1, h.2.2.1, h.2.2.2.1.go hb, fun i hi => (h.2.2.2.2 i hi).go hb⟩
theorem RdRt.at_ {W : World} {A : Option Addr} {nv cv : Nat} {f : Nat → Int} {F : Nat → SlX} {p : Nat → Nat → Int} (h : RdRt W A nv cv f F p) {r : Nat} (hr : r < nv) :
    ∃ b off, A = some ⟨b, off, none⟩ ∧ b < W.heap.size ∧ W.cell? ⟨b, off + r * 2, none⟩ = some (.int .i64 (f r)) ∧ W.cell? ⟨b, off + r * 2 + 1, none⟩ = some (slV (F r)) := by
  rcases h.2.2.2.1 with h0 | ⟨b, off, e, hb, hc⟩
  · omega
  · refine ⟨b, off, e, hb, ?_, ?_⟩
    · have := hc (r * 2) (by omega)
      rw [this]
      show some (if r * 2 % 2 = 0 then _ else _) = _
      rw [if_pos (by omega), show r * 2 / 2 = r by omega]
    · have := hc (r * 2 + 1) (by omega)
      rw [← Nat.add_assoc] at this
      rw [this]
      show some (if (r * 2 + 1) % 2 = 0 then _ else _) = _
      rw [if_neg (by omega), show (r * 2 + 1) / 2 = r by omega]
/-- One price. -/
theorem prices_at {W : World} {x : SlX} {p : Nat → Int} (h : IRows 1 kI W x.1 x.2.1 x.2.2 (fun j _ => p j)) {j : Nat} (hj : j < x.2.1) :
    ∃ b off, x.1 = some ⟨b, off, none⟩ ∧ b < W.heap.size ∧ W.cell? ⟨b, off + j, none⟩ = some (.int .i64 (p j)) := by
  obtain ⟨b, off, e, hb, hc⟩ := h.at_ (by omega) hj
  have := hc 0 (by omega)
  rw [Nat.mul_one, Nat.add_zero] at this
  exact ⟨b, off, e, hb, this⟩
end Go.Proofs.YtgbkedjjgbhcmaaGreatDoor
