/-
  Texts that the proof leans on, merged by program, part 1. Conditions stand at each theorem.
-/
import Derived.Below
import Derived.RangeFuncNested
import Derived.RangeFuncBound
import Derived.RangeFuncCalls
import Derived.RangeFuncLeaves
import Derived.RangeFuncFrom
import Derived.RangeFuncBox
import Derived.Scope
import Derived.WalkKit
import Derived.Laws.OwnMore
import Derived.OpenShut
import Derived.Maps.AppendAt
import Derived.OwnWalk
import Derived.OwnWalkIn
import Derived.WalkSpells
import Derived.Laws.IdiomStrings
import Derived.Laws.BytesArg
/-
  The calendar in plain numbers: leap years, months' days, a date's day; no program in sight. Conditions stand at each theorem.
-/
namespace Go.Kw.Cv
set_option linter.unusedVariables false
set_option linter.unusedSimpArgs false

def leapB (y : Int) : Bool := decide (y % 4 = 0) && (decide (y % 100 ≠ 0) || decide (y % 400 = 0))
/-- A leap year's one day more. -/
def lp (y : Int) : Int := if leapB y = true then 1 else 0
/-- How many days a month has. -/
def dim (y m : Int) : Int := if m < 1 ∨ 12 < m then 0 else if m = 2 then 28 + lp y else if m = 4 ∨ m = 6 ∨ m = 9 ∨ m = 11 then 30 else 31
/-- The days ahead of a year; of a month in its year. -/
def ahd (y : Int) : Int := 365 * (y - 1970) + ((y - 1) / 4 - (y - 1) / 100 + (y - 1) / 400) - 477
def mst (y m : Int) : Int :=
  if m = 1 then 0 else if m = 2 then 31 else if m = 3 then 59 + lp y else if m = 4 then 90 + lp y else if m = 5 then 120 + lp y else if m = 6 then 151 + lp y else
  if m = 7 then 181 + lp y else if m = 8 then 212 + lp y else if m = 9 then 243 + lp y else if m = 10 then 273 + lp y else if m = 11 then 304 + lp y else 334 + lp y
/-- May a date be? Its day. -/
def okD (y m d : Int) : Prop := 1970 ≤ y ∧ y ≤ 9999 ∧ 1 ≤ d ∧ d ≤ dim y m
instance (y m d : Int) : Decidable (okD y m d) := by unfold okD; infer_instance
def dayN (y m d : Int) : Int := ahd y + mst y m + d - 1
theorem leapB_true (y : Int) : leapB y = true ↔ y % 4 = 0 ∧ (y % 100 ≠ 0 ∨ y % 400 = 0) := by unfold leapB; simp
theorem lp_cases (y : Int) : (lp y = 1 ∧ y % 4 = 0 ∧ (y % 100 ≠ 0 ∨ y % 400 = 0)) ∨ (lp y = 0 ∧ ¬ (y % 4 = 0 ∧ (y % 100 ≠ 0 ∨ y % 400 = 0))) := by
  unfold lp
  by_cases h : leapB y = true
  · exact .inl ⟨if_pos h, (leapB_true y).1 h⟩
  · exact .inr ⟨if_neg h, fun h2 => h ((leapB_true y).2 h2)⟩
theorem lp_01 (y : Int) : 0 ≤ lp y ∧ lp y ≤ 1 := by rcases lp_cases y with h | h <;> omega
theorem ahd_step (y : Int) : ahd (y + 1) = ahd y + 365 + lp y := by
  have h := lp_cases y
  unfold ahd
  rcases h with h | h <;> omega
theorem ahd_up (y : Int) : ∀ k : Nat, ahd y + 365 * k ≤ ahd (y + k)
  | 0 => by simp
  | k + 1 => by
    have h1 := ahd_up y k
    have h2 := ahd_step (y + k)
    have h3 := lp_01 (y + k)
    rw [show y + ((k + 1 : Nat) : Int) = y + k + 1 by push_cast; omega, h2]
    push_cast; omega
theorem ahd_mono {y y' : Int} (h : y ≤ y') : ahd y + 365 * (y' - y) ≤ ahd y' := by
  obtain ⟨k, rfl⟩ : ∃ k : Nat, y' = y + k := ⟨(y' - y).toNat, by omega⟩
  have := ahd_up y k
  omega
theorem ahd_1970 : ahd 1970 = 0 := by decide
theorem ahd_10000 : ahd 10000 = 2932897 := by decide
theorem dim_month {y m d : Int} (h : okD y m d) : 1 ≤ m ∧ m ≤ 12 := by
  unfold okD dim at h
  by_cases h1 : m < 1 ∨ 12 < m
  · rw [if_pos h1] at h; omega
  · omega
theorem month_cases {m : Int} (h : 1 ≤ m ∧ m ≤ 12) : m = 1 ∨ m = 2 ∨ m = 3 ∨ m = 4 ∨ m = 5 ∨ m = 6 ∨ m = 7 ∨ m = 8 ∨ m = 9 ∨ m = 10 ∨ m = 11 ∨ m = 12 := by omega
theorem mst_step (y m : Int) (h : 1 ≤ m ∧ m ≤ 11) : mst y (m + 1) = mst y m + dim y m := by
  rcases month_cases (show 1 ≤ m ∧ m ≤ 12 by omega) with rfl | rfl | rfl | rfl | rfl | rfl | rfl | rfl | rfl | rfl | rfl | rfl
  all_goals first | (exfalso; omega) | (simp [mst, dim]; try omega)
theorem mst_1 (y : Int) : mst y 1 = 0 := rfl
theorem mst_12 (y : Int) : mst y 12 + dim y 12 = 365 + lp y := by simp [mst, dim]; omega
theorem dim_lo (y m : Int) (h : 1 ≤ m ∧ m ≤ 12) : 28 ≤ dim y m ∧ dim y m ≤ 31 := by
  have := lp_01 y
  rcases month_cases h with rfl | rfl | rfl | rfl | rfl | rfl | rfl | rfl | rfl | rfl | rfl | rfl
  all_goals (simp [dim]; try omega)
theorem mst_up (y : Int) : ∀ (k : Nat) (m : Int), 1 ≤ m → m + k ≤ 12 → 0 < k → mst y m + dim y m ≤ mst y (m + k)
  | 0, m, h1, h2, h3 => by omega
  | 1, m, h1, h2, h3 => by
    have := mst_step y m (by omega)
    rw [show m + ((1 : Nat) : Int) = m + 1 by omega, this]; exact Int.le_refl _
  | k + 2, m, h1, h2, h3 => by
    have ih := mst_up y (k + 1) m h1 (by push_cast at h2 ⊢; omega) (by omega)
    have := mst_step y (m + (k + 1 : Nat)) (by push_cast at h2 ⊢; omega)
    have hd := dim_lo y (m + (k + 1 : Nat)) (by push_cast at h2 ⊢; omega)
    rw [show m + ((k + 2 : Nat) : Int) = m + ((k + 1 : Nat) : Int) + 1 by push_cast; omega, this]
    omega
theorem mst_mono {y m m' : Int} (h : 1 ≤ m) (hm : m < m') (h' : m' ≤ 12) : mst y m + dim y m ≤ mst y m' := by
  obtain ⟨k, rfl⟩ : ∃ k : Nat, m' = m + k := ⟨(m' - m).toNat, by omega⟩
  exact mst_up y k m h (by omega) (by omega)
theorem mst_lo (y m : Int) (h : 1 ≤ m ∧ m ≤ 12) : 0 ≤ mst y m ∧ mst y m + dim y m ≤ 365 + lp y := by
  have h12 := mst_12 y
  have hd := dim_lo y m h
  have h0 := dim_lo y 1 (by omega)
  have h1 := mst_1 y
  rcases Int.lt_trichotomy m 12 with h2 | h2 | h2
  · have := mst_mono (y := y) h.1 h2 (Int.le_refl _)
    have hd12 := dim_lo y 12 (by omega)
    rcases Int.lt_trichotomy m 1 with h3 | h3 | h3
    · omega
    · subst h3; omega
    · have := mst_mono (y := y) (Int.le_refl 1) h3 h.2; omega
  · subst h2
    have := mst_mono (y := y) (Int.le_refl 1) (show (1 : Int) < 12 by omega) (Int.le_refl _)
    omega
  · omega
theorem day_in {y m d : Int} (h : okD y m d) : ahd y ≤ dayN y m d ∧ dayN y m d < ahd (y + 1) := by
  have hm := dim_month h
  have h1 := mst_lo y m hm
  have h2 := ahd_step y
  unfold okD at h
  unfold dayN
  omega
theorem day_range {y m d : Int} (h : okD y m d) : 0 ≤ dayN y m d ∧ dayN y m d ≤ 2932896 := by
  have h1 := day_in h
  have h2 := ahd_mono (show (1970 : Int) ≤ y from h.1)
  have h3 := ahd_mono (show y + 1 ≤ 10000 by have := h.2.1; omega)
  rw [ahd_1970] at h2
  rw [ahd_10000] at h3
  unfold okD at h
  omega
theorem day_inj {y m d y' m' d' : Int} (h : okD y m d) (h' : okD y' m' d') (e : dayN y m d = dayN y' m' d') : y = y' ∧ m = m' ∧ d = d' := by
  have hy : y = y' := by
    have h1 := day_in h
    have h2 := day_in h'
    rcases Int.lt_trichotomy y y' with h3 | h3 | h3
    · have := ahd_mono (show y + 1 ≤ y' by omega); omega
    · exact h3
    · have := ahd_mono (show y' + 1 ≤ y by omega); omega
  subst hy
  have k1 := dim_month h
  have k2 := dim_month h'
  have hm : m = m' := by
    unfold dayN at e
    unfold okD at h h'
    rcases Int.lt_trichotomy m m' with h3 | h3 | h3
    · have := mst_mono (y := y) k1.1 h3 k2.2; omega
    · exact h3
    · have := mst_mono (y := y) k2.1 h3 k1.2; omega
  subst hm
  unfold dayN at e
  exact ⟨rfl, rfl, by omega⟩
theorem month_ex (y r : Int) (h : 0 ≤ r ∧ r < 365 + lp y) : ∃ m, 1 ≤ m ∧ m ≤ 12 ∧ mst y m ≤ r ∧ r < mst y m + dim y m := by
  have h12 := mst_12 y
  have : ∀ k : Nat, k < 12 → (∃ m, 1 ≤ m ∧ m ≤ 12 ∧ mst y m ≤ r ∧ r < mst y m + dim y m) ∨ mst y (k + 1) ≤ r := by
    intro k
    induction k with
    | zero => intro _; right; show mst y 1 ≤ r; rw [mst_1]; exact h.1
    | succ k ih =>
      intro hk
      rcases ih (by omega) with h1 | h1
      · exact .inl h1
      · by_cases h2 : r < mst y (k + 1) + dim y (k + 1)
        · exact .inl ⟨k + 1, by omega, by omega, h1, h2⟩
        · right
          have := mst_step y (k + 1) (by omega)
          rw [show ((k + 1 : Nat) : Int) + 1 = (k : Int) + 1 + 1 by push_cast; rfl, this]; omega
  rcases this 11 (by omega) with h1 | h1
  · exact h1
  · have h1 : mst y 12 ≤ r := h1
    exact ⟨12, by omega, by omega, h1, by omega⟩
theorem year_ex (n : Int) (h : 0 ≤ n ∧ n ≤ 2932896) : ∃ y, 1970 ≤ y ∧ y ≤ 9999 ∧ ahd y ≤ n ∧ n < ahd (y + 1) := by
  have : ∀ k : Nat, k ≤ 8030 → (∃ y, 1970 ≤ y ∧ y ≤ 9999 ∧ ahd y ≤ n ∧ n < ahd (y + 1)) ∨ ahd (1970 + k) ≤ n := by
    intro k
    induction k with
    | zero => intro _; right; show ahd (1970 + 0) ≤ n; rw [Int.add_zero, ahd_1970]; exact h.1
    | succ k ih =>
      intro hk
      rcases ih (by omega) with h1 | h1
      · exact .inl h1
      · by_cases h2 : n < ahd (1970 + k + 1)
        · exact .inl ⟨1970 + k, by omega, by omega, h1, h2⟩
        · right
          rw [show (1970 : Int) + ((k + 1 : Nat) : Int) = 1970 + k + 1 by push_cast; omega]; omega
  rcases this 8030 (Nat.le_refl _) with h1 | h1
  · exact h1
  · have h1 : ahd 10000 ≤ n := h1
    rw [ahd_10000] at h1; omega
theorem day_ex (n : Int) (h : 0 ≤ n ∧ n ≤ 2932896) : ∃ y m d, okD y m d ∧ dayN y m d = n := by
  obtain ⟨y, h1, h2, h3, h4⟩ := year_ex n h
  have h5 := ahd_step y
  obtain ⟨m, k1, k2, k3, k4⟩ := month_ex y (n - ahd y) (by omega)
  exact ⟨y, m, n - ahd y - mst y m + 1, ⟨h1, h2, by omega, by omega⟩, by unfold dayN; omega⟩
end Go.Kw.Cv

/-
  The law of a range over a function that this work uses: the iterator's contract 'SeqX' (its elements in a list, what it holds of memory at each of its yields, what it does to memory), and the statement's law 'wpIn_rangeX'. Turned from the guide's own law 'wpIn_rangeFunc_ownF'.
-/
namespace Go.Kw
open Go Go.RowKit

/-- What is said of the world abides new blocks, and the turn of a block from B on that is no cells. -/
def OwnW (B : Nat) (I : World → Prop) : Prop :=
  ∀ W W' row, I W → W.grownBy W' row → (∀ r, row = some r → B ≤ r ∧ ∃ o : Obj, W.heap[r]? = some o ∧ o.isCells = false) → I W'

theorem OwnW.putObj {B : Nat} {I : World → Prop} (h : OwnW B I) {W : World} {l : Nat} {o : Obj} (o' : Obj) (hs : I W) (hB : B ≤ l) (hl : W.heap[l]? = some o) (ho : o.isCells = false) : I (W.putObj l o') :=
  h W _ (some l) hs (grownBy_putObj' W l o') (fun r e => by cases e; exact ⟨hB, o, hl, ho⟩)
theorem OwnW.alloc {B : Nat} {I : World → Prop} (h : OwnW B I) {W : World} (o : Obj) (hs : I W) : I (W.alloc o) :=
  h W _ none hs (World.grownBy_alloc W o none) (fun r e => by cases e)
theorem OwnW.and {B : Nat} {I I' : World → Prop} (h : OwnW B I) (h' : OwnW B I') : OwnW B (fun W => I W ∧ I' W) := fun W W' row hs hg hr => ⟨h W W' row hs.1 hg hr, h' W W' row hs.2 hg hr⟩
theorem OwnW.const {B : Nat} (p : Prop) : OwnW B (fun _ => p) := fun _ _ _ h _ _ => h
theorem OwnW.ex {B : Nat} {β : Sort _} {I : β → World → Prop} (h : ∀ b, OwnW B (I b)) : OwnW B (fun W => ∃ b, I b W) :=
  fun W W' row ⟨b, hb⟩ hg hr => ⟨b, h b W W' row hb hg hr⟩

/-- THE CONTRACT OF AN ITERATOR: 'xs' what it hands over, one by one; 'Gi' what it wants of memory when it begins; 'G k' what holds at its yield number k and what the body must keep; 'Gd' what holds when it has come to its end, 'Gs k' when the body has said no at yield k; 'Ab' what it does to memory by itself. -/
def SeqX {α : Type} (F : Fence) (n : Nat) (P : Program) (g : Nat) (lb : Array Value) (encs : α → Array Value) (xs : List α) (Ab : World → World → Prop)
    (Gi : World → Prop) (G : Nat → World → Prop) (Gd : World → Prop) (Gs : Nat → World → Prop) : Prop :=
  ∀ (l : Nat) (J Jx : Nat → World → Prop), (∀ k A B, J k A → Ab A B → J k B) → (∀ k A B, Jx k A → Ab A B → Jx k B) →
    (∀ k x W1, xs[k]? = some x → J k W1 → G k W1 → YieldAt F (n - 1) P l (encs x) W1 fun e W' =>
      G k W' ∧ ((e = .returned (.bool true) ∧ J (k + 1) W') ∨ (e = .returned (.bool false) ∧ Jx (k + 1) W'))) →
    ∀ W, Gi W → J 0 W →
    CallsIn F n P g (#[.func (.yield l) #[] #[]] ++ lb) W fun e W' => (∃ v, e = .returned v) ∧ ((J xs.length W' ∧ Gd W') ∨ (∃ k, k < xs.length ∧ Jx (k + 1) W' ∧ Gs k W'))

/-- How the body of a round may be left. -/
def postX (Gk : World → Prop) (I : World → Prop) (Ix : Code → World → Prop) (W : World) : Exit → Act → World → Prop
  | .normal, _, W' => KeepsOthers W W' ∧ Gk W' ∧ I W'
  | .ret, _, W' => KeepsOthers W W' ∧ Gk W' ∧ Ix .ret W'
  | .exit id, _, W' => KeepsOthers W W' ∧ Gk W' ∧ Ix (.exit id) W'
  | .goto t, _, W' => KeepsOthers W W' ∧ Gk W' ∧ Ix (.goto t) W'
  | .panic _, _, _ => False
  | .outgrown, _, _ => False

variable {F : Fence} {n : Nat} {P : Program}

theorem wpIn_rangeX {α : Type} {g : Operand} {ps : Array Tmp} {assign body : Code} {Q : Exit → Act → World → Prop} {a : Act} {w : World}
    (hro : F.round = none) (h1 : 1 ≤ n) {gf : Nat} {lb : Array Value} (hg : a.eval g = .func (.func gf) #[] lb) (hFg : F.fn gf) (eg : ∀ args w, (callFunc gf args).run P w = .ok (.enter gf args) w)
    {encs : α → Array Value} {xs : List α} {Ab : World → World → Prop} {Gi : World → Prop} {G : Nat → World → Prop} {Gd : World → Prop} {Gs : Nat → World → Prop}
    (hseq : SeqX F (n - 1) P gf lb encs xs Ab Gi G Gd Gs)
    (hAb : ∀ A B, Ab A B → KeepsOthers A B) (hps : ∀ x, (encs x).size = ps.size)
    (oGi : OwnW w.heap.size Gi) (oG : ∀ k, OwnW w.heap.size (G k)) (oGd : OwnW w.heap.size Gd) (oGs : ∀ k, OwnW w.heap.size (Gs k)) (hGi : Gi w)
    (I : Nat → World → Prop) (Ix : Code → Nat → World → Prop) (hI : ∀ k, OwnW w.heap.size (I k)) (hIx : ∀ c k, OwnW w.heap.size (Ix c k))
    (hIA : ∀ k A B, I k A → Ab A B → I k B) (hIxA : ∀ c k A B, Ix c k A → Ab A B → Ix c k B) (h0 : I 0 w)
    (hround : ∀ (l k : Nat) (x : α) (W : World), xs[k]? = some x → I k W → G k W →
      assign.wpIn (F.inRound l) (n - 1 - 1) P (Exit.then (fun a' W' => W' = W ∧ ∀ W1, I k W1 → G k W1 → w.heap.size + 1 < W1.heap.size → body.wpIn (F.inRound l) (n - 1 - 1) P (postX (G k) (I (k + 1)) (fun c => Ix c (k + 1)) W1) a' W1) (fun _ _ _ => False))
        { tmps := (ps.zip (encs x)).foldl (fun t (p, v) => t.setIfInBounds p v) a.tmps, defers := [] } W)
    (hdone : ∀ (D : Nat) (W : World), w.heap.size ≤ D → I xs.length W → Gd W → W.heap[D]? = some (.deferred (some [])) → Q .normal { a with defers := { target := .collected D, args := #[] } :: a.defers } W)
    (hstop : ∀ (D : Nat) (c : Code) (k : Nat) (W : World), w.heap.size ≤ D → k < xs.length → Ix c (k + 1) W → Gs k W → W.heap[D]? = some (.deferred (some [])) → c.wpIn F n P Q { a with defers := { target := .collected D, args := #[] } :: a.defers } W) :
    (Code.rangeFunc g ps assign body).wpIn F n P Q a w := by
  refine wpIn_rangeFunc ?_
  intro fn hfn
  rw [hro]
  obtain ⟨rec, hrec⟩ : ∃ rec : LoopState → Option Code → Loop, rec = fun st pe => { state := st, pending := pe, fn, tmps := a.tmps, params := ps, assign, body, defers := w.heap.size } := ⟨_, rfl⟩
  obtain ⟨W1, hW1⟩ : ∃ W1, (w.alloc (.deferred (some []))).alloc (.loop (rec .ready none)) = W1 := ⟨_, rfl⟩
  have hL1 : W1.heap[w.heap.size + 1]? = some (.loop (rec .ready none)) := by
    rw [← hW1]; have := World.alloc_heap_new (w.alloc (.deferred (some []))) (.loop (rec .ready none)); rwa [World.size_alloc] at this
  have hK1 : W1.heap[w.heap.size]? = some (.deferred (some [])) := by
    rw [← hW1]; exact (Below.heap_alloc _ _ _ (by simp)).trans (World.alloc_heap_new w _)
  have hI1 : I 0 W1 := by rw [← hW1]; exact (hI 0).alloc _ ((hI 0).alloc _ h0)
  have hG1 : Gi W1 := by rw [← hW1]; exact oGi.alloc _ (oGi.alloc _ hGi)
  refine ⟨w.heap.size + 1, [{ target := .collected w.heap.size, args := #[] }], W1, { target := .fn (.func gf) lb, args := #[.func (.yield (w.heap.size + 1)) #[] #[]] }, W1, gf,
    #[.func (.yield (w.heap.size + 1)) #[] #[]] ++ lb, W1, ?_, ?_, ?_, ?_, fun _ => h1, ?_⟩
  · rw [← hW1, hrec]; exact run_enterLoop_outer _ _ _ _ _
  · simp only [resolve, hg]
    simp [go_sem]
  · intro f' hf'; simp [Target.leads] at hf'; subst hf'; exact hFg
  · simp [invoke, go_sem, eg]
  · refine (hseq (w.heap.size + 1)
      (fun k W => I k W ∧ W.heap[w.heap.size + 1]? = some (.loop (rec .ready none)) ∧ W.heap[w.heap.size]? = some (.deferred (some [])))
      (fun k W => ∃ c, Ix c k W ∧ W.heap[w.heap.size + 1]? = some (.loop (rec .done (some c))) ∧ W.heap[w.heap.size]? = some (.deferred (some [])))
      (fun k A B hs hab => ⟨hIA k A B hs.1 hab, (hAb A B hab).same _ _ hs.2.1 rfl, (hAb A B hab).same _ _ hs.2.2 rfl⟩)
      (fun k A B hs hab => by
        obtain ⟨c, hc, hl, hk⟩ := hs
        exact ⟨c, hIxA c k A B hc hab, (hAb A B hab).same _ _ hl rfl, (hAb A B hab).same _ _ hk rfl⟩)
      ?_ W1 hG1 ⟨hI1, hL1, hK1⟩).mono ?_
    · -- ONE ROUND
      rintro k x W hx ⟨hi, hl, hk⟩ hG
      have hlt : w.heap.size + 1 < W.heap.size := (Array.getElem?_eq_some_iff.1 hl).1
      have hy := run_yield (P := P) (args := encs x) hl (by rw [hrec]; exact hps x)
      rw [hrec] at hy
      have hl2 : (W.putObj (w.heap.size + 1) (.loop { rec .ready none with state := .busy })).heap[w.heap.size + 1]? = some (.loop { rec .ready none with state := .busy }) := World.putObj_heap_same hlt
      have hk2 : (W.putObj (w.heap.size + 1) (.loop { rec .ready none with state := .busy })).heap[w.heap.size]? = some (.deferred (some [])) := (World.putObj_heap_other (by omega)).trans hk
      refine ⟨fn, _, assign, body, hy, roundIn_of_wpIn hfn (wpIn_mono (hround _ k x W hx hi hG) ?_)⟩
      rintro e a1 W' hq
      cases e with
      | normal =>
        obtain ⟨rfl, hbody⟩ := hq
        refine ⟨_, run_beginRound hl (by rw [hrec]), ?_⟩
        refine wpIn_mono (hbody _ ((hI k).putObj _ hi (by omega) hl rfl) ((oG k).putObj _ hG (by omega) hl rfl) (by simp; omega)) ?_
        have fin : ∀ (jump : Option Code) (W3 : World), KeepsOthers (W'.putObj (w.heap.size + 1) (.loop { rec .ready none with state := .busy })) W3 →
            (Instr.endRound (w.heap.size + 1) jump).run P W3 = .ok (.bool jump.isNone) (W3.putObj (w.heap.size + 1) (.loop (rec (if jump.isNone then .ready else .done) jump))) ∧
            W3.heap[w.heap.size + 1]? = some (.loop { rec .ready none with state := .busy }) ∧
            (W3.putObj (w.heap.size + 1) (.loop (rec (if jump.isNone then .ready else .done) jump))).heap[w.heap.size + 1]? = some (.loop (rec (if jump.isNone then .ready else .done) jump)) ∧
            (W3.putObj (w.heap.size + 1) (.loop (rec (if jump.isNone then .ready else .done) jump))).heap[w.heap.size]? = some (.deferred (some [])) := fun jump W3 hk3 => by
          have hl3 := hk3.same _ _ hl2 rfl
          have := run_endRound (P := P) jump hl3
          rw [hrec] at this ⊢
          exact ⟨this, by rw [hrec] at hl3; exact hl3, World.putObj_heap_same (Array.getElem?_eq_some_iff.1 hl3).1, (World.putObj_heap_other (by omega)).trans (hk3.same _ _ hk2 rfl)⟩
        rintro e a3 W3 hp
        cases e with
        | normal =>
          obtain ⟨hk3, hg3, hi3⟩ := hp
          obtain ⟨hr, hl3, hl4, hk4⟩ := fin none W3 hk3
          exact ⟨_, _, hr, (oG k).putObj _ hg3 (by omega) hl3 rfl, .inl ⟨rfl, (hI _).putObj _ hi3 (by omega) hl3 rfl, hl4, hk4⟩⟩
        | ret =>
          obtain ⟨hk3, hg3, hi3⟩ := hp
          obtain ⟨hr, hl3, hl4, hk4⟩ := fin (some .ret) W3 hk3
          exact ⟨_, _, hr, (oG k).putObj _ hg3 (by omega) hl3 rfl, .inr ⟨rfl, .ret, (hIx _ _).putObj _ hi3 (by omega) hl3 rfl, hl4, hk4⟩⟩
        | exit id =>
          obtain ⟨hk3, hg3, hi3⟩ := hp
          obtain ⟨hr, hl3, hl4, hk4⟩ := fin (some (.exit id)) W3 hk3
          exact ⟨_, _, hr, (oG k).putObj _ hg3 (by omega) hl3 rfl, .inr ⟨rfl, .exit id, (hIx _ _).putObj _ hi3 (by omega) hl3 rfl, hl4, hk4⟩⟩
        | goto t =>
          obtain ⟨hk3, hg3, hi3⟩ := hp
          obtain ⟨hr, hl3, hl4, hk4⟩ := fin (some (.goto t)) W3 hk3
          exact ⟨_, _, hr, (oG k).putObj _ hg3 (by omega) hl3 rfl, .inr ⟨rfl, .goto t, (hIx _ _).putObj _ hi3 (by omega) hl3 rfl, hl4, hk4⟩⟩
        | panic ch => exact hp.elim
        | outgrown => exact hp.elim
      | ret => exact hq.elim
      | exit id => exact hq.elim
      | goto t => exact hq.elim
      | panic ch => exact hq.elim
      | outgrown => exact hq.elim
    · -- BEHIND THE ITERATOR
      rintro e W2 ⟨⟨v, rfl⟩, (⟨⟨hi, hl, hk⟩, hd⟩ | ⟨k, hkl, ⟨c, hi, hl, hk⟩, hs⟩)⟩
      · exact ⟨none, _, by have := run_endLoop (P := P) hl (by rw [hrec]; simp); rw [hrec] at this; exact this, hdone _ _ (Nat.le_refl _) ((hI _).putObj _ hi (by omega) hl rfl) (oGd.putObj _ hd (by omega) hl rfl) ((World.putObj_heap_other (by omega)).trans hk)⟩
      · exact ⟨some c, _, by have := run_endLoop (P := P) hl (by rw [hrec]; simp); rw [hrec] at this; exact this, hstop _ c k _ (Nat.le_refl _) hkl ((hIx c _).putObj _ hi (by omega) hl rfl) ((oGs k).putObj _ hs (by omega) hl rfl) ((World.putObj_heap_other (by omega)).trans hk)⟩

/-- THE CONTRACT OF AN ITERATOR whose values are known only when they are handed over: 'N' how many; 'V k v' what holds of the values v of yield number k; else as SeqX. -/
def SeqV (F : Fence) (n : Nat) (P : Program) (g : Nat) (lb : Array Value) (N : Nat) (V : Nat → Array Value → World → Prop) (Ab : World → World → Prop)
    (Gi : World → Prop) (G : Nat → World → Prop) (Gd : World → Prop) (Gs : Nat → World → Prop) : Prop :=
  ∀ (l : Nat) (J Jx : Nat → World → Prop), (∀ k A B, J k A → Ab A B → J k B) → (∀ k A B, Jx k A → Ab A B → Jx k B) →
    (∀ k v W1, k < N → V k v W1 → J k W1 → G k W1 → YieldAt F (n - 1) P l v W1 fun e W' =>
      G k W' ∧ ((e = .returned (.bool true) ∧ J (k + 1) W') ∨ (e = .returned (.bool false) ∧ Jx (k + 1) W'))) →
    ∀ W, Gi W → J 0 W →
    CallsIn F n P g (#[.func (.yield l) #[] #[]] ++ lb) W fun e W' => (∃ v, e = .returned v) ∧ ((J N W' ∧ Gd W') ∨ (∃ k, k < N ∧ Jx (k + 1) W' ∧ Gs k W'))

theorem wpIn_rangeV {g : Operand} {ps : Array Tmp} {assign body : Code} {Q : Exit → Act → World → Prop} {a : Act} {w : World}
    (hro : F.round = none) (h1 : 1 ≤ n) {gf : Nat} {lb : Array Value} (hg : a.eval g = .func (.func gf) #[] lb) (hFg : F.fn gf) (eg : ∀ args w, (callFunc gf args).run P w = .ok (.enter gf args) w)
    {N : Nat} {V : Nat → Array Value → World → Prop} {Ab : World → World → Prop} {Gi : World → Prop} {G : Nat → World → Prop} {Gd : World → Prop} {Gs : Nat → World → Prop}
    (hseq : SeqV F (n - 1) P gf lb N V Ab Gi G Gd Gs)
    (hAb : ∀ A B, Ab A B → KeepsOthers A B) (hps : ∀ k v W, V k v W → v.size = ps.size)
    (oGi : OwnW w.heap.size Gi) (oG : ∀ k, OwnW w.heap.size (G k)) (oGd : OwnW w.heap.size Gd) (oGs : ∀ k, OwnW w.heap.size (Gs k)) (hGi : Gi w)
    (I : Nat → World → Prop) (Ix : Code → Nat → World → Prop) (hI : ∀ k, OwnW w.heap.size (I k)) (hIx : ∀ c k, OwnW w.heap.size (Ix c k))
    (hIA : ∀ k A B, I k A → Ab A B → I k B) (hIxA : ∀ c k A B, Ix c k A → Ab A B → Ix c k B) (h0 : I 0 w)
    (hround : ∀ (l k : Nat) (x : Array Value) (W : World), k < N → V k x W → I k W → G k W →
      assign.wpIn (F.inRound l) (n - 1 - 1) P (Exit.then (fun a' W' => KeepsOthers W W' ∧ I k W' ∧ G k W' ∧ ∃ T : World → Prop, OwnW w.heap.size T ∧ T W' ∧ ∀ W1, T W1 → I k W1 → G k W1 → w.heap.size + 1 < W1.heap.size → body.wpIn (F.inRound l) (n - 1 - 1) P (postX (G k) (I (k + 1)) (fun c => Ix c (k + 1)) W1) a' W1) (fun _ _ _ => False))
        { tmps := (ps.zip x).foldl (fun t (p, v) => t.setIfInBounds p v) a.tmps, defers := [] } W)
    (hdone : ∀ (D : Nat) (W : World), w.heap.size ≤ D → I N W → Gd W → W.heap[D]? = some (.deferred (some [])) → Q .normal { a with defers := { target := .collected D, args := #[] } :: a.defers } W)
    (hstop : ∀ (D : Nat) (c : Code) (k : Nat) (W : World), w.heap.size ≤ D → k < N → Ix c (k + 1) W → Gs k W → W.heap[D]? = some (.deferred (some [])) → c.wpIn F n P Q { a with defers := { target := .collected D, args := #[] } :: a.defers } W) :
    (Code.rangeFunc g ps assign body).wpIn F n P Q a w := by
  refine wpIn_rangeFunc ?_
  intro fn hfn
  rw [hro]
  obtain ⟨rec, hrec⟩ : ∃ rec : LoopState → Option Code → Loop, rec = fun st pe => { state := st, pending := pe, fn, tmps := a.tmps, params := ps, assign, body, defers := w.heap.size } := ⟨_, rfl⟩
  obtain ⟨W1, hW1⟩ : ∃ W1, (w.alloc (.deferred (some []))).alloc (.loop (rec .ready none)) = W1 := ⟨_, rfl⟩
  have hL1 : W1.heap[w.heap.size + 1]? = some (.loop (rec .ready none)) := by
    rw [← hW1]; have := World.alloc_heap_new (w.alloc (.deferred (some []))) (.loop (rec .ready none)); rwa [World.size_alloc] at this
  have hK1 : W1.heap[w.heap.size]? = some (.deferred (some [])) := by
    rw [← hW1]; exact (Below.heap_alloc _ _ _ (by simp)).trans (World.alloc_heap_new w _)
  have hI1 : I 0 W1 := by rw [← hW1]; exact (hI 0).alloc _ ((hI 0).alloc _ h0)
  have hG1 : Gi W1 := by rw [← hW1]; exact oGi.alloc _ (oGi.alloc _ hGi)
  refine ⟨w.heap.size + 1, [{ target := .collected w.heap.size, args := #[] }], W1, { target := .fn (.func gf) lb, args := #[.func (.yield (w.heap.size + 1)) #[] #[]] }, W1, gf,
    #[.func (.yield (w.heap.size + 1)) #[] #[]] ++ lb, W1, ?_, ?_, ?_, ?_, fun _ => h1, ?_⟩
  · rw [← hW1, hrec]; exact run_enterLoop_outer _ _ _ _ _
  · simp only [resolve, hg]
    simp [go_sem]
  · intro f' hf'; simp [Target.leads] at hf'; subst hf'; exact hFg
  · simp [invoke, go_sem, eg]
  · refine (hseq (w.heap.size + 1)
      (fun k W => I k W ∧ W.heap[w.heap.size + 1]? = some (.loop (rec .ready none)) ∧ W.heap[w.heap.size]? = some (.deferred (some [])))
      (fun k W => ∃ c, Ix c k W ∧ W.heap[w.heap.size + 1]? = some (.loop (rec .done (some c))) ∧ W.heap[w.heap.size]? = some (.deferred (some [])))
      (fun k A B hs hab => ⟨hIA k A B hs.1 hab, (hAb A B hab).same _ _ hs.2.1 rfl, (hAb A B hab).same _ _ hs.2.2 rfl⟩)
      (fun k A B hs hab => by
        obtain ⟨c, hc, hl, hk⟩ := hs
        exact ⟨c, hIxA c k A B hc hab, (hAb A B hab).same _ _ hl rfl, (hAb A B hab).same _ _ hk rfl⟩)
      ?_ W1 hG1 ⟨hI1, hL1, hK1⟩).mono ?_
    · -- ONE ROUND
      rintro k x W hx hV ⟨hi, hl, hk⟩ hG
      have hlt : w.heap.size + 1 < W.heap.size := (Array.getElem?_eq_some_iff.1 hl).1
      have hy := run_yield (P := P) (args := x) hl (by rw [hrec]; exact hps k x W hV)
      rw [hrec] at hy
      refine ⟨fn, _, assign, body, hy, roundIn_of_wpIn hfn (wpIn_mono (hround _ k x W hx hV hi hG) ?_)⟩
      rintro e a1 W' hq
      cases e with
      | normal =>
        obtain ⟨hko, hi', hg', T, oT, hT, hbody⟩ := hq
        have hl' := hko.same _ _ hl rfl
        have hk' := hko.same _ _ hk rfl
        have hlt' : w.heap.size + 1 < W'.heap.size := Nat.lt_of_lt_of_le hlt hko.size
        have hl2 : (W'.putObj (w.heap.size + 1) (.loop { rec .ready none with state := .busy })).heap[w.heap.size + 1]? = some (.loop { rec .ready none with state := .busy }) := World.putObj_heap_same hlt'
        have hk2 : (W'.putObj (w.heap.size + 1) (.loop { rec .ready none with state := .busy })).heap[w.heap.size]? = some (.deferred (some [])) := (World.putObj_heap_other (by omega)).trans hk'
        refine ⟨_, run_beginRound hl' (by rw [hrec]), ?_⟩
        refine wpIn_mono (hbody _ (oT.putObj _ hT (by omega) hl' rfl) ((hI k).putObj _ hi' (by omega) hl' rfl) ((oG k).putObj _ hg' (by omega) hl' rfl) (by simp; omega)) ?_
        have fin : ∀ (jump : Option Code) (W3 : World), KeepsOthers (W'.putObj (w.heap.size + 1) (.loop { rec .ready none with state := .busy })) W3 →
            (Instr.endRound (w.heap.size + 1) jump).run P W3 = .ok (.bool jump.isNone) (W3.putObj (w.heap.size + 1) (.loop (rec (if jump.isNone then .ready else .done) jump))) ∧
            W3.heap[w.heap.size + 1]? = some (.loop { rec .ready none with state := .busy }) ∧
            (W3.putObj (w.heap.size + 1) (.loop (rec (if jump.isNone then .ready else .done) jump))).heap[w.heap.size + 1]? = some (.loop (rec (if jump.isNone then .ready else .done) jump)) ∧
            (W3.putObj (w.heap.size + 1) (.loop (rec (if jump.isNone then .ready else .done) jump))).heap[w.heap.size]? = some (.deferred (some [])) := fun jump W3 hk3 => by
          have hl3 := hk3.same _ _ hl2 rfl
          have := run_endRound (P := P) jump hl3
          rw [hrec] at this ⊢
          exact ⟨this, by rw [hrec] at hl3; exact hl3, World.putObj_heap_same (Array.getElem?_eq_some_iff.1 hl3).1, (World.putObj_heap_other (by omega)).trans (hk3.same _ _ hk2 rfl)⟩
        rintro e a3 W3 hp
        cases e with
        | normal =>
          obtain ⟨hk3, hg3, hi3⟩ := hp
          obtain ⟨hr, hl3, hl4, hk4⟩ := fin none W3 hk3
          exact ⟨_, _, hr, (oG k).putObj _ hg3 (by omega) hl3 rfl, .inl ⟨rfl, (hI _).putObj _ hi3 (by omega) hl3 rfl, hl4, hk4⟩⟩
        | ret =>
          obtain ⟨hk3, hg3, hi3⟩ := hp
          obtain ⟨hr, hl3, hl4, hk4⟩ := fin (some .ret) W3 hk3
          exact ⟨_, _, hr, (oG k).putObj _ hg3 (by omega) hl3 rfl, .inr ⟨rfl, .ret, (hIx _ _).putObj _ hi3 (by omega) hl3 rfl, hl4, hk4⟩⟩
        | exit id =>
          obtain ⟨hk3, hg3, hi3⟩ := hp
          obtain ⟨hr, hl3, hl4, hk4⟩ := fin (some (.exit id)) W3 hk3
          exact ⟨_, _, hr, (oG k).putObj _ hg3 (by omega) hl3 rfl, .inr ⟨rfl, .exit id, (hIx _ _).putObj _ hi3 (by omega) hl3 rfl, hl4, hk4⟩⟩
        | goto t =>
          obtain ⟨hk3, hg3, hi3⟩ := hp
          obtain ⟨hr, hl3, hl4, hk4⟩ := fin (some (.goto t)) W3 hk3
          exact ⟨_, _, hr, (oG k).putObj _ hg3 (by omega) hl3 rfl, .inr ⟨rfl, .goto t, (hIx _ _).putObj _ hi3 (by omega) hl3 rfl, hl4, hk4⟩⟩
        | panic ch => exact hp.elim
        | outgrown => exact hp.elim
      | ret => exact hq.elim
      | exit id => exact hq.elim
      | goto t => exact hq.elim
      | panic ch => exact hq.elim
      | outgrown => exact hq.elim
    · -- BEHIND THE ITERATOR
      rintro e W2 ⟨⟨v, rfl⟩, (⟨⟨hi, hl, hk⟩, hd⟩ | ⟨k, hkl, ⟨c, hi, hl, hk⟩, hs⟩)⟩
      · exact ⟨none, _, by have := run_endLoop (P := P) hl (by rw [hrec]; simp); rw [hrec] at this; exact this, hdone _ _ (Nat.le_refl _) ((hI _).putObj _ hi (by omega) hl rfl) (oGd.putObj _ hd (by omega) hl rfl) ((World.putObj_heap_other (by omega)).trans hk)⟩
      · exact ⟨some c, _, by have := run_endLoop (P := P) hl (by rw [hrec]; simp); rw [hrec] at this; exact this, hstop _ c k _ (Nat.le_refl _) hkl ((hIx c _).putObj _ hi (by omega) hl rfl) ((oGs k).putObj _ hs (by omega) hl rfl) ((World.putObj_heap_other (by omega)).trans hk)⟩

section
variable {b : Frame} {a : Act} {k : List Item} {cs : List Frame} {w : World} {Q : Exit → Act → World → Prop}
theorem stepR_scope {c : Code} : step P (lone (b.atR a (.code (.scope c) :: k)) cs w) = .next (lone (b.atR a (.code c :: .inScope c :: k)) cs w) :=
  step_lone_go (by simp [stepG, stepG.exec, Frame.atR])
theorem stepR_inScope {c : Code} : step P (lone (b.atR a (.inScope c :: k)) cs w) = .next (lone (b.atR a k) cs w) :=
  step_lone_go (by simp [stepG, stepG.exec, Frame.atR])
/-- A scope whose labels no goto names, inside a fence. -/
theorem wpIn_scope {c : Code} (h : c.wpIn F n P (Exit.noGoto Q) a w) : (Code.scope c).wpIn F n P Q a w := by
  intro b k cs hro hb hr
  have h0 : (lone (b.atR a (.code (.scope c) :: k)) cs w).fenced P F := fenced_calm hb hr rfl
  obtain ⟨e, a₁, w₁, hq, harr⟩ := h b (.inScope c :: k) cs hro hb hr
  cases e with
  | normal => exact ⟨.normal, a₁, w₁, hq, .head h0 stepR_scope (StepsIn.trans harr (.one (fenced_calm hb hr rfl) stepR_inScope))⟩
  | exit id =>
    have hx : exitTo id (.inScope c :: k) = exitTo id k := by simp [exitTo]
    exact ⟨.exit id, a₁, w₁, hq, fun k' hk => .head h0 stepR_scope (harr.1 k' (by rw [hx]; exact hk)),
      fun hr' hk => let ⟨k₁, h1, h2⟩ := harr.2 hr' (by rw [hx]; exact hk); ⟨k₁, h1, .head h0 stepR_scope h2⟩⟩
  | goto l => exact hq.elim
  | ret => exact ⟨_, a₁, w₁, hq, .of_steps (.one h0 stepR_scope) harr⟩
  | panic ch => exact ⟨_, a₁, w₁, hq, .of_steps (.one h0 stepR_scope) harr⟩
  | outgrown => exact ⟨_, a₁, w₁, hq, .of_steps (.one h0 stepR_scope) harr⟩
end
/-- A function's contract from its body's walk within the wide fence (9: any number would do). -/
theorem calls_of_wide {f : FuncId} {fn : Func} {c : Code} {args : Array Value} {w : World} {R : Ending → World → Prop}
    (hf : P.funcs[f]? = some fn) (hb : fn.body = some c)
    (h : c.wpIn Fence.wide 9 P (bodyPost P fn R) { tmps := args ++ Array.replicate (fn.ntmps - args.size) undef, defers := [] } w) : Calls P f args w R :=
  callsIn_wide.1 (callsIn_of_wp hf hb trivial h rfl)
/-- The same, of a function that ranges over functions. -/
theorem calls_of_marks {f : FuncId} {fn : Func} {c : Code} {args : Array Value} {w : World} {R : Ending → World → Prop}
    (hf : P.funcs[f]? = some fn) (hb : fn.body = some c)
    (h : c.wpIn Fence.wide 9 P (bodyPostM Fence.wide 9 P fn R) { tmps := args ++ Array.replicate (fn.ntmps - args.size) undef, defers := [] } w) : Calls P f args w R :=
  callsIn_wide.1 (callsIn_of_wp_marks hf hb trivial h rfl)
/-- The same with values that are known late. -/
abbrev SeqU (P : Program) (g : Nat) (lb : Array Value) (N : Nat) (V : Nat → Array Value → World → Prop) (Ab : World → World → Prop)
    (Gi : World → Prop) (G : Nat → World → Prop) (Gd : World → Prop) (Gs : Nat → World → Prop) : Prop :=
  SeqV Fence.wide 8 P g lb N V Ab Gi G Gd Gs
/-- An iterator's contract within the wide fence. -/
abbrev SeqW {α : Type} (P : Program) (g : Nat) (lb : Array Value) (encs : α → Array Value) (xs : List α) (Ab : World → World → Prop)
    (Gi : World → Prop) (G : Nat → World → Prop) (Gd : World → Prop) (Gs : Nat → World → Prop) : Prop :=
  SeqX Fence.wide 8 P g lb encs xs Ab Gi G Gd Gs
theorem wide_fn (f : FuncId) : Fence.wide.fn f := trivial
theorem wide_fn' (l : Nat) (f : FuncId) : (Fence.wide.inRound l).fn f := trivial
end Go.Kw

/-
  Words on memory that all walks of this work use: 'Rd' (a slice reads as so many cells), bytes, and how these abide.
-/
namespace Go.Kw
open Go Go.RowKit

/-- The cells from A on, in a block below B, read as f, n of them. -/
def Rd (w : World) (B : Nat) (A : Option Addr) (n : Nat) (f : Nat → Value) : Prop :=
  n = 0 ∨ ∃ b off, A = some ⟨b, off, none⟩ ∧ b < B ∧ ∀ i, i < n → w.cell? ⟨b, off + i, none⟩ = some (f i)

section
variable {w w' : World} {B : Nat} {A : Option Addr} {n : Nat} {f : Nat → Value}
theorem Rd.below (h : Rd w B A n f) (hb : Below B w w') : Rd w' B A n f := by
  rcases h with h | ⟨b, off, e, hlt, hc⟩
  · exact .inl h
  · exact .inr ⟨b, off, e, hlt, fun i hi => (hb.cell (p := ⟨b, off + i, none⟩) hlt).trans (hc i hi)⟩
theorem Rd.more {B' : Nat} (h : Rd w B A n f) (hb : B ≤ B') : Rd w B' A n f := by
  rcases h with h | ⟨b, off, e, hlt, hc⟩
  · exact .inl h
  · exact .inr ⟨b, off, e, by omega, hc⟩
theorem Rd.setCell (h : Rd w B A n f) {p : Addr} (hp : B ≤ p.block) (u : Value) : Rd (w.setCell p u) B A n f := h.below ((Below.refl B w).setCell hp u)
theorem Rd.alloc (h : Rd w B A n f) (hB : B ≤ w.heap.size) (o : Obj) : Rd (w.alloc o) B A n f := h.below ((Below.refl B w).alloc hB o)
theorem Rd.at_ (h : Rd w B A n f) {k : Nat} (hk : k < n) :
    ∃ b off, A = some ⟨b, off, none⟩ ∧ b < B ∧ w.cell? ⟨b, off + k, none⟩ = some (f k) := by
  rcases h with h | ⟨b, off, e, hlt, hc⟩
  · omega
  · exact ⟨b, off, e, hlt, hc k hk⟩
/-- What is read abides whatever turns no block of cells. -/
theorem Rd.own (B₀ : Nat) (B : Nat) (A : Option Addr) (n : Nat) (f : Nat → Value) : OwnW B₀ (fun W => Rd W B A n f) := by
  intro W W' row h hg hr
  rcases h with h | ⟨b, off, e, hlt, hc⟩
  · exact .inl h
  · exact .inr ⟨b, off, e, hlt, fun i hi => cell_kept (hc i hi) hg (fun r e => (hr r e).2)⟩
end

theorem cell_own (B : Nat) (a : Addr) (v : Value) : OwnW B (fun W => W.cell? a = some v) :=
  fun _ _ _ h hg hr => cell_kept h hg (fun r e => (hr r e).2)
theorem boxed_ownW (B : Nat) (b : Nat) (t : TypeId) (v : Value) : OwnW B (fun W => Boxed W b t v) := by
  intro W W' row h hg hr
  refine h.kept hg (fun e => ?_)
  obtain ⟨_, o, ho, hc⟩ := hr b e.symm
  rw [show W.heap[b]? = _ from h] at ho; cases ho; cases hc
theorem below_own {n₀ : Nat} {w : World} {B : Nat} (hB : n₀ ≤ B) : OwnW B (fun W => Below n₀ w W ∧ n₀ ≤ W.heap.size) := by
  intro W W' row h hg hr
  exact ⟨h.1.grown hg h.2 (fun k e => Nat.le_trans hB (hr k e).1), Nat.le_trans h.2 hg.size⟩

theorem _root_.Go.RowKit.Below.putObj {B : Nat} {a w : World} (h : Below B a w) {l : Nat} (hl : B ≤ l) (hB : B ≤ w.heap.size) (o : Obj) : Below B a (w.putObj l o) :=
  h.grown (grownBy_putObj' w l o) hB (fun k e => by cases e; exact hl)
theorem bnext {w a b : World} (h : Below w.heap.size w a) (k : Below a.heap.size a b) : Below w.heap.size w b := h.trans (k.mono h.size)
theorem balloc {w a : World} (h : Below w.heap.size w a) (o : Obj) : Below w.heap.size w (a.alloc o) := h.alloc h.size o
theorem Rd.go {w w' : World} {A : Option Addr} {n : Nat} {f : Nat → Value} (h : Rd w w.heap.size A n f) (hb : Below w.heap.size w w') : Rd w' w'.heap.size A n f := (h.below hb).more hb.size
/-- The byte at a place, as a number. -/
def bAt (l : List UInt8) (i : Nat) : Int := ((l.getD i 0).toNat : Int)
theorem bAt_lo (l : List UInt8) (i : Nat) : 0 ≤ bAt l i := by unfold bAt; omega
theorem bAt_hi (l : List UInt8) (i : Nat) : bAt l i ≤ 255 := by unfold bAt; have := (l.getD i 0).toNat_lt; omega
/-- The slice reads as these bytes. -/
def RdB (w : World) (B : Nat) (A : Option Addr) (l : List UInt8) : Prop := Rd w B A l.length (fun i => .int .u8 (bAt l i))
/-- What is told of a slice of integers that came in: nil; or a row of 'cap' numbers. -/
def IsRow (k : IntKind) (w : World) (a : Option Addr) (len cap : Nat) (zs : List Int) : Prop :=
  (a = none ∧ len = 0 ∧ cap = 0 ∧ zs = []) ∨
  ∃ x, a = some x ∧ len ≤ cap ∧ cap ≤ maxLen ∧ zs.length = cap ∧ (∀ i, i < zs.length → w.cell? (x.add i) = some (.int k (zs.getD i 0))) ∧ ∀ n ∈ zs, (Lit.int k n).wf = true
theorem IsRow.caps {k : IntKind} {w : World} {a : Option Addr} {len cap : Nat} {zs : List Int} (h : IsRow k w a len cap zs) : len ≤ cap ∧ cap ≤ maxLen ∧ (a = none → len = 0 ∧ cap = 0) := by
  rcases h with ⟨rfl, rfl, rfl, rfl⟩ | ⟨x, rfl, h1, h2, _⟩
  · exact ⟨Nat.le_refl _, Nat.zero_le _, fun _ => ⟨rfl, rfl⟩⟩
  · exact ⟨h1, h2, by simp⟩
theorem block_lt {w : World} {a : Addr} {v : Value} (h : w.cell? a = some v) : a.block < w.heap.size := World.block_lt_of_cell? w a h
/-- A slice of integers that came in, as a reading. -/
theorem IsRow.rd {k : IntKind} {w : World} {a : Option Addr} {len cap : Nat} {zs : List Int} (h : IsRow k w a len cap zs) : Rd w w.heap.size a len (fun i => .int k (zs.getD i 0)) := by
  rcases h with ⟨rfl, rfl, rfl, rfl⟩ | ⟨x, rfl, h1, h2, h3, h4, h5⟩
  · exact .inl rfl
  · rcases Nat.eq_zero_or_pos len with h0 | h0
    · exact .inl h0
    · obtain ⟨b, off, rfl, hc⟩ := Go.ints_at h4 (by omega)
      exact .inr ⟨b, off, rfl, block_lt (hc 0 (by omega)), fun i hi => hc i (by omega)⟩
/-- A slice of bytes that came in. -/
theorem IsRow.bytes {w : World} {a : Option Addr} {len cap : Nat} {zs : List Int} (h : IsRow .u8 w a len cap zs) : ∃ l : List UInt8, l.length = len ∧ RdB w w.heap.size a l := by
  have hr := h.rd
  refine ⟨(zs.take len).map (fun z => UInt8.ofNat z.toNat), ?_, ?_⟩
  · rcases h with ⟨rfl, rfl, rfl, rfl⟩ | ⟨x, rfl, h1, h2, h3, _⟩
    · rfl
    · simp; omega
  · have hlen : ((zs.take len).map (fun z => UInt8.ofNat z.toNat)).length = len := by
      rcases h with ⟨rfl, rfl, rfl, rfl⟩ | ⟨x, rfl, h1, h2, h3, _⟩
      · rfl
      · simp; omega
    unfold RdB
    rw [hlen]
    rcases hr with hr | ⟨b, off, e, hb, hc⟩
    · exact .inl hr
    · refine .inr ⟨b, off, e, hb, fun i hi => ?_⟩
      rw [hc i hi]
      have hz : i < zs.length := by
        rcases h with ⟨rfl, rfl, rfl, rfl⟩ | ⟨x, rfl, h1, h2, h3, _⟩ <;> omega
      have hw : (Lit.int .u8 (zs.getD i 0)).wf = true := by
        rcases h with ⟨rfl, rfl, rfl, rfl⟩ | ⟨x, rfl, h1, h2, h3, h4, h5⟩
        · simp at hz
        · refine h5 _ ?_
          rw [List.getD_eq_getElem?_getD, List.getElem?_eq_getElem hz]
          exact List.getElem_mem hz
      obtain ⟨b0, b1⟩ := Go.bounds_u8 hw
      have hv : bAt ((zs.take len).map (fun z => UInt8.ofNat z.toNat)) i = zs.getD i 0 := by
        unfold bAt
        have hi' : i < (zs.take len).length := by rw [List.length_map] at hlen; omega
        rw [List.getD_eq_getElem?_getD, List.getElem?_map, List.getElem?_eq_getElem hi', Option.map_some, Option.getD_some, List.getElem_take]
        rw [List.getD_eq_getElem?_getD, List.getElem?_eq_getElem hz, Option.getD_some] at b0 b1 ⊢
        have : (UInt8.ofNat zs[i].toNat).toNat = zs[i].toNat % 256 := by simp [UInt8.toNat_ofNat']
        rw [this]
        omega
      show some (Value.int .u8 _) = some (Value.int .u8 _)
      rw [hv]
section
variable {w w' : World} {B : Nat} {A : Option Addr} {l : List UInt8}
theorem RdB.below (h : RdB w B A l) (hb : Below B w w') : RdB w' B A l := Rd.below h hb
theorem RdB.more {B' : Nat} (h : RdB w B A l) (hb : B ≤ B') : RdB w B' A l := Rd.more h hb
theorem RdB.setCell (h : RdB w B A l) {p : Addr} (hp : B ≤ p.block) (u : Value) : RdB (w.setCell p u) B A l := Rd.setCell h hp u
theorem RdB.alloc (h : RdB w B A l) (hB : B ≤ w.heap.size) (o : Obj) : RdB (w.alloc o) B A l := Rd.alloc h hB o
theorem RdB.go {w w' : World} {A : Option Addr} {l : List UInt8} (h : RdB w w.heap.size A l) (hb : Below w.heap.size w w') : RdB w' w'.heap.size A l := (h.below hb).more hb.size
theorem RdB.own (B₀ B : Nat) (A : Option Addr) (l : List UInt8) : OwnW B₀ (fun W => RdB W B A l) := Rd.own B₀ B A _ _
end
end Go.Kw

/-
  Slices of the call's own: append from whatever source, bytes as a string, a slice against nil. Each as an equation on the operation's run. Conditions stand at each theorem.
-/
namespace Go.Kw
open Go Go.RowKit
set_option linter.unusedVariables false

/-- What a walk needs to know of a slice type t over the element type e. -/
structure Elem (P : Program) (t e : TypeId) (z : Value) (size bytes : Nat) : Prop where
  ht : P.underlying t = some (.slice e)
  inf : (P.info? e).map (fun i => (i.zero, i.size, i.bytes)) = some (some z, size, bytes)
  zs : z.cells.size = size
  pos : 0 < size

/-- What is read, as a list. -/
def vals (n : Nat) (f : Nat → Value) : List Value := (List.range n).map f
theorem vals_length (n : Nat) (f : Nat → Value) : (vals n f).length = n := by simp [vals]
theorem vals_get {n : Nat} {f : Nat → Value} {j : Nat} {u : Value} (h : (vals n f)[j]? = some u) : j < n ∧ u = f j := by
  unfold vals at h
  rw [List.getElem?_map] at h
  rcases Nat.lt_or_ge j n with hj | hj
  · rw [List.getElem?_range hj] at h
    simp at h
    exact ⟨hj, h.symm⟩
  · rw [List.getElem?_eq_none (by simpa using hj)] at h
    simp at h

section
variable {P : Program} {t e : TypeId} {z : Value} {size bytes : Nat}
theorem run_append_of_nil (w : World) (base : Nat) (ty : TypeId) (E : Elem P t e z size bytes)
    {v : Value} {n : Nat} {xs : List Value} (hown : w.ownsRow base e size v n xs) (c : Nat) : (Builtin.append_ #[t, t] ty #[v, .slice none 0 c]).run P w = .ok v w := by
  obtain ⟨i, hi, hz, hs, hb⟩ := info_parts E.inf
  have ht := E.ht
  rcases hown.2 with ⟨rfl, rfl⟩ | ⟨g, cap, cur, rfl, _, _, hnc, _⟩
  · simp [Builtin.append_, run_underlying ht, sizeOf, typeInfo, hi, Builtin.lenOf, Builtin.firstCells]
  · simp [Builtin.append_, run_underlying ht, sizeOf, typeInfo, hi, Builtin.lenOf, Builtin.firstCells, hnc, storeCells]

/-- 'append(v, x...)', v the call's own (or nil), x whatever reads. -/
theorem run_append (w : World) (base : Nat) (ty : TypeId) (E : Elem P t e z size bytes)
    {v : Value} {n : Nat} {xs : List Value} (hown : w.ownsRow base e size v n xs)
    {B : Nat} {A : Option Addr} (m c : Nat) {f : Nat → Value} (hr : Rd w B A (m * size) f) (h1 : ∀ i, i < m * size → (f i).oneCell' = true)
    (h63 : n + m ≤ maxLen) (hbytes : (n + m) * bytes ≤ 140737488355328) (hbase : base ≤ w.heap.size) (hnil : A = none → m = 0) :
    ∃ v' w', (Builtin.append_ #[t, t] ty #[v, .slice A m c]).run P w = .ok v' w' ∧ w'.ownsRow base e size v' (n + m) (xs ++ vals (m * size) f) ∧ w.grownBy w' v.ownBlock ∧
      (v' = .slice none 0 0 ↔ v = .slice none 0 0 ∧ m = 0) ∧ (v'.ownBlock = v.ownBlock ∨ v'.ownBlock = some w.heap.size) := by
  obtain ⟨i, hi, hz, hs, hb⟩ := info_parts E.inf
  have zero : m = 0 → vals (m * size) f = [] := fun h => by subst h; simp [vals]
  rcases A with _ | ad
  · have hm := hnil rfl
    subst hm
    rw [zero rfl]
    exact ⟨v, w, run_append_of_nil w base ty E hown c, by simpa using hown, World.grownBy.refl w _, by simp, .inl rfl⟩
  · have hcells : ∀ j u, (vals (m * size) f)[j]? = some u → w.cell? (ad.add j) = some u := by
      intro j u hu
      obtain ⟨hj, rfl⟩ := vals_get hu
      obtain ⟨b, off, e, _, hc⟩ := hr.at_ hj
      injection e with e
      subst e
      rw [Go.WideShapes.add_plain]; exact hc
    obtain ⟨v', w', hrun, h2, h3, h4, h5⟩ := run_append_own_at (P := P) w base t ty e i z size bytes E.ht hi hz hs hb E.zs E.pos v n xs hown ad m c (vals (m * size) f) (vals_length _ _) hcells
      (fun u hu => by obtain ⟨j, hj⟩ := List.mem_iff_getElem?.1 hu; obtain ⟨hj', rfl⟩ := vals_get hj; exact h1 j hj') h63 hbytes hbase
    exact ⟨v', w', hrun, h2, h3, h4, h5⟩

/-- 's == nil' -/
theorem Elem.eqNil (E : Elem P t e z size bytes) (w : World) (a : Option Addr) (n c : Nat) : (binOp .eql t (.slice a n c) (.slice none 0 0)).run P w = .ok (.bool a.isNone) w :=
  Lib.run_eql_slice_nil w t e a n c 0 0 E.ht
end

/-- At an append (behind 'at_builtin'), whose run is known. -/
theorem wpList_append_run {P : Program} {w : World} {ops : Array Oper} {rest : List Oper} {o : Oper} {a : Act} {Q : Exit → Act → World → Prop} {s x : Operand} {t ty : TypeId} {v y v' : Value} {w' : World}
    (hrun : (Builtin.append_ #[t, t] ty #[v, y]).run P w = .ok v' w') (hgd : o.guard = none) (ho : o.op = .call { callee := .builtin .append, args := #[s, x], argTypes := #[t, t] }) (hty : o.type = ty)
    (hs : a.eval s = v) (hx : a.eval x = y) (h : wpList P ops Q rest (a.put o.dst v') w') : wpList P ops Q (o :: rest) a w := by
  subst hty
  refine wpList_plain hgd fun K hK => ?_
  unfold Oper.wp execOp
  simp only [ho, resolve, invoke, builtin, Sem.run_bind, Sem.run_pure, Result.andThen_ok, List.map_toArray, List.map_cons, List.map_nil, hs, hx, hrun]
  exact hK _ _ h
/-- The same within a fence (behind 'gi_at_builtin'). -/
theorem wpListIn_append_run {F : Fence} {n : Nat} {P : Program} {w : World} {ops : Array Oper} {rest : List Oper} {o : Oper} {a : Act} {Q : Exit → Act → World → Prop} {s x : Operand} {t ty : TypeId} {v y v' : Value} {w' : World}
    (hrun : (Builtin.append_ #[t, t] ty #[v, y]).run P w = .ok v' w') (hgd : o.guard = none) (ho : o.op = .call { callee := .builtin .append, args := #[s, x], argTypes := #[t, t] }) (hty : o.type = ty)
    (hs : a.eval s = v) (hx : a.eval x = y) (h : wpListIn F n P ops Q rest (a.put o.dst v') w') : wpListIn F n P ops Q (o :: rest) a w := by
  subst hty
  refine wpListIn_plain hgd fun K hK' => ?_
  unfold Oper.wpIn
  refine ⟨?_, ?_⟩
  · simp [Oper.about, ho, resolve, Target.leads, Sem.run_pure]
  · rw [Oper.semAt_plain F _ _ (by rw [ho]; intro c hc'; cases hc')]
    simp [execOp, ho, resolve, invoke, builtin, hs, hx, hrun, Result.andThen]
    exact hK' _ _ h

/-- At a make (behind 'at_make'), whose run is known. -/
theorem wpList_make_run {P : Program} {w : World} {ops : Array Oper} {rest : List Oper} {o : Oper} {a : Act} {Q : Exit → Act → World → Prop} {s x : Operand} {t : TypeId} {v y v' : Value} {w' : World}
    (hrun : (Instr.makeSlice t v y).run P w = .ok v' w') (hgd : o.guard = none) (ho : o.op = Op.makeSlice t s x)
    (hs : a.eval s = v) (hx : a.eval x = y) (h : wpList P ops Q rest (a.put o.dst v') w') : wpList P ops Q (o :: rest) a w := by
  refine wpList_plain hgd fun K hK => ?_
  unfold Oper.wp
  simp [execOp, ho, hs, hx, hrun, Result.andThen]
  exact hK _ _ h
theorem wpListIn_make_run {F : Fence} {n : Nat} {P : Program} {w : World} {ops : Array Oper} {rest : List Oper} {o : Oper} {a : Act} {Q : Exit → Act → World → Prop} {s x : Operand} {t : TypeId} {v y v' : Value} {w' : World}
    (hrun : (Instr.makeSlice t v y).run P w = .ok v' w') (hgd : o.guard = none) (ho : o.op = Op.makeSlice t s x)
    (hs : a.eval s = v) (hx : a.eval x = y) (h : wpListIn F n P ops Q rest (a.put o.dst v') w') : wpListIn F n P ops Q (o :: rest) a w := by
  refine wpListIn_plain hgd fun K hK' => ?_
  unfold Oper.wpIn
  refine ⟨?_, ?_⟩
  · simp [Oper.about, ho]
  · rw [Oper.semAt_plain F _ _ (by rw [ho]; intro c hc'; cases hc')]
    simp [execOp, ho, hs, hx, hrun, Result.andThen]
    exact hK' _ _ h
/-- 'make([]T, n)'. -/
theorem runMake {P : Program} {t e : TypeId} {z : Value} {size bytes : Nat} (w : World) (base : Nat) (E : Elem P t e z size bytes) (n : Nat) (hb : bytes * n ≤ 281474976710656) (h63 : n ≤ maxLen) (hbase : base ≤ w.heap.size) :
    ∃ w', (Instr.makeSlice t (.int .i64 (n : Int)) (.int .i64 (n : Int))).run P w = .ok (.slice (some ⟨w.heap.size, 0, none⟩) n n) w' ∧
      w'.ownsRow base e size (.slice (some ⟨w.heap.size, 0, none⟩) n n) n (madeCells z.cells (n * size)).toList ∧ w.grownBy w' none := by
  obtain ⟨i, hi, hz, hs, hby⟩ := info_parts E.inf
  exact run_make_full (P := P) w base t e i z size E.ht hi hz hs .i64 .i64 n (by rw [hby]; exact hb) h63 hbase

theorem ownBlock_below {w : World} {base : Nat} {e : TypeId} {size : Nat} {v : Value} {n : Nat} {xs : List Value} (h : w.ownsRow base e size v n xs) : ∀ k, v.ownBlock = some k → base ≤ k := fun k hk => (h.lt k hk).1
/-- An append turns nothing below base. -/
theorem below_append {w w' : World} {base : Nat} {e : TypeId} {size : Nat} {v : Value} {n : Nat} {xs : List Value} (h : w.ownsRow base e size v n xs) (hb : base ≤ w.heap.size) (hg : w.grownBy w' v.ownBlock) : Below base w w' :=
  (Below.refl base w).grown hg hb (ownBlock_below h)

/-- The cells of bytes. -/
def bv (l : List UInt8) : List Value := l.map (fun b => .int .u8 (b.toNat : Int))
theorem bv_length (l : List UInt8) : (bv l).length = l.length := by simp [bv]
theorem bv_append (a b : List UInt8) : bv (a ++ b) = bv a ++ bv b := by simp [bv]
theorem vals_bytes (l : List UInt8) : vals (l.length * 1) (fun i => .int .u8 (bAt l i)) = bv l := by
  apply List.ext_getElem?
  intro j
  rcases Nat.lt_or_ge j l.length with h | h
  · unfold vals bv
    rw [Nat.mul_one, List.getElem?_map, List.getElem?_range h, List.getElem?_map, List.getElem?_eq_getElem h]
    simp [bAt, h]
  · rw [List.getElem?_eq_none (by rw [vals_length]; omega), List.getElem?_eq_none (by rw [bv_length]; exact h)]
/-- What the call owns, read. -/
theorem rdB_own {w : World} {base : Nat} {e : TypeId} {A : Option Addr} {n k c : Nat} {l : List UInt8} (h : w.ownsRow base e 1 (.slice A k c) n (bv l)) : RdB w w.heap.size A l ∧ n = l.length := by
  have hn : n = l.length := by have := h.1; rw [bv_length] at this; omega
  refine ⟨?_, hn⟩
  rcases h.2 with ⟨h', h0⟩ | ⟨g, cap, cur, h', hb, hg, hnc, hcm, hcs, ht⟩
  · exact .inl (by omega)
  · injection h' with h1 h2 h3
    subst h1 h3
    refine .inr ⟨g, 0, rfl, (Array.getElem?_eq_some_iff.1 hg).1, fun i hi => ?_⟩
    have hc := h.cells (g := g) rfl i (.int .u8 (bAt l i)) (by unfold bv; rw [List.getElem?_map, List.getElem?_eq_getElem hi]; simp [bAt, hi])
    rw [Go.WideShapes.add_plain] at hc
    exact hc
theorem own_len {w : World} {base : Nat} {e : TypeId} {v : Value} {n : Nat} {l : List UInt8} (h : w.ownsRow base e 1 v n (bv l)) : ∃ A c, v = .slice A l.length c ∧ n = l.length ∧ (A = none → l.length = 0 ∧ c = 0) := by
  have hn : n = l.length := by have := h.1; rw [bv_length] at this; omega
  rcases h.2 with ⟨rfl, h0⟩ | ⟨g, cap, cur, rfl, _⟩
  · exact ⟨none, 0, by rw [← hn, h0], hn, fun _ => ⟨by omega, rfl⟩⟩
  · exact ⟨_, _, by rw [← hn], hn, fun h => by cases h⟩
/-- A new block of bytes, read. -/
theorem rdB_new (w : World) (cs : Array Value) (t : TypeId) (fr : Nat × Nat) (l : List UInt8) (h : cs.toList = bv l) : RdB (w.alloc (.cells cs t fr)) (w.heap.size + 1) (some ⟨w.heap.size, 0, none⟩) l := by
  refine .inr ⟨w.heap.size, 0, rfl, by omega, fun i hi => ?_⟩
  rw [Nat.zero_add, World.cell?_alloc_mark, ← Array.getElem?_toList, h]
  unfold bv
  rw [List.getElem?_map, List.getElem?_eq_getElem hi]
  simp [bAt, hi]
theorem rdB_nil (w : World) (B : Nat) (A : Option Addr) : RdB w B A [] := .inl rfl
theorem own_mono {w : World} {base base' : Nat} {e : TypeId} {size : Nat} {v : Value} {n : Nat} {xs : List Value} (h : w.ownsRow base' e size v n xs) (hb : base ≤ base') : w.ownsRow base e size v n xs := by
  refine ⟨h.1, ?_⟩
  rcases h.2 with h | ⟨g, cap, cur, hv, hg, r⟩
  · exact .inl h
  · exact .inr ⟨g, cap, cur, hv, by omega, r⟩
/-- What the call owns abides a call that turns nothing of what is. -/
theorem own_below {w w' : World} {base : Nat} {e : TypeId} {size : Nat} {v : Value} {n : Nat} {xs : List Value} (h : w.ownsRow base e size v n xs) (hb : Below w.heap.size w w') : w'.ownsRow base e size v n xs := by
  refine ⟨h.1, ?_⟩
  rcases h.2 with h | ⟨g, cap, cur, hv, hg, hh, r⟩
  · exact .inl h
  · exact .inr ⟨g, cap, cur, hv, hg, (hb.block g (Array.getElem?_eq_some_iff.1 hh).1).trans hh, r⟩
section
variable {P : Program} {t e : TypeId}
/-- 'append(v, src...)' of bytes. -/
theorem append_bytes (E : Elem P t e (.int .u8 0) 1 1) (w : World) (base : Nat) {v : Value} {n : Nat} {l : List UInt8} (hown : w.ownsRow base e 1 v n (bv l)) {B : Nat} {A : Option Addr} (m c : Nat) {r : List UInt8} (hr : RdB w B A r) (hm : m = r.length)
    (h63 : l.length + r.length ≤ 1000000000) (hbase : base ≤ w.heap.size) (hnil : A = none → r.length = 0) :
    ∃ A' c' w', (Builtin.append_ #[t, t] t #[v, .slice A m c]).run P w = .ok (.slice A' (l ++ r).length c') w' ∧ w'.ownsRow base e 1 (.slice A' (l ++ r).length c') (l ++ r).length (bv (l ++ r)) ∧ Below base w w' ∧
      w.grownBy w' v.ownBlock ∧ ((Value.slice A' (l ++ r).length c').ownBlock = v.ownBlock ∨ (Value.slice A' (l ++ r).length c').ownBlock = some w.heap.size) ∧ (A' = none → (l ++ r).length = 0) := by
  subst hm
  have hn : n = l.length := by have := hown.1; rw [bv_length] at this; omega
  obtain ⟨v', w', hrun, o, g, i, b⟩ := run_append (P := P) w base t E hown r.length c (by rw [Nat.mul_one]; exact hr) (fun i _ => rfl) (by unfold maxLen; omega) (by omega) hbase hnil
  rw [vals_bytes, ← bv_append] at o
  obtain ⟨A', c', rfl, hk, hz⟩ := own_len o
  rw [hk] at o
  exact ⟨A', c', w', hrun, o, below_append hown hbase g, g, b, fun h => (hz h).1⟩
/-- 'append(v, x, y, ..)' of bytes: these lie in a new block. -/
theorem append_lit (E : Elem P t e (.int .u8 0) 1 1) (w : World) (base : Nat) {v : Value} {n : Nat} {l : List UInt8} (hown : w.ownsRow base e 1 v n (bv l)) (cs : Array Value) (m : Nat) (r : List UInt8) (hcs : cs.toList = bv r) (hm : m = r.length)
    (h63 : l.length + r.length ≤ 1000000000) (hbase : base ≤ w.heap.size) :
    ∃ A' c' w', (Builtin.append_ #[t, t] t #[v, .slice (some ⟨w.heap.size, 0, none⟩) m m]).run P (w.alloc (.cells cs e)) = .ok (.slice A' (l ++ r).length c') w' ∧ w'.ownsRow base e 1 (.slice A' (l ++ r).length c') (l ++ r).length (bv (l ++ r)) ∧ Below base w w' ∧
      (w.alloc (.cells cs e)).grownBy w' v.ownBlock ∧ ((Value.slice A' (l ++ r).length c').ownBlock = v.ownBlock ∨ (Value.slice A' (l ++ r).length c').ownBlock = some (w.heap.size + 1)) ∧ (A' = none → (l ++ r).length = 0) := by
  obtain ⟨A', c', w', hrun, o, b, g, k, z⟩ := append_bytes E (w.alloc (.cells cs e)) base (hown.alloc _) m m (rdB_new w cs e (0, 0) r hcs) hm h63 (by simp; omega) (by simp)
  rw [World.size_alloc] at k
  exact ⟨A', c', w', hrun, o, ((Below.refl base w).alloc hbase _).trans b, g, k, z⟩
end
theorem own_some {w : World} {base : Nat} {e : TypeId} {A : Option Addr} {n c : Nat} {xs : List Value} (h : w.ownsRow base e 1 (.slice A n c) n xs) (hn : 0 < n) : ∃ g, A = some ⟨g, 0, none⟩ := by
  rcases h.2 with ⟨h, h0⟩ | ⟨g, cap, cur, h, _⟩
  · omega
  · injection h with h; exact ⟨g, h⟩
/-- 'string(b)', whatever b. -/
theorem run_string {P : Program} {src dst e : TypeId} {w : World} {B : Nat} {A : Option Addr} {l : List UInt8} (h : RdB w B A l) (c : Nat) (hn : A = none → l.length = 0)
    (hs : P.underlying src = some (.slice e)) (he : P.underlying e = some (.int .u8)) (hd : P.underlying dst = some .string) :
    (convert src dst (.slice A l.length c)).run P w = .ok (.string ⟨l.toArray⟩) w := by
  rcases A with _ | ad
  · have h0 := hn rfl
    have hl : l = [] := List.eq_nil_of_length_eq_zero h0
    subst hl
    exact run_convert_bytes_nil (P := P) (w := w) src e hs he 0 c dst hd
  · refine run_convert_bytes_back (P := P) w src dst e ad c l hs he hd (fun j hj => ?_)
    obtain ⟨b, off, e, _, hc⟩ := Rd.at_ h hj
    injection e with e
    subst e
    rw [Go.WideShapes.add_plain, hc]
    simp [bAt, hj]
end Go.Kw
