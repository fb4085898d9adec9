/-
  Slices of rows of bytes in memory: what the call owns ('OwL'), what is read ('RdL'), append. Conditions stand at each theorem.
-/
import Derived.Test.YtfbeihfpflhdaaaConcat
namespace Go.Proofs.Ytfbeihfpflhdaaa
open Go Go.RowKit Go.Kw
set_option linter.unusedVariables false
set_option linter.unusedSimpArgs false

theorem el : Elem Try.prog 48 22 (.slice none 0 0) 1 24 := ⟨Try.underlying48, by kernel_rfl, rfl, by decide⟩
def lrd (fs : List (List UInt8)) (k : Nat) : List UInt8 := fs.getD k []
/-- The cells of a row of rows; ps: where their bytes lie, and how much room is there. -/
def lcell (fs : List (List UInt8)) (ps : Nat → Option Addr × Nat) (i : Nat) : Value := .slice (ps i).1 (lrd fs i).length (ps i).2
theorem lcell_one (fs : List (List UInt8)) (ps : Nat → Option Addr × Nat) (i : Nat) : (lcell fs ps i).oneCell' = true := rfl
theorem lrd_append_l {fs gs : List (List UInt8)} {k : Nat} (h : k < fs.length) : lrd (fs ++ gs) k = lrd fs k := by
  unfold lrd; rw [List.getD_eq_getElem?_getD, List.getD_eq_getElem?_getD, List.getElem?_append_left h]
theorem lrd_append_r {fs gs : List (List UInt8)} {k : Nat} (h : fs.length ≤ k) : lrd (fs ++ gs) k = lrd gs (k - fs.length) := by
  unfold lrd; rw [List.getD_eq_getElem?_getD, List.getD_eq_getElem?_getD, List.getElem?_append_right h]
theorem lrd_get {fs : List (List UInt8)} {k : Nat} (h : k < fs.length) : fs[k]? = some (lrd fs k) := by
  unfold lrd; rw [List.getD_eq_getElem?_getD, List.getElem?_eq_getElem h]; rfl
theorem lcells_append (fs gs : List (List UInt8)) (ps qs : Nat → Option Addr × Nat) :
    vals (fs.length * 1) (lcell fs ps) ++ vals (gs.length * 1) (lcell gs qs) = vals ((fs ++ gs).length * 1) (lcell (fs ++ gs) (fun k => if k < fs.length then ps k else qs (k - fs.length))) := by
  rw [vals_append, List.length_append, Nat.add_mul]
  refine vals_congr fun i hi => ?_
  unfold lcell
  split
  · rename_i h
    rw [lrd_append_l (by omega)]
    simp only [if_pos (show i < fs.length by omega)]
  · rename_i h
    rw [lrd_append_r (by omega), Nat.mul_one]
    simp only [if_neg (show ¬ i < fs.length by omega)]

theorem RdX.turn {w w' : World} {S S' : Nat → Prop} {A : Option Addr} {n : Nat} {f : Nat → Value} (h : RdX w S A n f) (hk : Kept S w w') (hs : ∀ b, b < w.heap.size → S b → S' b) : RdX w' S' A n f := by
  rcases h with h | ⟨b, off, e, hb, hl, hc⟩
  · exact .inl h
  · exact .inr ⟨b, off, e, hs b hl hb, Nat.lt_of_lt_of_le hl hk.size, fun i hi => (World.cell?_of_block (a := ⟨b, off + i, none⟩) (hk.block b hl hb)).trans (hc i hi)⟩
/-- The bytes of the rows. -/
def PdL (w : World) (S : Nat → Prop) (fs : List (List UInt8)) (ps : Nat → Option Addr × Nat) : Prop :=
  ∀ k, k < fs.length → RdY w S (ps k).1 (lrd fs k) ∧ ((ps k).1 = none → (lrd fs k).length = 0) ∧ (lrd fs k).length ≤ (ps k).2 ∧ (ps k).2 ≤ 9223372036854775807
/-- A slice reads as rows of bytes. -/
def RdL (w : World) (S : Nat → Prop) (A : Option Addr) (fs : List (List UInt8)) : Prop := ∃ ps, RdX w S A (fs.length * 1) (lcell fs ps) ∧ PdL w S fs ps
/-- The call owns a row of rows of bytes. -/
def OwL (w : World) (base : Nat) (S : Nat → Prop) (v : Value) (fs : List (List UInt8)) : Prop :=
  ∃ ps, w.ownsRow base 22 1 v fs.length (vals (fs.length * 1) (lcell fs ps)) ∧ PdL w (fun b => S b ∧ some b ≠ v.ownBlock) fs ps

section
variable {w w' : World} {S S' : Nat → Prop} {base : Nat} {v : Value} {fs gs : List (List UInt8)} {ps : Nat → Option Addr × Nat} {A : Option Addr}
theorem PdL.kept (h : PdL w S fs ps) (hk : Kept S w w') : PdL w' S fs ps := fun k hlt => ⟨(h k hlt).1.kept hk, (h k hlt).2⟩
theorem PdL.mono (h : PdL w S fs ps) (hs : ∀ b, S b → S' b) : PdL w S' fs ps := fun k hlt => ⟨(h k hlt).1.mono hs, (h k hlt).2⟩
theorem PdL.own (B₀ : Nat) : OwnW B₀ (fun W => PdL W S fs ps) := by
  intro W W' row h hg hr k hlt
  exact ⟨RdY.own B₀ S _ _ W W' row (h k hlt).1 hg hr, (h k hlt).2⟩
theorem PdL.of {S1 : Nat → Prop} (h : PdL w S fs ps) (hs : ∀ b, b < w.heap.size → S b → S1 b) : PdL w S1 fs ps := fun k hlt => ⟨RdX.mono' (h k hlt).1 hs, (h k hlt).2⟩
theorem RdL.kept (h : RdL w S A fs) (hk : Kept S w w') : RdL w' S A fs := by obtain ⟨ps, h1, h2⟩ := h; exact ⟨ps, h1.kept hk, h2.kept hk⟩
theorem RdL.mono (h : RdL w S A fs) (hs : ∀ b, S b → S' b) : RdL w S' A fs := by obtain ⟨ps, h1, h2⟩ := h; exact ⟨ps, h1.mono hs, h2.mono hs⟩
theorem RdL.go (h : RdL w S A fs) (hb : Below w.heap.size w w') : RdL w' S A fs := h.kept (hb.keptS S)
theorem RdL.own (B₀ : Nat) : OwnW B₀ (fun W => RdL W S A fs) := OwnW.ex fun ps => (RdX.own B₀).and (PdL.own B₀)
theorem RdL.nil (w : World) (S : Nat → Prop) (A : Option Addr) : RdL w S A [] := ⟨fun _ => (none, 0), .inl rfl, fun k h => by simp at h⟩
theorem OwL.nil (w : World) (base : Nat) (S : Nat → Prop) : OwL w base S (.slice none 0 0) [] := ⟨fun _ => (none, 0), World.ownsRow_nil w base _ 1, fun k h => by simp at h⟩
theorem OwL.form (h : OwL w base S v fs) : ∃ A c, v = .slice A fs.length c ∧ fs.length ≤ c ∧ c ≤ maxLen ∧ (A = none → fs.length = 0 ∧ c = 0) ∧ (∀ a, A = some a → ∃ g, a = ⟨g, 0, none⟩ ∧ base ≤ g ∧ g < w.heap.size) := by
  obtain ⟨ps, h1, -⟩ := h; exact own_form h1
theorem OwL.rdF {c n : Nat} (h : OwL w base S (.slice A n c) fs) (hs : ∀ b, base ≤ b → S b) : RdL w S A fs := by
  obtain ⟨ps, h1, h2⟩ := h
  exact ⟨ps, RdX.of_own h1 hs, h2.mono fun b hb => hb.1⟩
theorem OwL.keptX {S1 : Nat → Prop} (h : OwL w base S v fs) (hk : Kept S1 w w') (h1 : ∀ b, base ≤ b → S1 b) (h2 : ∀ b, S b → S1 b) : OwL w' base S v fs := by
  obtain ⟨ps, q1, q2⟩ := h
  exact ⟨ps, own_kept q1 hk h1, q2.kept (hk.mono fun k _ hh => h2 k hh.1)⟩
theorem OwL.kept (h : OwL w base S v fs) (hk : Kept S w w') (hs : ∀ b, base ≤ b → S b) : OwL w' base S v fs := h.keptX hk hs fun _ hb => hb
theorem OwL.go (h : OwL w base S v fs) (hb : Below w.heap.size w w') : OwL w' base S v fs := h.keptX (hb.keptS fun _ => True) (fun _ _ => trivial) (fun _ _ => trivial)
theorem OwL.own (B₀ : Nat) : OwnW B₀ (fun W => OwL W base S v fs) := OwnW.ex fun ps => own_ownW.and (PdL.own B₀)
theorem OwL.mono {base' : Nat} (h : OwL w base' S' v fs) (hb : base ≤ base') (hs : ∀ b, S' b → S b) : OwL w base S v fs := by
  obtain ⟨ps, h1, h2⟩ := h
  exact ⟨ps, own_mono h1 hb, h2.mono fun b hb => ⟨hs b hb.1, hb.2⟩⟩
/-- 'append(v, x...)' -/
theorem OwL.append (h : OwL w base S v fs) {c : Nat} {Sx : Nat → Prop} {qs : Nat → Option Addr × Nat} (r1 : RdX w Sx A (gs.length * 1) (lcell gs qs)) (r2 : PdL w (fun b => S b ∧ some b ≠ v.ownBlock) gs qs) (hz : A = none → gs.length = 0) (hbase : base ≤ w.heap.size) (hlen : fs.length + gs.length ≤ 1000000) :
    ∃ A' c' w', (Builtin.append_ #[48, 48] 48 #[v, .slice A gs.length c]).run Try.prog w = .ok (.slice A' (fs ++ gs).length c') w' ∧ OwL w' base S (.slice A' (fs ++ gs).length c') (fs ++ gs) ∧ w.grownBy w' v.ownBlock ∧
      (∀ k, v.ownBlock = some k → base ≤ k) ∧ ((Value.slice A' (fs ++ gs).length c').ownBlock = v.ownBlock ∨ (Value.slice A' (fs ++ gs).length c').ownBlock = some w.heap.size) := by
  obtain ⟨ps, h1, h2⟩ := h
  obtain ⟨v', w', hrun, o, g, i, b⟩ := run_append (P := Try.prog) w base 48 el h1 gs.length c r1.rd (fun i _ => lcell_one _ _ _) (by unfold maxLen; omega) (by omega) hbase hz
  have hk : Kept (fun b => S b ∧ some b ≠ v.ownBlock) w w' := ⟨g.os, g.tape, g.output, g.size, fun k hk hs => g.block k hk hs.2⟩
  rw [lcells_append, ← List.length_append] at o
  obtain ⟨A', c', rfl, q1, q2, q3, q4⟩ := own_form o
  refine ⟨A', c', w', hrun, ⟨_, o, fun k hlt => ?_⟩, g, ownBlock_below h1, b⟩
  have far : ∀ B, B < w.heap.size → S B ∧ some B ≠ v.ownBlock → S B ∧ some B ≠ (Value.slice A' (fs ++ gs).length c').ownBlock := fun B hB hh => by
    refine ⟨hh.1, ?_⟩
    rcases b with b | b
    · rw [b]; exact hh.2
    · rw [b]; simp; omega
  by_cases hkl : k < fs.length
  · rw [lrd_append_l hkl]
    simp only [if_pos hkl]
    exact ⟨RdX.turn (h2 k hkl).1 hk far, (h2 k hkl).2⟩
  · rw [lrd_append_r (by omega)]
    simp only [if_neg hkl]
    rw [List.length_append] at hlt
    exact ⟨RdX.turn (r2 (k - fs.length) (by omega)).1 hk far, (r2 (k - fs.length) (by omega)).2⟩
/-- 'append(v, f)': f lies in a new block. -/
theorem OwL.push (h : OwL w base S v fs) (f : List UInt8) {c : Nat} (hr : RdY w (fun b => S b ∧ some b ≠ v.ownBlock) A f) (hz : A = none → f.length = 0) (hc : f.length ≤ c) (hc2 : c ≤ 9223372036854775807) (hbase : base ≤ w.heap.size) (hlen : fs.length ≤ 100000) :
    ∃ A' c' w', (Builtin.append_ #[48, 48] 48 #[v, .slice (some ⟨w.heap.size, 0, none⟩) 1 1]).run Try.prog (w.alloc (.cells #[.slice A f.length c] 22)) = .ok (.slice A' (fs.length + 1) c') w' ∧
      OwL w' base S (.slice A' (fs.length + 1) c') (fs ++ [f]) ∧ (w.alloc (.cells #[.slice A f.length c] 22)).grownBy w' v.ownBlock ∧
      (∀ k, v.ownBlock = some k → base ≤ k) ∧ ((Value.slice A' (fs.length + 1) c').ownBlock = v.ownBlock ∨ (Value.slice A' (fs.length + 1) c').ownBlock = some (w.heap.size + 1)) := by
  obtain ⟨W, hW⟩ : ∃ W, w.alloc (.cells #[.slice A f.length c] 22) = W := ⟨_, rfl⟩
  have hb : Below w.heap.size w W := by rw [← hW]; exact bstep w _
  have hs : W.heap.size = w.heap.size + 1 := by rw [← hW]; simp
  have hown : some w.heap.size ≠ v.ownBlock := by
    obtain ⟨A1, c1, rfl, -, -, -, h4⟩ := h.form
    cases A1 with
    | none => simp [Value.ownBlock]
    | some a => obtain ⟨g, rfl, -, hg⟩ := h4 a rfl; simp [Value.ownBlock]; omega
  have h1 : OwL W base S v fs := by
    obtain ⟨ps, q1, q2⟩ := h
    exact ⟨ps, own_below q1 hb, q2.kept (hb.keptS _)⟩
  have hg := blk_new w #[.slice A f.length c] 22
  rw [hW] at hg
  have hF1 : RdX W (fun _ => True) (some ⟨w.heap.size, 0, none⟩) ([f].length * 1) (lcell [f] (fun _ => (A, c))) := by
    refine .inr ⟨w.heap.size, 0, rfl, trivial, by omega, fun i hi => ?_⟩
    simp only [List.length_cons, List.length_nil] at hi
    match i, hi with
    | 0, _ => exact blk_cell hg 0 rfl
  have hF2 : PdL W (fun b => S b ∧ some b ≠ v.ownBlock) [f] (fun _ => (A, c)) := fun k hk => by
    obtain rfl : k = 0 := by simpa using hk
    exact ⟨RdX.kept hr (hb.keptS _), hz, hc, hc2⟩
  obtain ⟨A', c', w', g1, g2, g3, g4, g5⟩ := h1.append (c := 1) hF1 hF2 (by simp) (by omega) (by simp; omega)
  rw [List.length_append] at g1 g2 g5
  rw [hs] at g5
  subst hW
  exact ⟨A', c', w', g1, g2, g3, g4, g5⟩
end
end Go.Proofs.Ytfbeihfpflhdaaa
