/-
  Slices of frames in memory: what the call owns ('OwF'), what is read ('RdF'), append. Conditions stand at each theorem.
-/
import Derived.Test.YtmfngkhpaadehaaMbapBytes
namespace Go.Proofs.Ytmfngkhpaadehaa
open Go Go.RowKit Go.Kw Go.Kw.Mb
set_option linter.unusedVariables false
set_option linter.unusedSimpArgs false

theorem ef : Elem Try.prog 26 24 (.agg #[.int .i64 0, .int .i64 0, .slice none 0 0]) 3 40 := ⟨Try.underlying26, by kernel_rfl, rfl, by decide⟩
def frd (fs : List Fr) (k : Nat) : Fr := fs.getD k (0, 0, [])
/-- The cells of a row of frames; ps: where their bytes lie, and how much room is there. -/
def fcell (fs : List Fr) (ps : Nat → Option Addr × Nat) (i : Nat) : Value :=
  if i % 3 = 0 then .int .i64 (frd fs (i / 3)).1 else if i % 3 = 1 then .int .i64 (frd fs (i / 3)).2.1 else .slice (ps (i / 3)).1 (frd fs (i / 3)).2.2.length (ps (i / 3)).2
theorem fcell0 (fs : List Fr) (ps : Nat → Option Addr × Nat) (k : Nat) : fcell fs ps (k * 3) = .int .i64 (frd fs k).1 := by
  unfold fcell; rw [if_pos (by omega), show k * 3 / 3 = k by omega]
theorem fcell1 (fs : List Fr) (ps : Nat → Option Addr × Nat) (k : Nat) : fcell fs ps (k * 3 + 1) = .int .i64 (frd fs k).2.1 := by
  unfold fcell; rw [if_neg (by omega), if_pos (by omega), show (k * 3 + 1) / 3 = k by omega]
theorem fcell2 (fs : List Fr) (ps : Nat → Option Addr × Nat) (k : Nat) : fcell fs ps (k * 3 + 2) = .slice (ps k).1 (frd fs k).2.2.length (ps k).2 := by
  unfold fcell; rw [if_neg (by omega), if_neg (by omega), show (k * 3 + 2) / 3 = k by omega]
theorem fcell_one (fs : List Fr) (ps : Nat → Option Addr × Nat) (i : Nat) : (fcell fs ps i).oneCell' = true := by
  unfold fcell; split; rfl; split <;> rfl
theorem frd_append_l {fs gs : List Fr} {k : Nat} (h : k < fs.length) : frd (fs ++ gs) k = frd fs k := by
  unfold frd; rw [List.getD_eq_getElem?_getD, List.getD_eq_getElem?_getD, List.getElem?_append_left h]
theorem frd_append_r {fs gs : List Fr} {k : Nat} (h : fs.length ≤ k) : frd (fs ++ gs) k = frd gs (k - fs.length) := by
  unfold frd; rw [List.getD_eq_getElem?_getD, List.getD_eq_getElem?_getD, List.getElem?_append_right h]
theorem frd_get {fs : List Fr} {k : Nat} (h : k < fs.length) : fs[k]? = some (frd fs k) := by
  unfold frd; rw [List.getD_eq_getElem?_getD, List.getElem?_eq_getElem h]; rfl
theorem fcells_append (fs gs : List Fr) (ps qs : Nat → Option Addr × Nat) :
    vals (fs.length * 3) (fcell fs ps) ++ vals (gs.length * 3) (fcell gs qs) = vals ((fs ++ gs).length * 3) (fcell (fs ++ gs) (fun k => if k < fs.length then ps k else qs (k - fs.length))) := by
  rw [vals_append, List.length_append, Nat.add_mul]
  refine vals_congr fun i hi => ?_
  split
  · rename_i h
    have h3 : i / 3 < fs.length := by omega
    unfold fcell
    rw [frd_append_l h3]
    simp only [if_pos h3]
  · rename_i h
    have h3 : ¬ i / 3 < fs.length := by omega
    have h4 : (i - fs.length * 3) / 3 = i / 3 - fs.length := by omega
    have h5 : (i - fs.length * 3) % 3 = i % 3 := by omega
    unfold fcell
    rw [frd_append_r (by omega), h4, h5]
    simp only [if_neg h3]

theorem RdX.turn {w w' : World} {S S' : Nat → Prop} {A : Option Addr} {n : Nat} {f : Nat → Value} (h : RdX w S A n f) (hk : Kept S w w') (hs : ∀ b, b < w.heap.size → S b → S' b) : RdX w' S' A n f := by
  rcases h with h | ⟨b, off, e, hb, hl, hc⟩
  · exact .inl h
  · exact .inr ⟨b, off, e, hs b hl hb, Nat.lt_of_lt_of_le hl hk.size, fun i hi => (World.cell?_of_block (a := ⟨b, off + i, none⟩) (hk.block b hl hb)).trans (hc i hi)⟩
/-- The bytes of the frames of a row. -/
def Pdus (w : World) (S : Nat → Prop) (fs : List Fr) (ps : Nat → Option Addr × Nat) : Prop :=
  ∀ k, k < fs.length → RdY w S (ps k).1 (frd fs k).2.2 ∧ ((ps k).1 = none → (frd fs k).2.2.length = 0) ∧ (frd fs k).2.2.length ≤ (ps k).2 ∧ (ps k).2 ≤ 9223372036854775807
/-- A slice reads as frames. -/
def RdF (w : World) (S : Nat → Prop) (A : Option Addr) (fs : List Fr) : Prop := ∃ ps, RdX w S A (fs.length * 3) (fcell fs ps) ∧ Pdus w S fs ps
/-- The call owns a row of frames. -/
def OwF (w : World) (base : Nat) (S : Nat → Prop) (v : Value) (fs : List Fr) : Prop :=
  ∃ ps, w.ownsRow base 24 3 v fs.length (vals (fs.length * 3) (fcell fs ps)) ∧ Pdus w (fun b => S b ∧ some b ≠ v.ownBlock) fs ps

section
variable {w w' : World} {S S' : Nat → Prop} {base : Nat} {v : Value} {fs gs : List Fr} {ps : Nat → Option Addr × Nat} {A : Option Addr}
theorem Pdus.kept (h : Pdus w S fs ps) (hk : Kept S w w') : Pdus w' S fs ps := fun k hlt => ⟨(h k hlt).1.kept hk, (h k hlt).2⟩
theorem Pdus.mono (h : Pdus w S fs ps) (hs : ∀ b, S b → S' b) : Pdus w S' fs ps := fun k hlt => ⟨(h k hlt).1.mono hs, (h k hlt).2⟩
theorem Pdus.own (B₀ : Nat) : OwnW B₀ (fun W => Pdus W S fs ps) := by
  intro W W' row h hg hr k hlt
  exact ⟨RdY.own B₀ S _ _ W W' row (h k hlt).1 hg hr, (h k hlt).2⟩
theorem Pdus.of {S1 : Nat → Prop} (h : Pdus w S fs ps) (hs : ∀ b, b < w.heap.size → S b → S1 b) : Pdus w S1 fs ps := fun k hlt => ⟨RdX.mono' (h k hlt).1 hs, (h k hlt).2⟩
theorem RdF.kept (h : RdF w S A fs) (hk : Kept S w w') : RdF w' S A fs := by obtain ⟨ps, h1, h2⟩ := h; exact ⟨ps, h1.kept hk, h2.kept hk⟩
theorem RdF.mono (h : RdF w S A fs) (hs : ∀ b, S b → S' b) : RdF w S' A fs := by obtain ⟨ps, h1, h2⟩ := h; exact ⟨ps, h1.mono hs, h2.mono hs⟩
theorem RdF.go (h : RdF w S A fs) (hb : Below w.heap.size w w') : RdF w' S A fs := h.kept (hb.keptS S)
theorem RdF.own (B₀ : Nat) : OwnW B₀ (fun W => RdF W S A fs) := OwnW.ex fun ps => (RdX.own B₀).and (Pdus.own B₀)
theorem RdF.nil (w : World) (S : Nat → Prop) (A : Option Addr) : RdF w S A [] := ⟨fun _ => (none, 0), .inl rfl, fun k h => by simp at h⟩
theorem OwF.nil (w : World) (base : Nat) (S : Nat → Prop) : OwF w base S (.slice none 0 0) [] := ⟨fun _ => (none, 0), World.ownsRow_nil w base _ 3, fun k h => by simp at h⟩
theorem OwF.form (h : OwF w base S v fs) : ∃ A c, v = .slice A fs.length c ∧ fs.length ≤ c ∧ c ≤ maxLen ∧ (A = none → fs.length = 0 ∧ c = 0) ∧ (∀ a, A = some a → ∃ g, a = ⟨g, 0, none⟩ ∧ base ≤ g ∧ g < w.heap.size) := by
  obtain ⟨ps, h1, -⟩ := h; exact own_form h1
theorem OwF.rdF {c n : Nat} (h : OwF w base S (.slice A n c) fs) (hs : ∀ b, base ≤ b → S b) : RdF w S A fs := by
  obtain ⟨ps, h1, h2⟩ := h
  exact ⟨ps, RdX.of_own h1 hs, h2.mono fun b hb => hb.1⟩
theorem OwF.keptX {S1 : Nat → Prop} (h : OwF w base S v fs) (hk : Kept S1 w w') (h1 : ∀ b, base ≤ b → S1 b) (h2 : ∀ b, S b → S1 b) : OwF w' base S v fs := by
  obtain ⟨ps, q1, q2⟩ := h
  exact ⟨ps, own_kept q1 hk h1, q2.kept (hk.mono fun k _ hh => h2 k hh.1)⟩
theorem OwF.kept (h : OwF w base S v fs) (hk : Kept S w w') (hs : ∀ b, base ≤ b → S b) : OwF w' base S v fs := h.keptX hk hs fun _ hb => hb
theorem OwF.go (h : OwF w base S v fs) (hb : Below w.heap.size w w') : OwF w' base S v fs := h.keptX (hb.keptS fun _ => True) (fun _ _ => trivial) (fun _ _ => trivial)
theorem OwF.own (B₀ : Nat) : OwnW B₀ (fun W => OwF W base S v fs) := OwnW.ex fun ps => own_ownW.and (Pdus.own B₀)
theorem OwF.mono {base' : Nat} (h : OwF w base' S' v fs) (hb : base ≤ base') (hs : ∀ b, S' b → S b) : OwF w base S v fs := by
  obtain ⟨ps, h1, h2⟩ := h
  exact ⟨ps, own_mono h1 hb, h2.mono fun b hb => ⟨hs b hb.1, hb.2⟩⟩
/-- 'append(v, x...)' -/
theorem OwF.append (h : OwF w base S v fs) {c : Nat} {Sx : Nat → Prop} {qs : Nat → Option Addr × Nat} (r1 : RdX w Sx A (gs.length * 3) (fcell gs qs)) (r2 : Pdus w (fun b => S b ∧ some b ≠ v.ownBlock) gs qs) (hz : A = none → gs.length = 0) (hbase : base ≤ w.heap.size) (hlen : fs.length + gs.length ≤ 1000000) :
    ∃ A' c' w', (Builtin.append_ #[26, 26] 26 #[v, .slice A gs.length c]).run Try.prog w = .ok (.slice A' (fs ++ gs).length c') w' ∧ OwF w' base S (.slice A' (fs ++ gs).length c') (fs ++ gs) ∧ w.grownBy w' v.ownBlock ∧
      (∀ k, v.ownBlock = some k → base ≤ k) ∧ ((Value.slice A' (fs ++ gs).length c').ownBlock = v.ownBlock ∨ (Value.slice A' (fs ++ gs).length c').ownBlock = some w.heap.size) := by
  obtain ⟨ps, h1, h2⟩ := h
  obtain ⟨v', w', hrun, o, g, i, b⟩ := run_append (P := Try.prog) w base 26 ef h1 gs.length c r1.rd (fun i _ => fcell_one _ _ _) (by unfold maxLen; omega) (by omega) hbase hz
  have hk : Kept (fun b => S b ∧ some b ≠ v.ownBlock) w w' := ⟨g.os, g.tape, g.output, g.size, fun k hk hs => g.block k hk hs.2⟩
  rw [fcells_append, ← List.length_append] at o
  obtain ⟨A', c', rfl, q1, q2, q3, q4⟩ := own_form o
  refine ⟨A', c', w', hrun, ⟨_, o, fun k hlt => ?_⟩, g, ownBlock_below h1, b⟩
  have far : ∀ B, B < w.heap.size → S B ∧ some B ≠ v.ownBlock → S B ∧ some B ≠ (Value.slice A' (fs ++ gs).length c').ownBlock := fun B hB hh => by
    refine ⟨hh.1, ?_⟩
    rcases b with b | b
    · rw [b]; exact hh.2
    · rw [b]; simp; omega
  by_cases hkl : k < fs.length
  · rw [frd_append_l hkl]
    simp only [if_pos hkl]
    exact ⟨RdX.turn (h2 k hkl).1 hk far, (h2 k hkl).2⟩
  · rw [frd_append_r (by omega)]
    simp only [if_neg hkl]
    rw [List.length_append] at hlt
    exact ⟨RdX.turn (r2 (k - fs.length) (by omega)).1 hk far, (r2 (k - fs.length) (by omega)).2⟩
/-- 'append(v, f)': f lies in a new block. -/
theorem OwF.push (h : OwF w base S v fs) (f : Fr) {c : Nat} (hr : RdY w (fun b => S b ∧ some b ≠ v.ownBlock) A f.2.2) (hz : A = none → f.2.2.length = 0) (hc : f.2.2.length ≤ c) (hc2 : c ≤ 9223372036854775807) (hbase : base ≤ w.heap.size) (hlen : fs.length ≤ 100000) :
    ∃ A' c' w', (Builtin.append_ #[26, 26] 26 #[v, .slice (some ⟨w.heap.size, 0, none⟩) 1 1]).run Try.prog (w.alloc (.cells #[.int .i64 f.1, .int .i64 f.2.1, .slice A f.2.2.length c] 24)) = .ok (.slice A' (fs.length + 1) c') w' ∧
      OwF w' base S (.slice A' (fs.length + 1) c') (fs ++ [f]) ∧ (w.alloc (.cells #[.int .i64 f.1, .int .i64 f.2.1, .slice A f.2.2.length c] 24)).grownBy w' v.ownBlock ∧
      (∀ k, v.ownBlock = some k → base ≤ k) ∧ ((Value.slice A' (fs.length + 1) c').ownBlock = v.ownBlock ∨ (Value.slice A' (fs.length + 1) c').ownBlock = some (w.heap.size + 1)) := by
  obtain ⟨W, hW⟩ : ∃ W, w.alloc (.cells #[.int .i64 f.1, .int .i64 f.2.1, .slice A f.2.2.length c] 24) = W := ⟨_, rfl⟩
  have hb : Below w.heap.size w W := by rw [← hW]; exact bstep w _
  have hs : W.heap.size = w.heap.size + 1 := by rw [← hW]; simp
  have hown : some w.heap.size ≠ v.ownBlock := by
    obtain ⟨A1, c1, rfl, -, -, -, h4⟩ := h.form
    cases A1 with
    | none => simp [Value.ownBlock]
    | some a => obtain ⟨g, rfl, -, hg⟩ := h4 a rfl; simp [Value.ownBlock]; omega
  have h1 : OwF W base S v fs := by
    obtain ⟨ps, q1, q2⟩ := h
    exact ⟨ps, own_below q1 hb, q2.kept (hb.keptS _)⟩
  have hg := blk_new w #[.int .i64 f.1, .int .i64 f.2.1, .slice A f.2.2.length c] 24
  rw [hW] at hg
  have hF1 : RdX W (fun _ => True) (some ⟨w.heap.size, 0, none⟩) ([f].length * 3) (fcell [f] (fun _ => (A, c))) := by
    refine .inr ⟨w.heap.size, 0, rfl, trivial, by omega, fun i hi => ?_⟩
    simp only [List.length_cons, List.length_nil] at hi
    match i, hi with
    | 0, _ => exact blk_cell hg 0 rfl
    | 1, _ => exact blk_cell hg 1 rfl
    | 2, _ => exact blk_cell hg 2 rfl
  have hF2 : Pdus W (fun b => S b ∧ some b ≠ v.ownBlock) [f] (fun _ => (A, c)) := fun k hk => by
    obtain rfl : k = 0 := by simpa using hk
    exact ⟨RdX.kept hr (hb.keptS _), hz, hc, hc2⟩
  obtain ⟨A', c', w', g1, g2, g3, g4, g5⟩ := h1.append (c := 1) hF1 hF2 (by simp) (by omega) (by simp; omega)
  rw [List.length_append] at g1 g2 g5
  rw [hs] at g5
  subst hW
  exact ⟨A', c', w', g1, g2, g3, g4, g5⟩
end
end Go.Proofs.Ytmfngkhpaadehaa
