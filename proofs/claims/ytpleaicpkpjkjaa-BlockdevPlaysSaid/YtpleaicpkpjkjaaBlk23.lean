/-
  Two devices beside one another; rows of strings in an array of slices. Conditions stand at each theorem.
-/
import Derived.Test.YtpleaicpkpjkjaaBlk22
namespace Go.Proofs.Ytpleaicpkpjkjaa
open Go Go.RowKit Go.Kw
set_option linter.unusedVariables false
set_option linter.unusedSimpArgs false

section
variable {w0 W W' : World} {d sb sc : Nat} {D D' : Dv} {X : Nat → Prop}
/-- What turns blocks beside the device alone. -/
theorem LD.other {S : Nat → Prop} (h : LD w0 d sb sc D X W) (hk : Kept S W W') (hS : ∀ b, b < W.heap.size → ¬ S b → X b ∧ w0.heap.size ≤ b) : LD w0 d sb sc D (fun b => X b ∨ W.heap.size ≤ b ∧ b < W'.heap.size) W' := by
  obtain ⟨V, h1, h2, h3⟩ := h
  have hlt := h1.lt
  have own : ∀ b, b < W.heap.size → ¬ Ft d sb V b → S b := fun b hb hf => Classical.byContradiction fun hn => hf (h3 b (hS b hb hn).1).2
  have hb0 : Below w0.heap.size W W' := hk.below h2.size (fun b hb => Classical.byContradiction fun hn => by have := (hS b (Nat.lt_of_lt_of_le hb h2.size) hn).2; omega)
  refine ⟨V, h1.kept hk (own d hlt.1 (fun hf => hf.1 rfl)) (own sb hlt.2.1 (fun hf => hf.2.1 rfl)) (fun g hg => own g (hlt.2.2 g hg) (fun hf => hf.2.2 hg)), h2.trans hb0, fun b hx => ?_⟩
  rcases hx with hx | ⟨hx, hx2⟩
  · exact ⟨Nat.lt_of_lt_of_le (h3 b hx).1 hk.size, (h3 b hx).2⟩
  · exact ⟨hx2, h1.new hx⟩
/-- A device that was made since w0, all of its own within F. -/
def LDs (w0 : World) (d sb sc : Nat) (D : Dv) (F : Nat → Prop) (W : World) : Prop := ∃ V, DevO W w0.heap.size d sb sc V D ∧ Below w0.heap.size w0 W ∧ ∀ b, ¬ Ft d sb V b → F b
theorem LD.sep (h : LD w0 d sb sc D X W) : ∃ F : Nat → Prop, LDs w0 d sb sc D F W ∧ (∀ b, F b → b < W.heap.size ∧ w0.heap.size ≤ b ∧ ¬ X b) := by
  obtain ⟨V, h1, h2, h3⟩ := h
  refine ⟨fun b => ¬ Ft d sb V b, ⟨V, h1, h2, fun b hb => hb⟩, fun b hb => ⟨?_, ?_, fun hx => hb (h3 b hx).2⟩⟩
  · exact Classical.byContradiction fun hn => hb (h1.new (by omega))
  · exact Classical.byContradiction fun hn => hb (h1.below (by omega))
variable {F : Nat → Prop}
theorem LDs.ofLD (h : LD w0 d sb sc D X W) : LDs w0 d sb sc D (fun b => w0.heap.size ≤ b ∧ b < W.heap.size) W := by
  obtain ⟨F, h1, h2⟩ := h.sep
  obtain ⟨V, h3, h4, h5⟩ := h1
  exact ⟨V, h3, h4, fun b hb => ⟨(h2 b (h5 b hb)).2.1, (h2 b (h5 b hb)).1⟩⟩
theorem LDs.ld (h : LDs w0 d sb sc D F W) : LD w0 d sb sc D (fun b => b < W.heap.size ∧ ¬ F b) W := by
  obtain ⟨V, h1, h2, h3⟩ := h
  exact ⟨V, h1, h2, fun b hx => ⟨hx.1, Classical.byContradiction fun hn => hx.2 (h3 b hn)⟩⟩
theorem LDs.kept {S : Nat → Prop} (h : LDs w0 d sb sc D F W) (hk : Kept S W W') (hS : ∀ b, F b → S b) (hB : ∀ b, b < w0.heap.size → S b) : LDs w0 d sb sc D F W' := by
  obtain ⟨V, h1, h2, h3⟩ := h
  exact ⟨V, h1.kept hk (hS d (h3 d (fun hf => hf.1 rfl))) (hS sb (h3 sb (fun hf => hf.2.1 rfl))) (fun g hg => hS g (h3 g (fun hf => hf.2.2 hg))), h2.trans (hk.below h2.size hB), h3⟩
theorem LDs.go (h : LDs w0 d sb sc D F W) (hb : Below W.heap.size W W') : LDs w0 d sb sc D F W' := by
  obtain ⟨V, h1, h2, h3⟩ := h
  exact ⟨V, h1.go hb, bnext h2 hb, h3⟩
theorem LDs.ofP {V : Value} (h : DevO W w0.heap.size d sb sc V D) (h2 : Below w0.heap.size w0 W) (h3 : ∀ b, ¬ Ft d sb V b → F b) (hp : DevP W w0.heap.size d sb sc V D' W') : LDs w0 d sb sc D' (fun b => F b ∨ W.heap.size ≤ b) W' ∧ Kept (fun b => ¬ F b) W W' := by
  have hb := hp.belowB h h2.size
  obtain ⟨V', h4, hk, hv⟩ := hp
  refine ⟨⟨V', h4, h2.trans hb, fun b hf => ?_⟩, hk.mono (fun b _ hx => Classical.byContradiction fun hn => hx (h3 b hn))⟩
  by_cases hb : b < W.heap.size
  · exact .inl (h3 b (fun hf0 => hf (ft_on hv hb hf0)))
  · exact .inr (by omega)
theorem LDs.pull (h : LDs w0 d sb sc D F W) :
    Calls Try.prog 15 #[.pointer (some ⟨d, 0, none⟩)] W fun e W' => e = .returned (.int .i64 0) ∧ LDs w0 d sb sc { D with dn := true } (fun b => F b ∨ W.heap.size ≤ b) W' ∧ Kept (fun b => ¬ F b) W W' := by
  obtain ⟨V, h1, h2, h5⟩ := h
  refine (dPull_dev W _ d sb sc V D h1).mono ?_
  rintro e W' ⟨rfl, hp⟩
  exact ⟨rfl, LDs.ofP h1 h2 h5 hp⟩
theorem LDs.restart (h : LDs w0 d sb sc D F W) (KA : Option Addr) (kc : Nat) (kp : List UInt8) (to at' : Int) (hdn : D.dn = true) (hK : RdY W (fun b => b ≠ sb) KA kp) :
    Calls Try.prog 16 #[.pointer (some ⟨d, 0, none⟩), .agg #[.slice KA kp.length kc, .int .i64 to, .int .i64 at']] W fun e W' => e = .returned (.int .i64 (restV D kp to at').1) ∧ LDs w0 d sb sc (restV D kp to at').2 (fun b => F b ∨ W.heap.size ≤ b) W' ∧ Kept (fun b => ¬ F b) W W' := by
  obtain ⟨V, h1, h2, h5⟩ := h
  refine (dRest_down W _ d sb sc V D h1 KA kc kp to at' hdn h2.size hK).mono ?_
  rintro e W' ⟨rfl, hp⟩
  exact ⟨rfl, LDs.ofP h1 h2 h5 hp⟩
theorem LDs.read (h : LDs w0 d sb sc D F W) (i : Nat) (hi : i < D.S.length) (hdn : D.dn = false) : Calls Try.prog 13 #[.pointer (some ⟨d, 0, none⟩), .int .i64 (i : Int)] W (SafeB W (seenD D i)) := by
  obtain ⟨V, h1, h2, h5⟩ := h
  exact dRead_calls W _ d sb sc V D h1 i hi hdn
end
/-- A row's strings. -/
def strC (l : List UInt8) : Value := .string ⟨l.toArray⟩
def strs (l : List (List UInt8)) : List Value := l.map strC
theorem eStr : Elem Try.prog 38 9 (.string ByteArray.empty) 1 16 := ⟨Try.underlying38, by kernel_rfl, rfl, by decide⟩
/-- append of one string that lies in a new block. -/
theorem append_str (w : World) (B : Nat) {v : Value} {n : Nat} {l : List (List UInt8)} (hown : w.ownsRow B 9 1 v n (strs l)) (x : List UInt8) (h63 : n ≤ 1000000) (hB : B ≤ w.heap.size) :
    ∃ A' c' w', (Builtin.append_ #[38, 38] 38 #[v, .slice (some ⟨w.heap.size, 0, none⟩) 1 1]).run Try.prog (w.alloc (.cells #[strC x] 9)) = .ok (.slice A' (n + 1) c') w' ∧ w'.ownsRow B 9 1 (.slice A' (n + 1) c') (n + 1) (strs (l ++ [x])) ∧ (w.alloc (.cells #[strC x] 9)).grownBy w' v.ownBlock ∧
      ((Value.slice A' (n + 1) c').ownBlock = v.ownBlock ∨ (Value.slice A' (n + 1) c').ownBlock = some (w.heap.size + 1)) := by
  have hr : Rd (w.alloc (.cells #[strC x] 9)) (w.heap.size + 1) (some ⟨w.heap.size, 0, none⟩) (1 * 1) (fun _ => strC x) := by
    refine .inr ⟨w.heap.size, 0, rfl, by omega, fun i hi => ?_⟩
    obtain rfl : i = 0 := by omega
    rw [Nat.zero_add, World.cell?_alloc_mark]; rfl
  obtain ⟨v', w', hrun, o, g, -, b⟩ := run_append (P := Try.prog) (w.alloc (.cells #[strC x] 9)) B 38 eStr (hown.alloc _) 1 1 hr (fun i _ => rfl) (by unfold maxLen; omega) (by omega) (by simp; omega) (by simp)
  rw [show vals (1 * 1) (fun _ => strC x) = strs [x] from rfl, show strs l ++ strs [x] = strs (l ++ [x]) by simp [strs]] at o
  obtain ⟨A', c', rfl, -⟩ := own_form o
  rw [World.size_alloc] at b
  exact ⟨A', c', w', hrun, o, g, b⟩
/-- Eight rows of strings, their slices in the block tb. -/
structure AllM (W : World) (tb B : Nat) (X : Nat → Prop) (V : Nat → Value) (g : Nat → List (List UInt8)) : Prop where
  c : ∀ n, n < 8 → W.cell? ⟨tb, n, none⟩ = some (V n)
  f : ∀ n, W.frozen? ⟨tb, n, none⟩ = false
  o : ∀ n, n < 8 → W.ownsRow B 9 1 (V n) (g n).length (strs (g n))
  a : ∀ n m, n < 8 → m < 8 → n ≠ m → ∀ b, (V n).ownBlock = some b → (V m).ownBlock ≠ some b
  t : ∀ n, n < 8 → (V n).ownBlock ≠ some tb
  x : ∀ n b, n < 8 → (V n).ownBlock = some b → X b
  xt : X tb
theorem AllM.kept {W W' : World} {tb B : Nat} {X : Nat → Prop} {V : Nat → Value} {g : Nat → List (List UInt8)} (h : AllM W tb B X V g) (hk : Kept X W W') : AllM W' tb B X V g :=
  ⟨fun n hn => (World.cell?_of_block (a := ⟨tb, n, none⟩) (hk.block tb (block_lt (h.c n hn)) h.xt)).trans (h.c n hn),
   fun n => by
     have := hk.block tb (block_lt (h.c 0 (by omega))) h.xt
     have hf := h.f n
     simp only [World.frozen?] at hf ⊢
     rw [this]; exact hf,
   fun n hn => own_keptV (h.o n hn) hk (fun b hb => h.x n b hn hb), h.a, h.t, h.x, h.xt⟩
theorem AllM.moreX {W : World} {tb B : Nat} {X Y : Nat → Prop} {V : Nat → Value} {g : Nat → List (List UInt8)} (h : AllM W tb B X V g) (hy : ∀ b, X b → Y b) : AllM W tb B Y V g := ⟨h.c, h.f, h.o, h.a, h.t, fun n b hn hb => hy b (h.x n b hn hb), hy tb h.xt⟩
/-- One row with a string more. -/
theorem AllM.put {W W2 : World} {tb B : Nat} {X : Nat → Prop} {V : Nat → Value} {g : Nat → List (List UInt8)} (h : AllM W tb B X V g) (hX : ∀ b, X b → b < W.heap.size) {k : Nat} (hk : k < 8) (x : List UInt8) {A' : Option Addr} {c' : Nat}
    (ho : W2.ownsRow B 9 1 (.slice A' ((g k).length + 1) c') ((g k).length + 1) (strs (g k ++ [x]))) (hg : (W.alloc (.cells #[strC x] 9)).grownBy W2 (V k).ownBlock) (hb : (Value.slice A' ((g k).length + 1) c').ownBlock = (V k).ownBlock ∨ (Value.slice A' ((g k).length + 1) c').ownBlock = some (W.heap.size + 1)) :
    AllM (W2.setCell ⟨tb, k, none⟩ (.slice A' ((g k).length + 1) c')) tb B (fun b => X b ∨ W.heap.size ≤ b ∧ b < W2.heap.size) (fun n => if n = k then .slice A' ((g k).length + 1) c' else V n) (fun n => if n = k then g k ++ [x] else g n) ∧
      Kept (fun b => b ≠ tb ∧ (V k).ownBlock ≠ some b) W (W2.setCell ⟨tb, k, none⟩ (.slice A' ((g k).length + 1) c')) := by
  have hk1 : Kept (fun b => (V k).ownBlock ≠ some b) W W2 := (((Kept.refl _ W).alloc _).grown hg (fun b e => .inr (fun hh => hh e)))
  have htb : tb < W.heap.size := block_lt (h.c k hk)
  have hh2 : W2.heap[tb]? = W.heap[tb]? := hk1.block tb htb (h.t k hk)
  have hc2 : ∀ n, n < 8 → W2.cell? ⟨tb, n, none⟩ = some (V n) := fun n hn => (World.cell?_of_block (a := ⟨tb, n, none⟩) hh2).trans (h.c n hn)
  have hnew : ∀ b, (Value.slice A' ((g k).length + 1) c').ownBlock = some b → b ≠ tb ∧ (X b ∨ W.heap.size ≤ b ∧ b < W2.heap.size) ∧ (∀ n, n < 8 → n ≠ k → (V n).ownBlock ≠ some b) := fun b e => by
    rcases hb with hb | hb
    · rw [hb] at e
      exact ⟨fun e2 => h.t k hk (e2 ▸ e), .inl (h.x k b hk e), fun n hn hne => h.a k n hk hn (fun e2 => hne e2.symm) b e⟩
    · have e3 := hb.symm.trans e
      injection e3 with e3
      have := (ho.lt b e).2
      exact ⟨by omega, .inr ⟨by omega, this⟩, fun n hn _ e4 => by have := hX b (h.x n b hn e4); omega⟩
  refine ⟨⟨fun n hn => ?_, fun n => ?_, fun n hn => ?_, fun n m hn hm hne b e => ?_, fun n hn e => ?_, fun n b hn e => ?_, .inl h.xt⟩, (hk1.mono (fun b _ hb => hb.2)).setCell (fun hh => hh.1 rfl) _⟩
  · by_cases e : n = k
    · subst e; rw [if_pos rfl, World.cell?_setCell_same _ _ _ (hc2 n hn)]
    · rw [if_neg e, World.cell?_setCell_other _ _ _ _ (fun e2 => e (by injection e2 with _ e2 _; exact e2.symm))]; exact hc2 n hn
  · rw [World.frozen?_setCell]
    have hf := h.f n
    simp only [World.frozen?] at hf ⊢
    rw [hh2]; exact hf
  · by_cases e : n = k
    · subst e
      simp only [if_true]
      rw [List.length_append]
      exact own_set_other ho tb n (fun e2 => (hnew tb e2).1 rfl) _
    · simp only [if_neg e]
      refine own_set_other (own_keptV (h.o n hn) hk1 (fun b hb e2 => h.a n k hn hk e b hb e2)) tb k (h.t n hn) _
  · by_cases e1 : n = k
    · subst e1
      simp only [if_true] at e
      rw [if_neg (fun e2 => hne e2.symm)]
      exact (hnew b e).2.2 m hm (fun e2 => hne e2.symm)
    · rw [if_neg e1] at e
      by_cases e2 : m = k
      · subst e2
        rw [if_pos rfl]
        intro e3
        exact (hnew b e3).2.2 n hn e1 e
      · rw [if_neg e2]; exact h.a n m hn hm hne b e
  · by_cases e1 : n = k
    · subst e1
      simp only [if_true] at e
      exact (hnew tb e).1 rfl
    · rw [if_neg e1] at e; exact h.t n hn e
  · by_cases e1 : n = k
    · subst e1
      simp only [if_true] at e
      exact (hnew b e).2.1
    · rw [if_neg e1] at e; exact .inl (h.x n b hn e)
end Go.Proofs.Ytpleaicpkpjkjaa
