/-
  Memory under a call that turns one object: 'Kept S' (the blocks of S stay), 'RdX' (a slice reads as so many cells, in a block of S), rows of structs. Conditions stand at each theorem.
-/
import Derived.Test.YtjmkbpgakfeceaaSlices
import Derived.Deep.Draws
namespace Go.Kw
open Go Go.RowKit
set_option linter.unusedVariables false

/-- The blocks of S stay as they are. -/
structure Kept (S : Nat → Prop) (w w' : World) : Prop where
  os : w'.os = w.os
  tape : w'.tape = w.tape
  output : w'.output = w.output
  size : w.heap.size ≤ w'.heap.size
  block : ∀ k, k < w.heap.size → S k → w'.heap[k]? = w.heap[k]?
theorem Kept.refl (S : Nat → Prop) (w : World) : Kept S w w := ⟨rfl, rfl, rfl, Nat.le_refl _, fun _ _ _ => rfl⟩
theorem Kept.trans {S : Nat → Prop} {a b c : World} (h : Kept S a b) (k : Kept S b c) : Kept S a c :=
  ⟨k.os.trans h.os, k.tape.trans h.tape, k.output.trans h.output, Nat.le_trans h.size k.size, fun i hi hs => (k.block i (Nat.lt_of_lt_of_le hi h.size) hs).trans (h.block i hi hs)⟩
theorem Kept.mono {S S' : Nat → Prop} {w w' : World} (h : Kept S w w') (hs : ∀ k, k < w.heap.size → S' k → S k) : Kept S' w w' := ⟨h.os, h.tape, h.output, h.size, fun k hk hk' => h.block k hk (hs k hk hk')⟩
theorem _root_.Go.RowKit.Below.keptS {w w' : World} (h : Below w.heap.size w w') (S : Nat → Prop) : Kept S w w' := ⟨h.os, h.tape, h.output, h.size, fun k hk _ => h.block k hk⟩
theorem _root_.Go.RowKit.Below.keptB {B : Nat} {w w' : World} (h : Below B w w') : Kept (fun k => k < B) w w' := ⟨h.os, h.tape, h.output, h.size, fun k hk hs => h.block k hs⟩
theorem Kept.below {S : Nat → Prop} {w w' : World} (h : Kept S w w') {B : Nat} (hB : B ≤ w.heap.size) (hs : ∀ k, k < B → S k) : Below B w w' := ⟨h.os, h.tape, h.output, h.size, fun k hk => h.block k (by omega) (hs k hk)⟩
theorem Kept.alloc {S : Nat → Prop} {a w : World} (h : Kept S a w) (o : Obj) : Kept S a (w.alloc o) :=
  h.trans ⟨rfl, rfl, rfl, by simp, fun k hk _ => Below.heap_alloc _ _ _ hk⟩
theorem Kept.setCell {S : Nat → Prop} {a w : World} (h : Kept S a w) {p : Addr} (hp : ¬ S p.block) (u : Value) : Kept S a (w.setCell p u) :=
  h.trans ⟨rfl, rfl, rfl, by simp [World.setCell], fun k hk hs => Below.heap_setCell _ _ _ _ (fun e => hp (e ▸ hs))⟩
theorem Kept.setNew {S : Nat → Prop} {a w : World} (h : Kept S a w) {p : Addr} (hp : a.heap.size ≤ p.block) (u : Value) : Kept S a (w.setCell p u) :=
  ⟨h.os, h.tape, h.output, Nat.le_trans h.size (by simp [World.setCell]), fun k hk hs => (Below.heap_setCell _ _ _ _ (by omega)).trans (h.block k hk hs)⟩
theorem Kept.drew {S : Nat → Prop} {a w : World} (h : Kept S a w) : Kept S a w.drew := ⟨h.os, h.tape, h.output, h.size, h.block⟩
theorem _root_.Go.RowKit.Below.drewN {B : Nat} {a w : World} (h : Below B a w) (n : Nat) : Below B a (w.drewN n) := h.trans ⟨rfl, rfl, rfl, Nat.le_refl _, fun _ _ => rfl⟩
theorem Kept.drewN {S : Nat → Prop} {a w : World} (h : Kept S a w) (n : Nat) : Kept S a (w.drewN n) := h.trans ⟨rfl, rfl, rfl, Nat.le_refl _, fun _ _ _ => rfl⟩
theorem Kept.next {S : Nat → Prop} {a w w' : World} (h : Kept S a w) (k : Below w.heap.size w w') : Kept S a w' := h.trans (k.keptS S)
theorem Kept.putObj {S : Nat → Prop} {a w : World} (h : Kept S a w) {l : Nat} (hl : a.heap.size ≤ l) (o : Obj) : Kept S a (w.putObj l o) := by
  have hg := grownBy_putObj' w l o
  exact ⟨hg.os.trans h.os, hg.tape.trans h.tape, hg.output.trans h.output, Nat.le_trans h.size hg.size, fun k hk hs => (hg.block k (by have := h.size; omega) (by simp; omega)).trans (h.block k hk hs)⟩
/-- What is kept abides whatever turns no block of cells. -/
theorem kept_own {S : Nat → Prop} {w : World} {B : Nat} (hB : w.heap.size ≤ B) : OwnW B (fun W => Kept S w W) := by
  intro W W' row h hg hr
  exact ⟨hg.os.trans h.os, hg.tape.trans h.tape, hg.output.trans h.output, Nat.le_trans h.size hg.size,
    fun k hk hs => (hg.block k (by have := h.size; omega) (fun e => by have := (hr k e.symm).1; omega)).trans (h.block k hk hs)⟩
theorem Kept.grown {S : Nat → Prop} {a w w' : World} {row : Option Nat} (h : Kept S a w) (hg : w.grownBy w' row) (hr : ∀ k, row = some k → a.heap.size ≤ k ∨ ¬ S k) : Kept S a w' :=
  ⟨hg.os.trans h.os, hg.tape.trans h.tape, hg.output.trans h.output, Nat.le_trans h.size hg.size, fun k hk hs => (hg.block k (by have := h.size; omega) (fun e => by rcases hr k e.symm with h | h; omega; exact h hs)).trans (h.block k hk hs)⟩

/-- The cells from A on, in a block of S, read as f, n of them. -/
def RdX (w : World) (S : Nat → Prop) (A : Option Addr) (n : Nat) (f : Nat → Value) : Prop :=
  n = 0 ∨ ∃ b off, A = some ⟨b, off, none⟩ ∧ S b ∧ b < w.heap.size ∧ ∀ i, i < n → w.cell? ⟨b, off + i, none⟩ = some (f i)
section
variable {w w' : World} {S S' : Nat → Prop} {A : Option Addr} {n : Nat} {f : Nat → Value}
theorem RdX.rd (h : RdX w S A n f) : Rd w w.heap.size A n f := by
  rcases h with h | ⟨b, off, e, hs, hb, hc⟩
  · exact .inl h
  · exact .inr ⟨b, off, e, hb, hc⟩
theorem RdX.of (h : Rd w w.heap.size A n f) (hs : ∀ b, b < w.heap.size → S b) : RdX w S A n f := by
  rcases h with h | ⟨b, off, e, hb, hc⟩
  · exact .inl h
  · exact .inr ⟨b, off, e, hs b hb, hb, hc⟩
theorem RdX.kept (h : RdX w S A n f) (hk : Kept S w w') : RdX w' S A n f := by
  rcases h with h | ⟨b, off, e, hs, hb, hc⟩
  · exact .inl h
  · exact .inr ⟨b, off, e, hs, Nat.lt_of_lt_of_le hb hk.size, fun i hi => (World.cell?_of_block (a := ⟨b, off + i, none⟩) (hk.block b hb hs)).trans (hc i hi)⟩
theorem RdX.mono (h : RdX w S A n f) (hs : ∀ b, S b → S' b) : RdX w S' A n f := by
  rcases h with h | ⟨b, off, e, hb, hc⟩
  · exact .inl h
  · exact .inr ⟨b, off, e, hs b hb, hc⟩
theorem RdX.mono' (h : RdX w S A n f) (hs : ∀ b, b < w.heap.size → S b → S' b) : RdX w S' A n f := by
  rcases h with h | ⟨b, off, e, hb, hl, hc⟩
  · exact .inl h
  · exact .inr ⟨b, off, e, hs b hl hb, hl, hc⟩
theorem RdX.own (B₀ : Nat) : OwnW B₀ (fun W => RdX W S A n f) := by
  intro W W' row h hg hr
  rcases h with h | ⟨b, off, e, hs, hlt, hc⟩
  · exact .inl h
  · exact .inr ⟨b, off, e, hs, Nat.lt_of_lt_of_le hlt hg.size, fun i hi => cell_kept (hc i hi) hg (fun r e => (hr r e).2)⟩
theorem RdX.go (h : RdX w S A n f) (hb : Below w.heap.size w w') : RdX w' S A n f := h.kept (hb.keptS S)
/-- The same, with only some of the cells. -/
theorem RdX.part (h : RdX w S A n f) {k : Nat} (hk : k ≤ n) : RdX w S A k f := by
  rcases h with h | ⟨b, off, e, hs, hb, hc⟩
  · exact .inl (by omega)
  · exact .inr ⟨b, off, e, hs, hb, fun i hi => hc i (by omega)⟩
/-- From a place on. -/
theorem RdX.from {b off : Nat} (h : RdX w S (some ⟨b, off, none⟩) n f) (k : Nat) (g : Nat → Value) (hg : ∀ i, i < n - k → g i = f (k + i)) : RdX w S (some ⟨b, off + k, none⟩) (n - k) g := by
  rcases h with h | ⟨b', off', e, hs, hb, hc⟩
  · exact .inl (by omega)
  · injection e with e; injection e with e1 e2; subst e1 e2
    exact .inr ⟨b, off + k, rfl, hs, hb, fun i hi => by rw [Nat.add_assoc, hc (k + i) (by omega), hg i hi]⟩
theorem RdX.at_ (h : RdX w S A n f) {k : Nat} (hk : k < n) : ∃ b off, A = some ⟨b, off, none⟩ ∧ S b ∧ b < w.heap.size ∧ w.cell? ⟨b, off + k, none⟩ = some (f k) := by
  rcases h with h | ⟨b, off, e, hs, hlt, hc⟩
  · omega
  · exact ⟨b, off, e, hs, hlt, hc k hk⟩
end
/-- The slice reads as these bytes, in a block of S. -/
def RdY (w : World) (S : Nat → Prop) (A : Option Addr) (l : List UInt8) : Prop := RdX w S A l.length (fun i => .int .u8 (bAt l i))
section
variable {w w' : World} {S S' : Nat → Prop} {A : Option Addr} {l : List UInt8}
theorem RdY.rd (h : RdY w S A l) : RdB w w.heap.size A l := RdX.rd h
theorem RdY.of (h : RdB w w.heap.size A l) (hs : ∀ b, b < w.heap.size → S b) : RdY w S A l := RdX.of h hs
theorem RdY.kept (h : RdY w S A l) (hk : Kept S w w') : RdY w' S A l := RdX.kept h hk
theorem RdY.go (h : RdY w S A l) (hb : Below w.heap.size w w') : RdY w' S A l := RdX.go h hb
theorem RdY.mono (h : RdY w S A l) (hs : ∀ b, S b → S' b) : RdY w S' A l := RdX.mono h hs
theorem RdY.own (B₀ : Nat) (S : Nat → Prop) (A : Option Addr) (l : List UInt8) : OwnW B₀ (fun W => RdY W S A l) := RdX.own B₀
theorem RdY.drop {b off : Nat} (h : RdY w S (some ⟨b, off, none⟩) l) (k : Nat) : RdY w S (some ⟨b, off + k, none⟩) (l.drop k) := by
  unfold RdY
  rw [List.length_drop]
  refine RdX.from h k _ fun i hi => ?_
  simp [bAt, List.getD_eq_getElem?_getD]
theorem RdY.take (h : RdY w S A l) (k : Nat) : RdY w S A (l.take k) := by
  unfold RdY RdX
  rcases h with h | ⟨b, off, e, hs, hb, hc⟩
  · exact .inl (by rw [List.length_take, h]; omega)
  · refine .inr ⟨b, off, e, hs, hb, fun i hi => ?_⟩
    simp only [List.length_take] at hi
    rw [hc i (by omega)]
    simp [bAt, List.getD_eq_getElem?_getD, show i < k by omega]
theorem RdY.nil (w : World) (S : Nat → Prop) (A : Option Addr) : RdY w S A [] := .inl rfl
/-- What the call owns, read. -/
theorem RdY.of_own {base : Nat} {e : TypeId} {n k c : Nat} (h : w.ownsRow base e 1 (.slice A k c) n (bv l)) (hs : ∀ b, base ≤ b → S b) : RdY w S A l := by
  have hn := (rdB_own h).2
  rcases h.2 with ⟨h', h0⟩ | ⟨g, cap, cur, h', hb, hg, hnc, hcm, hcs, ht⟩
  · exact .inl (by omega)
  · injection h' with h1 h2 h3
    subst h1 h3
    have := (rdB_own h).1
    rcases this with h0 | ⟨b, off, e', hlt, hc⟩
    · exact .inl h0
    · injection e' with e'; injection e' with e1 e2; subst e1 e2
      exact .inr ⟨g, 0, rfl, hs g hb, hlt, hc⟩
end
/-- What the call owns abides what keeps all from base on. -/
theorem own_kept {w w' : World} {S : Nat → Prop} {base : Nat} {e : TypeId} {size : Nat} {v : Value} {n : Nat} {xs : List Value} (h : w.ownsRow base e size v n xs) (hk : Kept S w w') (hs : ∀ b, base ≤ b → S b) : w'.ownsRow base e size v n xs := by
  refine ⟨h.1, ?_⟩
  rcases h.2 with h | ⟨g, cap, cur, hv, hg, hh, r⟩
  · exact .inl h
  · exact .inr ⟨g, cap, cur, hv, hg, (hk.block g (Array.getElem?_eq_some_iff.1 hh).1 (hs g hg)).trans hh, r⟩
theorem own_ownW {B base : Nat} {e : TypeId} {size : Nat} {v : Value} {n : Nat} {xs : List Value} : OwnW B (fun W => W.ownsRow base e size v n xs) := by
  intro W W' row h hg hr
  refine ⟨h.1, ?_⟩
  rcases h.2 with h | ⟨g, cap, cur, hv, hb, hh, r⟩
  · exact .inl h
  · refine .inr ⟨g, cap, cur, hv, hb, ?_, r⟩
    refine (hg.block g (Array.getElem?_eq_some_iff.1 hh).1 ?_).trans hh
    intro e'
    obtain ⟨-, o, ho, hc⟩ := hr g e'.symm
    rw [hh] at ho
    injection ho with ho
    subst ho
    cases hc
/-- A block, whole, abides what turns no cells. -/
theorem block_ownW {B b : Nat} {cs : Array Value} {t : TypeId} {fr : Nat × Nat} : OwnW B (fun W => W.heap[b]? = some (.cells cs t fr)) := by
  intro W W' row h hg hr
  refine (hg.block b (Array.getElem?_eq_some_iff.1 h).1 ?_).trans h
  intro e'
  obtain ⟨-, o, ho, hc⟩ := hr b e'.symm
  rw [h] at ho
  injection ho with ho
  subst ho
  cases hc
theorem own_allW {B : Nat} {β : Sort _} {I : β → World → Prop} (h : ∀ b, OwnW B (I b)) : OwnW B (fun W => ∀ b, I b W) :=
  fun W W' row hs hg hr b => h b W W' row (hs b) hg hr
/-- The blocks of S, whole, abide. -/
theorem heap_kept {w w' : World} {S : Nat → Prop} (hk : Kept S w w') {b : Nat} {o : Obj} (h : w.heap[b]? = some o) (hs : S b) : w'.heap[b]? = some o := (hk.block b (Array.getElem?_eq_some_iff.1 h).1 hs).trans h

theorem vals_append (n m : Nat) (f g : Nat → Value) : vals n f ++ vals m g = vals (n + m) (fun i => if i < n then f i else g (i - n)) := by
  apply List.ext_getElem?
  intro j
  unfold vals
  rcases Nat.lt_or_ge j n with h | h
  · rw [List.getElem?_append_left (by simpa using h), List.getElem?_map, List.getElem?_range h, List.getElem?_map, List.getElem?_range (by omega)]
    simp [h]
  · rw [List.getElem?_append_right (by simpa using h), List.length_map, List.length_range, List.getElem?_map, List.getElem?_map]
    rcases Nat.lt_or_ge j (n + m) with h2 | h2
    · rw [List.getElem?_range (by omega), List.getElem?_range h2]
      simp [Nat.not_lt.2 h]
    · rw [List.getElem?_eq_none (l := List.range m) (by simp; omega), List.getElem?_eq_none (l := List.range (n + m)) (by simp; omega)]; rfl
theorem vals_congr {n : Nat} {f g : Nat → Value} (h : ∀ i, i < n → f i = g i) : vals n f = vals n g := by
  unfold vals; exact List.map_congr_left fun i hi => h i (by simpa using hi)
theorem vals_getElem? {n : Nat} {f : Nat → Value} {i : Nat} (h : i < n) : (vals n f)[i]? = some (f i) := by
  unfold vals; rw [List.getElem?_map, List.getElem?_range h]; rfl
/-- A row of the call's own, read. -/
theorem RdX.of_own {w : World} {S : Nat → Prop} {base : Nat} {e : TypeId} {size n k c N : Nat} {A : Option Addr} {f : Nat → Value} (h : w.ownsRow base e size (.slice A k c) n (vals N f)) (hs : ∀ b, base ≤ b → S b) : RdX w S A N f := by
  have hN : N = n * size := by have := h.1; rwa [vals_length] at this
  rcases h.2 with ⟨h', h0⟩ | ⟨g, cap, cur, h', hb, hg, hnc, hcm, hcs, ht⟩
  · exact .inl (by rw [hN, h0]; simp)
  · injection h' with h1 h2 h3
    subst h1 h3
    refine .inr ⟨g, 0, rfl, hs g hb, (Array.getElem?_eq_some_iff.1 hg).1, fun i hi => ?_⟩
    have hc := h.cells (g := g) rfl i (f i) (vals_getElem? hi)
    rw [Go.WideShapes.add_plain] at hc
    exact hc
theorem own_form {w : World} {base : Nat} {e : TypeId} {size : Nat} {v : Value} {n : Nat} {xs : List Value} (h : w.ownsRow base e size v n xs) : ∃ A c, v = .slice A n c ∧ n ≤ c ∧ c ≤ maxLen ∧ (A = none → n = 0 ∧ c = 0) ∧ (∀ a, A = some a → ∃ g, a = ⟨g, 0, none⟩ ∧ base ≤ g ∧ g < w.heap.size) := by
  rcases h.2 with ⟨rfl, h0⟩ | ⟨g, cap, cur, rfl, hb, hg, h1, h2, _⟩
  · exact ⟨none, 0, by rw [h0], by omega, by unfold maxLen; omega, fun _ => ⟨h0, rfl⟩, by simp⟩
  · exact ⟨_, _, rfl, h1, h2, by simp, fun a e => by injection e with e; exact ⟨g, e.symm, hb, (Array.getElem?_eq_some_iff.1 hg).1⟩⟩

section
variable {W W' : World} {b : Nat} {cs : Array Value} {t : TypeId} {fr : Nat × Nat}
theorem blk_cell (h : W.heap[b]? = some (.cells cs t fr)) (i : Nat) {v : Value} (hv : cs[i]? = some v) : W.cell? ⟨b, i, none⟩ = some v := by simp [World.cell?, h, hv]
theorem blk_frozen (h : W.heap[b]? = some (.cells cs t (0, 0))) (i : Nat) : W.frozen? ⟨b, i, none⟩ = false := by simp [World.frozen?, h]
theorem blk_lt (h : W.heap[b]? = some (.cells cs t fr)) : b < W.heap.size := (Array.getElem?_eq_some_iff.1 h).1
theorem blk_below (h : W.heap[b]? = some (.cells cs t fr)) (hb : Below W.heap.size W W') : W'.heap[b]? = some (.cells cs t fr) := (hb.block b (blk_lt h)).trans h
theorem blk_new (W : World) (cs : Array Value) (t : TypeId) : (W.alloc (.cells cs t)).heap[W.heap.size]? = some (.cells cs t (0, 0)) := World.alloc_heap_new W _
end
theorem bstep (w : World) (o : Obj) : Below w.heap.size w (w.alloc o) := (Below.refl _ w).alloc (Nat.le_refl _) o
end Go.Kw
