/-
  Texts that the proof leans on, merged by program, part 2. Conditions stand at each theorem.
-/
import Derived.Test.YtgbkedjjgbhcmaaDoorTarM1
import Derived.Deep.Draws
import Derived.Test.YtgbkedjjgbhcmaaDoorChecked
import Derived.LoopTactic
import Derived.Lib.Hide
import Derived.Laws.Rows
import Derived.Laws.Tables
import Derived.Deep.QuietTactic
import Derived.BigQuiet
import Derived.Shelf.RegionOpen
import Derived.TacticsInMore
import Derived.LoopNIn
import Derived.LoopIn
import Derived.BigRegionIn
import Derived.Stop.RegionWithIn
import Derived.Sort.CutIn
/-
  Memory under a call that turns one object: 'Kept S' (the blocks of S stay), 'RdX' (a slice reads as so many cells, in a block of S), rows of structs. Conditions stand at each theorem.
-/
namespace Go.Kw
open Go Go.RowKit
set_option linter.unusedVariables false

/-- The blocks of S stay as they are. -/
structure Kept (S : Nat → Prop) (w w' : World) : Prop where
  os : w'.os = w.os
  tape : w'.tape = w.tape
  output : w'.output = w.output
  size : w.heap.size ≤ w'.heap.size
  block : ∀ k, k < w.heap.size → S k → w'.heap[k]? = w.heap[k]?
theorem Kept.refl (S : Nat → Prop) (w : World) : Kept S w w := ⟨rfl, rfl, rfl, Nat.le_refl _, fun _ _ _ => rfl⟩
theorem Kept.trans {S : Nat → Prop} {a b c : World} (h : Kept S a b) (k : Kept S b c) : Kept S a c :=
  ⟨k.os.trans h.os, k.tape.trans h.tape, k.output.trans h.output, Nat.le_trans h.size k.size, fun i hi hs => (k.block i (Nat.lt_of_lt_of_le hi h.size) hs).trans (h.block i hi hs)⟩
theorem Kept.mono {S S' : Nat → Prop} {w w' : World} (h : Kept S w w') (hs : ∀ k, k < w.heap.size → S' k → S k) : Kept S' w w' := ⟨h.os, h.tape, h.output, h.size, fun k hk hk' => h.block k hk (hs k hk hk')⟩
theorem _root_.Go.RowKit.Below.keptS {w w' : World} (h : Below w.heap.size w w') (S : Nat → Prop) : Kept S w w' := ⟨h.os, h.tape, h.output, h.size, fun k hk _ => h.block k hk⟩
theorem _root_.Go.RowKit.Below.keptB {B : Nat} {w w' : World} (h : Below B w w') : Kept (fun k => k < B) w w' := ⟨h.os, h.tape, h.output, h.size, fun k hk hs => h.block k hs⟩
theorem Kept.below {S : Nat → Prop} {w w' : World} (h : Kept S w w') {B : Nat} (hB : B ≤ w.heap.size) (hs : ∀ k, k < B → S k) : Below B w w' := ⟨h.os, h.tape, h.output, h.size, fun k hk => h.block k (by omega) (hs k hk)⟩
theorem Kept.alloc {S : Nat → Prop} {a w : World} (h : Kept S a w) (o : Obj) : Kept S a (w.alloc o) :=
  h.trans ⟨rfl, rfl, rfl, by simp, fun k hk _ => Below.heap_alloc _ _ _ hk⟩
theorem Kept.setCell {S : Nat → Prop} {a w : World} (h : Kept S a w) {p : Addr} (hp : ¬ S p.block) (u : Value) : Kept S a (w.setCell p u) :=
  h.trans ⟨rfl, rfl, rfl, by simp [World.setCell], fun k hk hs => Below.heap_setCell _ _ _ _ (fun e => hp (e ▸ hs))⟩
theorem Kept.setNew {S : Nat → Prop} {a w : World} (h : Kept S a w) {p : Addr} (hp : a.heap.size ≤ p.block) (u : Value) : Kept S a (w.setCell p u) :=
  ⟨h.os, h.tape, h.output, Nat.le_trans h.size (by simp [World.setCell]), fun k hk hs => (Below.heap_setCell _ _ _ _ (by omega)).trans (h.block k hk hs)⟩
theorem Kept.drew {S : Nat → Prop} {a w : World} (h : Kept S a w) : Kept S a w.drew := ⟨h.os, h.tape, h.output, h.size, h.block⟩
theorem _root_.Go.RowKit.Below.drewN {B : Nat} {a w : World} (h : Below B a w) (n : Nat) : Below B a (w.drewN n) := h.trans ⟨rfl, rfl, rfl, Nat.le_refl _, fun _ _ => rfl⟩
theorem Kept.drewN {S : Nat → Prop} {a w : World} (h : Kept S a w) (n : Nat) : Kept S a (w.drewN n) := h.trans ⟨rfl, rfl, rfl, Nat.le_refl _, fun _ _ _ => rfl⟩
theorem Kept.next {S : Nat → Prop} {a w w' : World} (h : Kept S a w) (k : Below w.heap.size w w') : Kept S a w' := h.trans (k.keptS S)
theorem Kept.putObj {S : Nat → Prop} {a w : World} (h : Kept S a w) {l : Nat} (hl : a.heap.size ≤ l) (o : Obj) : Kept S a (w.putObj l o) := by
  have hg := grownBy_putObj' w l o
  exact ⟨hg.os.trans h.os, hg.tape.trans h.tape, hg.output.trans h.output, Nat.le_trans h.size hg.size, fun k hk hs => (hg.block k (by have := h.size; omega) (by simp; omega)).trans (h.block k hk hs)⟩
/-- What is kept abides whatever turns no block of cells. -/
theorem kept_own {S : Nat → Prop} {w : World} {B : Nat} (hB : w.heap.size ≤ B) : OwnW B (fun W => Kept S w W) := by
  intro W W' row h hg hr
  exact ⟨hg.os.trans h.os, hg.tape.trans h.tape, hg.output.trans h.output, Nat.le_trans h.size hg.size,
    fun k hk hs => (hg.block k (by have := h.size; omega) (fun e => by have := (hr k e.symm).1; omega)).trans (h.block k hk hs)⟩
theorem Kept.grown {S : Nat → Prop} {a w w' : World} {row : Option Nat} (h : Kept S a w) (hg : w.grownBy w' row) (hr : ∀ k, row = some k → a.heap.size ≤ k ∨ ¬ S k) : Kept S a w' :=
  ⟨hg.os.trans h.os, hg.tape.trans h.tape, hg.output.trans h.output, Nat.le_trans h.size hg.size, fun k hk hs => (hg.block k (by have := h.size; omega) (fun e => by rcases hr k e.symm with h | h; omega; exact h hs)).trans (h.block k hk hs)⟩

/-- The cells from A on, in a block of S, read as f, n of them. -/
def RdX (w : World) (S : Nat → Prop) (A : Option Addr) (n : Nat) (f : Nat → Value) : Prop :=
  n = 0 ∨ ∃ b off, A = some ⟨b, off, none⟩ ∧ S b ∧ b < w.heap.size ∧ ∀ i, i < n → w.cell? ⟨b, off + i, none⟩ = some (f i)
section
variable {w w' : World} {S S' : Nat → Prop} {A : Option Addr} {n : Nat} {f : Nat → Value}
theorem RdX.rd (h : RdX w S A n f) : Rd w w.heap.size A n f := by
  rcases h with h | ⟨b, off, e, hs, hb, hc⟩
  · exact .inl h
  · exact .inr ⟨b, off, e, hb, hc⟩
theorem RdX.of (h : Rd w w.heap.size A n f) (hs : ∀ b, b < w.heap.size → S b) : RdX w S A n f := by
  rcases h with h | ⟨b, off, e, hb, hc⟩
  · exact .inl h
  · exact .inr ⟨b, off, e, hs b hb, hb, hc⟩
theorem RdX.kept (h : RdX w S A n f) (hk : Kept S w w') : RdX w' S A n f := by
  rcases h with h | ⟨b, off, e, hs, hb, hc⟩
  · exact .inl h
  · exact .inr ⟨b, off, e, hs, Nat.lt_of_lt_of_le hb hk.size, fun i hi => (World.cell?_of_block (a := ⟨b, off + i, none⟩) (hk.block b hb hs)).trans (hc i hi)⟩
theorem RdX.mono (h : RdX w S A n f) (hs : ∀ b, S b → S' b) : RdX w S' A n f := by
  rcases h with h | ⟨b, off, e, hb, hc⟩
  · exact .inl h
  · exact .inr ⟨b, off, e, hs b hb, hc⟩
theorem RdX.mono' (h : RdX w S A n f) (hs : ∀ b, b < w.heap.size → S b → S' b) : RdX w S' A n f := by
  rcases h with h | ⟨b, off, e, hb, hl, hc⟩
  · exact .inl h
  · exact .inr ⟨b, off, e, hs b hl hb, hl, hc⟩
theorem RdX.own (B₀ : Nat) : OwnW B₀ (fun W => RdX W S A n f) := by
  intro W W' row h hg hr
  rcases h with h | ⟨b, off, e, hs, hlt, hc⟩
  · exact .inl h
  · exact .inr ⟨b, off, e, hs, Nat.lt_of_lt_of_le hlt hg.size, fun i hi => cell_kept (hc i hi) hg (fun r e => (hr r e).2)⟩
theorem RdX.go (h : RdX w S A n f) (hb : Below w.heap.size w w') : RdX w' S A n f := h.kept (hb.keptS S)
/-- The same, with only some of the cells. -/
theorem RdX.part (h : RdX w S A n f) {k : Nat} (hk : k ≤ n) : RdX w S A k f := by
  rcases h with h | ⟨b, off, e, hs, hb, hc⟩
  · exact .inl (by omega)
  · exact .inr ⟨b, off, e, hs, hb, fun i hi => hc i (by omega)⟩
/-- From a place on. -/
theorem RdX.from {b off : Nat} (h : RdX w S (some ⟨b, off, none⟩) n f) (k : Nat) (g : Nat → Value) (hg : ∀ i, i < n - k → g i = f (k + i)) : RdX w S (some ⟨b, off + k, none⟩) (n - k) g := by
  rcases h with h | ⟨b', off', e, hs, hb, hc⟩
  · exact .inl (by omega)
  · injection e with e; injection e with e1 e2; subst e1 e2
    exact .inr ⟨b, off + k, rfl, hs, hb, fun i hi => by rw [Nat.add_assoc, hc (k + i) (by omega), hg i hi]⟩
theorem RdX.at_ (h : RdX w S A n f) {k : Nat} (hk : k < n) : ∃ b off, A = some ⟨b, off, none⟩ ∧ S b ∧ b < w.heap.size ∧ w.cell? ⟨b, off + k, none⟩ = some (f k) := by
  rcases h with h | ⟨b, off, e, hs, hlt, hc⟩
  · omega
  · exact ⟨b, off, e, hs, hlt, hc k hk⟩
end
/-- The slice reads as these bytes, in a block of S. -/
def RdY (w : World) (S : Nat → Prop) (A : Option Addr) (l : List UInt8) : Prop := RdX w S A l.length (fun i => .int .u8 (bAt l i))
section
variable {w w' : World} {S S' : Nat → Prop} {A : Option Addr} {l : List UInt8}
theorem RdY.rd (h : RdY w S A l) : RdB w w.heap.size A l := RdX.rd h
theorem RdY.of (h : RdB w w.heap.size A l) (hs : ∀ b, b < w.heap.size → S b) : RdY w S A l := RdX.of h hs
theorem RdY.kept (h : RdY w S A l) (hk : Kept S w w') : RdY w' S A l := RdX.kept h hk
theorem RdY.go (h : RdY w S A l) (hb : Below w.heap.size w w') : RdY w' S A l := RdX.go h hb
theorem RdY.mono (h : RdY w S A l) (hs : ∀ b, S b → S' b) : RdY w S' A l := RdX.mono h hs
theorem RdY.own (B₀ : Nat) (S : Nat → Prop) (A : Option Addr) (l : List UInt8) : OwnW B₀ (fun W => RdY W S A l) := RdX.own B₀
theorem RdY.drop {b off : Nat} (h : RdY w S (some ⟨b, off, none⟩) l) (k : Nat) : RdY w S (some ⟨b, off + k, none⟩) (l.drop k) := by
  unfold RdY
  rw [List.length_drop]
  refine RdX.from h k _ fun i hi => ?_
  simp [bAt, List.getD_eq_getElem?_getD]
theorem RdY.take (h : RdY w S A l) (k : Nat) : RdY w S A (l.take k) := by
  unfold RdY RdX
  rcases h with h | ⟨b, off, e, hs, hb, hc⟩
  · exact .inl (by rw [List.length_take, h]; omega)
  · refine .inr ⟨b, off, e, hs, hb, fun i hi => ?_⟩
    simp only [List.length_take] at hi
    rw [hc i (by omega)]
    simp [bAt, List.getD_eq_getElem?_getD, show i < k by omega]
theorem RdY.nil (w : World) (S : Nat → Prop) (A : Option Addr) : RdY w S A [] := .inl rfl
/-- What the call owns, read. -/
theorem RdY.of_own {base : Nat} {e : TypeId} {n k c : Nat} (h : w.ownsRow base e 1 (.slice A k c) n (bv l)) (hs : ∀ b, base ≤ b → S b) : RdY w S A l := by
  have hn := (rdB_own h).2
  rcases h.2 with ⟨h', h0⟩ | ⟨g, cap, cur, h', hb, hg, hnc, hcm, hcs, ht⟩
  · exact .inl (by omega)
  · injection h' with h1 h2 h3
    subst h1 h3
    have := (rdB_own h).1
    rcases this with h0 | ⟨b, off, e', hlt, hc⟩
    · exact .inl h0
    · injection e' with e'; injection e' with e1 e2; subst e1 e2
      exact .inr ⟨g, 0, rfl, hs g hb, hlt, hc⟩
end
/-- What the call owns abides what keeps all from base on. -/
theorem own_kept {w w' : World} {S : Nat → Prop} {base : Nat} {e : TypeId} {size : Nat} {v : Value} {n : Nat} {xs : List Value} (h : w.ownsRow base e size v n xs) (hk : Kept S w w') (hs : ∀ b, base ≤ b → S b) : w'.ownsRow base e size v n xs := by
  refine ⟨h.1, ?_⟩
  rcases h.2 with h | ⟨g, cap, cur, hv, hg, hh, r⟩
  · exact .inl h
  · exact .inr ⟨g, cap, cur, hv, hg, (hk.block g (Array.getElem?_eq_some_iff.1 hh).1 (hs g hg)).trans hh, r⟩
theorem own_ownW {B base : Nat} {e : TypeId} {size : Nat} {v : Value} {n : Nat} {xs : List Value} : OwnW B (fun W => W.ownsRow base e size v n xs) := by
  intro W W' row h hg hr
  refine ⟨h.1, ?_⟩
  rcases h.2 with h | ⟨g, cap, cur, hv, hb, hh, r⟩
  · exact .inl h
  · refine .inr ⟨g, cap, cur, hv, hb, ?_, r⟩
    refine (hg.block g (Array.getElem?_eq_some_iff.1 hh).1 ?_).trans hh
    intro e'
    obtain ⟨-, o, ho, hc⟩ := hr g e'.symm
    rw [hh] at ho
    injection ho with ho
    subst ho
    cases hc
/-- A block, whole, abides what turns no cells. -/
theorem block_ownW {B b : Nat} {cs : Array Value} {t : TypeId} {fr : Nat × Nat} : OwnW B (fun W => W.heap[b]? = some (.cells cs t fr)) := by
  intro W W' row h hg hr
  refine (hg.block b (Array.getElem?_eq_some_iff.1 h).1 ?_).trans h
  intro e'
  obtain ⟨-, o, ho, hc⟩ := hr b e'.symm
  rw [h] at ho
  injection ho with ho
  subst ho
  cases hc
theorem own_allW {B : Nat} {β : Sort _} {I : β → World → Prop} (h : ∀ b, OwnW B (I b)) : OwnW B (fun W => ∀ b, I b W) :=
  fun W W' row hs hg hr b => h b W W' row (hs b) hg hr
/-- The blocks of S, whole, abide. -/
theorem heap_kept {w w' : World} {S : Nat → Prop} (hk : Kept S w w') {b : Nat} {o : Obj} (h : w.heap[b]? = some o) (hs : S b) : w'.heap[b]? = some o := (hk.block b (Array.getElem?_eq_some_iff.1 h).1 hs).trans h

theorem vals_append (n m : Nat) (f g : Nat → Value) : vals n f ++ vals m g = vals (n + m) (fun i => if i < n then f i else g (i - n)) := by
  apply List.ext_getElem?
  intro j
  unfold vals
  rcases Nat.lt_or_ge j n with h | h
  · rw [List.getElem?_append_left (by simpa using h), List.getElem?_map, List.getElem?_range h, List.getElem?_map, List.getElem?_range (by omega)]
    simp [h]
  · rw [List.getElem?_append_right (by simpa using h), List.length_map, List.length_range, List.getElem?_map, List.getElem?_map]
    rcases Nat.lt_or_ge j (n + m) with h2 | h2
    · rw [List.getElem?_range (by omega), List.getElem?_range h2]
      simp [Nat.not_lt.2 h]
    · rw [List.getElem?_eq_none (l := List.range m) (by simp; omega), List.getElem?_eq_none (l := List.range (n + m)) (by simp; omega)]; rfl
theorem vals_congr {n : Nat} {f g : Nat → Value} (h : ∀ i, i < n → f i = g i) : vals n f = vals n g := by
  unfold vals; exact List.map_congr_left fun i hi => h i (by simpa using hi)
theorem vals_getElem? {n : Nat} {f : Nat → Value} {i : Nat} (h : i < n) : (vals n f)[i]? = some (f i) := by
  unfold vals; rw [List.getElem?_map, List.getElem?_range h]; rfl
/-- A row of the call's own, read. -/
theorem RdX.of_own {w : World} {S : Nat → Prop} {base : Nat} {e : TypeId} {size n k c N : Nat} {A : Option Addr} {f : Nat → Value} (h : w.ownsRow base e size (.slice A k c) n (vals N f)) (hs : ∀ b, base ≤ b → S b) : RdX w S A N f := by
  have hN : N = n * size := by have := h.1; rwa [vals_length] at this
  rcases h.2 with ⟨h', h0⟩ | ⟨g, cap, cur, h', hb, hg, hnc, hcm, hcs, ht⟩
  · exact .inl (by rw [hN, h0]; simp)
  · injection h' with h1 h2 h3
    subst h1 h3
    refine .inr ⟨g, 0, rfl, hs g hb, (Array.getElem?_eq_some_iff.1 hg).1, fun i hi => ?_⟩
    have hc := h.cells (g := g) rfl i (f i) (vals_getElem? hi)
    rw [Go.WideShapes.add_plain] at hc
    exact hc
theorem own_form {w : World} {base : Nat} {e : TypeId} {size : Nat} {v : Value} {n : Nat} {xs : List Value} (h : w.ownsRow base e size v n xs) : ∃ A c, v = .slice A n c ∧ n ≤ c ∧ c ≤ maxLen ∧ (A = none → n = 0 ∧ c = 0) ∧ (∀ a, A = some a → ∃ g, a = ⟨g, 0, none⟩ ∧ base ≤ g ∧ g < w.heap.size) := by
  rcases h.2 with ⟨rfl, h0⟩ | ⟨g, cap, cur, rfl, hb, hg, h1, h2, _⟩
  · exact ⟨none, 0, by rw [h0], by omega, by unfold maxLen; omega, fun _ => ⟨h0, rfl⟩, by simp⟩
  · exact ⟨_, _, rfl, h1, h2, by simp, fun a e => by injection e with e; exact ⟨g, e.symm, hb, (Array.getElem?_eq_some_iff.1 hg).1⟩⟩

section
variable {W W' : World} {b : Nat} {cs : Array Value} {t : TypeId} {fr : Nat × Nat}
theorem blk_cell (h : W.heap[b]? = some (.cells cs t fr)) (i : Nat) {v : Value} (hv : cs[i]? = some v) : W.cell? ⟨b, i, none⟩ = some v := by simp [World.cell?, h, hv]
theorem blk_frozen (h : W.heap[b]? = some (.cells cs t (0, 0))) (i : Nat) : W.frozen? ⟨b, i, none⟩ = false := by simp [World.frozen?, h]
theorem blk_lt (h : W.heap[b]? = some (.cells cs t fr)) : b < W.heap.size := (Array.getElem?_eq_some_iff.1 h).1
theorem blk_below (h : W.heap[b]? = some (.cells cs t fr)) (hb : Below W.heap.size W W') : W'.heap[b]? = some (.cells cs t fr) := (hb.block b (blk_lt h)).trans h
theorem blk_new (W : World) (cs : Array Value) (t : TypeId) : (W.alloc (.cells cs t)).heap[W.heap.size]? = some (.cells cs t (0, 0)) := World.alloc_heap_new W _
end
theorem bstep (w : World) (o : Obj) : Below w.heap.size w (w.alloc o) := (Below.refl _ w).alloc (Nat.le_refl _) o
end Go.Kw

/-
  Leap years, months' days, whether a date may be: both sides, walked. Conditions stand at each theorem.
-/
namespace Go.Proofs.YtgbkedjjgbhcmaaDoor
open Go Go.RowKit Go.Kw Go.Kw.Cv
set_option linter.unusedVariables false
set_option linter.unusedSimpArgs false

def lenZ : List Int := [31, 28, 31, 30, 31, 30, 31, 31, 30, 31, 30, 31]
/-- The package's table of months' days. -/
def Lens (W : World) : Prop := ∀ i : Nat, i < 12 → W.cell? ⟨2, i, none⟩ = some (.int .i64 (lenZ.getD i 0))
theorem Lens.low {W : World} (h : Lens W) : 2 < W.heap.size := block_lt (h 0 (by omega))
theorem Lens.go {W W' : World} (h : Lens W) (hb : Below W.heap.size W W') : Lens W' := fun i hi => (hb.cell (p := ⟨2, i, none⟩) h.low).trans (h i hi)
theorem Lens.below {W W' : World} {B : Nat} (h : Lens W) (hb : Below B W W') (hB : 2 < B) : Lens W' := fun i hi => (hb.cell (p := ⟨2, i, none⟩) hB).trans (h i hi)
theorem Lens.alloc {W : World} (h : Lens W) (o : Obj) : Lens (W.alloc o) := h.go ((Below.refl _ W).alloc (Nat.le_refl _) o)
theorem Lens.own (B : Nat) : OwnW B Lens := fun W W' row h hg hr i hi => cell_kept (h i hi) hg (fun r e => (hr r e).2)
theorem tmod4 (y : Int) (hy : 0 ≤ y) : y.tmod 4 = y % 4 := Int.tmod_eq_emod_of_nonneg hy
theorem tmod100 (y : Int) (hy : 0 ≤ y) : y.tmod 100 = y % 100 := Int.tmod_eq_emod_of_nonneg hy
theorem tmod400 (y : Int) (hy : 0 ≤ y) : y.tmod 400 = y % 400 := Int.tmod_eq_emod_of_nonneg hy
theorem wrap64_in (x : Int) (h : -9223372036854775808 ≤ x ∧ x ≤ 9223372036854775807) : wrap64 x = x := by unfold wrap64; omega
theorem i64_same (x : Int) (h : -9223372036854775808 ≤ x ∧ x ≤ 9223372036854775807) : IntKind.i64.wrap x = x := IntWalk.i64_in x h
set_option maxHeartbeats 4000000 in
theorem leap_calls (y : Int) (hy : 0 ≤ y ∧ y ≤ 1000000) (w : World) : Calls Tryd.prog 95 #[.int .i64 y] w fun e w' => e = .returned (.bool (leapB y)) ∧ w' = w := by
  have e4 := tmod4 y hy.1
  have e1 := tmod100 y hy.1
  have e0 := tmod400 y hy.1
  have w4 := i64_same (y % 4) (by omega)
  have w1 := i64_same (y % 100) (by omega)
  have w0 := i64_same (y % 400) (by omega)
  have HL := Lib.hid (leapB_true y)
  go_enter Tryd.func95, Tryd.ntmps95
  go_wp2_with fail
  all_goals (go_ret; clear e4 e1 e0 w4 w1 w0 HL; exact ⟨by unfold leapB; simp_all <;> exact Bool.eq_iff_iff.2 (by simp), rfl⟩)
theorem lenZ_dim (y m : Int) (h : 1 ≤ m ∧ m ≤ 12) (h2 : m ≠ 2) : lenZ.getD (m - 1).toNat 0 = dim y m := by
  rcases month_cases h with rfl | rfl | rfl | rfl | rfl | rfl | rfl | rfl | rfl | rfl | rfl | rfl
  all_goals first | rfl | (exfalso; omega)
set_option maxHeartbeats 4000000 in
theorem days_calls (y m : Int) (hy : 0 ≤ y ∧ y ≤ 1000000) (w : World) (hL : Lens w) : Calls Tryd.prog 85 #[.int .i64 y, .int .i64 m] w fun e w' => e = .returned (.int .i64 (dim y m)) ∧ w' = w := by
  have HL := Lib.hid (leap_calls y hy)
  by_cases h1 : m < 1 ∨ 12 < m
  · rw [show dim y m = 0 from if_pos h1]
    have H1 := Lib.hid h1
    clear h1 hL HL
    go_enter Tryd.func85, Tryd.ntmps85
    go_wp2_with fail
    all_goals first | (go_ret; exact ⟨rfl, rfl⟩) | (exfalso; have := H1.out; omega)
  · have hm : 1 ≤ m ∧ m ≤ 12 := by omega
    by_cases h2 : m = 2
    · subst h2
      obtain ⟨b, hb⟩ : ∃ b, leapB y = b := ⟨_, rfl⟩
      have hd : dim y 2 = if b = true then 29 else 28 := by
        unfold dim lp; rw [hb]; cases b <;> rfl
      rw [hb] at HL
      cases b with
      | true =>
        rw [hd]
        clear hd hb h1 hm hL
        go_enter Tryd.func85, Tryd.ntmps85
        go_wp2_with fail
        refine (HL.out _).mono ?_
        rintro e w1 ⟨rfl, rfl⟩
        go_wp2_with fail
        go_ret
        exact ⟨rfl, rfl⟩
      | false =>
        rw [hd]
        have c0 : w.cell? ⟨2, 1, none⟩ = some (.int .i64 28) := hL 1 (by omega)
        clear hd hb h1 hm hL
        go_enter Tryd.func85, Tryd.ntmps85
        go_wp2_with fail
        refine (HL.out _).mono ?_
        rintro e w1 ⟨rfl, rfl⟩
        go_wp2_with fail
        go_ret
        exact ⟨rfl, rfl⟩
    · have c0 := hL (m - 1).toNat (by omega)
      rw [lenZ_dim y m hm h2, show (m - 1).toNat = m.toNat - 1 by omega] at c0
      have hb : (m == 2) = false := beq_eq_false_iff_ne.2 h2
      have w1 := i64_same (m - 1) (by omega)
      have w2 := Lib.hid (wrap64_in (m - 1) (by omega))
      have hm1 : 0 ≤ m - 1 ∧ m - 1 < 12 := by omega
      clear h1 hL h2
      have w3 := w2.out
      go_enter Tryd.func85, Tryd.ntmps85
      go_wp2_with fail
      go_ret
      exact ⟨rfl, rfl⟩
/-- What Check answers of a date. -/
def chkV (y m d : Int) : Int := if okD y m d then 0 else 60
set_option maxHeartbeats 4000000 in
set_option maxRecDepth 100000 in
theorem check_calls (y m d : Int) (w : World) (hL : Lens w) : Calls Tryd.prog 75 #[.agg #[.int .i64 y, .int .i64 m, .int .i64 d]] w fun e w' => e = .returned (.int .i64 (chkV y m d)) ∧ Below w.heap.size w w' := by
  have hb := (Below.refl w.heap.size w).alloc (Nat.le_refl _) (.cells #[.int .i64 y, .int .i64 m, .int .i64 d] 121)
  have hL1 := hL.alloc (.cells #[.int .i64 y, .int .i64 m, .int .i64 d] 121)
  by_cases h1 : 1970 ≤ y
  · have k1 : decide (y < 1970) = false := decide_eq_false (by omega)
    by_cases h2 : y ≤ 9999
    · have k2 : decide (y > 9999) = false := decide_eq_false (by omega)
      have HD := Lib.hid (fun W h => days_calls y m (by omega) W h)
      by_cases h3 : 1 ≤ d
      · have k3 : decide (d < 1) = false := decide_eq_false (by omega)
        obtain ⟨D, hD⟩ : ∃ D, dim y m = D := ⟨_, rfl⟩
        rw [hD] at HD
        by_cases h4 : d ≤ D
        · have k4 : decide (d > D) = false := decide_eq_false (by omega)
          rw [show chkV y m d = 0 from if_pos ⟨h1, h2, h3, by rw [hD]; exact h4⟩]
          clear hD
          have HB := Lib.hid hb
          clear hL hb
          go_enter Tryd.func75, Tryd.ntmps75
          go_wp2_with fail
          go_quiet ((go_at_call 85; exact Calls.quiet_of_same (HD.out _ hL1)))
          go_wp2_with fail
          go_ret
          exact ⟨rfl, HB.out.drewN _⟩
        · have k4 : decide (d > D) = true := decide_eq_true (by omega)
          rw [show chkV y m d = 60 from if_neg (fun h => h4 (by rw [← hD]; exact h.2.2.2))]
          clear hD
          have HB := Lib.hid hb
          clear hL hb
          go_enter Tryd.func75, Tryd.ntmps75
          go_wp2_with fail
          go_quiet ((go_at_call 85; exact Calls.quiet_of_same (HD.out _ hL1)))
          go_wp2_with fail
          go_ret
          exact ⟨rfl, HB.out.drewN _⟩
      · have k3 : decide (d < 1) = true := decide_eq_true (by omega)
        rw [show chkV y m d = 60 from if_neg (fun h => h3 h.2.2.1)]
        clear HD hL1
        have HB := Lib.hid hb
        clear hL hb
        go_enter Tryd.func75, Tryd.ntmps75
        go_wp2_with fail
        go_quiet (fail)
        go_wp2_with fail
        go_ret
        exact ⟨rfl, HB.out.drewN _⟩
    · have k2 : decide (y > 9999) = true := decide_eq_true (by omega)
      rw [show chkV y m d = 60 from if_neg (fun h => h2 h.2.1)]
      clear hL1
      have HB := Lib.hid hb
      clear hL hb
      go_enter Tryd.func75, Tryd.ntmps75
      go_wp2_with fail
      go_quiet (fail)
      go_wp2_with fail
      go_ret
      exact ⟨rfl, HB.out.drewN _⟩
  · have k1 : decide (y < 1970) = true := decide_eq_true (by omega)
    rw [show chkV y m d = 60 from if_neg (fun h => h1 h.1)]
    clear hL1
    have HB := Lib.hid hb
    clear hL hb
    go_enter Tryd.func75, Tryd.ntmps75
    go_wp2_with fail
    go_quiet (fail)
    go_wp2_with fail
    go_ret
    exact ⟨rfl, HB.out.drewN _⟩
end Go.Proofs.YtgbkedjjgbhcmaaDoor

/-
  A date's day, walked: the days ahead of a year, the months' iterator, Day, Weekday. Conditions stand at each theorem.
-/
namespace Go.Proofs.YtgbkedjjgbhcmaaDoor
open Go Go.RowKit Go.Kw Go.Kw.Cv Go.Shelf
attribute [local go_sem] Oper.semAt_some
set_option linter.unusedVariables false
set_option linter.unusedSimpArgs false

set_option maxHeartbeats 4000000 in
theorem leaps_calls (n : Int) (hn : 0 ≤ n ∧ n ≤ 1000000) (w : World) : Calls Tryd.prog 92 #[.int .i64 n] w fun e w' => e = .returned (.int .i64 (n / 4 - n / 100 + n / 400)) ∧ w' = w := by
  have e4 : n.tdiv 4 = n / 4 := Int.tdiv_eq_ediv_of_nonneg hn.1
  have e1 : n.tdiv 100 = n / 100 := Int.tdiv_eq_ediv_of_nonneg hn.1
  have e0 : n.tdiv 400 = n / 400 := Int.tdiv_eq_ediv_of_nonneg hn.1
  have w4 := i64_same (n / 4) (by omega)
  have w1 := i64_same (n / 100) (by omega)
  have w0 := i64_same (n / 400) (by omega)
  have w5 := i64_same (n / 4 - n / 100) (by omega)
  have w6 := i64_same (n / 4 - n / 100 + n / 400) (by omega)
  have W5 := Lib.hid (wrap64_in (n / 4 - n / 100) (by omega))
  have W6 := Lib.hid (wrap64_in (n / 4 - n / 100 + n / 400) (by omega))
  have x5 := W5.out
  have x6 := W6.out
  go_enter Tryd.func92, Tryd.ntmps92
  go_wp2_with fail
  go_ret
  exact ⟨rfl, rfl⟩
set_option maxHeartbeats 4000000 in
theorem ahead_calls (y : Int) (hy : 1 ≤ y ∧ y ≤ 1000000) (w : World) : Calls Tryd.prog 81 #[.int .i64 y] w fun e w' => e = .returned (.int .i64 (ahd y)) ∧ w' = w := by
  have H1 := Lib.hid (leaps_calls (y - 1) (by omega))
  have H2 := Lib.hid (leaps_calls 1969 (by omega))
  have hA : ahd y = 365 * (y - 1970) + ((y - 1) / 4 - (y - 1) / 100 + (y - 1) / 400) - 477 := rfl
  obtain ⟨L, hL⟩ : ∃ L, (y - 1) / 4 - (y - 1) / 100 + (y - 1) / 400 = L := ⟨_, rfl⟩
  have hLb : 0 ≤ L ∧ L ≤ 1000000 := by omega
  rw [hL] at H1 hA
  rw [show (1969 : Int) / 4 - 1969 / 100 + 1969 / 400 = 477 by decide] at H2
  rw [hA]
  have w1 := i64_same (y - 1) (by omega)
  have w2 := i64_same (y - 1970) (by omega)
  have w3 := i64_same (365 * (y - 1970)) (by omega)
  have w4 := i64_same (365 * (y - 1970) + L) (by omega)
  have w5 := i64_same (365 * (y - 1970) + L - 477) (by omega)
  have X1 := Lib.hid (wrap64_in (y - 1) (by omega))
  have X2 := Lib.hid (wrap64_in (y - 1970) (by omega))
  have X3 := Lib.hid (wrap64_in (365 * (y - 1970)) (by omega))
  have X4 := Lib.hid (wrap64_in (365 * (y - 1970) + L) (by omega))
  have X5 := Lib.hid (wrap64_in (365 * (y - 1970) + L - 477) (by omega))
  clear hA hL hLb
  have x1 := X1.out
  have x2 := X2.out
  have x3 := X3.out
  have x4 := X4.out
  have x5 := X5.out
  go_enter Tryd.func81, Tryd.ntmps81
  go_wp2_with fail
  refine (H1.out _).mono ?_
  rintro e w1 ⟨rfl, rfl⟩
  go_wp2_with fail
  refine (H2.out _).mono ?_
  rintro e w1 ⟨rfl, rfl⟩
  go_wp2_with fail
  go_ret
  exact ⟨rfl, rfl⟩
/-- The days ahead of month k + 1; of all twelve. -/
def msx (y : Int) (k : Nat) : Int := if k < 12 then mst y ((k : Int) + 1) else 365 + lp y
theorem msx_step (y : Int) (k : Nat) (h : k < 12) : msx y k + dim y ((k : Int) + 1) = msx y (k + 1) := by
  unfold msx
  rw [if_pos h]
  by_cases h2 : k + 1 < 12
  · rw [if_pos h2]
    have := mst_step y ((k : Int) + 1) (by omega)
    push_cast; omega
  · rw [if_neg h2]
    obtain rfl : k = 11 := by omega
    exact mst_12 y
theorem msx_range (y : Int) (k : Nat) (h : k ≤ 12) : 0 ≤ msx y k ∧ msx y k ≤ 366 := by
  have h1 := lp_01 y
  unfold msx
  by_cases h2 : k < 12
  · rw [if_pos h2]
    have := mst_lo y ((k : Int) + 1) (by omega)
    have := dim_lo y ((k : Int) + 1) (by omega)
    omega
  · rw [if_neg h2]; omega
def moL (y : Int) : List (Int × Int) := (List.range 12).map fun k : Nat => ((k : Int) + 1, msx y k)
theorem moL_at (y : Int) (k : Nat) (h : k < 12) : (moL y)[k]? = some ((k : Int) + 1, msx y k) := by simp [moL, h]
theorem moL_len (y : Int) : (moL y).length = 12 := by simp [moL]
theorem months_calls (y : Int) (w : World) :
    Calls Tryd.prog 82 #[.int .i64 y] w fun e w' => e = .returned (.func (.func 93) #[] #[.pointer (some ⟨w.heap.size, 0, none⟩)]) ∧ w' = w.alloc (.cells #[.int .i64 y] 3) := by
  go_enter Tryd.func82, Tryd.ntmps82
  go_wp2
  go_ret
  exact ⟨rfl, rfl⟩
set_option maxRecDepth 100000 in
set_option maxHeartbeats 4000000 in
theorem months_seq (B : Nat) (y : Int) (hy : 0 ≤ y ∧ y ≤ 1000000) :
    SeqW Tryd.prog 93 #[.pointer (some ⟨B, 0, none⟩)] (fun x : Int × Int => #[.int .i64 x.1, .int .i64 x.2]) (moL y) (fun A B => A = B)
      (fun W => Boxed W B 3 (.int .i64 y) ∧ Lens W) (fun _ W => Boxed W B 3 (.int .i64 y) ∧ Lens W) (fun _ => True) (fun _ _ => True) := by
  intro lo J Jx hJ hJx hY W ⟨hB, hL⟩ h0
  have hF := wide_fn
  rw [moL_len]
  refine callsIn_of_wp Tryd.func93 rfl (hF _) ?_ rfl
  simp only [Tryd.ntmps93, List.size_toArray, List.length_cons, List.length_nil, Nat.reduceAdd, Nat.reduceSub, Array.replicate_succ, Array.replicate_zero, List.push_toArray, List.append_toArray, List.nil_append, List.cons_append]
  gi_wp2
  gi_loopw [3, 4] (fun n i wr => ∃ k : Nat, k ≤ 12 ∧ i = .int .i64 ((k : Int) + 1) ∧ n = .int .i64 (msx y k) ∧ J k wr ∧ Boxed wr B 3 (.int .i64 y) ∧ Lens wr)
    (fun _ i _ => 20 - (intOf i).toNat)
  case atStart => exact ⟨0, by omega, rfl, rfl, h0, hB, hL⟩
  case round =>
    obtain ⟨k, hk, rfl, rfl, hJs, hBs, hLs⟩ := hrel
    by_cases hlt : k < 12
    · have hI : (k : Int) + 1 ≤ 12 := by omega
      obtain ⟨fn, tmps, assign, body, hy2, hYR⟩ := hY k _ wr (moL_at y k hlt) hJs ⟨hBs, hLs⟩
      obtain ⟨S, hS⟩ : ∃ S, msx y k = S := ⟨_, rfl⟩
      have hst := msx_step y k hlt
      have hr1 := msx_range y (k + 1) (by omega)
      have hr0 := msx_range y k (by omega)
      rw [hS] at hst hy2 hr0 ⊢
      have HD := Lib.hid (fun W h => days_calls y ((k : Int) + 1) hy W h)
      obtain ⟨D, hD⟩ : ∃ D, dim y ((k : Int) + 1) = D := ⟨_, rfl⟩
      rw [hD] at hst HD
      have w1 := i64_same (S + D) (by omega)
      have w2 := i64_same ((k : Int) + 1 + 1) (by omega)
      have X1 := Lib.hid (wrap64_in (S + D) (by omega))
      have X2 := Lib.hid (wrap64_in ((k : Int) + 1 + 1) (by omega))
      have Hst := Lib.hid hst
      clear hY hS hst hr1 hr0 hD hy
      have x1 := X1.out
      have x2 := X2.out
      gi_wp2
      refine hYR.mono ?_
      rintro e W3 ⟨hR3, (⟨rfl, hJ3⟩ | ⟨rfl, hJx3⟩)⟩
      · have cB := hR3.1.cell
        have HD3 := Lib.hid (HD.out _ hR3.2)
        gi_wp2
        refine (callsIn_wide.2 HD3.out).mono ?_
        rintro e w4 ⟨rfl, rfl⟩
        gi_wp2
        go_roundw
        case rel => exact ⟨k + 1, by omega, by push_cast; rfl, by rw [Hst.out], hJ3, hR3.1, hR3.2⟩
        case measure => simp [intOf]; omega
      · gi_wp2
        refine bodyPost_ret (results_none rfl _ _ _) rfl ?_
        exact ⟨⟨_, rfl⟩, .inr ⟨k, hlt, hJx3, trivial⟩⟩
    · obtain rfl : k = 12 := by omega
      gi_wp2
      go_end0
      exact ⟨⟨_, rfl⟩, .inl ⟨hJs, trivial⟩⟩
end Go.Proofs.YtgbkedjjgbhcmaaDoor

/-
  A date's day, walked: Day, Weekday. Conditions stand at each theorem.
-/
namespace Go.Proofs.YtgbkedjjgbhcmaaDoor
open Go Go.RowKit Go.Kw Go.Kw.Cv Go.Shelf
attribute [local go_sem] Oper.semAt_some
set_option linter.unusedVariables false
set_option linter.unusedSimpArgs false

/-- Only the normal exit. -/
def normOnly (K : Act → World → Prop) : Exit → Act → World → Prop
  | .normal, a, w => K a w
  | _, _, _ => False
theorem wpIn_norm {F : Fence} {n : Nat} {P : Program} {c : Code} {Q : Exit → Act → World → Prop} {a : Act} {w : World} (h : c.wpIn F n P (normOnly fun a w => Q .normal a w) a w) : c.wpIn F n P Q a w :=
  wpIn_mono h fun e a w hq => by cases e <;> first | exact hq | exact hq.elim
def dayE (y m d : Int) : Int := if okD y m d then dayN y m d else 0
theorem chk_no {y m d : Int} (h : ¬ okD y m d) : chkV y m d = 60 := if_neg h
theorem chk_ok {y m d : Int} (h : okD y m d) : chkV y m d = 0 := if_pos h
/-- The sum behind k months. -/
def dvS (T y m : Int) (k : Nat) : Int := T + if (m - 1).toNat < k then msx y (m - 1).toNat else 0
theorem dvS_0 (T y m : Int) : dvS T y m 0 = T := by unfold dvS; rw [if_neg (by omega)]; omega
theorem dvS_hit (T y m : Int) (k : Nat) (h : (k : Int) + 1 = m) : dvS T y m k = T ∧ dvS T y m (k + 1) = T + msx y k := by
  have e : (m - 1).toNat = k := by omega
  unfold dvS
  rw [e, if_neg (by omega), if_pos (by omega)]
  exact ⟨by omega, rfl⟩
theorem dvS_miss (T y m : Int) (k : Nat) (hm : 1 ≤ m) (h : (k : Int) + 1 ≠ m) : dvS T y m (k + 1) = dvS T y m k := by
  unfold dvS
  by_cases h1 : (m - 1).toNat < k
  · rw [if_pos h1, if_pos (by omega)]
  · rw [if_neg h1, if_neg (by omega)]
theorem dvS_end (T y m : Int) (h : 1 ≤ m ∧ m ≤ 12) : dvS T y m 12 = T + mst y m := by
  unfold dvS
  rw [if_pos (by omega)]
  unfold msx
  rw [if_pos (by omega), show ((m - 1).toNat : Int) + 1 = m by omega]
/-- What is known in the months' range: the sum's box. -/
def DayI (b0 s : Nat) (w : World) (y m d T : Int) (k : Nat) (W : World) : Prop :=
  Boxed W s 3 (.int .i64 (dvS T y m k)) ∧ W.heap[b0]? = some (.cells #[.int .i64 y, .int .i64 m, .int .i64 d] 121 (0, 0)) ∧ (Below b0 w W ∧ b0 ≤ W.heap.size)
set_option maxRecDepth 100000 in
set_option maxHeartbeats 8000000 in
theorem day_calls (y m d : Int) (w : World) (hL : Lens w) : Calls Tryd.prog 91 #[.agg #[.int .i64 y, .int .i64 m, .int .i64 d]] w fun e w' => e = .returned (.tuple #[.int .i64 (dayE y m d), .int .i64 (chkV y m d)]) ∧ Below w.heap.size w w' := by
  have hF := wide_fn
  obtain ⟨b0, hb0⟩ : ∃ b0, w.heap.size = b0 := ⟨_, rfl⟩
  have Hb0 := Lib.hid hb0
  have hL1 := hL.alloc (.cells #[.int .i64 y, .int .i64 m, .int .i64 d] 121)
  have hB1 : Below b0 w (w.alloc (.cells #[.int .i64 y, .int .i64 m, .int .i64 d] 121)) := by subst hb0; exact (Below.refl _ w).alloc (Nat.le_refl _) _
  have hs1 : (w.alloc (.cells #[.int .i64 y, .int .i64 m, .int .i64 d] 121)).heap.size = b0 + 1 := by simp [hb0]
  have hrow := World.alloc_heap_new w (.cells #[.int .i64 y, .int .i64 m, .int .i64 d] 121)
  rw [hb0] at hrow
  have HC := Lib.hid (check_calls y m d _ hL1)
  refine calls_of_marks Tryd.func91 rfl ?_
  simp only [Tryd.ntmps91, List.size_toArray, List.length_cons, List.length_nil, Nat.reduceAdd, Nat.reduceSub, Array.replicate_succ, Array.replicate_zero, List.push_toArray, List.append_toArray, List.nil_append, List.cons_append]
  by_cases hok : okD y m d
  · have Hok := Lib.hid hok
    have hv : dayE y m d = dayN y m d := if_pos hok
    have hc := chk_ok hok
    rw [hc] at HC
    gi_wp2_with (first | (refine wpIn_scope ?_) | (refine wpIn_label ?_))
    refine (callsIn_wide.2 HC.out).mono ?_
    rintro e w2 ⟨rfl, hb2⟩
    have hrow2 := (hb2.block b0 (by rw [hs1]; omega)).trans hrow
    have hL2 := hL1.go hb2
    have hB2 := hB1.trans (hb2.mono (by rw [hs1]; omega))
    have hs2 : b0 + 1 ≤ w2.heap.size := by rw [← hs1]; exact hb2.size
    have c0 := cell_of_row w2 b0 0 _ _ _ hrow2
    have c1 := cell_of_row w2 b0 1 _ _ _ hrow2
    have c2 := cell_of_row w2 b0 2 _ _ _ hrow2
    have hda := day_in hok
    have hrg := day_range hok
    unfold okD at hok
    have hdm := dim_month Hok.out
    have hA := Lib.hid (ahead_calls y (by omega))
    clear hb2 hrow hB1 hs1 hL1
    obtain ⟨S, hS⟩ : ∃ S, ahd y = S := ⟨_, rfl⟩
    have hSb : 0 ≤ S ∧ S ≤ 3000000 := by
      have h1 := ahd_mono (show (1970 : Int) ≤ y from hok.1)
      have h2 := ahd_mono (show y ≤ 10000 by omega)
      rw [ahd_1970] at h1
      rw [ahd_10000] at h2
      omega
    have hdb : 1 ≤ d ∧ d ≤ 31 := by have := dim_lo y m hdm; omega
    rw [hS] at hA
    have HS := Lib.hid hS
    have HDb := Lib.hid hdb
    have HSb := Lib.hid hSb
    have w1 := i64_same (S + d) (by omega)
    have w2' := i64_same (S + d - 1) (by omega)
    have X1 := Lib.hid (wrap64_in (S + d) (by omega))
    have X2 := Lib.hid (wrap64_in (S + d - 1) (by omega))
    have Hy := Lib.hid (show 0 ≤ y ∧ y ≤ 1000000 by omega)
    clear hda hrg hdm hok hSb hdb hS
    have x1 := X1.out
    have x2 := X2.out
    gi_upto_region 4 with fail
    gi_cut [5] from 13 (fun s5 wx => s5 = .pointer (some ⟨w2.heap.size, 0, none⟩) ∧ Boxed wx w2.heap.size 3 (.int .i64 (S + d - 1)) ∧ Below w2.heap.size w2 wx)
    case first =>
      refine wpIn_norm ?_
      have hst := (Below.refl w2.heap.size w2).alloc (Nat.le_refl _) (.cells #[.int .i64 0] 3)
      have f0 : (w2.alloc (.cells #[.int .i64 0] 3)).cell? ⟨b0, 0, none⟩ = some (.int .i64 y) := (hst.cell (p := ⟨b0, 0, none⟩) (by exact hs2)).trans c0
      have f2 : (w2.alloc (.cells #[.int .i64 0] 3)).cell? ⟨b0, 2, none⟩ = some (.int .i64 d) := (hst.cell (p := ⟨b0, 2, none⟩) (by exact hs2)).trans c2
      gi_region_with (gi_at_call 81; refine (callsIn_wide.2 (hA.out _)).mono ?_; rintro e w3 ⟨rfl, rfl⟩)
      all_goals (simp only [normOnly]; gi_wp2; gi_meet; exact ⟨rfl, Boxed.new w2 _ _, (bstep w2 _).drew⟩)
    case rest =>
      obtain ⟨rfl, hbx, hBx⟩ := hcut
      have hrowx := (hBx.block b0 (by omega)).trans hrow2
      have hLx := hL2.go hBx
      have d0 := cell_of_row wc b0 0 _ _ _ hrowx
      have hB3 := hB2.trans (hBx.mono (by omega))
      have hsx := hBx.size
      have Hs2 := Lib.hid hs2
      clear c0 c1 c2 hrow2 hL2 hB2 hBx w1 w2' x1 x2 hA
      gi_wp2_with (first | (refine wpIn_scope ?_) | (refine wpIn_label ?_) | (gi_at_call 82; refine (callsIn_wide.2 (months_calls _ _)).mono ?_; rintro e w' ⟨rfl, rfl⟩))
      obtain ⟨W0, hW0⟩ : ∃ W0, wc.alloc (.cells #[.int .i64 y] 3) = W0 := ⟨_, rfl⟩
      have hst0 : Below wc.heap.size wc W0 := hW0 ▸ bstep wc _
      have bY : Boxed W0 wc.heap.size 3 (.int .i64 y) := hW0 ▸ Boxed.new wc _ _
      have hL0 := hLx.go hst0
      have hbx0 : Boxed W0 w2.heap.size 3 (.int .i64 (dvS (S + d - 1) y m 0)) := by rw [dvS_0]; exact blk_below hbx hst0
      have hrow0 := (hst0.block b0 (by omega)).trans hrowx
      have hB0 := hB3.trans (hst0.mono (by omega))
      have hs0 := hst0.size
      rw [hW0]
      refine wpIn_rangeX rfl (by decide) (gf := 93) (lb := #[.pointer (some ⟨wc.heap.size, 0, none⟩)]) rfl trivial (enters_of Tryd.func93 (by kernel_rfl) rfl)
        (months_seq wc.heap.size y Hy.out) (fun A B h => h ▸ KeepsOthers.refl _) (fun _ => rfl)
        ((boxed_ownW _ _ _ _).and (Lens.own _)) (fun _ => (boxed_ownW _ _ _ _).and (Lens.own _)) (OwnW.const _) (fun _ => OwnW.const _) ⟨bY, hL0⟩
        (DayI b0 w2.heap.size w y m d (S + d - 1)) (fun _ _ _ => False)
        (fun k => (boxed_ownW _ _ _ _).and (block_ownW.and (below_own (by omega)))) (fun _ _ => OwnW.const _) (fun k A B h e => e ▸ h) (fun _ _ _ _ h _ => h)
        ⟨hbx0, hrow0, hB0, by omega⟩ ?round ?done ?stop
      case round =>
        rintro lo k x W hx _ _
        gi_wp2
        refine ⟨trivial, ?_⟩
        rintro W1 ⟨hb1, hr1, hBl⟩ ⟨hY1, hL1⟩ hsz
        have hkl : k < 12 := by have := (List.getElem?_eq_some_iff.1 hx).1; rwa [moL_len] at this
        have hxv : x = ((k : Int) + 1, msx y k) := by have := moL_at y k hkl; rw [hx] at this; injection this
        subst hxv
        have c1 := cell_of_row W1 b0 1 _ _ _ hr1
        have cb := hb1.cell
        have fb := hb1.frozen
        have hdr := dvS_hit (S + d - 1) y m k
        have hmr := msx_range y k (by omega)
        by_cases hm : (k : Int) + 1 = m
        · obtain ⟨h1, h2⟩ := dvS_hit (S + d - 1) y m k hm
          have hb3 := hb1.set (.int .i64 (S + d - 1 + msx y k))
          rw [← h2] at hb3
          have HE := Lib.hid (show KeepsOthers W1 (W1.setCell ⟨w2.heap.size, 0, none⟩ (.int .i64 (S + d - 1 + msx y k))) ∧ (Boxed (W1.setCell ⟨w2.heap.size, 0, none⟩ (.int .i64 (S + d - 1 + msx y k))) wc.heap.size 3 (.int .i64 y) ∧ Lens (W1.setCell ⟨w2.heap.size, 0, none⟩ (.int .i64 (S + d - 1 + msx y k)))) ∧
              DayI b0 w2.heap.size w y m d (S + d - 1) (k + 1) (W1.setCell ⟨w2.heap.size, 0, none⟩ (.int .i64 (S + d - 1 + msx y k))) from
            ⟨KeepsOthers.setCell _ _ _, ⟨hY1.kept (row := some w2.heap.size) (grownBy_setCell' _ w2.heap.size _) (by simp; have := hbx.lt; omega), hL1.below ((Below.refl w2.heap.size W1).setCell (Nat.le_refl _) _) (by have := hL.low; omega)⟩,
              by rw [h2] at hb3 ⊢; exact hb3, (heap_setCell_other W1 ⟨w2.heap.size, 0, none⟩ b0 _ (by simp; omega)).trans hr1, hBl.1.setCell (p := ⟨w2.heap.size, 0, none⟩) (by show b0 ≤ w2.heap.size; omega) _, by simpa using hBl.2⟩)
          rw [h1] at cb
          subst hm
          have x3 := i64_same (S + d - 1 + msx y k) (by have := HSb.out; have := HDb.out; omega)
          have X4 := Lib.hid (wrap64_in (S + d - 1 + msx y k) (by have := HSb.out; have := HDb.out; omega))
          clear hdr hmr h1 h2 hb3
          have x4 := X4.out
          gi_wp2
          exact HE.out
        · have h2 := dvS_miss (S + d - 1) y m k (by have := dim_month Hok.out; omega) hm
          have hmb : ((k : Int) + 1 == m) = false := beq_eq_false_iff_ne.2 hm
          have HE := Lib.hid (show KeepsOthers W1 W1 ∧ (Boxed W1 wc.heap.size 3 (.int .i64 y) ∧ Lens W1) ∧ DayI b0 w2.heap.size w y m d (S + d - 1) (k + 1) W1 from ⟨KeepsOthers.refl _, ⟨hY1, hL1⟩, by rw [h2]; exact hb1, hr1, hBl⟩)
          clear hdr hmr h2
          gi_wp2
          exact HE.out
      case done =>
        rintro D W hD ⟨hb1, hr1, hBl⟩ _ hK
        rw [moL_len] at hb1
        have cb := hb1.cell
        gi_wp2
        refine ⟨by simp, .inl ⟨_, _, rfl, run_takeDeferred hK, ?_⟩⟩
        refine ⟨_, results_tmp2 rfl _ _ _, ?_, ?_⟩
        · rw [hv, hc]
          show Ending.returned (.tuple #[.int .i64 (dvS (S + d - 1) y m 12), .int .i64 0]) = _
          rw [dvS_end _ _ _ (dim_month Hok.out)]
          have : S + d - 1 + mst y m = dayN y m d := by unfold dayN; rw [HS.out]; omega
          rw [this]
        · rw [Hb0.out]
          exact hBl.1.putObj (by omega) hBl.2 _
      case stop =>
        rintro D c k W _ _ h _ _
        exact h.elim
  · have hv : dayE y m d = 0 := if_neg hok
    have hc := chk_no hok
    rw [hc] at HC
    have Hvc := Lib.hid (show dayE y m d = 0 ∧ chkV y m d = 60 from ⟨hv, hc⟩)
    clear hv hc hok
    gi_wp2_with (first | (refine wpIn_scope ?_) | (refine wpIn_label ?_))
    refine (callsIn_wide.2 HC.out).mono ?_
    rintro e w2 ⟨rfl, hb2⟩
    have hB2 := hB1.trans (hb2.mono (by rw [hs1]; omega))
    gi_wp2
    refine ⟨_, results_tmp2 rfl _ _ _, ?_, ?_⟩
    · rw [Hvc.out.1, Hvc.out.2]; rfl
    · rw [Hb0.out]; exact hB2
end Go.Proofs.YtgbkedjjgbhcmaaDoor

/-
  A day's weekday and date, walked. Conditions stand at each theorem.
-/
namespace Go.Proofs.YtgbkedjjgbhcmaaDoor
open Go Go.RowKit Go.Kw Go.Kw.Cv Go.Shelf
attribute [local go_sem] Oper.semAt_some
set_option linter.unusedVariables false
set_option linter.unusedSimpArgs false

def wdN (n : Int) : Int := if 0 ≤ n ∧ n ≤ 2932896 then (n + 3) % 7 + 1 else 0
set_option maxHeartbeats 4000000 in
theorem weekday_calls (n : Int) (w : World) : Calls Tryd.prog 55 #[.int .i64 n] w fun e w' => e = .returned (.int .i64 (wdN n)) ∧ w' = w := by
  by_cases h : 0 ≤ n ∧ n ≤ 2932896
  · rw [show wdN n = (n + 3) % 7 + 1 from if_pos h]
    have k1 : decide (n < 0) = false := decide_eq_false (by omega)
    have k2 : decide (n > 2932896) = false := decide_eq_false (by omega)
    have e7 : (n + 3).tmod 7 = (n + 3) % 7 := Int.tmod_eq_emod_of_nonneg (by omega)
    have a1 := i64_same (n + 4) (by omega)
    have a2 : IntKind.i64.wrap (n + 4 - 1) = n + 3 := by rw [show n + 4 - 1 = n + 3 by omega]; exact i64_same _ (by omega)
    have a3 := i64_same ((n + 3) % 7) (by omega)
    have a4 := i64_same ((n + 3) % 7 + 1) (by omega)
    have B1 := Lib.hid (wrap64_in (n + 4) (by omega))
    have B2 : Hid (wrap64 (n + 4 - 1) = n + 3) := Lib.hid (by rw [show n + 4 - 1 = n + 3 by omega]; exact wrap64_in _ (by omega))
    have B4 := Lib.hid (wrap64_in ((n + 3) % 7 + 1) (by omega))
    clear h
    have b1 := B1.out
    have b2 := B2.out
    have b4 := B4.out
    go_enter Tryd.func55, Tryd.ntmps55
    go_wp2_with fail
    go_ret
    exact ⟨rfl, rfl⟩
  · rw [show wdN n = 0 from if_neg h]
    have H := Lib.hid h
    clear h
    go_enter Tryd.func55, Tryd.ntmps55
    go_wp2_with fail
    all_goals first | (go_ret; exact ⟨rfl, rfl⟩) | (exfalso; have := H.out; omega)
theorem ahd_366 (k : Nat) : ahd (1970 + k) ≤ 366 * k := by
  induction k with
  | zero => decide
  | succ k ih =>
    have h1 := ahd_step (1970 + k)
    have h2 := lp_01 (1970 + k)
    rw [show (1970 : Int) + ((k + 1 : Nat) : Int) = 1970 + k + 1 by push_cast; omega, h1]
    push_cast; omega
theorem year_from (n y : Int) (h0 : 0 ≤ n) (hy : ahd y ≤ n ∧ n < ahd (y + 1)) : 1970 + n / 366 ≤ y := by
  have h1 := ahd_366 (n / 366).toNat
  rw [show ((n / 366).toNat : Int) = n / 366 by omega] at h1
  by_cases h2 : 1970 + n / 366 ≤ y
  · exact h2
  · have := ahd_mono (show y + 1 ≤ 1970 + n / 366 by omega)
    omega
/-- The date's box in the months' range. -/
def ofR (y L : Int) (k : Nat) : Int × Int := if k = 0 then (0, 0) else ((k : Int), L - msx y (k - 1) + 1)
theorem of_fin (y m d L : Int) (k : Nat) (hok : okD y m d) (hL : L = mst y m + d - 1) (h1 : ∀ j, j < k → msx y j ≤ L) (h2 : k = 12 ∨ (k < 12 ∧ L < msx y k)) : ofR y L k = (m, d) := by
  have hm := dim_month hok
  have hd := hok.2.2
  have h0 := mst_lo y m hm
  have hkm : (k : Int) = m := by
    rcases Int.lt_trichotomy k m with h3 | h3 | h3
    · rcases h2 with h2 | ⟨h2, h4⟩
      · omega
      · unfold msx at h4
        rw [if_pos h2] at h4
        by_cases h5 : (k : Int) + 1 = m
        · rw [h5] at h4; omega
        · have h6 := mst_mono (y := y) (m := (k : Int) + 1) (m' := m) (by omega) (by omega) hm.2
          have h7 := dim_lo y ((k : Int) + 1) (by omega)
          omega
    · exact h3
    · have h4 := h1 m.toNat (by omega)
      unfold msx at h4
      rw [if_pos (by rcases h2 with h2 | h2 <;> omega)] at h4
      have h5 := mst_step y m (by rcases h2 with h2 | h2 <;> omega)
      rw [show ((m.toNat : Nat) : Int) + 1 = m + 1 by omega, h5] at h4
      omega
  unfold ofR
  rw [if_neg (by omega)]
  unfold msx
  rw [if_pos (by rcases h2 with h2 | h2 <;> omega), show ((k - 1 : Nat) : Int) + 1 = m by omega]
  exact Prod.ext_iff.2 ⟨hkm, by show L - mst y m + 1 = d; omega⟩
def OfI (b0 s1 s2 : Nat) (w : World) (y L : Int) (k : Nat) (W : World) : Prop :=
  (∀ j, j < k → msx y j ≤ L) ∧ Boxed W s1 3 (.int .i64 L) ∧ W.heap[s2]? = some (.cells #[.int .i64 y, .int .i64 (ofR y L k).1, .int .i64 (ofR y L k).2] 121 (0, 0)) ∧
    W.heap[b0]? = some (.cells #[.int .i64 0, .int .i64 0, .int .i64 0] 121 (0, 0)) ∧ (Below b0 w W ∧ b0 ≤ W.heap.size)
def OfX (b0 s1 s2 : Nat) (w : World) (y L : Int) (c : Code) (k : Nat) (W : World) : Prop :=
  c = .exit 2 ∧ ∃ j, k = j + 1 ∧ j < 12 ∧ L < msx y j ∧ OfI b0 s1 s2 w y L j W
theorem ofI_own (b0 s1 s2 B : Nat) (hB : b0 ≤ B) (w : World) (y L : Int) (k : Nat) : OwnW B (OfI b0 s1 s2 w y L k) :=
  (OwnW.const _).and ((boxed_ownW _ _ _ _).and (block_ownW.and (block_ownW.and (below_own hB))))
theorem ofX_own (b0 s1 s2 B : Nat) (hB : b0 ≤ B) (w : World) (y L : Int) (c : Code) (k : Nat) : OwnW B (OfX b0 s1 s2 w y L c k) :=
  (OwnW.const _).and (OwnW.ex fun j => (OwnW.const _).and ((OwnW.const _).and ((OwnW.const _).and (ofI_own b0 s1 s2 B hB w y L j))))
theorem of_round (b0 s3 : Nat) (w : World) (y L M : Int) (k : Nat) (W1 : World) (h3 : s3 ≠ b0 + 1 + 1) (hM : msx y k = M) (hle : M ≤ L) (hall : ∀ i, i < k → msx y i ≤ L) (hb1 : Boxed W1 (b0 + 1) 3 (.int .i64 L))
    (hr1 : W1.heap[b0 + 1 + 1]? = some (.cells #[.int .i64 y, .int .i64 (ofR y L k).1, .int .i64 (ofR y L k).2] 121 (0, 0))) (hz1 : W1.heap[b0]? = some (.cells #[.int .i64 0, .int .i64 0, .int .i64 0] 121 (0, 0)))
    (hBl : Below b0 w W1 ∧ b0 ≤ W1.heap.size) (hY : Boxed W1 s3 3 (.int .i64 y)) (hL : Lens W1) (hlow : 2 < b0) :
    KeepsOthers W1 (((W1.setCell ⟨b0 + 1 + 1, 1, none⟩ (.int .i64 ((k : Int) + 1))).setCell ⟨b0 + 1 + 1, 2, none⟩ (.int .i64 (L - M + 1))).drew) ∧ (Boxed (((W1.setCell ⟨b0 + 1 + 1, 1, none⟩ (.int .i64 ((k : Int) + 1))).setCell ⟨b0 + 1 + 1, 2, none⟩ (.int .i64 (L - M + 1))).drew) s3 3 (.int .i64 y) ∧ Lens (((W1.setCell ⟨b0 + 1 + 1, 1, none⟩ (.int .i64 ((k : Int) + 1))).setCell ⟨b0 + 1 + 1, 2, none⟩ (.int .i64 (L - M + 1))).drew)) ∧ OfI b0 (b0 + 1) (b0 + 1 + 1) w y L (k + 1) (((W1.setCell ⟨b0 + 1 + 1, 1, none⟩ (.int .i64 ((k : Int) + 1))).setCell ⟨b0 + 1 + 1, 2, none⟩ (.int .i64 (L - M + 1))).drew) := by
  have gx : ∀ q, q ≠ b0 + 1 + 1 → (((W1.setCell ⟨b0 + 1 + 1, 1, none⟩ (.int .i64 ((k : Int) + 1))).setCell ⟨b0 + 1 + 1, 2, none⟩ (.int .i64 (L - M + 1))).drew).heap[q]? = W1.heap[q]? := fun q hq =>
    (heap_setCell_other _ ⟨b0 + 1 + 1, 2, none⟩ q _ hq).trans (heap_setCell_other W1 ⟨b0 + 1 + 1, 1, none⟩ q _ hq)
  have hbl : Below b0 W1 (((W1.setCell ⟨b0 + 1 + 1, 1, none⟩ (.int .i64 ((k : Int) + 1))).setCell ⟨b0 + 1 + 1, 2, none⟩ (.int .i64 (L - M + 1))).drew) := (((Below.refl b0 W1).setCell (p := ⟨b0 + 1 + 1, 1, none⟩) (by show b0 ≤ b0 + 1 + 1; omega) _).setCell (p := ⟨b0 + 1 + 1, 2, none⟩) (by show b0 ≤ b0 + 1 + 1; omega) _).drew
  refine ⟨((KeepsOthers.setCell _ _ _).trans (KeepsOthers.setCell _ _ _)).trans (KeepsOthers.drew _), ⟨(gx _ h3).trans hY, hL.below hbl hlow⟩, fun i hi => ?_, (gx _ (by omega)).trans hb1, ?_, (gx _ (by omega)).trans hz1, hBl.1.trans hbl, by simpa using hBl.2⟩
  · by_cases h : i < k
    · exact hall i h
    · obtain rfl : i = k := by omega
      rw [hM]; exact hle
  · have h1 := heap_setCell_same W1 (b0 + 1 + 1) 1 _ _ (.int .i64 ((k : Int) + 1)) hr1
    have h2 := heap_setCell_same _ (b0 + 1 + 1) 2 _ _ (.int .i64 (L - M + 1)) h1
    have e : ofR y L (k + 1) = ((k : Int) + 1, L - M + 1) := by
      unfold ofR; rw [if_neg (by omega), Nat.add_sub_cancel, hM]; push_cast; rfl
    rw [e]
    exact h2
theorem results_cell_tmp {P : Program} {fn : Func} {p t2 : Tmp} {ty : TypeId} (h : fn.results = #[.cell p ty, .tmp t2]) (tmps : Array Value) (w : World) (g : Nat) (t : TypeId) (cs : Array Value) (fr : Nat × Nat) (d : TypeDesc)
    (hp : tmps.getD p undef = .pointer (some ⟨g, 0, none⟩)) (hg : w.heap[g]? = some (.cells cs t fr))
    (hu : P.underlying ty = some d) (hd : (match d with | .struct _ | .array _ _ => true | _ => false) = true) (hi : (P.info? ty).map (·.size) = some cs.size) :
    (results fn tmps).run P w = .ok (.tuple #[.agg cs, tmps.getD t2 undef]) w := by
  have hp' : tmps[p]?.getD undef = .pointer (some ⟨g, 0, none⟩) := by simpa using hp
  simp [results, h, hp', asAddr, run_loadVar_row w g t ty cs fr d hg hu hd hi]
theorem date_size : (Tryd.prog.info? 121).map (·.size) = some 3 := by kernel_rfl
theorem res_date {fn : Func} {p t2 : Tmp} (h : fn.results = #[.cell p 121, .tmp t2]) {tmps : Array Value} {w : World} {g : Nat} {a b c : Value} (hp : tmps.getD p undef = .pointer (some ⟨g, 0, none⟩)) (hg : w.heap[g]? = some (.cells #[a, b, c] 121 (0, 0))) :
    (results fn tmps).run Tryd.prog w = .ok (.tuple #[.agg #[a, b, c], tmps.getD t2 undef]) w :=
  results_cell_tmp h tmps w g _ _ _ _ hp hg Tryd.underlying121 rfl date_size
set_option maxRecDepth 100000 in
set_option maxHeartbeats 8000000 in
theorem of_calls (y m d : Int) (hok : okD y m d) (w : World) (hL : Lens w) : Calls Tryd.prog 73 #[.int .i64 (dayN y m d)] w fun e w' => e = .returned (.tuple #[.agg #[.int .i64 y, .int .i64 m, .int .i64 d], .int .i64 0]) ∧ Below w.heap.size w w' := by
  have hF := wide_fn
  obtain ⟨b0, hb0⟩ : ∃ b0, w.heap.size = b0 := ⟨_, rfl⟩
  have Hb0 := Lib.hid hb0
  have Hok := Lib.hid hok
  have hdm := dim_month hok
  have hdi := day_in hok
  have hdr := day_range hok
  have hyf := year_from _ y hdr.1 hdi
  obtain ⟨n, hn⟩ : ∃ n, dayN y m d = n := ⟨_, rfl⟩
  rw [hn] at hdi hdr hyf ⊢
  have HN := Lib.hid hn
  have k1 : decide (n < 0) = false := decide_eq_false (by omega)
  have k2 : decide (n > 2932896) = false := decide_eq_false (by omega)
  have e3 : n.tdiv 366 = n / 366 := Int.tdiv_eq_ediv_of_nonneg hdr.1
  have a1 := i64_same (n / 366) (by omega)
  have a2 := i64_same (1970 + n / 366) (by omega)
  have B2 := Lib.hid (wrap64_in (1970 + n / 366) (by omega))
  have Hyf := Lib.hid hyf
  have Hdi := Lib.hid hdi
  have Hdr := Lib.hid hdr
  have Hdm := Lib.hid hdm
  have hn0 : 0 ≤ n / 366 := by omega
  have Hn0 := Lib.hid hn0
  unfold okD at hok
  have Hyy := Lib.hid (show 1970 ≤ y ∧ y ≤ 9999 by omega)
  have hA := Lib.hid ahead_calls
  clear hok hdm hdi hdr hyf hn hn0
  have b2 := B2.out
  refine calls_of_marks Tryd.func73 rfl ?_
  simp only [Tryd.ntmps73, List.size_toArray, List.length_cons, List.length_nil, Nat.reduceAdd, Nat.reduceSub, Array.replicate_succ, Array.replicate_zero, List.push_toArray, List.append_toArray, List.nil_append, List.cons_append]
  gi_wp2_with (first | (refine wpIn_scope ?_) | (refine wpIn_label ?_))
  have hlow : 2 < b0 := by rw [← hb0]; exact hL.low
  have hrow := World.alloc_heap_new w (.cells #[.int .i64 0, .int .i64 0, .int .i64 0] 121)
  have hB1 := bstep w (.cells #[.int .i64 0, .int .i64 0, .int .i64 0] 121)
  have hs1 : (w.alloc (.cells #[.int .i64 0, .int .i64 0, .int .i64 0] 121)).heap.size = b0 + 1 := by simp [hb0]
  rw [hb0] at hrow hB1
  obtain ⟨w1, hw1⟩ : ∃ w1, w.alloc (.cells #[.int .i64 0, .int .i64 0, .int .i64 0] 121) = w1 := ⟨_, rfl⟩
  rw [hw1] at hrow hB1 hs1 ⊢
  have hL1 : Lens w1 := hL.below hB1 hlow
  clear hw1 a1 a2 b2 e3 hb0
  gi_loopw [4] (fun i wr => wr = w1 ∧ ∃ j : Int, i = .int .i64 j ∧ 1970 ≤ j ∧ j ≤ y) (fun i _ => (y - intOf i).toNat)
  case atStart => exact ⟨rfl, _, rfl, by have := Hn0.out; omega, Hyf.out⟩
  case round =>
    obtain ⟨rfl, j, rfl, hj1, hj2⟩ := hrel
    have hyy := Hyy.out
    have a3 := i64_same (j + 1) (by omega)
    have B3 := Lib.hid (wrap64_in (j + 1) (by omega))
    have HA1 := Lib.hid (hA.out (j + 1) (by omega))
    have HA2 := Lib.hid (hA.out y (by omega))
    by_cases hjy : j < y
    · have hle : ahd (j + 1) ≤ n := by have := ahd_mono (show j + 1 ≤ y by omega); have := Hdi.out; omega
      have k3 : decide (ahd (j + 1) ≤ n) = true := decide_eq_true hle
      have b3 := B3.out
      gi_wp2
      refine (callsIn_wide.2 (HA1.out _)).mono ?_
      rintro e w3 ⟨rfl, rfl⟩
      gi_wp2
      go_roundw
      case rel => exact ⟨trivial, j + 1, rfl, by omega, by omega⟩
      case measure => simp [intOf]; omega
    · obtain rfl : j = y := by omega
      have hgt : ¬ ahd (j + 1) ≤ n := by have := Hdi.out; omega
      have k3 : decide (ahd (j + 1) ≤ n) = false := decide_eq_false hgt
      obtain ⟨S, hS⟩ : ∃ S, ahd j = S := ⟨_, rfl⟩
      rw [hS] at HA2
      have hLe : n - S = mst j m + d - 1 := by have := HN.out; unfold dayN at this; omega
      have hLb : 0 ≤ n - S ∧ n - S ≤ 366 := by
        have h1 := mst_lo j m Hdm.out; have h2 := lp_01 j; have h3 := Hok.out; unfold okD at h3; omega
      have a4 := i64_same (n - S) (by omega)
      have B4 := Lib.hid (wrap64_in (n - S) (by omega))
      have HLe := Lib.hid hLe
      have HLb := Lib.hid hLb
      clear hLe hLb hS hgt
      have b3 := B3.out
      have b4 := B4.out
      gi_wp2
      refine (callsIn_wide.2 (HA1.out _)).mono ?_
      rintro e w3 ⟨rfl, rfl⟩
      gi_wp2
      refine (callsIn_wide.2 (HA2.out _)).mono ?_
      rintro e w3 ⟨rfl, rfl⟩
      gi_wp2_with (first | (refine wpIn_scope ?_) | (refine wpIn_label ?_) | (gi_at_call 82; refine (callsIn_wide.2 (months_calls _ _)).mono ?_; rintro e w' ⟨rfl, rfl⟩))
      obtain ⟨W0, hW0⟩ : ∃ W0, ((w3.alloc (.cells #[.int .i64 (n - S)] 3)).alloc (.cells #[.int .i64 j, .int .i64 0, .int .i64 0] 121)).alloc (.cells #[.int .i64 j] 3) = W0 := ⟨_, rfl⟩
      obtain ⟨wa, hwa⟩ : ∃ wa, w3.alloc (.cells #[.int .i64 (n - S)] 3) = wa := ⟨_, rfl⟩
      obtain ⟨wb, hwb⟩ : ∃ wb, wa.alloc (.cells #[.int .i64 j, .int .i64 0, .int .i64 0] 121) = wb := ⟨_, rfl⟩
      have hW1 := hW0
      rw [hwa, hwb] at hW1
      have sa : wa.heap.size = b0 + 1 + 1 := by rw [← hwa, World.size_alloc, hs1]
      have sb : wb.heap.size = b0 + 1 + 1 + 1 := by rw [← hwb, World.size_alloc, sa]
      have ta : Below w3.heap.size w3 wa := hwa ▸ bstep w3 _
      have tb : Below wa.heap.size wa wb := hwb ▸ bstep wa _
      have tc : Below wb.heap.size wb W0 := hW1 ▸ bstep wb _
      have tbc := bnext tb tc
      have tabc := bnext ta tbc
      have bL : Boxed W0 (b0 + 1) 3 (.int .i64 (n - S)) := by
        have h : Boxed wa w3.heap.size 3 (.int .i64 (n - S)) := hwa ▸ Boxed.new w3 _ _
        rw [hs1] at h; exact blk_below h tbc
      have bD : W0.heap[b0 + 1 + 1]? = some (.cells #[.int .i64 j, .int .i64 0, .int .i64 0] 121 (0, 0)) := by
        have h : wb.heap[wa.heap.size]? = some (.cells #[.int .i64 j, .int .i64 0, .int .i64 0] 121 (0, 0)) := hwb ▸ World.alloc_heap_new wa _
        rw [sa] at h; exact blk_below h tc
      have bY : Boxed W0 (b0 + 1 + 1 + 1) 3 (.int .i64 j) := by
        have h : Boxed W0 wb.heap.size 3 (.int .i64 j) := hW1 ▸ Boxed.new wb _ _
        rw [sb] at h; exact h
      have b00 : W0.heap[b0]? = some (.cells #[.int .i64 0, .int .i64 0, .int .i64 0] 121 (0, 0)) := blk_below hrow tabc
      have hB0 : Below b0 w W0 := hB1.trans (tabc.mono (by omega))
      have hL0 := hL1.go tabc
      have s0 : W0.heap.size = b0 + 1 + 1 + 1 + 1 := by rw [← hW1, World.size_alloc, sb]
      clear ta tb tc tbc tabc hwa hwb hW1 sa sb
      rw [hW0]
      obtain ⟨L, hLn⟩ : ∃ L, n - S = L := ⟨_, rfl⟩
      rw [hLn] at bL HLe HLb
      refine wpIn_rangeX rfl (by decide) (gf := 93) (lb := #[.pointer (some ⟨b0 + 1 + 1 + 1, 0, none⟩)]) rfl trivial (enters_of Tryd.func93 (by kernel_rfl) rfl)
        (months_seq (b0 + 1 + 1 + 1) j (by omega)) (fun A B h => h ▸ KeepsOthers.refl _) (fun _ => rfl)
        ((boxed_ownW _ _ _ _).and (Lens.own _)) (fun _ => (boxed_ownW _ _ _ _).and (Lens.own _)) (OwnW.const _) (fun _ => OwnW.const _) ⟨bY, hL0⟩
        (OfI b0 (b0 + 1) (b0 + 1 + 1) w j L) (OfX b0 (b0 + 1) (b0 + 1 + 1) w j L)
        (fun k => ofI_own _ _ _ _ (by omega) _ _ _ _) (fun c k => ofX_own _ _ _ _ (by omega) _ _ _ _ _) (fun k A B h e => e ▸ h) (fun _ _ _ _ h e => e ▸ h)
        ⟨fun i hi => absurd hi (by omega), bL, bD, b00, hB0, by omega⟩ ?round ?done ?stop
      case round =>
        rintro lo k x W hx _ _
        gi_wp2
        refine ⟨trivial, ?_⟩
        rintro W1 ⟨hall, hb1, hr1, hz1, hBl⟩ ⟨hY1, hLn1⟩ hsz
        have hkl : k < 12 := by have := (List.getElem?_eq_some_iff.1 hx).1; rwa [moL_len] at this
        have hxv : x = ((k : Int) + 1, msx j k) := by have := moL_at j k hkl; rw [hx] at this; injection this
        subst hxv
        have cb := hb1.cell
        have hmr := msx_range j k (by omega)
        obtain ⟨M, hM⟩ : ∃ M, msx j k = M := ⟨_, rfl⟩
        rw [hM] at hmr ⊢
        by_cases hgt : M > L
        · have k4 : decide (M > L) = true := decide_eq_true hgt
          have HE := Lib.hid (show KeepsOthers W1 W1 ∧ (Boxed W1 (b0 + 1 + 1 + 1) 3 (.int .i64 j) ∧ Lens W1) ∧ OfX b0 (b0 + 1) (b0 + 1 + 1) w j L (.exit 2) (k + 1) W1 from
            ⟨KeepsOthers.refl _, ⟨hY1, hLn1⟩, rfl, k, rfl, hkl, by rw [hM]; exact hgt, hall, hb1, hr1, hz1, hBl⟩)
          clear hmr hgt
          gi_wp2
          exact HE.out
        · have k4 : decide (M > L) = false := decide_eq_false hgt
          have hlb := HLb.out
          have c1 := cell_of_row W1 (b0 + 1 + 1) 1 _ _ _ hr1
          have c2 := cell_of_row W1 (b0 + 1 + 1) 2 _ _ _ hr1
          have f1 := blk_frozen hr1 1
          have f2 := blk_frozen hr1 2
          have a5 := i64_same (L - M) (by omega)
          have a6 := i64_same (L - M + 1) (by omega)
          have B5 := Lib.hid (wrap64_in (L - M) (by omega))
          have B6 := Lib.hid (wrap64_in (L - M + 1) (by omega))
          have HF := Lib.hid (of_round b0 (b0 + 1 + 1 + 1) w j L M k W1 (by omega) hM (by omega) hall hb1 hr1 hz1 hBl hY1 hLn1 hlow)
          clear hmr hgt hlb
          have b5 := B5.out
          have b6 := B6.out
          gi_wp2
          gi_region
          all_goals gi_wp2
          all_goals exact HF.out
      case done =>
        rintro D W hD ⟨hall, hb1, hr1, hz1, hBl⟩ _ hK
        rw [moL_len] at hall hr1
        have hfin := of_fin j m d L 12 Hok.out HLe.out hall (.inl rfl)
        rw [hfin] at hr1
        have HE := Lib.hid (hBl)
        have c0 := cell_of_row W (b0 + 1 + 1) 0 _ _ _ hr1
        have c1 := cell_of_row W (b0 + 1 + 1) 1 _ _ _ hr1
        have c2 := cell_of_row W (b0 + 1 + 1) 2 _ _ _ hr1
        clear hfin hall hb1 HE
        have z0 := cell_of_row W b0 0 _ _ _ hz1
        have z1 := cell_of_row W b0 1 _ _ _ hz1
        have z2 := cell_of_row W b0 2 _ _ _ hz1
        have f0 := blk_frozen hz1 0
        have f1 := blk_frozen hz1 1
        have f2 := blk_frozen hz1 2
        have hz2 := heap_setCell_same W b0 0 _ _ (.int .i64 j) hz1
        have hz3 := heap_setCell_same _ b0 1 _ _ (.int .i64 m) hz2
        have hz4 := heap_setCell_same _ b0 2 _ _ (.int .i64 d) hz3
        have hK4 := (((KeepsOthers.setCell W ⟨b0, 0, none⟩ (.int .i64 j)).trans (KeepsOthers.setCell _ ⟨b0, 1, none⟩ (.int .i64 m))).trans (KeepsOthers.setCell _ ⟨b0, 2, none⟩ (.int .i64 d))).same D _ hK rfl
        have hB4 := ((hBl.1.setCell (p := ⟨b0, 0, none⟩) (Nat.le_refl _) (.int .i64 j)).setCell (p := ⟨b0, 1, none⟩) (Nat.le_refl _) (.int .i64 m)).setCell (p := ⟨b0, 2, none⟩) (Nat.le_refl _) (.int .i64 d)
        have hs4 : b0 ≤ (((W.setCell ⟨b0, 0, none⟩ (.int .i64 j)).setCell ⟨b0, 1, none⟩ (.int .i64 m)).setCell ⟨b0, 2, none⟩ (.int .i64 d)).heap.size := by simpa using hBl.2
        clear hz2 hz3 hz1 hBl
        gi_wp2
        refine ⟨by simp, .inl ⟨_, _, rfl, run_takeDeferred hK4, ?_⟩⟩
        refine ⟨_, res_date rfl rfl (block_ownW.putObj (B := b0) _ hz4 (by omega) hK4 rfl), rfl, ?_⟩
        rw [Hb0.out]
        exact Below.putObj hB4 (by omega) hs4 _
      case stop =>
        rintro D c k W hD hk ⟨rfl, i, hi, hi2, hgt, hall, hb1, hr1, hz1, hBl⟩ _ hK
        have hfin := of_fin j m d L i Hok.out HLe.out hall (.inr ⟨hi2, hgt⟩)
        rw [hfin] at hr1
        have c0 := cell_of_row W (b0 + 1 + 1) 0 _ _ _ hr1
        have c1 := cell_of_row W (b0 + 1 + 1) 1 _ _ _ hr1
        have c2 := cell_of_row W (b0 + 1 + 1) 2 _ _ _ hr1
        clear hfin hall hb1 hgt
        have z0 := cell_of_row W b0 0 _ _ _ hz1
        have z1 := cell_of_row W b0 1 _ _ _ hz1
        have z2 := cell_of_row W b0 2 _ _ _ hz1
        have f0 := blk_frozen hz1 0
        have f1 := blk_frozen hz1 1
        have f2 := blk_frozen hz1 2
        have hz2 := heap_setCell_same W b0 0 _ _ (.int .i64 j) hz1
        have hz3 := heap_setCell_same _ b0 1 _ _ (.int .i64 m) hz2
        have hz4 := heap_setCell_same _ b0 2 _ _ (.int .i64 d) hz3
        have hK4 := (((KeepsOthers.setCell W ⟨b0, 0, none⟩ (.int .i64 j)).trans (KeepsOthers.setCell _ ⟨b0, 1, none⟩ (.int .i64 m))).trans (KeepsOthers.setCell _ ⟨b0, 2, none⟩ (.int .i64 d))).same D _ hK rfl
        have hB4 := ((hBl.1.setCell (p := ⟨b0, 0, none⟩) (Nat.le_refl _) (.int .i64 j)).setCell (p := ⟨b0, 1, none⟩) (Nat.le_refl _) (.int .i64 m)).setCell (p := ⟨b0, 2, none⟩) (Nat.le_refl _) (.int .i64 d)
        have hs4 : b0 ≤ (((W.setCell ⟨b0, 0, none⟩ (.int .i64 j)).setCell ⟨b0, 1, none⟩ (.int .i64 m)).setCell ⟨b0, 2, none⟩ (.int .i64 d)).heap.size := by simpa using hBl.2
        clear hz2 hz3 hz1 hBl
        gi_wp2
        refine ⟨by simp, .inl ⟨_, _, rfl, run_takeDeferred hK4, ?_⟩⟩
        refine ⟨_, res_date rfl rfl (block_ownW.putObj (B := b0) _ hz4 (by omega) hK4 rfl), rfl, ?_⟩
        rw [Hb0.out]
        exact Below.putObj hB4 (by omega) hs4 _
set_option maxRecDepth 100000 in
set_option maxHeartbeats 8000000 in
theorem of_bad (n : Int) (h : ¬ (0 ≤ n ∧ n ≤ 2932896)) (w : World) : Calls Tryd.prog 73 #[.int .i64 n] w fun e w' => e = .returned (.tuple #[.agg #[.int .i64 0, .int .i64 0, .int .i64 0], .int .i64 60]) ∧ Below w.heap.size w w' := by
  have hF := wide_fn
  obtain ⟨b0, hb0⟩ : ∃ b0, w.heap.size = b0 := ⟨_, rfl⟩
  have Hb0 := Lib.hid hb0
  have H := Lib.hid h
  have hrow := World.alloc_heap_new w (.cells #[.int .i64 0, .int .i64 0, .int .i64 0] 121)
  have hB1 := bstep w (.cells #[.int .i64 0, .int .i64 0, .int .i64 0] 121)
  rw [hb0] at hrow hB1
  clear h
  refine calls_of_marks Tryd.func73 rfl ?_
  simp only [Tryd.ntmps73, List.size_toArray, List.length_cons, List.length_nil, Nat.reduceAdd, Nat.reduceSub, Array.replicate_succ, Array.replicate_zero, List.push_toArray, List.append_toArray, List.nil_append, List.cons_append]
  gi_wp2_with (first | (refine wpIn_scope ?_) | (refine wpIn_label ?_))
  all_goals first
    | (try rw [Exit.noGoto_ret]
       refine ⟨_, res_date rfl rfl hrow, rfl, ?_⟩
       rw [Hb0.out]
       exact hB1)
    | (exfalso; have := H.out; omega)
end Go.Proofs.YtgbkedjjgbhcmaaDoor
