/-
  A number of 200 bits in memory: its cells. Conditions stand at each theorem.
-/
import Derived.Test.YtjmkbpgakfeceaaNumPlain
import Derived.Test.YtjmkbpgakfeceaaBase
import Derived.Test.YtjmkbpgakfeceaaChecked
import Derived.LoopTactic
import Derived.Lib.Hide
import Derived.Laws.Rows
import Derived.Laws.Tables
import Derived.Deep.WholeRow
import Derived.BigRegion
import Derived.Deep.Draws
namespace Go.Proofs.Ytjmkbpgakfeceaa
open Go Go.RowKit Go.Kw Go.Kw.Nm
set_option linter.unusedVariables false
set_option linter.unusedSimpArgs false

def numC (neg : Bool) (f : Nat → Nat) : Array Value := (Value.bool neg :: (List.range 200).map fun i => Value.int .i64 (f i)).toArray
def upd (f : Nat → Nat) (j v : Nat) : Nat → Nat := fun i => if i = j then v else f i
section
variable {neg : Bool} {f g : Nat → Nat}
theorem numC_size : (numC neg f).size = 201 := by simp [numC]
theorem numC_0 : (numC neg f)[0]? = some (.bool neg) := by simp [numC]
theorem numC_at (i : Nat) (h : i < 200) : (numC neg f)[i + 1]? = some (.int .i64 (f i)) := by simp [numC, h]
theorem numC_congr (h : ∀ i, i < 200 → f i = g i) : numC neg f = numC neg g := by
  unfold numC
  congr 2
  exact List.map_congr_left fun i hi => by rw [h i (List.mem_range.1 hi)]
theorem numC_set (j v : Nat) (h : j < 200) : (numC neg f).setIfInBounds (j + 1) (.int .i64 v) = numC neg (upd f j v) := by
  apply Array.ext_getElem?
  intro i
  rw [Array.getElem?_setIfInBounds]
  rcases i with _ | i
  · rw [if_neg (by omega), numC_0, numC_0]
  · by_cases hi : i < 200
    · rw [numC_at i hi, numC_at i hi]
      by_cases hj : i = j
      · subst hj; rw [if_pos rfl, if_pos (by rw [numC_size]; omega)]; unfold upd; rw [if_pos rfl]
      · rw [if_neg (by omega)]; unfold upd; rw [if_neg hj]
    · rw [if_neg (by omega), Array.getElem?_eq_none (by rw [numC_size]; omega), Array.getElem?_eq_none (by rw [numC_size]; omega)]
theorem numC_neg (n' : Bool) : (numC neg f).setIfInBounds 0 (.bool n') = numC n' f := by
  apply Array.ext_getElem?
  intro i
  rw [Array.getElem?_setIfInBounds]
  rcases i with _ | i
  · rw [if_pos rfl, if_pos (by rw [numC_size]; omega), numC_0]
  · rw [if_neg (by omega)]
    by_cases hi : i < 200
    · rw [numC_at i hi, numC_at i hi]
    · rw [Array.getElem?_eq_none (by rw [numC_size]; omega), Array.getElem?_eq_none (by rw [numC_size]; omega)]
end
/-- A block that holds a number. -/
def NB (W : World) (b : Nat) (neg : Bool) (f : Nat → Nat) : Prop := W.heap[b]? = some (.cells (numC neg f) 90 (0, 0))
section
variable {W W' : World} {b : Nat} {neg : Bool} {f g : Nat → Nat}
theorem NB.lt (h : NB W b neg f) : b < W.heap.size := (Array.getElem?_eq_some_iff.1 h).1
theorem NB.c0 (h : NB W b neg f) : W.cell? ⟨b, 0, none⟩ = some (.bool neg) := (cell_of_row W b 0 _ _ _ h).trans numC_0
theorem NB.at_ (h : NB W b neg f) (i : Nat) (hi : i < 200) : W.cell? ⟨b, i + 1, none⟩ = some (.int .i64 (f i)) := (cell_of_row W b (i + 1) _ _ _ h).trans (numC_at i hi)
theorem NB.fr (h : NB W b neg f) (k : Nat) : W.frozen? ⟨b, k, none⟩ = false := frozen_of_row W b k _ _ h
theorem NB.below (h : NB W b neg f) {B : Nat} (hb : Below B W W') (hB : b < B) : NB W' b neg f := (hb.block b hB).trans h
theorem NB.next (h : NB W b neg f) (hb : Below W.heap.size W W') : NB W' b neg f := (hb.block b h.lt).trans h
theorem NB.new (W : World) (neg : Bool) (f : Nat → Nat) : NB (W.alloc (.cells (numC neg f) 90)) W.heap.size neg f := World.alloc_heap_new W _
theorem NB.set (h : NB W b neg f) (i v : Nat) (hi : i < 200) : NB (W.setCell ⟨b, i + 1, none⟩ (.int .i64 v)) b neg (upd f i v) := by
  have := heap_setCell_same W b (i + 1) _ _ (.int .i64 v) h
  rw [numC_set i v hi] at this; exact this
theorem NB.setN (h : NB W b neg f) (n' : Bool) : NB (W.setCell ⟨b, 0, none⟩ (.bool n')) b n' f := by
  have := heap_setCell_same W b 0 _ _ (.bool n') h
  rw [numC_neg] at this; exact this
theorem NB.far (h : NB W b neg f) {p : Addr} (hp : b ≠ p.block) (v : Value) : NB (W.setCell p v) b neg f := (heap_setCell_other W p b v hp).trans h
theorem NB.row (h : NB W b neg f) (c : Nat) (hc : b ≠ c) (cs : Array Value) : NB (W.setRow c cs) b neg f := (setRow_other W c b cs hc).trans h
theorem NB.put (h : NB W b neg f) (n' : Bool) (g : Nat → Nat) : NB (W.setRow b (numC n' g)) b n' g := setRow_heap W b _ _ _ _ h
theorem NB.congr (h : NB W b neg f) (hg : ∀ i, i < 200 → f i = g i) : NB W b neg g := by
  show W.heap[b]? = _
  rw [show W.heap[b]? = _ from h, numC_congr hg]
theorem NB.atA (h : NB W b neg f) (i : Nat) (hi : i < 200) : W.cell? ⟨b, 1 + i, none⟩ = some (.int .i64 (f i)) := by rw [Nat.add_comm]; exact h.at_ i hi
theorem NB.setA (h : NB W b neg f) (i v : Nat) (hi : i < 200) : NB (W.setCell ⟨b, 1 + i, none⟩ (.int .i64 v)) b neg (upd f i v) := by rw [Nat.add_comm]; exact h.set i v hi
end
theorem below_dN {B : Nat} {a w : World} (h : Below B a w) (n : Nat) : Below B a (w.drewN n) := h.trans ⟨rfl, rfl, rfl, Nat.le_refl _, fun _ _ => rfl⟩
theorem NB.drewN {W : World} {b : Nat} {neg : Bool} {f : Nat → Nat} (h : NB W b neg f) (n : Nat) : NB (W.drewN n) b neg f := h
theorem nb4 (w : World) (na nb nc nd : Bool) (fa fb fc fd : Nat → Nat) : ∃ W, ((((w.alloc (.cells (numC na fa) 90)).alloc (.cells (numC nb fb) 90)).alloc (.cells (numC nc fc) 90)).alloc (.cells (numC nd fd) 90)) = W ∧
    NB W w.heap.size na fa ∧ NB W (w.heap.size + 1) nb fb ∧ NB W (w.heap.size + 1 + 1) nc fc ∧ NB W (w.heap.size + 1 + 1 + 1) nd fd ∧ Below w.heap.size w W := by
  have st : ∀ (w : World) (o : Obj), Below w.heap.size w (w.alloc o) := fun w o => (Below.refl _ w).alloc (Nat.le_refl _) o
  refine ⟨_, rfl, (((NB.new w na fa).next (st _ _)).next (st _ _)).next (st _ _), ?_, ?_, ?_, (((st w _).trans ((st _ _).mono (by simp only [World.size_alloc]; omega))).trans ((st _ _).mono (by simp only [World.size_alloc]; omega))).trans ((st _ _).mono (by simp only [World.size_alloc]; omega))⟩
  · have := ((NB.new (w.alloc (.cells (numC na fa) 90)) nb fb).next (st _ (.cells (numC nc fc) 90))).next (st _ (.cells (numC nd fd) 90))
    rw [World.size_alloc] at this; exact this
  · have := (NB.new ((w.alloc (.cells (numC na fa) 90)).alloc (.cells (numC nb fb) 90)) nc fc).next (st _ (.cells (numC nd fd) 90))
    rw [World.size_alloc, World.size_alloc] at this; exact this
  · have := NB.new (((w.alloc (.cells (numC na fa) 90)).alloc (.cells (numC nb fb) 90)).alloc (.cells (numC nc fc) 90)) nd fd
    rw [World.size_alloc, World.size_alloc, World.size_alloc] at this; exact this
theorem num_info : (Try.prog.info? 90).map (fun i => (i.zero, i.size)) = some (some (Value.agg (numC false fun _ => 0)), 201) := by kernel_rfl
theorem num_zero (w : World) : (zeroValue 90).run Try.prog w = .ok (.agg (numC false fun _ => 0)) w := (zero_of_info num_info).1 w
theorem num_size : (Try.prog.info? 90).map (·.size) = some 201 := (zero_of_info num_info).2
theorem num_sizeC (neg : Bool) (f : Nat → Nat) : (Try.prog.info? 90).map (·.size) = some (numC neg f).size := by rw [numC_size]; exact num_size
theorem num_one (neg : Bool) (f : Nat → Nat) : (numC neg f).all (·.oneCell') = true := by
  unfold numC
  simp [Value.oneCell']
theorem ld_num {ops : Array Oper} {rest : List Oper} {o : Oper} {a : Act} {w : World} {Q : Exit → Act → World → Prop} {g : Nat} {neg : Bool} {f : Nat → Nat} (h : NB w g neg f) (hgd : o.guard = none) (x : Operand) (ho : o.op = .load 90 x) (hx : a.eval x = .pointer (some ⟨g, 0, none⟩))
    (k : wpList Try.prog ops Q rest (a.put o.dst (.agg (numC neg f))) w) : wpList Try.prog ops Q (o :: rest) a w :=
  wpList_load_row hgd 90 x ho g hx 90 _ (0, 0) _ h Try.underlying90 rfl (num_sizeC _ _) k
theorem st_num {ops : Array Oper} {rest : List Oper} {o : Oper} {a : Act} {w : World} {Q : Exit → Act → World → Prop} {g : Nat} {neg : Bool} {f : Nat → Nat} (h : NB w g neg f) (hgd : o.guard = none) (x y : Operand) (ho : o.op = .store 90 x y) (hx : a.eval x = .pointer (some ⟨g, 0, none⟩)) (n' : Bool) (f' : Nat → Nat) (hy : a.eval y = .agg (numC n' f'))
    (k : wpList Try.prog ops Q rest (a.put o.dst undef) (w.setRow g (numC n' f'))) : wpList Try.prog ops Q (o :: rest) a w :=
  wpList_store_row hgd 90 x y ho g _ hx hy 90 _ h (num_sizeC _ _) (by rw [numC_size, numC_size]) (num_one _ _) k
theorem below_row {B : Nat} {a w : World} (h : Below B a w) {g : Nat} (hg : B ≤ g) (cs : Array Value) : Below B a (w.setRow g cs) :=
  h.trans ⟨rfl, rfl, rfl, by simp, fun k hk => setRow_other w g k cs (by omega)⟩
theorem res_num {fn : Func} {p : Tmp} (h : fn.results = #[.cell p 90]) (tmps : Array Value) (w : World) (g : Nat) {neg : Bool} {f : Nat → Nat} (hg : NB w g neg f) (hp : tmps.getD p undef = .pointer (some ⟨g, 0, none⟩)) : (results fn tmps).run Try.prog w = .ok (.agg (numC neg f)) w :=
  results_cell_row h tmps w g 90 _ (0, 0) _ hp hg Try.underlying90 rfl (num_sizeC _ _)
end Go.Proofs.Ytjmkbpgakfeceaa
