/-
  Numbers of 200 bits: of int64, their sum, back to int64, walked. Conditions stand at each theorem.
-/
import Derived.Test.YtjmkbpgakfeceaaNumA
import Derived.RegionTactic
import Derived.Shelf.Abstract
import Derived.Orders
namespace Go.Proofs.Ytjmkbpgakfeceaa
open Go Go.RowKit Go.Kw Go.Kw.Nm
set_option linter.unusedVariables false
set_option linter.unusedSimpArgs false

theorem bitF_z : bitF 0 = fun _ => 0 := funext fun i => bitF_zero i
/-- A number with its sign. -/
def numZ (z : Int) : Value := .agg (numC (decide (z < 0)) (bitF z.natAbs))
theorem step_ldN {ops : Array Oper} {o : Oper} {a : Act} {w : World} {K : Act → World → Prop} {Q : Exit → Act → World → Prop} {E : Prop} {g : Nat} {neg : Bool} {f : Nat → Nat} (h : NB w g neg f) (hgd : o.guard = none) (x : Operand) (ho : o.op = .load 90 x) (hx : a.eval x = .pointer (some ⟨g, 0, none⟩))
    (hK : K (a.put o.dst (.agg (numC neg f))) w) : if Region.wanted o (yielded ops a.tmps) = true then Oper.wp Try.prog o a w K Q else E := by
  have hw : Region.wanted o (yielded ops a.tmps) = true := by simp [Region.wanted, hgd]
  rw [if_pos hw]
  exact wp_load_row 90 x ho g hx 90 _ (0, 0) _ h Try.underlying90 rfl (num_sizeC _ _) hK
theorem step_stN {ops : Array Oper} {o : Oper} {a : Act} {w : World} {K : Act → World → Prop} {Q : Exit → Act → World → Prop} {E : Prop} {g : Nat} {neg : Bool} {f : Nat → Nat} (h : NB w g neg f) (hgd : o.guard = none) (x y : Operand) (ho : o.op = .store 90 x y) (hx : a.eval x = .pointer (some ⟨g, 0, none⟩)) (n' : Bool) (f' : Nat → Nat) (hy : a.eval y = .agg (numC n' f'))
    (hK : K (a.put o.dst undef) (w.setRow g (numC n' f'))) : if Region.wanted o (yielded ops a.tmps) = true then Oper.wp Try.prog o a w K Q else E := by
  have hw : Region.wanted o (yielded ops a.tmps) = true := by simp [Region.wanted, hgd]
  rw [if_pos hw]
  exact wp_store_row 90 x y ho g _ hx hy 90 _ h (num_sizeC _ _) (by rw [numC_size, numC_size]) (num_one _ _) hK
theorem step_callN {ops : Array Oper} {o : Oper} {a : Act} {w : World} {K : Act → World → Prop} {Q : Exit → Act → World → Prop} {E : Prop}
    (hg : o.guard = none) (f : FuncId) (xs : Array Operand) (ts : Array TypeId) (hop : o.op = Op.call { callee := Callee.value (Operand.func f), args := xs, argTypes := ts }) (vs : Array Value) (hx : xs.map a.eval = vs)
    (hent : ∀ args w, (callFunc f args).run Try.prog w = .ok (.enter f args) w) {R : Ending → World → Prop} (hc : Calls Try.prog f vs w R) (hR : ∀ e w', R e w' → ∃ u, e = .returned u ∧ K (a.put o.dst u) w') :
    if Region.wanted o (yielded ops a.tmps) = true then Oper.wp Try.prog o a w K Q else E := by
  have hw : Region.wanted o (yielded ops a.tmps) = true := by simp [Region.wanted, hg]
  rw [if_pos hw]
  unfold Oper.wp
  have hf : a.eval (Operand.func f) = .func (.func f) #[] #[] := rfl
  have hrun : (execOp a.eval o).run Try.prog w = .ok (.enter f vs) w := by simp [execOp, hop, resolve, invoke, hf, hent, go_sem, hx]
  rw [hrun, Oper.upon_enter]
  exact hc.mono fun e w' hr => by obtain ⟨u, rfl, hk⟩ := hR e w' hr; exact hk
theorem below_setC {B : Nat} {a w : World} (h : Below B a w) {p : Addr} (hp : B ≤ p.block) (v : Value) : Below B a (w.setCell p v) := h.setCell hp v

theorem nb3 (w : World) (na nb nc : Bool) (fa fb fc : Nat → Nat) : ∃ W, (((w.alloc (.cells (numC na fa) 90)).alloc (.cells (numC nb fb) 90)).alloc (.cells (numC nc fc) 90)) = W ∧
    NB W w.heap.size na fa ∧ NB W (w.heap.size + 1) nb fb ∧ NB W (w.heap.size + 1 + 1) nc fc ∧ Below w.heap.size w W := by
  have st : ∀ (w : World) (o : Obj), Below w.heap.size w (w.alloc o) := fun w o => (Below.refl _ w).alloc (Nat.le_refl _) o
  refine ⟨_, rfl, ((NB.new w na fa).next (st _ _)).next (st _ _), ?_, ?_, ((st w _).trans ((st _ _).mono (by simp only [World.size_alloc]; omega))).trans ((st _ _).mono (by simp only [World.size_alloc]; omega))⟩
  · have := (NB.new (w.alloc (.cells (numC na fa) 90)) nb fb).next (st _ (.cells (numC nc fc) 90))
    rw [World.size_alloc] at this; exact this
  · have := NB.new ((w.alloc (.cells (numC na fa) 90)).alloc (.cells (numC nb fb) 90)) nc fc
    rw [World.size_alloc, World.size_alloc] at this; exact this
theorem belowN {B : Nat} {a w w' : World} {g : Nat} {neg : Bool} {f : Nat → Nat} (h : Below B a w) (hg : NB w g neg f) (hB : B ≤ g) (k : Below w.heap.size w w') : Below B a w' := h.trans (k.mono (by have := hg.lt; omega))
theorem alloc_put (w : World) (f : Nat → Nat) : ∃ V, (w.alloc (.cells (numC false fun _ => 0) 90)).setRow w.heap.size (numC false f) = V ∧ NB V w.heap.size false f ∧ (∀ b n g, NB w b n g → NB V b n g) ∧ ∀ B a, Below B a w → B ≤ w.heap.size → Below B a V := by
  rw [World.setRow_alloc_new]
  have st : Below w.heap.size w (w.alloc (.cells (numC false f) 90)) := (Below.refl _ w).alloc (Nat.le_refl _) _
  exact ⟨_, rfl, NB.new w false f, fun b n g h => h.next st, fun B a h hB => h.trans (st.mono hB)⟩
theorem stepN (w : World) (o : Obj) : Below w.heap.size w (w.alloc o) := (Below.refl _ w).alloc (Nat.le_refl _) o

end Go.Proofs.Ytjmkbpgakfeceaa
