/-
  A purse's Copy, walked; a slice of calls that comes in, opened. Conditions stand at each theorem.
-/
import Derived.Test.YtbbbjgilbddabaaPurse3
import Derived.Test.YtbbbjgilbddabaaIntRows
import Derived.Lib.SmallJoins
namespace Go.Proofs.Ytbbbjgilbddabaa
open Go Go.RowKit Go.Kw Go.Joins Go.ChangeShapes Go.WideShapes Go.ChangeAt
set_option linter.unusedVariables false
set_option linter.unusedSimpArgs false

set_option maxRecDepth 100000 in
set_option maxHeartbeats 4000000 in
theorem copy_calls (f : Nat → Int) (b : Nat) (w : World) (hb : PB 48 w b f) :
    Calls Try.prog 24 #[.pointer (some ⟨b, 0, none⟩)] w fun e w' =>
      e = .returned (.pointer (some ⟨w.heap.size, 0, none⟩)) ∧ PB 48 w' w.heap.size f ∧ Below w.heap.size w w' := by
  have hz := pur_zero
  have h1 := PB.new 48 w (fun _ => 0)
  have hbl := (Below.refl w.heap.size w).alloc (Nat.le_refl _) (.cells (purC (fun _ => 0)) 48)
  have hb1 := hb.next hbl
  go_enter Try.func24, Try.ntmps24
  go_wp2_with (first | (refine' ld_pur (f := _) ?hh rfl _ rfl rfl ?_; case hh => with_reducible first | exact hb) | (refine' st_pur (f := _) ?hh rfl _ _ rfl rfl _ rfl ?_; case hh => with_reducible first | exact h1))
  go_ret
  refine ⟨rfl, setRow_heap _ _ _ _ _ _ h1, below_row hbl (Nat.le_refl _) _⟩
def kOp : Nat → IntKind := fun _ => .i64
set_option maxRecDepth 100000 in
theorem op_cells {H : Type} {enc : TypeId × Value → H} {W : World} {fuel : Nat} {cs : List Value} {y : DataW H × List MemPlace} (h : DataW.trod enc Try.prog W 0 (fun _ => true) true fuel 53 cs = some y) : IntCells 5 kOp cs := by
  refine struct_ints (fs := _) kOp Try.underlying53 (by kernel_rfl) (by kernel_rfl) ?_ h
  intro j hj
  have : j = 0 ∨ j = 1 ∨ j = 2 ∨ j = 3 ∨ j = 4 := by omega
  rcases this with rfl | rfl | rfl | rfl | rfl
  all_goals exact ⟨_, rfl, rfl, by kernel_rfl, by first | exact Try.underlying3 | exact Try.underlying2⟩
set_option maxRecDepth 100000 in
theorem open_t43 {H : Type} {enc : TypeId × Value → H} {W : World} {base : Nat} {v : Value} {d : DataW H} {p : List MemPlace} (hv : Value.okWide Try.prog W .any base 43 v) (h : DataW.Trod enc Try.prog W 0 (fun _ => true) true 43 v d p) :
    ∃ x : Option Addr × Nat × Nat × (Nat → Nat → Int), v = .slice x.1 x.2.1 x.2.2.1 ∧ IRows 5 kOp W x.1 x.2.1 x.2.2.1 x.2.2.2 := by
  obtain ⟨a, len, cap, rfl⟩ := okWide_slice Try.underlying43 hv
  obtain ⟨fuel, hf⟩ := h
  obtain ⟨A, l, c, g, e, hr⟩ := open_irows (by omega) Try.underlying43 (show Try.prog.cellsOf 53 = 5 by kernel_rfl) (fun _ _ _ h => op_cells h) hf
  simp [Value.cells] at e
  obtain ⟨rfl, rfl, rfl⟩ := e
  exact ⟨(a, len, cap, g), rfl, hr⟩
end Go.Proofs.Ytbbbjgilbddabaa
