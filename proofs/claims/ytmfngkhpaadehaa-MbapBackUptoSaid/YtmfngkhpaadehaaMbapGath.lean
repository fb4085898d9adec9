/-
  The gatherer of package mbap: its cells, Left, Broken, Reset, frames: walked. Conditions stand at each theorem.
-/
import Derived.Test.YtmfngkhpaadehaaMbapFrames
import Derived.Test.YtmfngkhpaadehaaMbapRead2
namespace Go.Proofs.Ytmfngkhpaadehaa
open Go Go.RowKit Go.Kw Go.Kw.Mb
set_option linter.unusedVariables false
set_option linter.unusedSimpArgs false

/-- A gatherer's cells. -/
def GB (W : World) (g : Nat) (v : Value) (br : Bool) : Prop := W.heap[g]? = some (.cells #[v, .bool br] 41 (0, 0))
section
variable {W W' : World} {g : Nat} {v : Value} {br : Bool}
theorem GB.lt (h : GB W g v br) : g < W.heap.size := blk_lt h
theorem GB.c0 (h : GB W g v br) : W.cell? ⟨g, 0, none⟩ = some v := blk_cell h 0 rfl
theorem GB.c1 (h : GB W g v br) : W.cell? ⟨g, 1, none⟩ = some (.bool br) := blk_cell h 1 rfl
theorem GB.fr (h : GB W g v br) (k : Nat) : W.frozen? ⟨g, k, none⟩ = false := blk_frozen h k
theorem GB.below (h : GB W g v br) (hb : Below W.heap.size W W') : GB W' g v br := blk_below h hb
theorem GB.set0 (h : GB W g v br) (u : Value) : GB (W.setCell ⟨g, 0, none⟩ u) g u br := heap_setCell_same W g 0 _ _ u h
theorem GB.set1 (h : GB W g v br) (u : Bool) : GB (W.setCell ⟨g, 1, none⟩ (.bool u)) g v u := heap_setCell_same W g 1 _ _ _ h
theorem GB.own (B₀ : Nat) : OwnW B₀ (fun W => GB W g v br) := block_ownW
theorem GB.other (h : GB W g v br) {p : Addr} (hp : p.block ≠ g) (u : Value) : GB (W.setCell p u) g v br := (heap_setCell_other W p g u (by omega)).trans h
end
theorem left_calls (g : Nat) (A : Option Addr) (n c : Nat) (br : Bool) (w : World) (h : GB w g (.slice A n c) br) :
    Calls Try.prog 18 #[.pointer (some ⟨g, 0, none⟩)] w fun e w' => e = .returned (.int .i64 n) ∧ w = w' := by
  have c0 := h.c0
  clear h
  go_enter Try.func18, Try.ntmps18
  go_wp2
  go_ret
  exact ⟨rfl, rfl⟩
theorem left_none (w : World) : Calls Try.prog 18 #[.pointer none] w fun e w' => e = .returned (.int .i64 0) ∧ w = w' := by
  go_enter Try.func18, Try.ntmps18
  go_wp2
  go_ret
  exact ⟨rfl, rfl⟩
theorem isBroken_calls (g : Nat) (v : Value) (br : Bool) (w : World) (h : GB w g v br) :
    Calls Try.prog 17 #[.pointer (some ⟨g, 0, none⟩)] w fun e w' => e = .returned (.bool br) ∧ w = w' := by
  have c1 := h.c1
  clear h
  go_enter Try.func17, Try.ntmps17
  go_wp2
  go_ret
  exact ⟨rfl, rfl⟩
theorem isBroken_none (w : World) : Calls Try.prog 17 #[.pointer none] w fun e w' => e = .returned (.bool false) ∧ w = w' := by
  go_enter Try.func17, Try.ntmps17
  go_wp2
  go_ret
  exact ⟨rfl, rfl⟩
theorem reset_calls (g : Nat) (v : Value) (br : Bool) (w : World) (h : GB w g v br) :
    Calls Try.prog 20 #[.pointer (some ⟨g, 0, none⟩)] w fun e w' => (∃ u, e = .returned u) ∧ GB w' g (.slice none 0 0) false ∧ Kept (fun b => b ≠ g) w w' := by
  have c0 := h.c0
  have c1 := h.c1
  have f0 := h.fr 0
  have f1 := h.fr 1
  have h2 := (h.set0 (.slice none 0 0)).set1 false
  have hk := ((Kept.refl (fun b => b ≠ g) w).setCell (p := ⟨g, 0, none⟩) (by simp) (.slice none 0 0)).setCell (p := ⟨g, 1, none⟩) (by simp) (.bool false)
  clear h
  go_enter Try.func20, Try.ntmps20
  go_wp2
  go_end0
  exact ⟨⟨_, rfl⟩, h2, hk⟩
theorem reset_none (w : World) : Calls Try.prog 20 #[.pointer none] w fun e w' => (∃ u, e = .returned u) ∧ w = w' := by
  go_enter Try.func20, Try.ntmps20
  go_wp2
  go_end0
  exact ⟨⟨_, rfl⟩, rfl⟩
theorem frames_calls (g : Nat) (w : World) :
    Calls Try.prog 26 #[.pointer (some ⟨g, 0, none⟩)] w fun e w' => e = .returned (.func (.func 29) #[] #[.pointer (some ⟨w.heap.size, 0, none⟩)]) ∧ w' = w.alloc (.cells #[.pointer (some ⟨g, 0, none⟩)] 39) := by
  go_enter Try.func26, Try.ntmps26
  go_wp2
  go_ret
  exact ⟨rfl, rfl⟩
end Go.Proofs.Ytmfngkhpaadehaa
