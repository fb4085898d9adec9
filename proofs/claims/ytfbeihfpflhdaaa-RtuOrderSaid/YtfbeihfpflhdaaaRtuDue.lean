/-
  Due and Reset of package rtu, walked. Conditions stand at each theorem.
-/
import Derived.Test.YtfbeihfpflhdaaaRtuHeld2
namespace Go.Proofs.Ytfbeihfpflhdaaa
open Go Go.RowKit Go.Kw Go.Kw.Crc
set_option linter.unusedVariables false
set_option linter.unusedSimpArgs false

/-- A gatherer's cells. -/
def GBox (W : World) (g : Nat) (s : Int) (pv : Value) (sp : Bool) (now last bad : Int) : Prop := W.heap[g]? = some (.cells #[.int .i64 s, pv, .bool sp, .int .i64 now, .int .i64 last, .int .i64 bad] 50 (0, 0))
section
variable {W W' : World} {g : Nat} {s now last bad : Int} {pv : Value} {sp : Bool}
theorem GBox.lt (h : GBox W g s pv sp now last bad) : g < W.heap.size := (Array.getElem?_eq_some_iff.1 h).1
theorem GBox.c0 (h : GBox W g s pv sp now last bad) : W.cell? ⟨g, 0, none⟩ = some (.int .i64 s) := by simp [World.cell?, show W.heap[g]? = _ from h]
theorem GBox.c1 (h : GBox W g s pv sp now last bad) : W.cell? ⟨g, 1, none⟩ = some pv := by simp [World.cell?, show W.heap[g]? = _ from h]
theorem GBox.c2 (h : GBox W g s pv sp now last bad) : W.cell? ⟨g, 2, none⟩ = some (.bool sp) := by simp [World.cell?, show W.heap[g]? = _ from h]
theorem GBox.c3 (h : GBox W g s pv sp now last bad) : W.cell? ⟨g, 3, none⟩ = some (.int .i64 now) := by simp [World.cell?, show W.heap[g]? = _ from h]
theorem GBox.c4 (h : GBox W g s pv sp now last bad) : W.cell? ⟨g, 4, none⟩ = some (.int .i64 last) := by simp [World.cell?, show W.heap[g]? = _ from h]
theorem GBox.c5 (h : GBox W g s pv sp now last bad) : W.cell? ⟨g, 5, none⟩ = some (.int .i64 bad) := by simp [World.cell?, show W.heap[g]? = _ from h]
theorem GBox.fr (h : GBox W g s pv sp now last bad) (k : Nat) : W.frozen? ⟨g, k, none⟩ = false := by simp [World.frozen?, show W.heap[g]? = _ from h]
theorem GBox.below (h : GBox W g s pv sp now last bad) (hb : Below W.heap.size W W') : GBox W' g s pv sp now last bad := (hb.block g h.lt).trans h
theorem GBox.new (W : World) (s : Int) (pv : Value) (sp : Bool) (now last bad : Int) : GBox (W.alloc (.cells #[.int .i64 s, pv, .bool sp, .int .i64 now, .int .i64 last, .int .i64 bad] 50)) W.heap.size s pv sp now last bad := World.alloc_heap_new W _
end

theorem due_none (g : Nat) (s : Int) (hs : 1 ≤ s) (A : Option Addr) (c : Nat) (sp : Bool) (now last bad : Int) (w : World) (h : GBox w g s (.slice A 0 c) sp now last bad) :
    Calls Try.prog 22 #[.pointer (some ⟨g, 0, none⟩)] w fun e w' => e = .returned (.tuple #[.int .i64 0, .bool false]) ∧ Below w.heap.size w w' := by
  have c1 := h.c1
  have hn := none_calls g s hs w h.c0
  clear h
  go_enter Try.func22, Try.ntmps22
  go_wp2_with fail
  refine hn.mono ?_
  rintro e w' ⟨rfl, hww⟩
  rw [hww]
  clear hww hn
  go_wp2_with fail
  go_ret2
  exact ⟨rfl, Below.refl _ _⟩
theorem due_some (g : Nat) (s : Int) (hs : 1 ≤ s) (hs2 : s ≤ 1099511627776) (A : Option Addr) (n c : Nat) (hn : 1 ≤ n) (sp : Bool) (now last bad : Int) (hl : 0 ≤ last) (hl2 : last ≤ 4611686018427387904) (w : World) (h : GBox w g s (.slice A n c) sp now last bad) :
    Calls Try.prog 22 #[.pointer (some ⟨g, 0, none⟩)] w fun e w' => e = .returned (.tuple #[.int .i64 (last + s), .bool true]) ∧ Below w.heap.size w w' := by
  have c0 := h.c0
  have c1 := h.c1
  have c4 := h.c4
  have hn1 := none_calls g s hs w h.c0
  have k1 : ((n : Int) == 0) = false := by simp; omega
  have k2 : (n == 0) = false := by simp; omega
  have k3 : n ≠ 0 := by omega
  have hw : IntKind.i64.wrap (last + s) = last + s := IntWalk.i64_in _ (by omega)
  have hw2 : wrap64 (last + s) = last + s := by unfold wrap64; omega
  clear h
  go_enter Try.func22, Try.ntmps22
  go_wp2_with fail
  refine hn1.mono ?_
  rintro e w' ⟨rfl, hww⟩
  rw [hww]
  clear hww hn1
  go_wp2_with fail
  go_quiet (fail)
  go_wp2
  go_ret2
  exact ⟨rfl, ⟨rfl, rfl, rfl, Nat.le_refl _, fun _ _ => rfl⟩⟩
section
variable {W : World} {g : Nat} {s now last bad : Int} {pv : Value} {sp : Bool}
theorem GBox.set1 (h : GBox W g s pv sp now last bad) (v : Value) : GBox (W.setCell ⟨g, 1, none⟩ v) g s v sp now last bad := heap_setCell_same W g 1 _ _ v h
theorem GBox.set2 (h : GBox W g s pv sp now last bad) (v : Bool) : GBox (W.setCell ⟨g, 2, none⟩ (.bool v)) g s pv v now last bad := heap_setCell_same W g 2 _ _ _ h
theorem GBox.set3 (h : GBox W g s pv sp now last bad) (v : Int) : GBox (W.setCell ⟨g, 3, none⟩ (.int .i64 v)) g s pv sp v last bad := heap_setCell_same W g 3 _ _ _ h
theorem GBox.set4 (h : GBox W g s pv sp now last bad) (v : Int) : GBox (W.setCell ⟨g, 4, none⟩ (.int .i64 v)) g s pv sp now v bad := heap_setCell_same W g 4 _ _ _ h
theorem GBox.set5 (h : GBox W g s pv sp now last bad) (v : Int) : GBox (W.setCell ⟨g, 5, none⟩ (.int .i64 v)) g s pv sp now last v := heap_setCell_same W g 5 _ _ _ h
end
theorem reset_calls (g : Nat) (s : Int) (hs : 1 ≤ s) (pv : Value) (sp : Bool) (now last bad : Int) (w : World) (h : GBox w g s pv sp now last bad) :
    Calls Try.prog 20 #[.pointer (some ⟨g, 0, none⟩)] w fun e w' => (∃ v, e = .returned v) ∧ w' = (w.setCell ⟨g, 1, none⟩ (.slice none 0 0)).setCell ⟨g, 2, none⟩ (.bool false) := by
  have hn := none_calls g s hs w h.c0
  have c1 := h.c1
  have c2 := h.c2
  have f1 := h.fr 1
  have f2 := h.fr 2
  clear h
  go_enter Try.func20, Try.ntmps20
  go_wp2_with fail
  refine hn.mono ?_
  rintro e w' ⟨rfl, hww⟩
  rw [hww]
  clear hww hn
  go_wp2_with fail
  go_end0
  exact ⟨⟨_, rfl⟩, rfl⟩
end Go.Proofs.Ytfbeihfpflhdaaa
