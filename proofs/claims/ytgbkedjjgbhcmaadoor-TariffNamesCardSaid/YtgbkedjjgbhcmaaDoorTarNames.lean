/-
  TariffNames, walked. Conditions stand at each theorem.
-/
import Derived.Test.YtgbkedjjgbhcmaaDoorTarM13
import Derived.Test.YtgbkedjjgbhcmaaDoorTarNames1
import Derived.StillTailTactics
namespace Go.Proofs.YtgbkedjjgbhcmaaDoor
open Go Go.RowKit Go.Kw Go.Kw.Cv Go.Shelf
set_option linter.unusedVariables false
set_option linter.unusedSimpArgs false

def NmS (w W : World) : Prop := Lens w ∧ Below w.heap.size w W
theorem NmS.go {w W W' : World} (h : NmS w W) (hb : Below W.heap.size W W') : NmS w W' := ⟨h.1, bnext h.2 hb⟩
theorem NmS.lens {w W : World} (h : NmS w W) : Lens W := h.1.go h.2
theorem NmS.set {w W : World} (h : NmS w W) {p : Addr} (hp : w.heap.size ≤ p.block) (v : Value) : NmS w (W.setCell p v) := ⟨h.1, h.2.setCell hp v⟩
theorem NmS.drew {w W : World} (h : NmS w W) : NmS w W.drew := ⟨h.1, h.2.drew⟩
theorem NmS.only {w W W' : World} (h : NmS w W) {b : Nat} (hb : w.heap.size ≤ b) (ho : Only b W W') : NmS w W' := ⟨h.1, ho.below h.2 hb h.2.size⟩
theorem SomeRows.far {W : World} {b : Nat} {f : Int} {k : Nat} (h : SomeRows W b f k) {p : Addr} (hp : b + 6 < p.block) (v : Value) : SomeRows (W.setCell p v) b f k := by
  obtain ⟨h1, h2, h3, h4, h5, h6⟩ := h
  have o : ∀ j, j ≠ p.block → (W.setCell p v).heap[j]? = W.heap[j]? := fun j hj => heap_setCell_other W p j v hj
  exact ⟨(o _ (by omega)).trans h1, (o _ (by omega)).trans h2, (o _ (by omega)).trans h3, (o _ (by omega)).trans h4, (o _ (by omega)).trans h5, (o _ (by omega)).trans h6⟩
theorem row_set {W : World} {b : Nat} {o : Obj} (h : W.heap[b]? = some o) {p : Addr} (hp : b ≠ p.block) (v : Value) : (W.setCell p v).heap[b]? = some o := (heap_setCell_other W p b v hp).trans h

set_option maxRecDepth 100000 in
set_option maxHeartbeats 64000000 in
theorem tariffNames_walk (w : World) (hL : Lens w) :
    Calls Tryd.prog 4 #[] w fun e w' => e = .returned (.bool true) ∧ Below w.heap.size w w' := by
  obtain ⟨b0, hb0⟩ : ∃ b0, w.heap.size = b0 := ⟨_, rfl⟩
  have hpz := pur_zero
  have hS : NmS w w := ⟨hL, Below.refl _ _⟩
  clear hL

  have hst := bstep w (.cells #[.int .i64 3999, .int .i64 250, .int .i64 1, .int .i64 250, .int .i64 10, .int .i64 100] 39)
  have hrow := World.alloc_heap_new w (.cells #[.int .i64 3999, .int .i64 250, .int .i64 1, .int .i64 250, .int .i64 10, .int .i64 100] 39)
  have hC := cost_calls (some ⟨w.heap.size, 0, none⟩) 3 3 (by omega) (by unfold maxLen; omega) (by omega) g1 (w.alloc (.cells #[.int .i64 3999, .int .i64 250, .int .i64 1, .int .i64 250, .int .i64 10, .int .i64 100] 39)) (rdP_row hrow (fun i hi => by
    rcases (by omega : i = 0 ∨ i = 1 ∨ i = 2 ∨ i = 3 ∨ i = 4 ∨ i = 5) with rfl | rfl | rfl | rfl | rfl | rfl <;> rfl))
  rw [cost_g1] at hC
  dsimp only at hC
  rw [hb0] at hC
  replace hS := hS.go hst
  clear hst hrow
  have HC := Lib.hid (hC)
  have HXS := Lib.hid (hS)
  clear hS
  go_enter Tryd.func4, Tryd.ntmps4
  go_wp2_with fail
  refine HC.out.mono ?_
  rintro e w1 ⟨rfl, hb⟩
  have hS := HXS.out
  clear HXS
  replace hS := hS.go hb
  clear hb HC
  clear hC
  have hst := bstep w1 (.cells #[.int .i64 4611686018427387904, .int .i64 1073741824] 39)
  have hrow := World.alloc_heap_new w1 (.cells #[.int .i64 4611686018427387904, .int .i64 1073741824] 39)
  have hC := cost_calls (some ⟨w1.heap.size, 0, none⟩) 1 1 (by omega) (by unfold maxLen; omega) (by omega) g2 (w1.alloc (.cells #[.int .i64 4611686018427387904, .int .i64 1073741824] 39)) (rdP_row hrow (fun i hi => by
    rcases (by omega : i = 0 ∨ i = 1) with rfl | rfl <;> rfl))
  rw [cost_g2] at hC
  dsimp only at hC
  replace hS := hS.go hst
  clear hst hrow
  have HC := Lib.hid (hC)
  have HXS := Lib.hid (hS)
  clear hS
  go_wp2_with fail
  refine HC.out.mono ?_
  rintro e w2 ⟨rfl, hb⟩
  have hS := HXS.out
  clear HXS
  replace hS := hS.go hb
  clear hb HC
  clear hC
  have hst := bstep w2 (.cells #[.int .i64 4611686018427387904, .int .i64 1000000, .int .i64 1, .int .i64 1000000] 39)
  have hrow := World.alloc_heap_new w2 (.cells #[.int .i64 4611686018427387904, .int .i64 1000000, .int .i64 1, .int .i64 1000000] 39)
  have hC := cost_calls (some ⟨w2.heap.size, 0, none⟩) 2 2 (by omega) (by unfold maxLen; omega) (by omega) g3 (w2.alloc (.cells #[.int .i64 4611686018427387904, .int .i64 1000000, .int .i64 1, .int .i64 1000000] 39)) (rdP_row hrow (fun i hi => by
    rcases (by omega : i = 0 ∨ i = 1 ∨ i = 2 ∨ i = 3) with rfl | rfl | rfl | rfl <;> rfl))
  rw [cost_g3] at hC
  dsimp only at hC
  replace hS := hS.go hst
  clear hst hrow
  have HC := Lib.hid (hC)
  have HXS := Lib.hid (hS)
  clear hS
  go_wp2_with fail
  refine HC.out.mono ?_
  rintro e w3 ⟨rfl, hb⟩
  have hS := HXS.out
  clear HXS
  replace hS := hS.go hb
  clear hb HC
  clear hC
  have hst := bstep w3 (.cells #[.int .i64 (-1), .int .i64 0] 39)
  have hrow := World.alloc_heap_new w3 (.cells #[.int .i64 (-1), .int .i64 0] 39)
  have hC := cost_calls (some ⟨w3.heap.size, 0, none⟩) 1 1 (by omega) (by unfold maxLen; omega) (by omega) g4 (w3.alloc (.cells #[.int .i64 (-1), .int .i64 0] 39)) (rdP_row hrow (fun i hi => by
    rcases (by omega : i = 0 ∨ i = 1) with rfl | rfl <;> rfl))
  rw [cost_g4] at hC
  dsimp only at hC
  replace hS := hS.go hst
  clear hst hrow
  have HC := Lib.hid (hC)
  have HXS := Lib.hid (hS)
  clear hS
  go_wp2_with fail
  refine HC.out.mono ?_
  rintro e w4 ⟨rfl, hb⟩
  have hS := HXS.out
  clear HXS
  replace hS := hS.go hb
  clear hb HC
  clear hC
  have HC := Lib.hid (some_calls w4)
  have HXS := Lib.hid (hS)
  clear hS
  go_wp2_with fail
  refine HC.out.mono ?_
  rintro e w5 ⟨x, hlo, rfl, hx, hb⟩
  have hlox : w.heap.size ≤ x := Nat.le_trans (HXS.out.2.size) hlo
  replace hlox := Lib.hid hlox
  have hS := HXS.out
  clear HXS
  replace hS := hS.go hb
  clear hb HC hlo
  unfold tarV tarRow someX
  have hst := bstep w5 (.cells #[.int .i64 3600, .slice none 0 0, .slice none 0 0, .slice none 0 0, .slice (some ⟨x + 3, 0, none⟩) 2 2, .slice (some ⟨x + 4, 0, none⟩) 1 1, .slice (some ⟨x + 6, 0, none⟩) 1 1] 54)
  have hxx := World.alloc_heap_new w5 (.cells #[.int .i64 3600, .slice none 0 0, .slice none 0 0, .slice none 0 0, .slice (some ⟨x + 3, 0, none⟩) 2 2, .slice (some ⟨x + 4, 0, none⟩) 1 1, .slice (some ⟨x + 6, 0, none⟩) 1 1] 54)
  have hltX := blk_lt hx.2.2.2.2.2
  replace hS := hS.go hst
  replace hx := hx.go hst
  obtain ⟨X, hX⟩ : ∃ zq, w5.heap.size = zq := ⟨_, rfl⟩
  have HltX := Lib.hid (show x + 6 < X from hX ▸ hltX)
  clear hltX
  rw [hX] at hxx
  clear hst
  obtain ⟨Wx, hWx⟩ : ∃ zq, w5.alloc (.cells #[.int .i64 3600, .slice none 0 0, .slice none 0 0, .slice none 0 0, .slice (some ⟨x + 3, 0, none⟩) 2 2, .slice (some ⟨x + 4, 0, none⟩) 1 1, .slice (some ⟨x + 6, 0, none⟩) 1 1] 54) = zq := ⟨_, rfl⟩
  rw [hWx] at hS hx hxx
  have HXS := Lib.hid (And.intro hS (And.intro hx (hxx)))
  clear hS hx hxx
  dsimp only
  go_wp2_with fail
  try rw [hWx]
  have ⟨hS, hx, hxx⟩ := HXS.out
  clear HXS
  have c6 := cell_of_row Wx X 6 _ _ _ hxx
  have p1 := cell_of_row Wx (x + 6) 1 _ _ _ hx.2.2.2.2.2
  have f1 : Wx.frozen? ⟨x + 6, 1, none⟩ = false := frozen_of_row Wx (x + 6) 1 _ _ hx.2.2.2.2.2
  have g6 := row_set hxx (p := ⟨x + 6, 1, none⟩) (by have := HltX.out; show X ≠ x + 6; omega) (.slice (some ⟨x + 5, 0, none⟩) 7 8)
  have g5 := hS.set (p := ⟨x + 6, 1, none⟩) (by have := hlox.out; show w.heap.size ≤ x + 6; omega) (.slice (some ⟨x + 5, 0, none⟩) 7 8)
  have g4 := hx.setK
  have HXS := Lib.hid (And.intro g5.drew (And.intro g4 g6))
  clear hS hx hxx g4 g5 g6
  go_still_tail 10, (by kernel_rfl)
  obtain ⟨Wy, hWy⟩ : ∃ zq, (Wx.setCell ⟨x + 6, 1, none⟩ (.slice (some ⟨x + 5, 0, none⟩) 7 8)).drew = zq := ⟨_, rfl⟩
  have ⟨hS, hx, hxx⟩ := HXS.out
  clear HXS
  replace hx : SomeRows Wy x 0 7 := hWy ▸ hx
  replace hxx : Wy.heap[X]? = some (.cells #[.int .i64 3600, .slice none 0 0, .slice none 0 0, .slice none 0 0, .slice (some ⟨x + 3, 0, none⟩) 2 2, .slice (some ⟨x + 4, 0, none⟩) 1 1, .slice (some ⟨x + 6, 0, none⟩) 1 1] 54 (0, 0)) := hWy ▸ hxx
  rw [hWy] at hS
  have HC := Lib.hid (some_calls Wy)
  have HXS := Lib.hid (And.intro hS (And.intro hx (hxx)))
  clear hS hx hxx
  go_wp2_with fail
  refine HC.out.mono ?_
  rintro e w6 ⟨y, hlo, rfl, hy, hb⟩
  have hloy : w.heap.size ≤ y := Nat.le_trans (HXS.out.1.2.size) hlo
  replace hloy := Lib.hid hloy
  have ⟨hS, hx, hxx⟩ := HXS.out
  clear HXS
  replace hS := hS.go hb
  replace hx := hx.go hb
  replace hxx := blk_below hxx hb
  clear hb HC hlo
  clear c6 p1 f1 hWy hWx
  unfold tarV tarRow someX
  have hst := bstep w6 (.cells #[.int .i64 3600, .slice none 0 0, .slice none 0 0, .slice none 0 0, .slice (some ⟨y + 3, 0, none⟩) 2 2, .slice (some ⟨y + 4, 0, none⟩) 1 1, .slice none 0 0] 54)
  have hxy := World.alloc_heap_new w6 (.cells #[.int .i64 3600, .slice none 0 0, .slice none 0 0, .slice none 0 0, .slice (some ⟨y + 3, 0, none⟩) 2 2, .slice (some ⟨y + 4, 0, none⟩) 1 1, .slice none 0 0] 54)
  have hltY := blk_lt hy.2.2.2.2.2
  replace hS := hS.go hst
  replace hx := hx.go hst
  replace hxx := blk_below hxx hst
  replace hy := hy.go hst
  obtain ⟨Y, hY⟩ : ∃ zq, w6.heap.size = zq := ⟨_, rfl⟩
  have HltY := Lib.hid (show y + 6 < Y from hY ▸ hltY)
  clear hltY
  rw [hY] at hxy
  clear hst
  dsimp only
  have HC := Lib.hid (some_calls (w6.alloc (.cells #[.int .i64 3600, .slice none 0 0, .slice none 0 0, .slice none 0 0, .slice (some ⟨y + 3, 0, none⟩) 2 2, .slice (some ⟨y + 4, 0, none⟩) 1 1, .slice none 0 0] 54)))
  have HXS := Lib.hid (And.intro hS (And.intro hx (And.intro hxx (And.intro hy (hxy)))))
  clear hS hx hxx hy hxy
  go_wp2_with fail
  refine HC.out.mono ?_
  rintro e w7 ⟨u, hlo, rfl, hu, hb⟩
  have hlou : w.heap.size ≤ u := Nat.le_trans (HXS.out.1.2.size) hlo
  replace hlou := Lib.hid hlou
  have ⟨hS, hx, hxx, hy, hxy⟩ := HXS.out
  clear HXS
  replace hS := hS.go hb
  replace hx := hx.go hb
  replace hxx := blk_below hxx hb
  replace hy := hy.go hb
  replace hxy := blk_below hxy hb
  clear hb HC hlo
  unfold tarV tarRow someX
  have hst := bstep w7 (.cells #[.int .i64 3600, .slice none 0 0, .slice none 0 0, .slice none 0 0, .slice none 0 0, .slice (some ⟨u + 4, 0, none⟩) 1 1, .slice (some ⟨u + 6, 0, none⟩) 1 1] 54)
  have hxu := World.alloc_heap_new w7 (.cells #[.int .i64 3600, .slice none 0 0, .slice none 0 0, .slice none 0 0, .slice none 0 0, .slice (some ⟨u + 4, 0, none⟩) 1 1, .slice (some ⟨u + 6, 0, none⟩) 1 1] 54)
  have hltZ := blk_lt hu.2.2.2.2.2
  replace hS := hS.go hst
  replace hx := hx.go hst
  replace hxx := blk_below hxx hst
  replace hy := hy.go hst
  replace hxy := blk_below hxy hst
  replace hu := hu.go hst
  obtain ⟨Z, hZ⟩ : ∃ zq, w7.heap.size = zq := ⟨_, rfl⟩
  have HltZ := Lib.hid (show u + 6 < Z from hZ ▸ hltZ)
  clear hltZ
  rw [hZ] at hxu
  clear hst
  dsimp only
  obtain ⟨WZb, hWZb⟩ : ∃ zq, w7.alloc (.cells #[.int .i64 3600, .slice none 0 0, .slice none 0 0, .slice none 0 0, .slice none 0 0, .slice (some ⟨u + 4, 0, none⟩) 1 1, .slice (some ⟨u + 6, 0, none⟩) 1 1] 54) = zq := ⟨_, rfl⟩
  rw [hWZb] at hS hx hxx hy hxy hu hxu
  have HC := Lib.hid (some_calls WZb)
  have HXS := Lib.hid (And.intro hS (And.intro hx (And.intro hxx (And.intro hy (And.intro hxy (And.intro hu (hxu)))))))
  clear hS hx hxx hy hxy hu hxu
  go_wp2_with fail
  refine HC.out.mono ?_
  rintro e w8 ⟨v, hlo, rfl, hv, hb⟩
  have hlov : w.heap.size ≤ v := Nat.le_trans (HXS.out.1.2.size) hlo
  replace hlov := Lib.hid hlov
  have HVV := Lib.hid (show x + 6 < v ∧ y + 6 < v ∧ u + 6 < v ∧ X < v ∧ Y < v ∧ Z < v from by
    have ⟨hS, hx, hxx, hy, hxy, hu, hxu⟩ := HXS.out
    exact ⟨Nat.lt_of_lt_of_le (blk_lt hx.2.2.2.2.2) hlo, Nat.lt_of_lt_of_le (blk_lt hy.2.2.2.2.2) hlo, Nat.lt_of_lt_of_le (blk_lt hu.2.2.2.2.2) hlo, Nat.lt_of_lt_of_le (blk_lt hxx) hlo, Nat.lt_of_lt_of_le (blk_lt hxy) hlo, Nat.lt_of_lt_of_le (blk_lt hxu) hlo⟩)
  have ⟨hS, hx, hxx, hy, hxy, hu, hxu⟩ := HXS.out
  clear HXS
  replace hS := hS.go hb
  replace hx := hx.go hb
  replace hxx := blk_below hxx hb
  replace hy := hy.go hb
  replace hxy := blk_below hxy hb
  replace hu := hu.go hb
  replace hxu := blk_below hxu hb
  clear hb HC hlo
  clear hWZb
  unfold tarV tarRow someX
  have hst := bstep w8 (.cells #[.int .i64 3600, .slice none 0 0, .slice none 0 0, .slice none 0 0, .slice (some ⟨v + 3, 0, none⟩) 2 2, .slice (some ⟨v + 4, 0, none⟩) 1 1, .slice (some ⟨v + 6, 0, none⟩) 1 1] 54)
  have hxv := World.alloc_heap_new w8 (.cells #[.int .i64 3600, .slice none 0 0, .slice none 0 0, .slice none 0 0, .slice (some ⟨v + 3, 0, none⟩) 2 2, .slice (some ⟨v + 4, 0, none⟩) 1 1, .slice (some ⟨v + 6, 0, none⟩) 1 1] 54)
  have hltV := blk_lt hv.2.2.2.2.2
  replace hS := hS.go hst
  replace hx := hx.go hst
  replace hxx := blk_below hxx hst
  replace hy := hy.go hst
  replace hxy := blk_below hxy hst
  replace hu := hu.go hst
  replace hxu := blk_below hxu hst
  replace hv := hv.go hst
  obtain ⟨V, hV⟩ : ∃ zq, w8.heap.size = zq := ⟨_, rfl⟩
  have HltV := Lib.hid (show v + 6 < V from hV ▸ hltV)
  clear hltV
  rw [hV] at hxv
  clear hst
  dsimp only
  obtain ⟨WVb, hWVb⟩ : ∃ zq, w8.alloc (.cells #[.int .i64 3600, .slice none 0 0, .slice none 0 0, .slice none 0 0, .slice (some ⟨v + 3, 0, none⟩) 2 2, .slice (some ⟨v + 4, 0, none⟩) 1 1, .slice (some ⟨v + 6, 0, none⟩) 1 1] 54) = zq := ⟨_, rfl⟩
  rw [hWVb] at hS hx hxx hy hxy hu hxu hv hxv
  have p0 := cell_of_row WVb (v + 6) 0 _ _ _ hv.2.2.2.2.2
  have f0 : WVb.frozen? ⟨v + 6, 0, none⟩ = false := frozen_of_row WVb (v + 6) 0 _ _ hv.2.2.2.2.2
  have q6 := cell_of_row WVb V 6 _ _ _ hxv
  obtain ⟨o1, o2, o3, o4, o5, o6⟩ := HVV.out
  have oV := HltV.out
  have ol := hlov.out
  replace hS := hS.set (p := ⟨v + 6, 0, none⟩) (by show w.heap.size ≤ v + 6; omega) (.int .i64 100)
  replace hx := hx.far (p := ⟨v + 6, 0, none⟩) (by show x + 6 < v + 6; omega) (.int .i64 100)
  replace hy := hy.far (p := ⟨v + 6, 0, none⟩) (by show y + 6 < v + 6; omega) (.int .i64 100)
  replace hu := hu.far (p := ⟨v + 6, 0, none⟩) (by show u + 6 < v + 6; omega) (.int .i64 100)
  replace hxx := row_set hxx (p := ⟨v + 6, 0, none⟩) (by show X ≠ v + 6; omega) (.int .i64 100)
  replace hxy := row_set hxy (p := ⟨v + 6, 0, none⟩) (by show Y ≠ v + 6; omega) (.int .i64 100)
  replace hxu := row_set hxu (p := ⟨v + 6, 0, none⟩) (by show Z ≠ v + 6; omega) (.int .i64 100)
  replace hxv := row_set hxv (p := ⟨v + 6, 0, none⟩) (by show V ≠ v + 6; omega) (.int .i64 100)
  replace hv := hv.setF 100
  clear o1 o2 o3 o4 o5 o6 oV ol
  obtain ⟨Ws, hWs⟩ : ∃ zq, WVb.setCell ⟨v + 6, 0, none⟩ (.int .i64 100) = zq := ⟨_, rfl⟩
  rw [hWs] at hS hx hxx hy hxy hu hxu hv hxv
  have c0 := cell_of_row Ws V 0 _ _ _ hxv
  have c1 := cell_of_row Ws V 1 _ _ _ hxv
  have c2 := cell_of_row Ws V 2 _ _ _ hxv
  have c3 := cell_of_row Ws V 3 _ _ _ hxv
  have c4 := cell_of_row Ws V 4 _ _ _ hxv
  have c5 := cell_of_row Ws V 5 _ _ _ hxv
  have c6 := cell_of_row Ws V 6 _ _ _ hxv
  obtain ⟨r1, hr1⟩ : ∃ zq, tatB (someX v 100 8) 99 = zq := ⟨_, rfl⟩
  obtain ⟨r2, hr2⟩ : ∃ zq, tatP (someX v 100 8) 99 = zq := ⟨_, rfl⟩
  have hC := tarAt_calls (someX v 100 8) 99 Ws (hv.rd (by omega) (by decide)) hS.lens
  rw [at_w, hr1, hr2] at hC
  dsimp only [tarV, tarRow, someX] at hC
  clear hr1 hr2
  have HC := Lib.hid (hC)
  have HXS := Lib.hid (And.intro hS (And.intro hx (And.intro hxx (And.intro hy (And.intro hxy (And.intro hu (And.intro hxu (And.intro hv (hxv)))))))))
  clear hS hx hxx hy hxy hu hxu hv hxv
  go_wp2_with fail
  refine HC.out.mono ?_
  rintro e w9 ⟨rfl, hb⟩
  have ⟨hS, hx, hxx, hy, hxy, hu, hxu, hv, hxv⟩ := HXS.out
  clear HXS
  replace hS := hS.go hb
  replace hx := hx.go hb
  replace hxx := blk_below hxx hb
  replace hy := hy.go hb
  replace hxy := blk_below hxy hb
  replace hu := hu.go hb
  replace hxu := blk_below hxu hb
  replace hv := hv.go hb
  replace hxv := blk_below hxv hb
  clear hb HC
  clear hC p0 f0 q6 hWs hWVb c0 c1 c2 c3 c4 c5 c6
  have HC := Lib.hid (some_calls w9)
  have HXS := Lib.hid (And.intro hS (And.intro hx (And.intro hxx (And.intro hy (And.intro hxy (And.intro hu (hxu)))))))
  clear hS hx hxx hy hxy hu hxu
  go_wp2_with fail
  refine HC.out.mono ?_
  rintro e w10 ⟨s, hlo, rfl, hs, hb⟩
  have hlos : w.heap.size ≤ s := Nat.le_trans (HXS.out.1.2.size) hlo
  replace hlos := Lib.hid hlos
  have ⟨hS, hx, hxx, hy, hxy, hu, hxu⟩ := HXS.out
  clear HXS
  replace hS := hS.go hb
  replace hx := hx.go hb
  replace hxx := blk_below hxx hb
  replace hy := hy.go hb
  replace hxy := blk_below hxy hb
  replace hu := hu.go hb
  replace hxu := blk_below hxu hb
  clear hb HC hlo
  unfold tarV tarRow someX
  dsimp only
  obtain ⟨r3, hr3⟩ : ∃ zq, tatB (someX s 0 8) (-3601) = zq := ⟨_, rfl⟩
  obtain ⟨r4, hr4⟩ : ∃ zq, tatP (someX s 0 8) (-3601) = zq := ⟨_, rfl⟩
  have hC := tarAt_calls (someX s 0 8) (-3601) w10 (hs.rd (by omega) (by decide)) hS.lens
  rw [at_v, hr3, hr4] at hC
  dsimp only [tarV, tarRow, someX] at hC
  clear hr3 hr4
  have HC := Lib.hid (hC)
  have HXS := Lib.hid (And.intro hS (And.intro hx (And.intro hxx (And.intro hy (And.intro hxy (And.intro hu (And.intro hxu (hs))))))))
  clear hS hx hxx hy hxy hu hxu hs
  go_wp2_with fail
  refine HC.out.mono ?_
  rintro e w11 ⟨rfl, hb⟩
  have ⟨hS, hx, hxx, hy, hxy, hu, hxu, hs⟩ := HXS.out
  clear HXS
  replace hS := hS.go hb
  replace hx := hx.go hb
  replace hxx := blk_below hxx hb
  replace hy := hy.go hb
  replace hxy := blk_below hxy hb
  replace hu := hu.go hb
  replace hxu := blk_below hxu hb
  replace hs := hs.go hb
  clear hb HC
  clear hC
  have HC := Lib.hid (some_calls w11)
  have HXS := Lib.hid (And.intro hS (And.intro hx (And.intro hxx (And.intro hy (And.intro hxy (And.intro hu (hxu)))))))
  clear hS hx hxx hy hxy hu hxu
  go_wp2_with fail
  refine HC.out.mono ?_
  rintro e w12 ⟨q, hlo, rfl, hq, hb⟩
  have hloq : w.heap.size ≤ q := Nat.le_trans (HXS.out.1.2.size) hlo
  replace hloq := Lib.hid hloq
  have ⟨hS, hx, hxx, hy, hxy, hu, hxu⟩ := HXS.out
  clear HXS
  replace hS := hS.go hb
  replace hx := hx.go hb
  replace hxx := blk_below hxx hb
  replace hy := hy.go hb
  replace hxy := blk_below hxy hb
  replace hu := hu.go hb
  replace hxu := blk_below hxu hb
  clear hb HC hlo
  unfold tarV tarRow someX
  dsimp only
  have hC := local_calls (someX q 0 8) 259200 w12 (hq.rd (by omega) (by decide)) hS.lens
  rw [tl_u.1, tl_u.2.1, tl_u.2.2.1, tl_u.2.2.2] at hC
  dsimp only [tarV, tarRow, someX] at hC
  have HC := Lib.hid (hC)
  have HXS := Lib.hid (And.intro hS (And.intro hx (And.intro hxx (And.intro hy (And.intro hxy (And.intro hu (And.intro hxu (hq))))))))
  clear hS hx hxx hy hxy hu hxu hq
  go_wp2_with fail
  refine HC.out.mono ?_
  rintro e w13 ⟨rfl, hb⟩
  have ⟨hS, hx, hxx, hy, hxy, hu, hxu, hq⟩ := HXS.out
  clear HXS
  replace hS := hS.go hb
  replace hx := hx.go hb
  replace hxx := blk_below hxx hb
  replace hy := hy.go hb
  replace hxy := blk_below hxy hb
  replace hu := hu.go hb
  replace hxu := blk_below hxu hb
  replace hq := hq.go hb
  clear hb HC
  clear hC
  have HC := Lib.hid (some_calls w13)
  have HXS := Lib.hid (And.intro hS (And.intro hx (And.intro hxx (And.intro hy (And.intro hxy (And.intro hu (hxu)))))))
  clear hS hx hxx hy hxy hu hxu
  go_wp2_with fail
  refine HC.out.mono ?_
  rintro e w14 ⟨r, hlo, rfl, hr, hb⟩
  have hlor : w.heap.size ≤ r := Nat.le_trans (HXS.out.1.2.size) hlo
  replace hlor := Lib.hid hlor
  have ⟨hS, hx, hxx, hy, hxy, hu, hxu⟩ := HXS.out
  clear HXS
  replace hS := hS.go hb
  replace hx := hx.go hb
  replace hxx := blk_below hxx hb
  replace hy := hy.go hb
  replace hxy := blk_below hxy hb
  replace hu := hu.go hb
  replace hxu := blk_below hxu hb
  clear hb HC hlo
  unfold tarV tarRow someX
  dsimp only
  have hC := tarCheck_calls (someX r 0 8) w14 (hr.rd (by omega) (by decide)) hS.lens
  rw [tarE_s] at hC
  dsimp only [tarV, tarRow, someX] at hC
  have HC := Lib.hid (hC)
  have HXS := Lib.hid (And.intro hS (And.intro hx (And.intro hxx (And.intro hy (And.intro hxy (And.intro hu (And.intro hxu (hr))))))))
  clear hS hx hxx hy hxy hu hxu hr
  go_wp2_with fail
  refine HC.out.mono ?_
  rintro e w15 ⟨rfl, hb⟩
  have ⟨hS, hx, hxx, hy, hxy, hu, hxu, hr⟩ := HXS.out
  clear HXS
  replace hS := hS.go hb
  replace hx := hx.go hb
  replace hxx := blk_below hxx hb
  replace hy := hy.go hb
  replace hxy := blk_below hxy hb
  replace hu := hu.go hb
  replace hxu := blk_below hxu hb
  replace hr := hr.go hb
  clear hb HC
  clear hC
  have c0 := cell_of_row w15 X 0 _ _ _ hxx
  have c1 := cell_of_row w15 X 1 _ _ _ hxx
  have c2 := cell_of_row w15 X 2 _ _ _ hxx
  have c3 := cell_of_row w15 X 3 _ _ _ hxx
  have c4 := cell_of_row w15 X 4 _ _ _ hxx
  have c5 := cell_of_row w15 X 5 _ _ _ hxx
  have c6 := cell_of_row w15 X 6 _ _ _ hxx
  have hC := tarCheck_calls (someX x 0 7) w15 (hx.rd (by omega) (by decide)) hS.lens
  rw [tarE_x] at hC
  dsimp only [tarV, tarRow, someX] at hC
  have HC := Lib.hid (hC)
  have HXS := Lib.hid (And.intro hS (And.intro hx (And.intro hxx (And.intro hy (And.intro hxy (And.intro hu (hxu)))))))
  clear hS hx hxx hy hxy hu hxu
  go_wp2_with fail
  refine HC.out.mono ?_
  rintro e w16 ⟨rfl, hb⟩
  have ⟨hS, hx, hxx, hy, hxy, hu, hxu⟩ := HXS.out
  clear HXS
  replace hS := hS.go hb
  replace hx := hx.go hb
  replace hxx := blk_below hxx hb
  replace hy := hy.go hb
  replace hxy := blk_below hxy hb
  replace hu := hu.go hb
  replace hxu := blk_below hxu hb
  clear hb HC
  clear hC c0 c1 c2 c3 c4 c5 c6
  have c0 := cell_of_row w16 Y 0 _ _ _ hxy
  have c1 := cell_of_row w16 Y 1 _ _ _ hxy
  have c2 := cell_of_row w16 Y 2 _ _ _ hxy
  have c3 := cell_of_row w16 Y 3 _ _ _ hxy
  have c4 := cell_of_row w16 Y 4 _ _ _ hxy
  have c5 := cell_of_row w16 Y 5 _ _ _ hxy
  have c6 := cell_of_row w16 Y 6 _ _ _ hxy
  have hC := tarCheck_calls (someY y) w16 (hy.rdY) hS.lens
  rw [tarE_y] at hC
  dsimp only [tarV, tarRow, someY, someX] at hC
  have HC := Lib.hid (hC)
  have HXS := Lib.hid (And.intro hS (And.intro hx (And.intro hxx (And.intro hy (And.intro hxy (And.intro hu (hxu)))))))
  clear hS hx hxx hy hxy hu hxu
  go_wp2_with fail
  refine HC.out.mono ?_
  rintro e w17 ⟨rfl, hb⟩
  have ⟨hS, hx, hxx, hy, hxy, hu, hxu⟩ := HXS.out
  clear HXS
  replace hS := hS.go hb
  replace hx := hx.go hb
  replace hxx := blk_below hxx hb
  replace hy := hy.go hb
  replace hxy := blk_below hxy hb
  replace hu := hu.go hb
  replace hxu := blk_below hxu hb
  clear hb HC
  clear hC c0 c1 c2 c3 c4 c5 c6
  have c0 := cell_of_row w17 Z 0 _ _ _ hxu
  have c1 := cell_of_row w17 Z 1 _ _ _ hxu
  have c2 := cell_of_row w17 Z 2 _ _ _ hxu
  have c3 := cell_of_row w17 Z 3 _ _ _ hxu
  have c4 := cell_of_row w17 Z 4 _ _ _ hxu
  have c5 := cell_of_row w17 Z 5 _ _ _ hxu
  have c6 := cell_of_row w17 Z 6 _ _ _ hxu
  have hC := tarCheck_calls (someZ u) w17 (hu.rdZ) hS.lens
  rw [tarE_z] at hC
  dsimp only [tarV, tarRow, someZ, someX] at hC
  have HC := Lib.hid (hC)
  have HXS := Lib.hid (And.intro hS (And.intro hx (And.intro hxx (And.intro hy (And.intro hxy (And.intro hu (hxu)))))))
  clear hS hx hxx hy hxy hu hxu
  go_wp2_with fail
  refine HC.out.mono ?_
  rintro e w18 ⟨rfl, hb⟩
  have ⟨hS, hx, hxx, hy, hxy, hu, hxu⟩ := HXS.out
  clear HXS
  replace hS := hS.go hb
  replace hx := hx.go hb
  replace hxx := blk_below hxx hb
  replace hy := hy.go hb
  replace hxy := blk_below hxy hb
  replace hu := hu.go hb
  replace hxu := blk_below hxu hb
  clear hb HC
  clear hC c0 c1 c2 c3 c4 c5 c6
  have hst := bstep w18 (.cells (purC (fun _ => 0)) 28)
  have hp := PB.new 28 w18 (fun _ => 0)
  have hlb : w.heap.size ≤ w18.heap.size := hS.2.size
  replace hS := hS.go hst
  clear hst
  obtain ⟨B, hB⟩ : ∃ zq, w18.heap.size = zq := ⟨_, rfl⟩
  rw [hB] at hp hlb
  have HLB := Lib.hid hlb
  clear hlb
  have HC := Lib.hid (npay_calls (w18.alloc (.cells (purC (fun _ => 0)) 28)) 0 0 0 0)
  have HXS := Lib.hid (And.intro hS (hp))
  clear hS hp
  go_wp2_with fail
  refine HC.out.mono ?_
  rintro e w19 ⟨rfl, rfl⟩
  have ⟨hS, hp⟩ := HXS.out
  clear HXS HC
  have hC := pay_calls 64 0 0 0 (fun _ => 0) B _ okF_0 hp
  rw [show payV 64 0 0 0 (fun _ => 0) = (0, 2) from rfl] at hC
  unfold PayPost at hC
  rw [show payF 64 0 0 0 (fun _ => 0) = (fun _ => 0) from rfl] at hC
  dsimp only at hC
  have HC := Lib.hid (hC)
  have HXS := Lib.hid (And.intro hS (hp))
  clear hS hp
  go_wp2_with fail
  refine HC.out.mono ?_
  rintro e w20 ⟨rfl, hp2, ho⟩
  have ⟨hS, hp⟩ := HXS.out
  clear HXS HC
  replace hS := hS.only HLB.out ho
  replace hp := hp2
  clear hp2 ho
  clear hC
  have hC := pay_calls 0 0 0 1073741825 (fun _ => 0) B w20 okF_0 hp
  rw [show payV 0 0 0 1073741825 (fun _ => 0) = (0, 2) from rfl] at hC
  unfold PayPost at hC
  rw [show payF 0 0 0 1073741825 (fun _ => 0) = (fun _ => 0) from rfl] at hC
  dsimp only at hC
  have HC := Lib.hid (hC)
  have HXS := Lib.hid (And.intro hS (hp))
  clear hS hp
  go_wp2_with fail
  refine HC.out.mono ?_
  rintro e w21 ⟨rfl, hp2, ho⟩
  have ⟨hS, hp⟩ := HXS.out
  clear HXS HC
  replace hS := hS.only HLB.out ho
  replace hp := hp2
  clear hp2 ho
  clear hC
  have HC := Lib.hid (talive_calls w21 hS.lens)
  have HXS := Lib.hid (And.intro hS (hp))
  clear hS hp
  go_wp2_with fail
  refine HC.out.mono ?_
  rintro e w22 ⟨rfl, hb⟩
  have ⟨hS, hp⟩ := HXS.out
  clear HXS HC
  replace hS := hS.go hb
  replace hp := hp.next hb
  clear hb
  have HC := Lib.hid (nback_calls w22 0 0 0)
  have HXS := Lib.hid (And.intro hS (hp))
  clear hS hp
  go_wp2_with fail
  refine HC.out.mono ?_
  rintro e w23 ⟨rfl, rfl⟩
  have ⟨hS, hp⟩ := HXS.out
  clear HXS HC
  have hC := back_calls 0 0 1000000 (fun _ => 0) B w23 hp
  rw [show backV 0 0 1000000 = 2 from rfl, show backF 0 0 1000000 (fun _ => 0) = (fun _ => 0) from rfl] at hC
  have HC := Lib.hid (hC)
  have HXS := Lib.hid (And.intro hS (hp))
  clear hS hp
  go_wp2_with fail
  refine HC.out.mono ?_
  rintro e w24 ⟨rfl, hp2, ho⟩
  have ⟨hS, hp⟩ := HXS.out
  clear HXS HC
  replace hS := hS.only HLB.out ho
  replace hp := hp2
  clear hp2 ho
  clear hC
  have hC := back_calls 0 8 0 (fun _ => 0) B w24 hp
  rw [show backV 0 8 0 = 2 from rfl, show backF 0 8 0 (fun _ => 0) = (fun _ => 0) from rfl] at hC
  have HC := Lib.hid (hC)
  have HXS := Lib.hid (And.intro hS (hp))
  clear hS hp
  go_wp2_with fail
  refine HC.out.mono ?_
  rintro e w25 ⟨rfl, hp2, ho⟩
  have ⟨hS, hp⟩ := HXS.out
  clear HXS HC
  replace hS := hS.only HLB.out ho
  replace hp := hp2
  clear hp2 ho
  clear hC
  have HC := Lib.hid (nrest_calls w25 0 0)
  have HXS := Lib.hid (And.intro hS (hp))
  clear hS hp
  go_wp2_with fail
  refine HC.out.mono ?_
  rintro e w26 ⟨rfl, rfl⟩
  have ⟨hS, hp⟩ := HXS.out
  clear HXS HC
  have HC := Lib.hid (ncopy_calls w26)
  have HXS := Lib.hid (And.intro hS (hp))
  clear hS hp
  go_wp2_with fail
  refine HC.out.mono ?_
  rintro e w27 ⟨rfl, rfl⟩
  have ⟨hS, hp⟩ := HXS.out
  clear HXS HC
  have HB := Lib.hid hS.2
  clear hS hp
  go_wp2_with fail
  go_ret
  exact ⟨rfl, by first | exact HB.out | (rw [hb0]; exact HB.out) | (rw [← hb0]; exact HB.out)⟩
end Go.Proofs.YtgbkedjjgbhcmaaDoor
