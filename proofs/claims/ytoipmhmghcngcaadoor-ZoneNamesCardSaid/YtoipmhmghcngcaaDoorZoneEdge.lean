/-
  A rule's edges in a year, walked: zone.edges, Edges. Conditions stand at each theorem.
-/
import Derived.Test.YtoipmhmghcngcaaDoorZoneOf
import Derived.Deep.RegionHeld3
import Derived.Deep.DrawnRows
namespace Go.Proofs.YtoipmhmghcngcaaDoor
open Go Go.RowKit Go.Kw Go.Kw.Cv Go.Shelf
set_option linter.unusedVariables false
set_option linter.unusedSimpArgs false

set_option maxRecDepth 100000 in
set_option maxHeartbeats 8000000 in
theorem edge1_calls (m wd n mi y : Int) (h : chgOk m wd n mi) (hy : 1970 ≤ y ∧ y ≤ 9999) (p : Nat) (w : World) (hp : w.heap[p]? = some (.cells #[.int .i64 y] 3 (0, 0))) (hL : Lens w) :
    Calls Tryd.prog 45 #[chgC m wd n mi, .pointer (some ⟨p, 0, none⟩)] w fun e w' => e = .returned (.int .i64 (chgT y m wd n mi)) ∧ Below w.heap.size w w' := by
  obtain ⟨b0, hb0⟩ : ∃ b0, w.heap.size = b0 := ⟨_, rfl⟩
  obtain ⟨W1, hW1⟩ : ∃ W1, w.alloc (.cells #[.int .i64 m, .int .i64 wd, .int .i64 n, .int .i64 mi] 29) = W1 := ⟨_, rfl⟩
  have hst : Below w.heap.size w W1 := hW1 ▸ bstep w _
  have hr := blk_below hp hst
  have c0 := cell_of_row W1 p 0 _ _ _ hr
  have hrn : W1.heap[b0]? = some (.cells #[.int .i64 m, .int .i64 wd, .int .i64 n, .int .i64 mi] 29 (0, 0)) := by rw [← hb0, ← hW1]; exact World.alloc_heap_new w _
  have d0 := cell_of_row W1 b0 0 _ _ _ hrn
  have d1 := cell_of_row W1 b0 1 _ _ _ hrn
  have d2 := cell_of_row W1 b0 2 _ _ _ hrn
  obtain ⟨h1, h2⟩ := chg_nth h hy
  have hT := chgT_range h hy
  have hL1 := hL.go hst
  have HN := nth_calls y m wd n h1 h2 W1 hL1
  have hk : okD y m (nthN y m wd n) := ⟨hy.1, hy.2, (nth_lo y m wd n h1).1, h2⟩
  have HD := fun W hL => day_calls y m (nthN y m wd n) W hL
  rw [show dayE y m (nthN y m wd n) = dayN y m (nthN y m wd n) from if_pos hk, chk_ok hk] at HD
  have hdr := day_range hk
  have hmi := h.2.2.2.2.2
  unfold chgT at hT ⊢
  obtain ⟨D, hD⟩ : ∃ D, nthN y m wd n = D := ⟨_, rfl⟩
  rw [hD] at HN HD hdr hT ⊢
  obtain ⟨V, hV⟩ : ∃ V, dayN y m D = V := ⟨_, rfl⟩
  rw [hV] at HD hdr hT ⊢
  have X1 := Lib.hid (And.intro (wrap64_in (V * 86400) (by omega)) (And.intro (wrap64_in (mi * 60) (by omega)) (wrap64_in (V * 86400 + mi * 60) (by omega))))
  have w1 := i64_same (V * 86400) (by omega)
  have w2 := i64_same (mi * 60) (by omega)
  have w3 := i64_same (V * 86400 + mi * 60) (by omega)
  replace HN := Lib.hid HN
  replace HD := Lib.hid HD
  have HL1 := Lib.hid hL1
  unfold chgC
  clear h hy hp hr h1 h2 hT hk hdr hmi hD hV hL hL1
  go_enter Tryd.func45, Tryd.ntmps45
  go_wp2_with fail
  refine HN.out.mono ?_
  rintro e w3 ⟨rfl, hb3⟩
  have hr3 := blk_below hrn hb3
  have hL3 := HL1.out.go hb3
  obtain ⟨b1, hb1⟩ : ∃ b1, w3.heap.size = b1 := ⟨_, rfl⟩
  obtain ⟨W4, hW4⟩ : ∃ W4, w3.alloc (.cells #[.int .i64 y, .int .i64 m, .int .i64 D] 42) = W4 := ⟨_, rfl⟩
  have hst4 : Below w3.heap.size w3 W4 := hW4 ▸ bstep w3 _
  have hrd : W4.heap[b1]? = some (.cells #[.int .i64 y, .int .i64 m, .int .i64 D] 42 (0, 0)) := by rw [← hb1, ← hW4]; exact World.alloc_heap_new w3 _
  have hr4 := blk_below hr3 hst4
  have g0 := cell_of_row W4 b1 0 _ _ _ hrd
  have g1 := cell_of_row W4 b1 1 _ _ _ hrd
  have g2 := cell_of_row W4 b1 2 _ _ _ hrd
  have hL4 := hL3.go hst4
  have hbb := bnext hst (bnext hb3 hst4)
  clear hst hrn hb3 hr3 hL3 hst4 hrd hW1 c0 d0 d1 d2
  go_wp2_with fail
  refine (HD.out W4 hL4).mono ?_
  rintro e w5 ⟨rfl, hb5⟩
  have k3 := cell_of_row w5 b0 3 _ _ _ (blk_below hr4 hb5)
  have hb6 := bnext hbb hb5
  have x1 := X1.out.1
  have x2 := X1.out.2.1
  have x3 := X1.out.2.2
  clear hW4 hbb hb5 g0 g1 g2
  go_wp2_with fail
  clear x1 x2 x3
  go_ret
  exact ⟨rfl, hb6⟩
set_option maxRecDepth 100000 in
set_option maxHeartbeats 16000000 in
theorem edges_calls (a0 a1 m1 d1 n1 i1 m2 d2 n2 i2 x y : Int) (h1 : chgOk m1 d1 n1 i1) (h2 : chgOk m2 d2 n2 i2) (hy : 1970 ≤ y ∧ y ≤ 9999) (w : World) (hL : Lens w) :
    Calls Tryd.prog 35 #[.agg #[.int .i64 a0, .int .i64 a1, .int .i64 m1, .int .i64 d1, .int .i64 n1, .int .i64 i1, .int .i64 m2, .int .i64 d2, .int .i64 n2, .int .i64 i2, .int .i64 x], .int .i64 y] w fun e w' => e = .returned (.tuple #[.int .i64 (chgT y m1 d1 n1 i1), .int .i64 (chgT y m2 d2 n2 i2)]) ∧ Below w.heap.size w w' := by
  obtain ⟨b0, hb0⟩ : ∃ b0, w.heap.size = b0 := ⟨_, rfl⟩
  have Hb0 := Lib.hid hb0
  obtain ⟨W1, hW1⟩ : ∃ W1, w.alloc (.cells #[.int .i64 a0, .int .i64 a1, .int .i64 m1, .int .i64 d1, .int .i64 n1, .int .i64 i1, .int .i64 m2, .int .i64 d2, .int .i64 n2, .int .i64 i2, .int .i64 x] 31) = W1 := ⟨_, rfl⟩
  have hst1 : Below w.heap.size w W1 := hW1 ▸ bstep w _
  have hs1 : W1.heap.size = b0 + 1 := by rw [← hW1, World.size_alloc, hb0]
  have hr1 : W1.heap[b0]? = some (.cells #[.int .i64 a0, .int .i64 a1, .int .i64 m1, .int .i64 d1, .int .i64 n1, .int .i64 i1, .int .i64 m2, .int .i64 d2, .int .i64 n2, .int .i64 i2, .int .i64 x] 31 (0, 0)) := by rw [← hb0, ← hW1]; exact World.alloc_heap_new w _
  obtain ⟨W2, hW2⟩ : ∃ W2, W1.alloc (.cells #[.int .i64 y] 3) = W2 := ⟨_, rfl⟩
  have hst2 : Below W1.heap.size W1 W2 := hW2 ▸ bstep W1 _
  have hr2 : W2.heap[b0 + 1]? = some (.cells #[.int .i64 y] 3 (0, 0)) := by rw [← hs1, ← hW2]; exact World.alloc_heap_new W1 _
  have hB2 := bnext hst1 hst2
  have hz2 := blk_below hr1 hst2
  have hL2 := hL.go hB2
  have HF : Hid (∀ W, Below W2.heap.size W2 W → W.cell? ⟨b0, 2, none⟩ = some (.int .i64 m1) ∧ W.cell? ⟨b0, 3, none⟩ = some (.int .i64 d1) ∧ W.cell? ⟨b0, 4, none⟩ = some (.int .i64 n1) ∧ W.cell? ⟨b0, 5, none⟩ = some (.int .i64 i1) ∧ W.cell? ⟨b0, 6, none⟩ = some (.int .i64 m2) ∧ W.cell? ⟨b0, 7, none⟩ = some (.int .i64 d2) ∧ W.cell? ⟨b0, 8, none⟩ = some (.int .i64 n2) ∧ W.cell? ⟨b0, 9, none⟩ = some (.int .i64 i2)) := fun W hW => by
    have hz := blk_below hz2 hW
    exact ⟨cell_of_row W b0 2 _ _ _ hz, cell_of_row W b0 3 _ _ _ hz, cell_of_row W b0 4 _ _ _ hz, cell_of_row W b0 5 _ _ _ hz, cell_of_row W b0 6 _ _ _ hz, cell_of_row W b0 7 _ _ _ hz, cell_of_row W b0 8 _ _ _ hz, cell_of_row W b0 9 _ _ _ hz⟩
  have HC1 : Hid (∀ W, Below W2.heap.size W2 W → Calls Tryd.prog 45 #[chgC m1 d1 n1 i1, .pointer (some ⟨b0 + 1, 0, none⟩)] W fun e w' => e = .returned (.int .i64 (chgT y m1 d1 n1 i1)) ∧ Below W.heap.size W w') := fun W hW => edge1_calls m1 d1 n1 i1 y h1 hy (b0 + 1) W (blk_below hr2 hW) (hL2.go hW)
  have HC2 : Hid (∀ W, Below W2.heap.size W2 W → Calls Tryd.prog 45 #[chgC m2 d2 n2 i2, .pointer (some ⟨b0 + 1, 0, none⟩)] W fun e w' => e = .returned (.int .i64 (chgT y m2 d2 n2 i2)) ∧ Below W.heap.size W w') := fun W hW => edge1_calls m2 d2 n2 i2 y h2 hy (b0 + 1) W (blk_below hr2 hW) (hL2.go hW)
  unfold chgC at HC1 HC2
  obtain ⟨T1, hT1⟩ : ∃ T, chgT y m1 d1 n1 i1 = T := ⟨_, rfl⟩
  obtain ⟨T2, hT2⟩ : ∃ T, chgT y m2 d2 n2 i2 = T := ⟨_, rfl⟩
  rw [hT1] at HC1 ⊢
  rw [hT2] at HC2 ⊢
  clear h1 h2 hy hL hst1 hst2 hr1 hr2 hz2 hL2 hT1 hT2
  go_enter Tryd.func35, Tryd.ntmps35
  go_wp2_with fail
  go_region_held3 (fun W => W.cell? ⟨b0, 2, none⟩ = some (.int .i64 m1) ∧ W.cell? ⟨b0, 3, none⟩ = some (.int .i64 d1) ∧ W.cell? ⟨b0, 4, none⟩ = some (.int .i64 n1) ∧ W.cell? ⟨b0, 5, none⟩ = some (.int .i64 i1) ∧ W.cell? ⟨b0, 6, none⟩ = some (.int .i64 m2) ∧ W.cell? ⟨b0, 7, none⟩ = some (.int .i64 d2) ∧ W.cell? ⟨b0, 8, none⟩ = some (.int .i64 n2) ∧ W.cell? ⟨b0, 9, none⟩ = some (.int .i64 i2))
    (first | exact HF.out _ ((Below.refl _ _).drew) | exact HF.out _ hb4 | exact HF.out _ hb6)
    (first
      | (go_at_call_of 45 (Value.int .i64 m1); first | (refine (HC1.out _ ((Below.refl _ _).drew)).mono ?_; rintro e w4 ⟨rfl, hb3⟩; have hb4 := bnext ((Below.refl _ _).drew) hb3) | (refine (HC1.out _ hb4).mono ?_; rintro e w6 ⟨rfl, hb5⟩; have hb6 := bnext hb4 hb5))
      | (go_at_call_of 45 (Value.int .i64 m2); first | (refine (HC2.out _ ((Below.refl _ _).drew)).mono ?_; rintro e w4 ⟨rfl, hb3⟩; have hb4 := bnext ((Below.refl _ _).drew) hb3) | (refine (HC2.out _ hb4).mono ?_; rintro e w6 ⟨rfl, hb5⟩; have hb6 := bnext hb4 hb5)))
  all_goals
    go_wp2_with fail
    go_ret2
    exact ⟨rfl, bnext hB2 hb6⟩
end Go.Proofs.YtoipmhmghcngcaaDoor
