/-
  A holiday's day in a year: days.on, walked kind by kind. Conditions stand at each theorem. (Printed by gen_on.py.)
-/
import Derived.Test.YtgbkedjjgbhcmaaGreatDoorMay
namespace Go.Proofs.YtgbkedjjgbhcmaaGreatDoor
open Go Go.RowKit Go.Kw Go.Kw.Cv Go.Shelf
set_option linter.unusedVariables false
set_option linter.unusedSimpArgs false

set_option maxRecDepth 100000 in
set_option maxHeartbeats 8000000 in
theorem on1_ok (hy m d wd n y : Int) (hok : okD y m d) (w : World) (hL : Lens w) : Calls Tryz.prog 88 #[.agg #[.int .i64 1, .int .i64 hy, .int .i64 m, .int .i64 d, .int .i64 wd, .int .i64 n], .int .i64 y] w fun e w' => e = .returned (.int .i64 (dayN y m d)) ∧ Below w.heap.size w w' := by
  obtain ⟨b0, hb0⟩ : ∃ b0, w.heap.size = b0 := ⟨_, rfl⟩
  have Hb0 := Lib.hid hb0
  have hst1 := bstep w (.cells #[.int .i64 1, .int .i64 hy, .int .i64 m, .int .i64 d, .int .i64 wd, .int .i64 n] 93)
  have hs1 : (w.alloc (.cells #[.int .i64 1, .int .i64 hy, .int .i64 m, .int .i64 d, .int .i64 wd, .int .i64 n] 93)).heap.size = b0 + 1 := by simp [hb0]
  have hr0 := World.alloc_heap_new w (.cells #[.int .i64 1, .int .i64 hy, .int .i64 m, .int .i64 d, .int .i64 wd, .int .i64 n] 93)
  rw [hb0] at hr0
  have hst2 := bstep (w.alloc (.cells #[.int .i64 1, .int .i64 hy, .int .i64 m, .int .i64 d, .int .i64 wd, .int .i64 n] 93)) (.cells #[.int .i64 y, .int .i64 m, .int .i64 d] 113)
  have hs2 : ((w.alloc (.cells #[.int .i64 1, .int .i64 hy, .int .i64 m, .int .i64 d, .int .i64 wd, .int .i64 n] 93)).alloc (.cells #[.int .i64 y, .int .i64 m, .int .i64 d] 113)).heap.size = b0 + 2 := by simp [hb0]
  have hr1 := World.alloc_heap_new (w.alloc (.cells #[.int .i64 1, .int .i64 hy, .int .i64 m, .int .i64 d, .int .i64 wd, .int .i64 n] 93)) (.cells #[.int .i64 y, .int .i64 m, .int .i64 d] 113)
  rw [hs1] at hr1
  have hr0' := blk_below hr0 hst2
  have hst := bnext hst1 hst2
  have hL2 := hL.go hst
  have HX := Lib.hid (And.intro hst (And.intro hs2 (And.intro hr0' (And.intro hr1 (And.intro hL2 hL.low)))))
  clear hst1 hs1 hr0 hst2 hs2 hr1 hr0' hst hL
  have HC := check_calls y m d _ HX.out.2.2.2.2.1
  rw [chk_ok hok] at HC
  have HD := day_calls y m d
  rw [show dayE y m d = dayN y m d from if_pos hok, chk_ok hok] at HD
  have hr := day_range hok
  obtain ⟨N, hN⟩ : ∃ N, dayN y m d = N := ⟨_, rfl⟩
  rw [hN] at HD hr ⊢
  replace HC := Lib.hid HC
  replace HD := Lib.hid HD
  have a1 := i64_same N (by omega)
  have B1 := Lib.hid (wrap64_in N (by omega))
  clear hok hN hr hL2
  go_enter Tryz.func88, Tryz.ntmps88
  go_wp2_with fail
  refine HC.out.mono ?_
  rintro e w3 ⟨rfl, hb3⟩
  have hr3 := blk_below HX.out.2.2.2.1 hb3
  have d0 := cell_of_row _ (b0 + 1) 0 _ _ _ hr3
  have d1 := cell_of_row _ (b0 + 1) 1 _ _ _ hr3
  have d2 := cell_of_row _ (b0 + 1) 2 _ _ _ hr3
  have hL3 := HX.out.2.2.2.2.1.go hb3
  have hb := bnext HX.out.1 hb3
  clear hr3 hb3
  go_wp2_with fail
  refine (HD.out w3 hL3).mono ?_
  rintro e w4 ⟨rfl, hb4⟩
  have hbb := bnext hb hb4
  have b1 := B1.out
  clear hb4 hb hL3 d0 d1 d2
  go_wp2_with fail
  go_ret
  exact ⟨rfl, hbb⟩
set_option maxRecDepth 100000 in
set_option maxHeartbeats 8000000 in
theorem on1_no (hy m d wd n y : Int) (hok : ¬ okD y m d) (w : World) (hL : Lens w) : Calls Tryz.prog 88 #[.agg #[.int .i64 1, .int .i64 hy, .int .i64 m, .int .i64 d, .int .i64 wd, .int .i64 n], .int .i64 y] w fun e w' => e = .returned (.int .i64 (-1)) ∧ Below w.heap.size w w' := by
  obtain ⟨b0, hb0⟩ : ∃ b0, w.heap.size = b0 := ⟨_, rfl⟩
  have Hb0 := Lib.hid hb0
  have hst1 := bstep w (.cells #[.int .i64 1, .int .i64 hy, .int .i64 m, .int .i64 d, .int .i64 wd, .int .i64 n] 93)
  have hs1 : (w.alloc (.cells #[.int .i64 1, .int .i64 hy, .int .i64 m, .int .i64 d, .int .i64 wd, .int .i64 n] 93)).heap.size = b0 + 1 := by simp [hb0]
  have hr0 := World.alloc_heap_new w (.cells #[.int .i64 1, .int .i64 hy, .int .i64 m, .int .i64 d, .int .i64 wd, .int .i64 n] 93)
  rw [hb0] at hr0
  have hst2 := bstep (w.alloc (.cells #[.int .i64 1, .int .i64 hy, .int .i64 m, .int .i64 d, .int .i64 wd, .int .i64 n] 93)) (.cells #[.int .i64 y, .int .i64 m, .int .i64 d] 113)
  have hs2 : ((w.alloc (.cells #[.int .i64 1, .int .i64 hy, .int .i64 m, .int .i64 d, .int .i64 wd, .int .i64 n] 93)).alloc (.cells #[.int .i64 y, .int .i64 m, .int .i64 d] 113)).heap.size = b0 + 2 := by simp [hb0]
  have hr1 := World.alloc_heap_new (w.alloc (.cells #[.int .i64 1, .int .i64 hy, .int .i64 m, .int .i64 d, .int .i64 wd, .int .i64 n] 93)) (.cells #[.int .i64 y, .int .i64 m, .int .i64 d] 113)
  rw [hs1] at hr1
  have hr0' := blk_below hr0 hst2
  have hst := bnext hst1 hst2
  have hL2 := hL.go hst
  have HX := Lib.hid (And.intro hst (And.intro hs2 (And.intro hr0' (And.intro hr1 (And.intro hL2 hL.low)))))
  clear hst1 hs1 hr0 hst2 hs2 hr1 hr0' hst hL
  have HC := check_calls y m d _ HX.out.2.2.2.2.1
  rw [chk_no hok] at HC
  replace HC := Lib.hid HC
  clear hok hL2
  go_enter Tryz.func88, Tryz.ntmps88
  go_wp2_with fail
  refine HC.out.mono ?_
  rintro e w3 ⟨rfl, hb3⟩
  have hb := bnext HX.out.1 hb3
  clear hb3
  go_wp2_with fail
  go_ret
  exact ⟨rfl, hb⟩
set_option maxRecDepth 100000 in
set_option maxHeartbeats 8000000 in
theorem on2_ok (m d wd n y : Int) (hok : okD y m d) (w : World) (hL : Lens w) : Calls Tryz.prog 88 #[.agg #[.int .i64 2, .int .i64 y, .int .i64 m, .int .i64 d, .int .i64 wd, .int .i64 n], .int .i64 y] w fun e w' => e = .returned (.int .i64 (dayN y m d)) ∧ Below w.heap.size w w' := by
  obtain ⟨b0, hb0⟩ : ∃ b0, w.heap.size = b0 := ⟨_, rfl⟩
  have Hb0 := Lib.hid hb0
  have hst1 := bstep w (.cells #[.int .i64 2, .int .i64 y, .int .i64 m, .int .i64 d, .int .i64 wd, .int .i64 n] 93)
  have hs1 : (w.alloc (.cells #[.int .i64 2, .int .i64 y, .int .i64 m, .int .i64 d, .int .i64 wd, .int .i64 n] 93)).heap.size = b0 + 1 := by simp [hb0]
  have hr0 := World.alloc_heap_new w (.cells #[.int .i64 2, .int .i64 y, .int .i64 m, .int .i64 d, .int .i64 wd, .int .i64 n] 93)
  rw [hb0] at hr0
  have hst2 := bstep (w.alloc (.cells #[.int .i64 2, .int .i64 y, .int .i64 m, .int .i64 d, .int .i64 wd, .int .i64 n] 93)) (.cells #[.int .i64 y, .int .i64 m, .int .i64 d] 113)
  have hs2 : ((w.alloc (.cells #[.int .i64 2, .int .i64 y, .int .i64 m, .int .i64 d, .int .i64 wd, .int .i64 n] 93)).alloc (.cells #[.int .i64 y, .int .i64 m, .int .i64 d] 113)).heap.size = b0 + 2 := by simp [hb0]
  have hr1 := World.alloc_heap_new (w.alloc (.cells #[.int .i64 2, .int .i64 y, .int .i64 m, .int .i64 d, .int .i64 wd, .int .i64 n] 93)) (.cells #[.int .i64 y, .int .i64 m, .int .i64 d] 113)
  rw [hs1] at hr1
  have hr0' := blk_below hr0 hst2
  have hst := bnext hst1 hst2
  have hL2 := hL.go hst
  have HX := Lib.hid (And.intro hst (And.intro hs2 (And.intro hr0' (And.intro hr1 (And.intro hL2 hL.low)))))
  clear hst1 hs1 hr0 hst2 hs2 hr1 hr0' hst hL
  have HC := check_calls y m d _ HX.out.2.2.2.2.1
  rw [chk_ok hok] at HC
  have HD := day_calls y m d
  rw [show dayE y m d = dayN y m d from if_pos hok, chk_ok hok] at HD
  have hr := day_range hok
  obtain ⟨N, hN⟩ : ∃ N, dayN y m d = N := ⟨_, rfl⟩
  rw [hN] at HD hr ⊢
  replace HC := Lib.hid HC
  replace HD := Lib.hid HD
  have a1 := i64_same N (by omega)
  have B1 := Lib.hid (wrap64_in N (by omega))
  clear hok hN hr hL2
  go_enter Tryz.func88, Tryz.ntmps88
  go_wp2_with fail
  refine HC.out.mono ?_
  rintro e w3 ⟨rfl, hb3⟩
  have hr3 := blk_below HX.out.2.2.2.1 hb3
  have d0 := cell_of_row _ (b0 + 1) 0 _ _ _ hr3
  have d1 := cell_of_row _ (b0 + 1) 1 _ _ _ hr3
  have d2 := cell_of_row _ (b0 + 1) 2 _ _ _ hr3
  have hL3 := HX.out.2.2.2.2.1.go hb3
  have hb := bnext HX.out.1 hb3
  clear hr3 hb3
  go_wp2_with fail
  refine (HD.out w3 hL3).mono ?_
  rintro e w4 ⟨rfl, hb4⟩
  have hbb := bnext hb hb4
  have b1 := B1.out
  clear hb4 hb hL3 d0 d1 d2
  go_wp2_with fail
  go_ret
  exact ⟨rfl, hbb⟩
set_option maxRecDepth 100000 in
set_option maxHeartbeats 8000000 in
theorem on2_no (m d wd n y : Int) (hok : ¬ okD y m d) (w : World) (hL : Lens w) : Calls Tryz.prog 88 #[.agg #[.int .i64 2, .int .i64 y, .int .i64 m, .int .i64 d, .int .i64 wd, .int .i64 n], .int .i64 y] w fun e w' => e = .returned (.int .i64 (-1)) ∧ Below w.heap.size w w' := by
  obtain ⟨b0, hb0⟩ : ∃ b0, w.heap.size = b0 := ⟨_, rfl⟩
  have Hb0 := Lib.hid hb0
  have hst1 := bstep w (.cells #[.int .i64 2, .int .i64 y, .int .i64 m, .int .i64 d, .int .i64 wd, .int .i64 n] 93)
  have hs1 : (w.alloc (.cells #[.int .i64 2, .int .i64 y, .int .i64 m, .int .i64 d, .int .i64 wd, .int .i64 n] 93)).heap.size = b0 + 1 := by simp [hb0]
  have hr0 := World.alloc_heap_new w (.cells #[.int .i64 2, .int .i64 y, .int .i64 m, .int .i64 d, .int .i64 wd, .int .i64 n] 93)
  rw [hb0] at hr0
  have hst2 := bstep (w.alloc (.cells #[.int .i64 2, .int .i64 y, .int .i64 m, .int .i64 d, .int .i64 wd, .int .i64 n] 93)) (.cells #[.int .i64 y, .int .i64 m, .int .i64 d] 113)
  have hs2 : ((w.alloc (.cells #[.int .i64 2, .int .i64 y, .int .i64 m, .int .i64 d, .int .i64 wd, .int .i64 n] 93)).alloc (.cells #[.int .i64 y, .int .i64 m, .int .i64 d] 113)).heap.size = b0 + 2 := by simp [hb0]
  have hr1 := World.alloc_heap_new (w.alloc (.cells #[.int .i64 2, .int .i64 y, .int .i64 m, .int .i64 d, .int .i64 wd, .int .i64 n] 93)) (.cells #[.int .i64 y, .int .i64 m, .int .i64 d] 113)
  rw [hs1] at hr1
  have hr0' := blk_below hr0 hst2
  have hst := bnext hst1 hst2
  have hL2 := hL.go hst
  have HX := Lib.hid (And.intro hst (And.intro hs2 (And.intro hr0' (And.intro hr1 (And.intro hL2 hL.low)))))
  clear hst1 hs1 hr0 hst2 hs2 hr1 hr0' hst hL
  have HC := check_calls y m d _ HX.out.2.2.2.2.1
  rw [chk_no hok] at HC
  replace HC := Lib.hid HC
  clear hok hL2
  go_enter Tryz.func88, Tryz.ntmps88
  go_wp2_with fail
  refine HC.out.mono ?_
  rintro e w3 ⟨rfl, hb3⟩
  have hb := bnext HX.out.1 hb3
  clear hb3
  go_wp2_with fail
  go_ret
  exact ⟨rfl, hb⟩
set_option maxRecDepth 100000 in
set_option maxHeartbeats 8000000 in
theorem on2_other (hy m d wd n y : Int) (hne : hy ≠ y) (w : World) (hL : Lens w) : Calls Tryz.prog 88 #[.agg #[.int .i64 2, .int .i64 hy, .int .i64 m, .int .i64 d, .int .i64 wd, .int .i64 n], .int .i64 y] w fun e w' => e = .returned (.int .i64 (-1)) ∧ Below w.heap.size w w' := by
  obtain ⟨b0, hb0⟩ : ∃ b0, w.heap.size = b0 := ⟨_, rfl⟩
  have Hb0 := Lib.hid hb0
  have hst1 := bstep w (.cells #[.int .i64 2, .int .i64 hy, .int .i64 m, .int .i64 d, .int .i64 wd, .int .i64 n] 93)
  have hs1 : (w.alloc (.cells #[.int .i64 2, .int .i64 hy, .int .i64 m, .int .i64 d, .int .i64 wd, .int .i64 n] 93)).heap.size = b0 + 1 := by simp [hb0]
  have hr0 := World.alloc_heap_new w (.cells #[.int .i64 2, .int .i64 hy, .int .i64 m, .int .i64 d, .int .i64 wd, .int .i64 n] 93)
  rw [hb0] at hr0
  have hst2 := bstep (w.alloc (.cells #[.int .i64 2, .int .i64 hy, .int .i64 m, .int .i64 d, .int .i64 wd, .int .i64 n] 93)) (.cells #[.int .i64 y, .int .i64 m, .int .i64 d] 113)
  have hs2 : ((w.alloc (.cells #[.int .i64 2, .int .i64 hy, .int .i64 m, .int .i64 d, .int .i64 wd, .int .i64 n] 93)).alloc (.cells #[.int .i64 y, .int .i64 m, .int .i64 d] 113)).heap.size = b0 + 2 := by simp [hb0]
  have hr1 := World.alloc_heap_new (w.alloc (.cells #[.int .i64 2, .int .i64 hy, .int .i64 m, .int .i64 d, .int .i64 wd, .int .i64 n] 93)) (.cells #[.int .i64 y, .int .i64 m, .int .i64 d] 113)
  rw [hs1] at hr1
  have hr0' := blk_below hr0 hst2
  have hst := bnext hst1 hst2
  have hL2 := hL.go hst
  have HX := Lib.hid (And.intro hst (And.intro hs2 (And.intro hr0' (And.intro hr1 (And.intro hL2 hL.low)))))
  clear hst1 hs1 hr0 hst2 hs2 hr1 hr0' hst hL
  have k1 : (hy == y) = false := beq_eq_false_iff_ne.2 hne
  have k2 : (hy != y) = true := bne_iff_ne.2 hne
  clear hne hL2
  go_enter Tryz.func88, Tryz.ntmps88
  go_wp2_with fail
  go_ret
  exact ⟨rfl, HX.out.1⟩
set_option maxRecDepth 100000 in
set_option maxHeartbeats 8000000 in
theorem on3_ok (hy m d wd n y : Int) (h : nthOk y m wd n ∧ nthN y m wd n ≤ dim y m) (w : World) (hL : Lens w) : Calls Tryz.prog 88 #[.agg #[.int .i64 3, .int .i64 hy, .int .i64 m, .int .i64 d, .int .i64 wd, .int .i64 n], .int .i64 y] w fun e w' => e = .returned (.int .i64 (dayN y m (nthN y m wd n))) ∧ Below w.heap.size w w' := by
  obtain ⟨b0, hb0⟩ : ∃ b0, w.heap.size = b0 := ⟨_, rfl⟩
  have Hb0 := Lib.hid hb0
  have hst1 := bstep w (.cells #[.int .i64 3, .int .i64 hy, .int .i64 m, .int .i64 d, .int .i64 wd, .int .i64 n] 93)
  have hs1 : (w.alloc (.cells #[.int .i64 3, .int .i64 hy, .int .i64 m, .int .i64 d, .int .i64 wd, .int .i64 n] 93)).heap.size = b0 + 1 := by simp [hb0]
  have hr0 := World.alloc_heap_new w (.cells #[.int .i64 3, .int .i64 hy, .int .i64 m, .int .i64 d, .int .i64 wd, .int .i64 n] 93)
  rw [hb0] at hr0
  have hst2 := bstep (w.alloc (.cells #[.int .i64 3, .int .i64 hy, .int .i64 m, .int .i64 d, .int .i64 wd, .int .i64 n] 93)) (.cells #[.int .i64 y, .int .i64 m, .int .i64 d] 113)
  have hs2 : ((w.alloc (.cells #[.int .i64 3, .int .i64 hy, .int .i64 m, .int .i64 d, .int .i64 wd, .int .i64 n] 93)).alloc (.cells #[.int .i64 y, .int .i64 m, .int .i64 d] 113)).heap.size = b0 + 2 := by simp [hb0]
  have hr1 := World.alloc_heap_new (w.alloc (.cells #[.int .i64 3, .int .i64 hy, .int .i64 m, .int .i64 d, .int .i64 wd, .int .i64 n] 93)) (.cells #[.int .i64 y, .int .i64 m, .int .i64 d] 113)
  rw [hs1] at hr1
  have hr0' := blk_below hr0 hst2
  have hst := bnext hst1 hst2
  have hL2 := hL.go hst
  have HX := Lib.hid (And.intro hst (And.intro hs2 (And.intro hr0' (And.intro hr1 (And.intro hL2 hL.low)))))
  clear hst1 hs1 hr0 hst2 hs2 hr1 hr0' hst hL
  have HN := nth_calls y m wd n h.1 h.2 _ HX.out.2.2.2.2.1
  have hok := nth_ok y m wd n h
  obtain ⟨t, ht⟩ : ∃ t, nthN y m wd n = t := ⟨_, rfl⟩
  rw [ht] at HN hok ⊢
  have HD := day_calls y m t
  rw [show dayE y m t = dayN y m t from if_pos hok, chk_ok hok] at HD
  have hr := day_range hok
  obtain ⟨N, hN⟩ : ∃ N, dayN y m t = N := ⟨_, rfl⟩
  rw [hN] at HD hr ⊢
  replace HN := Lib.hid HN
  replace HD := Lib.hid HD
  have a1 := i64_same N (by omega)
  have B1 := Lib.hid (wrap64_in N (by omega))
  have q0 := cell_of_row _ b0 2 _ _ _ HX.out.2.2.1
  clear hok hN hr hL2 ht h q0
  go_enter Tryz.func88, Tryz.ntmps88
  go_wp2_with fail
  refine HN.out.mono ?_
  rintro e w3 ⟨rfl, hb3⟩
  have hr3 := blk_below HX.out.2.2.2.1 hb3
  have hL3 := HX.out.2.2.2.2.1.go hb3
  have hb := bnext HX.out.1 hb3
  have f0 := blk_frozen hr3 0
  have f1 := blk_frozen hr3 1
  have f2 := blk_frozen hr3 2
  have d0 := cell_of_row _ (b0 + 1) 0 _ _ _ hr3
  have d1 := cell_of_row _ (b0 + 1) 1 _ _ _ hr3
  have d2 := cell_of_row _ (b0 + 1) 2 _ _ _ hr3
  have hlow := HX.out.2.2.2.2.2
  have hS := set3_row hr3 (.int .i64 y) (.int .i64 m) (.int .i64 t)
  have hbS := set3_below hb (show w.heap.size ≤ b0 + 1 by omega) (.int .i64 y) (.int .i64 m) (.int .i64 t)
  have hLS := set3_lens hL3 (show 0 < b0 + 1 by omega) (.int .i64 y) (.int .i64 m) (.int .i64 t)
  have HS := Lib.hid (And.intro hbS hLS)
  clear hb3 hr3 hb hL3 hbS hLS hlow hS
  go_wp2_with fail
  refine (HD.out _ HS.out.2).mono ?_
  rintro e w4 ⟨rfl, hb4⟩
  have hbb := bnext HS.out.1 hb4
  have b1 := B1.out
  clear hb4 d0 d1 d2 f0 f1 f2
  go_wp2_with fail
  go_ret
  exact ⟨rfl, hbb⟩
set_option maxRecDepth 100000 in
set_option maxHeartbeats 8000000 in
theorem on3_late (hy m d wd n y : Int) (h : nthOk y m wd n) (hle : ¬ nthN y m wd n ≤ dim y m) (w : World) (hL : Lens w) : Calls Tryz.prog 88 #[.agg #[.int .i64 3, .int .i64 hy, .int .i64 m, .int .i64 d, .int .i64 wd, .int .i64 n], .int .i64 y] w fun e w' => e = .returned (.int .i64 (-1)) ∧ Below w.heap.size w w' := by
  obtain ⟨b0, hb0⟩ : ∃ b0, w.heap.size = b0 := ⟨_, rfl⟩
  have Hb0 := Lib.hid hb0
  have hst1 := bstep w (.cells #[.int .i64 3, .int .i64 hy, .int .i64 m, .int .i64 d, .int .i64 wd, .int .i64 n] 93)
  have hs1 : (w.alloc (.cells #[.int .i64 3, .int .i64 hy, .int .i64 m, .int .i64 d, .int .i64 wd, .int .i64 n] 93)).heap.size = b0 + 1 := by simp [hb0]
  have hr0 := World.alloc_heap_new w (.cells #[.int .i64 3, .int .i64 hy, .int .i64 m, .int .i64 d, .int .i64 wd, .int .i64 n] 93)
  rw [hb0] at hr0
  have hst2 := bstep (w.alloc (.cells #[.int .i64 3, .int .i64 hy, .int .i64 m, .int .i64 d, .int .i64 wd, .int .i64 n] 93)) (.cells #[.int .i64 y, .int .i64 m, .int .i64 d] 113)
  have hs2 : ((w.alloc (.cells #[.int .i64 3, .int .i64 hy, .int .i64 m, .int .i64 d, .int .i64 wd, .int .i64 n] 93)).alloc (.cells #[.int .i64 y, .int .i64 m, .int .i64 d] 113)).heap.size = b0 + 2 := by simp [hb0]
  have hr1 := World.alloc_heap_new (w.alloc (.cells #[.int .i64 3, .int .i64 hy, .int .i64 m, .int .i64 d, .int .i64 wd, .int .i64 n] 93)) (.cells #[.int .i64 y, .int .i64 m, .int .i64 d] 113)
  rw [hs1] at hr1
  have hr0' := blk_below hr0 hst2
  have hst := bnext hst1 hst2
  have hL2 := hL.go hst
  have HX := Lib.hid (And.intro hst (And.intro hs2 (And.intro hr0' (And.intro hr1 (And.intro hL2 hL.low)))))
  clear hst1 hs1 hr0 hst2 hs2 hr1 hr0' hst hL
  have HN := nth_late y m wd n h hle _ HX.out.2.2.2.2.1
  replace HN := Lib.hid HN
  clear hL2 h hle
  go_enter Tryz.func88, Tryz.ntmps88
  go_wp2_with fail
  refine HN.out.mono ?_
  rintro e w3 ⟨rfl, hb3⟩
  have hr3 := blk_below HX.out.2.2.2.1 hb3
  have hb := bnext HX.out.1 hb3
  have f0 := blk_frozen hr3 0
  have f1 := blk_frozen hr3 1
  have f2 := blk_frozen hr3 2
  have d0 := cell_of_row _ (b0 + 1) 0 _ _ _ hr3
  have d1 := cell_of_row _ (b0 + 1) 1 _ _ _ hr3
  have d2 := cell_of_row _ (b0 + 1) 2 _ _ _ hr3
  have hbS := set3_below hb (show w.heap.size ≤ b0 + 1 by omega) (.int .i64 0) (.int .i64 0) (.int .i64 0)
  have HS := Lib.hid hbS
  clear hb3 hr3 hb hbS
  go_wp2_with fail
  go_ret
  exact ⟨rfl, HS.out⟩
set_option maxRecDepth 100000 in
set_option maxHeartbeats 8000000 in
theorem on3_early (hy m d wd n y : Int) (h : ¬ nthOk y m wd n) (w : World) (hL : Lens w) : Calls Tryz.prog 88 #[.agg #[.int .i64 3, .int .i64 hy, .int .i64 m, .int .i64 d, .int .i64 wd, .int .i64 n], .int .i64 y] w fun e w' => e = .returned (.int .i64 (-1)) ∧ Below w.heap.size w w' := by
  obtain ⟨b0, hb0⟩ : ∃ b0, w.heap.size = b0 := ⟨_, rfl⟩
  have Hb0 := Lib.hid hb0
  have hst1 := bstep w (.cells #[.int .i64 3, .int .i64 hy, .int .i64 m, .int .i64 d, .int .i64 wd, .int .i64 n] 93)
  have hs1 : (w.alloc (.cells #[.int .i64 3, .int .i64 hy, .int .i64 m, .int .i64 d, .int .i64 wd, .int .i64 n] 93)).heap.size = b0 + 1 := by simp [hb0]
  have hr0 := World.alloc_heap_new w (.cells #[.int .i64 3, .int .i64 hy, .int .i64 m, .int .i64 d, .int .i64 wd, .int .i64 n] 93)
  rw [hb0] at hr0
  have hst2 := bstep (w.alloc (.cells #[.int .i64 3, .int .i64 hy, .int .i64 m, .int .i64 d, .int .i64 wd, .int .i64 n] 93)) (.cells #[.int .i64 y, .int .i64 m, .int .i64 d] 113)
  have hs2 : ((w.alloc (.cells #[.int .i64 3, .int .i64 hy, .int .i64 m, .int .i64 d, .int .i64 wd, .int .i64 n] 93)).alloc (.cells #[.int .i64 y, .int .i64 m, .int .i64 d] 113)).heap.size = b0 + 2 := by simp [hb0]
  have hr1 := World.alloc_heap_new (w.alloc (.cells #[.int .i64 3, .int .i64 hy, .int .i64 m, .int .i64 d, .int .i64 wd, .int .i64 n] 93)) (.cells #[.int .i64 y, .int .i64 m, .int .i64 d] 113)
  rw [hs1] at hr1
  have hr0' := blk_below hr0 hst2
  have hst := bnext hst1 hst2
  have hL2 := hL.go hst
  have HX := Lib.hid (And.intro hst (And.intro hs2 (And.intro hr0' (And.intro hr1 (And.intro hL2 hL.low)))))
  clear hst1 hs1 hr0 hst2 hs2 hr1 hr0' hst hL
  have HN := nth_early y m wd n h _ HX.out.2.2.2.2.1
  replace HN := Lib.hid HN
  clear hL2 h
  go_enter Tryz.func88, Tryz.ntmps88
  go_wp2_with fail
  refine HN.out.mono ?_
  rintro e w3 ⟨rfl, hb3⟩
  have hr3 := blk_below HX.out.2.2.2.1 hb3
  have hb := bnext HX.out.1 hb3
  have f0 := blk_frozen hr3 0
  have f1 := blk_frozen hr3 1
  have f2 := blk_frozen hr3 2
  have d0 := cell_of_row _ (b0 + 1) 0 _ _ _ hr3
  have d1 := cell_of_row _ (b0 + 1) 1 _ _ _ hr3
  have d2 := cell_of_row _ (b0 + 1) 2 _ _ _ hr3
  have hbS := set3_below hb (show w.heap.size ≤ b0 + 1 by omega) (.int .i64 0) (.int .i64 0) (.int .i64 0)
  have HS := Lib.hid hbS
  clear hb3 hr3 hb hbS
  go_wp2_with fail
  go_ret
  exact ⟨rfl, HS.out⟩
set_option maxRecDepth 100000 in
set_option maxHeartbeats 8000000 in
theorem on4_ok (hy m d wd n y : Int) (h : 1970 ≤ y ∧ y ≤ 9999) (hnb : -100 ≤ n ∧ n ≤ 200) (w : World) (hL : Lens w) : Calls Tryz.prog 88 #[.agg #[.int .i64 4, .int .i64 hy, .int .i64 m, .int .i64 d, .int .i64 wd, .int .i64 n], .int .i64 y] w fun e w' => e = .returned (.int .i64 (dayN y (easM y) (easD y) + n)) ∧ Below w.heap.size w w' := by
  obtain ⟨b0, hb0⟩ : ∃ b0, w.heap.size = b0 := ⟨_, rfl⟩
  have Hb0 := Lib.hid hb0
  have hst1 := bstep w (.cells #[.int .i64 4, .int .i64 hy, .int .i64 m, .int .i64 d, .int .i64 wd, .int .i64 n] 93)
  have hs1 : (w.alloc (.cells #[.int .i64 4, .int .i64 hy, .int .i64 m, .int .i64 d, .int .i64 wd, .int .i64 n] 93)).heap.size = b0 + 1 := by simp [hb0]
  have hr0 := World.alloc_heap_new w (.cells #[.int .i64 4, .int .i64 hy, .int .i64 m, .int .i64 d, .int .i64 wd, .int .i64 n] 93)
  rw [hb0] at hr0
  have hst2 := bstep (w.alloc (.cells #[.int .i64 4, .int .i64 hy, .int .i64 m, .int .i64 d, .int .i64 wd, .int .i64 n] 93)) (.cells #[.int .i64 y, .int .i64 m, .int .i64 d] 113)
  have hs2 : ((w.alloc (.cells #[.int .i64 4, .int .i64 hy, .int .i64 m, .int .i64 d, .int .i64 wd, .int .i64 n] 93)).alloc (.cells #[.int .i64 y, .int .i64 m, .int .i64 d] 113)).heap.size = b0 + 2 := by simp [hb0]
  have hr1 := World.alloc_heap_new (w.alloc (.cells #[.int .i64 4, .int .i64 hy, .int .i64 m, .int .i64 d, .int .i64 wd, .int .i64 n] 93)) (.cells #[.int .i64 y, .int .i64 m, .int .i64 d] 113)
  rw [hs1] at hr1
  have hr0' := blk_below hr0 hst2
  have hst := bnext hst1 hst2
  have hL2 := hL.go hst
  have HX := Lib.hid (And.intro hst (And.intro hs2 (And.intro hr0' (And.intro hr1 (And.intro hL2 hL.low)))))
  clear hst1 hs1 hr0 hst2 hs2 hr1 hr0' hst hL
  have HN := easter_calls y h (((w.alloc (.cells #[.int .i64 4, .int .i64 hy, .int .i64 m, .int .i64 d, .int .i64 wd, .int .i64 n] 93))).alloc (.cells #[.int .i64 y, .int .i64 m, .int .i64 d] 113))
  have hok := eas_ok h
  obtain ⟨p, hp⟩ : ∃ p, easM y = p := ⟨_, rfl⟩
  obtain ⟨t, ht⟩ : ∃ t, easD y = t := ⟨_, rfl⟩
  rw [hp, ht] at HN hok ⊢
  have HD := day_calls y p t
  rw [show dayE y p t = dayN y p t from if_pos hok, chk_ok hok] at HD
  have hr := day_range hok
  obtain ⟨N, hN⟩ : ∃ N, dayN y p t = N := ⟨_, rfl⟩
  rw [hN] at HD hr ⊢
  replace HN := Lib.hid HN
  replace HD := Lib.hid HD
  have a1 := i64_same (N + n) (by omega)
  have B1 := Lib.hid (wrap64_in (N + n) (by omega))
  clear hok hN hr hL2 hp ht h hnb
  go_enter Tryz.func88, Tryz.ntmps88
  go_wp2_with fail
  refine HN.out.mono ?_
  rintro e w3 ⟨rfl, hb3⟩
  have hr3 := blk_below HX.out.2.2.2.1 hb3
  have hr0 := blk_below HX.out.2.2.1 hb3
  have hL3 := HX.out.2.2.2.2.1.go hb3
  have hb := bnext HX.out.1 hb3
  have f0 := blk_frozen hr3 0
  have f1 := blk_frozen hr3 1
  have f2 := blk_frozen hr3 2
  have d0 := cell_of_row _ (b0 + 1) 0 _ _ _ hr3
  have d1 := cell_of_row _ (b0 + 1) 1 _ _ _ hr3
  have d2 := cell_of_row _ (b0 + 1) 2 _ _ _ hr3
  have q5 := cell_of_row _ b0 5 _ _ _ hr0
  have hlow := HX.out.2.2.2.2.2
  have hbS := set3_below hb (show w.heap.size ≤ b0 + 1 by omega) (.int .i64 y) (.int .i64 p) (.int .i64 t)
  have hLS := set3_lens hL3 (show 0 < b0 + 1 by omega) (.int .i64 y) (.int .i64 p) (.int .i64 t)
  have HS := Lib.hid (And.intro hbS hLS)
  clear hb3 hr3 hb hL3 hbS hLS hlow hr0
  go_wp2_with fail
  refine (HD.out _ HS.out.2).mono ?_
  rintro e w4 ⟨rfl, hb4⟩
  have hbb := bnext HS.out.1 hb4
  have b1 := B1.out
  clear hb4 d0 d1 d2 f0 f1 f2 q5
  go_wp2_with fail
  go_ret
  exact ⟨rfl, hbb⟩
set_option maxRecDepth 100000 in
set_option maxHeartbeats 8000000 in
theorem on4_no (hy m d wd n y : Int) (h : ¬ (1970 ≤ y ∧ y ≤ 9999)) (w : World) (hL : Lens w) : Calls Tryz.prog 88 #[.agg #[.int .i64 4, .int .i64 hy, .int .i64 m, .int .i64 d, .int .i64 wd, .int .i64 n], .int .i64 y] w fun e w' => e = .returned (.int .i64 (-1)) ∧ Below w.heap.size w w' := by
  obtain ⟨b0, hb0⟩ : ∃ b0, w.heap.size = b0 := ⟨_, rfl⟩
  have Hb0 := Lib.hid hb0
  have hst1 := bstep w (.cells #[.int .i64 4, .int .i64 hy, .int .i64 m, .int .i64 d, .int .i64 wd, .int .i64 n] 93)
  have hs1 : (w.alloc (.cells #[.int .i64 4, .int .i64 hy, .int .i64 m, .int .i64 d, .int .i64 wd, .int .i64 n] 93)).heap.size = b0 + 1 := by simp [hb0]
  have hr0 := World.alloc_heap_new w (.cells #[.int .i64 4, .int .i64 hy, .int .i64 m, .int .i64 d, .int .i64 wd, .int .i64 n] 93)
  rw [hb0] at hr0
  have hst2 := bstep (w.alloc (.cells #[.int .i64 4, .int .i64 hy, .int .i64 m, .int .i64 d, .int .i64 wd, .int .i64 n] 93)) (.cells #[.int .i64 y, .int .i64 m, .int .i64 d] 113)
  have hs2 : ((w.alloc (.cells #[.int .i64 4, .int .i64 hy, .int .i64 m, .int .i64 d, .int .i64 wd, .int .i64 n] 93)).alloc (.cells #[.int .i64 y, .int .i64 m, .int .i64 d] 113)).heap.size = b0 + 2 := by simp [hb0]
  have hr1 := World.alloc_heap_new (w.alloc (.cells #[.int .i64 4, .int .i64 hy, .int .i64 m, .int .i64 d, .int .i64 wd, .int .i64 n] 93)) (.cells #[.int .i64 y, .int .i64 m, .int .i64 d] 113)
  rw [hs1] at hr1
  have hr0' := blk_below hr0 hst2
  have hst := bnext hst1 hst2
  have hL2 := hL.go hst
  have HX := Lib.hid (And.intro hst (And.intro hs2 (And.intro hr0' (And.intro hr1 (And.intro hL2 hL.low)))))
  clear hst1 hs1 hr0 hst2 hs2 hr1 hr0' hst hL
  have HN := easter_bad y h (((w.alloc (.cells #[.int .i64 4, .int .i64 hy, .int .i64 m, .int .i64 d, .int .i64 wd, .int .i64 n] 93))).alloc (.cells #[.int .i64 y, .int .i64 m, .int .i64 d] 113))
  replace HN := Lib.hid HN
  have q5 := cell_of_row _ b0 5 _ _ _ HX.out.2.2.1
  clear hL2 h q5
  go_enter Tryz.func88, Tryz.ntmps88
  go_wp2_with fail
  refine HN.out.mono ?_
  rintro e w3 ⟨rfl, hb3⟩
  have hr3 := blk_below HX.out.2.2.2.1 hb3
  have hb := bnext HX.out.1 hb3
  have q5 := cell_of_row _ b0 5 _ _ _ (blk_below HX.out.2.2.1 hb3)
  have f0 := blk_frozen hr3 0
  have f1 := blk_frozen hr3 1
  have f2 := blk_frozen hr3 2
  have d0 := cell_of_row _ (b0 + 1) 0 _ _ _ hr3
  have d1 := cell_of_row _ (b0 + 1) 1 _ _ _ hr3
  have d2 := cell_of_row _ (b0 + 1) 2 _ _ _ hr3
  have hbS := set3_below hb (show w.heap.size ≤ b0 + 1 by omega) (.int .i64 0) (.int .i64 0) (.int .i64 0)
  have HS := Lib.hid hbS
  clear hb3 hr3 hb hbS
  go_wp2_with fail
  go_ret
  exact ⟨rfl, HS.out⟩
/-- A holiday's day in a year. -/
theorem on_calls (k hy m d wd n y : Int) (hM : mayB k hy m d wd n) (w : World) (hL : Lens w) : Calls Tryz.prog 88 #[.agg #[.int .i64 k, .int .i64 hy, .int .i64 m, .int .i64 d, .int .i64 wd, .int .i64 n], .int .i64 y] w fun e w' => e = .returned (.int .i64 (onV k hy m d wd n y)) ∧ Below w.heap.size w w' := by
  rcases hM with ⟨rfl, _⟩ | ⟨rfl, _⟩ | ⟨rfl, _⟩ | ⟨rfl, _, _, _, _, hnb⟩
  · by_cases hne : hy = y
    · subst hne
      by_cases hok : okD hy m d
      · rw [show onV 2 hy m d wd n hy = dayN hy m d by unfold onV; rw [if_pos rfl, if_pos ⟨rfl, hok⟩]]
        exact on2_ok m d wd n hy hok w hL
      · rw [show onV 2 hy m d wd n hy = -1 by unfold onV; rw [if_pos rfl, if_neg (fun h => hok h.2)]]
        exact on2_no m d wd n hy hok w hL
    · rw [show onV 2 hy m d wd n y = -1 by unfold onV; rw [if_pos rfl, if_neg (fun h => hne h.1)]]
      exact on2_other hy m d wd n y hne w hL
  · by_cases hok : okD y m d
    · rw [show onV 1 hy m d wd n y = dayN y m d by unfold onV; rw [if_neg (by decide), if_pos rfl, if_pos hok]]
      exact on1_ok hy m d wd n y hok w hL
    · rw [show onV 1 hy m d wd n y = -1 by unfold onV; rw [if_neg (by decide), if_pos rfl, if_neg hok]]
      exact on1_no hy m d wd n y hok w hL
  · by_cases h : nthOk y m wd n
    · by_cases hle : nthN y m wd n ≤ dim y m
      · rw [show onV 3 hy m d wd n y = dayN y m (nthN y m wd n) by unfold onV; rw [if_neg (by decide), if_neg (by decide), if_pos rfl, if_pos ⟨h, hle⟩]]
        exact on3_ok hy m d wd n y ⟨h, hle⟩ w hL
      · rw [show onV 3 hy m d wd n y = -1 by unfold onV; rw [if_neg (by decide), if_neg (by decide), if_pos rfl, if_neg (fun h => hle h.2)]]
        exact on3_late hy m d wd n y h hle w hL
    · rw [show onV 3 hy m d wd n y = -1 by unfold onV; rw [if_neg (by decide), if_neg (by decide), if_pos rfl, if_neg (fun h' => h h'.1)]]
      exact on3_early hy m d wd n y h w hL
  · by_cases h : 1970 ≤ y ∧ y ≤ 9999
    · rw [show onV 4 hy m d wd n y = dayN y (easM y) (easD y) + n by unfold onV; rw [if_neg (by decide), if_neg (by decide), if_neg (by decide), if_pos h]]
      exact on4_ok hy m d wd n y h hnb w hL
    · rw [show onV 4 hy m d wd n y = -1 by unfold onV; rw [if_neg (by decide), if_neg (by decide), if_neg (by decide), if_neg h]]
      exact on4_no hy m d wd n y h w hL
end Go.Proofs.YtgbkedjjgbhcmaaGreatDoor
