/-
  An instant's moment: civil.At, walked. Conditions stand at each theorem.
-/
import Derived.Test.YtgbkedjjgbhcmaaGreatDoorZonePlain
namespace Go.Proofs.YtgbkedjjgbhcmaaGreatDoor
open Go Go.RowKit Go.Kw Go.Kw.Cv Go.Shelf
set_option linter.unusedVariables false
set_option linter.unusedSimpArgs false

/-- A moment's cells. -/
def momC (y m d h mi s : Int) : Array Value := #[.int .i64 y, .int .i64 m, .int .i64 d, .int .i64 h, .int .i64 mi, .int .i64 s]
noncomputable def momV (t : Int) : Value := .agg #[.int .i64 (zD (t / 86400)).1, .int .i64 (zD (t / 86400)).2.1, .int .i64 (zD (t / 86400)).2.2, .int .i64 (t % 86400 / 3600), .int .i64 (t % 86400 / 60 % 60), .int .i64 (t % 86400 % 60)]
theorem set6_below {B b : Nat} {W W' : World} (h : Below B W W') (hb : B ≤ b) (u0 u1 u2 u3 u4 u5 : Value) : Below B W ((((((W'.setCell ⟨b, 0, none⟩ u0).setCell ⟨b, 1, none⟩ u1).setCell ⟨b, 2, none⟩ u2).setCell ⟨b, 3, none⟩ u3).setCell ⟨b, 4, none⟩ u4).setCell ⟨b, 5, none⟩ u5) :=
  (((((h.setCell (p := ⟨b, 0, none⟩) hb u0).setCell (p := ⟨b, 1, none⟩) hb u1).setCell (p := ⟨b, 2, none⟩) hb u2).setCell (p := ⟨b, 3, none⟩) hb u3).setCell (p := ⟨b, 4, none⟩) hb u4).setCell (p := ⟨b, 5, none⟩) hb u5
theorem set6_row {b : Nat} {W : World} {t : TypeId} {a0 a1 a2 a3 a4 a5 : Value} (h : W.heap[b]? = some (.cells #[a0, a1, a2, a3, a4, a5] t (0, 0))) (u0 u1 u2 u3 u4 u5 : Value) :
    ((((((W.setCell ⟨b, 0, none⟩ u0).setCell ⟨b, 1, none⟩ u1).setCell ⟨b, 2, none⟩ u2).setCell ⟨b, 3, none⟩ u3).setCell ⟨b, 4, none⟩ u4).setCell ⟨b, 5, none⟩ u5).heap[b]? = some (.cells #[u0, u1, u2, u3, u4, u5] t (0, 0)) :=
  heap_setCell_same _ b 5 _ _ u5 (heap_setCell_same _ b 4 _ _ u4 (heap_setCell_same _ b 3 _ _ u3 (heap_setCell_same _ b 2 _ _ u2 (heap_setCell_same _ b 1 _ _ u1 (heap_setCell_same _ b 0 _ _ u0 h)))))
theorem mom_size : (Tryz.prog.info? 134).map (·.size) = some 6 := by kernel_rfl
theorem res_mom {fn : Func} {p t2 : Tmp} (h : fn.results = #[.cell p 134, .tmp t2]) {tmps : Array Value} {w : World} {g : Nat} {a0 a1 a2 a3 a4 a5 : Value} (hp : tmps.getD p undef = .pointer (some ⟨g, 0, none⟩)) (hg : w.heap[g]? = some (.cells #[a0, a1, a2, a3, a4, a5] 134 (0, 0))) :
    (results fn tmps).run Tryz.prog w = .ok (.tuple #[.agg #[a0, a1, a2, a3, a4, a5], tmps.getD t2 undef]) w :=
  results_cell_tmp h tmps w g _ _ _ _ hp hg Tryz.underlying134 rfl mom_size
set_option maxRecDepth 100000 in
set_option maxHeartbeats 8000000 in
theorem at_ok (t : Int) (h : secOk t) (w : World) (hL : Lens w) : Calls Tryz.prog 72 #[.int .i64 t] w fun e w' => e = .returned (.tuple #[momV t, .int .i64 0]) ∧ Below w.heap.size w w' := by
  obtain ⟨b0, hb0⟩ : ∃ b0, w.heap.size = b0 := ⟨_, rfl⟩
  have Hb0 := Lib.hid hb0
  have hd := sec_day h
  obtain ⟨hok, hday⟩ := zD_spec _ hd
  unfold secOk at h
  have HO := of_calls _ _ _ hok
  rw [hday] at HO
  unfold momV
  obtain ⟨T, hT⟩ : ∃ T, zD (t / 86400) = T := ⟨_, rfl⟩
  rw [hT] at HO ⊢
  obtain ⟨y, m, d⟩ := T
  dsimp only at HO ⊢
  obtain ⟨q, hq⟩ : ∃ q, t / 86400 = q := ⟨_, rfl⟩
  obtain ⟨s, hs⟩ : ∃ s, t % 86400 = s := ⟨_, rfl⟩
  rw [hq] at HO hd
  rw [hs]
  have hsr : 0 ≤ s ∧ s < 86400 := by omega
  have k1 : decide (t < 0) = false := decide_eq_false (by omega)
  have k2 : decide (t ≥ 253402300800) = false := decide_eq_false (by omega)
  have e1 : t.tdiv 86400 = q := by rw [Int.tdiv_eq_ediv_of_nonneg (by omega)]; exact hq
  have e2 : t.tmod 86400 = s := by rw [Int.tmod_eq_emod_of_nonneg (by omega)]; exact hs
  have e3 : s.tdiv 3600 = s / 3600 := Int.tdiv_eq_ediv_of_nonneg hsr.1
  have e4 : s.tdiv 60 = s / 60 := Int.tdiv_eq_ediv_of_nonneg hsr.1
  have e5 : (s / 60).tmod 60 = s / 60 % 60 := Int.tmod_eq_emod_of_nonneg (by omega)
  have e6 : s.tmod 60 = s % 60 := Int.tmod_eq_emod_of_nonneg hsr.1
  have a1 := i64_same q (by omega)
  have a2 := i64_same s (by omega)
  have a3 := i64_same (s / 3600) (by omega)
  have a4 := i64_same (s / 60) (by omega)
  have a5 := i64_same (s / 60 % 60) (by omega)
  have a6 := i64_same (s % 60) (by omega)
  replace HO := Lib.hid HO
  obtain ⟨W1, hW1⟩ : ∃ W1, w.alloc (.cells #[.int .i64 0, .int .i64 0, .int .i64 0, .int .i64 0, .int .i64 0, .int .i64 0] 134) = W1 := ⟨_, rfl⟩
  have hst : Below w.heap.size w W1 := hW1 ▸ bstep w _
  have hr0 : W1.heap[b0]? = some (.cells #[.int .i64 0, .int .i64 0, .int .i64 0, .int .i64 0, .int .i64 0, .int .i64 0] 134 (0, 0)) := by rw [← hb0, ← hW1]; exact World.alloc_heap_new w _
  have hL1 := hL.go hst
  have hs1 : W1.heap.size = b0 + 1 := by rw [← hW1, World.size_alloc, hb0]
  clear h hd hok hday hT hq hs hsr hL
  go_enter Tryz.func72, Tryz.ntmps72
  go_wp2_with fail
  refine (HO.out W1 hL1).mono ?_
  rintro e w3 ⟨rfl, hb3⟩
  have hr3 := blk_below hr0 hb3
  have hs3 : b0 + 1 ≤ w3.heap.size := by rw [← hs1]; exact hb3.size
  obtain ⟨b1, hb1⟩ : ∃ b1, w3.heap.size = b1 := ⟨_, rfl⟩
  obtain ⟨W4, hW4⟩ : ∃ W4, w3.alloc (.cells #[.int .i64 y, .int .i64 m, .int .i64 d] 113) = W4 := ⟨_, rfl⟩
  have hst4 : Below w3.heap.size w3 W4 := hW4 ▸ bstep w3 _
  have hrd : W4.heap[b1]? = some (.cells #[.int .i64 y, .int .i64 m, .int .i64 d] 113 (0, 0)) := by rw [← hb1, ← hW4]; exact World.alloc_heap_new w3 _
  have HS := blk_below hr3 hst4
  have hbb := bnext hst (bnext hb3 hst4)
  have f0 := blk_frozen HS 0
  have d0 := cell_of_row W4 b0 0 _ _ _ HS
  have f1 := blk_frozen HS 1
  have d1 := cell_of_row W4 b0 1 _ _ _ HS
  have f2 := blk_frozen HS 2
  have d2 := cell_of_row W4 b0 2 _ _ _ HS
  have f3 := blk_frozen HS 3
  have d3 := cell_of_row W4 b0 3 _ _ _ HS
  have f4 := blk_frozen HS 4
  have d4 := cell_of_row W4 b0 4 _ _ _ HS
  have f5 := blk_frozen HS 5
  have d5 := cell_of_row W4 b0 5 _ _ _ HS
  have g0 := cell_of_row W4 b1 0 _ _ _ hrd
  have g1 := cell_of_row W4 b1 1 _ _ _ hrd
  have g2 := cell_of_row W4 b1 2 _ _ _ hrd
  clear hst hr0 hL1 hb3 hr3 hst4 hrd hW1
  go_wp2_with fail
  refine bodyPost_ret (res_mom rfl rfl (set6_row HS _ _ _ _ _ _)) rfl ?_
  exact ⟨rfl, set6_below hbb (by have := Hb0.out; omega) _ _ _ _ _ _⟩
def mom0 : Value := .agg #[.int .i64 0, .int .i64 0, .int .i64 0, .int .i64 0, .int .i64 0, .int .i64 0]
set_option maxRecDepth 100000 in
set_option maxHeartbeats 8000000 in
theorem at_bad (t : Int) (h : ¬ secOk t) (w : World) : Calls Tryz.prog 72 #[.int .i64 t] w fun e w' => e = .returned (.tuple #[mom0, .int .i64 60]) ∧ Below w.heap.size w w' := by
  obtain ⟨b0, hb0⟩ : ∃ b0, w.heap.size = b0 := ⟨_, rfl⟩
  have Hb0 := Lib.hid hb0
  unfold secOk at h
  unfold mom0
  obtain ⟨W1, hW1⟩ : ∃ W1, w.alloc (.cells #[.int .i64 0, .int .i64 0, .int .i64 0, .int .i64 0, .int .i64 0, .int .i64 0] 134) = W1 := ⟨_, rfl⟩
  have hst : Below w.heap.size w W1 := hW1 ▸ bstep w _
  have hr0 : W1.heap[b0]? = some (.cells #[.int .i64 0, .int .i64 0, .int .i64 0, .int .i64 0, .int .i64 0, .int .i64 0] 134 (0, 0)) := by rw [← hb0, ← hW1]; exact World.alloc_heap_new w _
  have hs1 : W1.heap.size = b0 + 1 := by rw [← hW1, World.size_alloc, hb0]
  have f0 := blk_frozen hr0 0
  have d0 := cell_of_row W1 b0 0 _ _ _ hr0
  have f1 := blk_frozen hr0 1
  have d1 := cell_of_row W1 b0 1 _ _ _ hr0
  have f2 := blk_frozen hr0 2
  have d2 := cell_of_row W1 b0 2 _ _ _ hr0
  have f3 := blk_frozen hr0 3
  have d3 := cell_of_row W1 b0 3 _ _ _ hr0
  have f4 := blk_frozen hr0 4
  have d4 := cell_of_row W1 b0 4 _ _ _ hr0
  have f5 := blk_frozen hr0 5
  have d5 := cell_of_row W1 b0 5 _ _ _ hr0
  have HS := hr0
  by_cases h1 : t < 0
  · have k1 : decide (t < 0) = true := decide_eq_true h1
    clear h h1 hr0
    go_enter Tryz.func72, Tryz.ntmps72
    go_wp2_with fail
    refine bodyPost_ret (res_mom rfl rfl (set6_row HS _ _ _ _ _ _)) rfl ?_
    exact ⟨rfl, set6_below hst (by have := Hb0.out; omega) _ _ _ _ _ _⟩
  · have k1 : decide (t < 0) = false := decide_eq_false h1
    have k2 : decide (t ≥ 253402300800) = true := decide_eq_true (by omega)
    clear h h1 hr0
    go_enter Tryz.func72, Tryz.ntmps72
    go_wp2_with fail
    refine bodyPost_ret (res_mom rfl rfl (set6_row HS _ _ _ _ _ _)) rfl ?_
    exact ⟨rfl, set6_below hst (by have := Hb0.out; omega) _ _ _ _ _ _⟩
end Go.Proofs.YtgbkedjjgbhcmaaGreatDoor
