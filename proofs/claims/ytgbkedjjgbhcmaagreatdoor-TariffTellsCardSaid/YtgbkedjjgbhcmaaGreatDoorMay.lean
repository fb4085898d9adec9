/-
  Whether there are a calendar and a day, and the day's date: days.may, walked. Conditions stand at each theorem.
-/
import Derived.Test.YtgbkedjjgbhcmaaGreatDoorFeastPlain
namespace Go.Proofs.YtgbkedjjgbhcmaaGreatDoor
open Go Go.RowKit Go.Kw Go.Kw.Cv Go.Shelf
set_option linter.unusedVariables false
set_option linter.unusedSimpArgs false

noncomputable def mayV (la : Nat) (gh : Nat → Nat → Int) (lb : Nat) (gs : Nat → Nat → Int) (n : Int) : Int × Int × Int := if errA la gh lb gs n = 0 then dOf n else (0, 0, 0)
theorem mayV_ok {la : Nat} {gh : Nat → Nat → Int} {lb : Nat} {gs : Nat → Nat → Int} {n : Int} (h : errA la gh lb gs n = 0) : mayV la gh lb gs n = dOf n := if_pos h
theorem mayV_no {la : Nat} {gh : Nat → Nat → Int} {lb : Nat} {gs : Nat → Nat → Int} {n : Int} (h : errA la gh lb gs n ≠ 0) : mayV la gh lb gs n = (0, 0, 0) := if_neg h
def dateV (t : Int × Int × Int) : Value := .agg #[.int .i64 t.1, .int .i64 t.2.1, .int .i64 t.2.2]
theorem set3_below {B b : Nat} {W W' : World} (h : Below B W W') (hb : B ≤ b) (u v x : Value) : Below B W (((W'.setCell ⟨b, 0, none⟩ u).setCell ⟨b, 1, none⟩ v).setCell ⟨b, 2, none⟩ x) :=
  ((h.setCell (p := ⟨b, 0, none⟩) hb u).setCell (p := ⟨b, 1, none⟩) hb v).setCell (p := ⟨b, 2, none⟩) hb x
theorem set3_lens {b : Nat} {W : World} (h : Lens W) (hb : 0 < b) (u v x : Value) : Lens (((W.setCell ⟨b, 0, none⟩ u).setCell ⟨b, 1, none⟩ v).setCell ⟨b, 2, none⟩ x) :=
  h.below (set3_below (Below.refl b W) (Nat.le_refl b) u v x) hb
theorem set3_row {b : Nat} {W : World} {t : TypeId} {a a1 a2 : Value} (h : W.heap[b]? = some (.cells #[a, a1, a2] t (0, 0))) (u v x : Value) :
    (((W.setCell ⟨b, 0, none⟩ u).setCell ⟨b, 1, none⟩ v).setCell ⟨b, 2, none⟩ x).heap[b]? = some (.cells #[u, v, x] t (0, 0)) :=
  heap_setCell_same _ b 2 _ _ x (heap_setCell_same _ b 1 _ _ v (heap_setCell_same _ b 0 _ _ u h))
set_option maxRecDepth 100000 in
set_option maxHeartbeats 8000000 in
theorem may_calls (A : Option Addr) (la ca : Nat) (gh : Nat → Nat → Int) (B : Option Addr) (lb cb : Nat) (gs : Nat → Nat → Int) (n : Int) (w : World) (hR : RdCal w A la ca gh B lb cb gs) (hL : Lens w) :
    Calls Tryz.prog 56 #[calC A la ca B lb cb, .int .i64 n] w fun e w' => e = .returned (.tuple #[dateV (mayV la gh lb gs n), .int .i64 (errA la gh lb gs n)]) ∧ Below w.heap.size w w' := by
  obtain ⟨b0, hb0⟩ : ∃ b0, w.heap.size = b0 := ⟨_, rfl⟩
  have Hb0 := Lib.hid hb0
  have hst1 := bstep w (.cells #[.slice A la ca, .slice B lb cb] 28)
  obtain ⟨W1, hW1⟩ : ∃ W1, w.alloc (.cells #[.slice A la ca, .slice B lb cb] 28) = W1 := ⟨_, rfl⟩
  have hs1 : W1.heap.size = b0 + 1 := by rw [← hW1, World.size_alloc, hb0]
  have hrow1 : W1.heap[b0]? = some (.cells #[.slice A la ca, .slice B lb cb] 28 (0, 0)) := by rw [← hb0, ← hW1]; exact World.alloc_heap_new w _
  rw [hW1] at hst1
  have hst2 := bstep W1 (.cells #[.int .i64 0, .int .i64 0, .int .i64 0] 113)
  obtain ⟨W2, hW2⟩ : ∃ W2, W1.alloc (.cells #[.int .i64 0, .int .i64 0, .int .i64 0] 113) = W2 := ⟨_, rfl⟩
  have hs2 : W2.heap.size = b0 + 2 := by rw [← hW2, World.size_alloc, hs1]
  have hrow2 : W2.heap[b0 + 1]? = some (.cells #[.int .i64 0, .int .i64 0, .int .i64 0] 113 (0, 0)) := by rw [← hs1, ← hW2]; exact World.alloc_heap_new W1 _
  rw [hW2] at hst2
  have hstB := bnext hst1 hst2
  have c0 := cell_of_row W2 b0 0 _ _ _ (blk_below hrow1 hst2)
  have c1 := cell_of_row W2 b0 1 _ _ _ (blk_below hrow1 hst2)
  have hL2 := hL.go hstB
  have HC := daysCheck_calls A la ca gh B lb cb gs W2 (hR.go hstB) hL2
  unfold calC at HC ⊢
  by_cases hcal : calOk la gh lb gs
  · rw [show calE la gh lb gs = 0 from if_pos hcal] at HC
    replace HC := Lib.hid HC
    by_cases hn : 0 ≤ n ∧ n ≤ 2932896
    · have hE := errA_ok hcal hn
      obtain ⟨hok, hday⟩ := dOf_spec n hn
      rw [mayV_ok hE, hE]
      have HO := of_calls _ _ _ hok
      rw [hday] at HO
      replace HO := Lib.hid HO
      obtain ⟨T, hT⟩ : ∃ T, dOf n = T := ⟨_, rfl⟩
      rw [hT] at HO ⊢
      obtain ⟨y, m, d⟩ := T
      unfold dateV
      clear hE hok hday hT hcal hn hR hL
      go_enter Tryz.func56, Tryz.ntmps56
      go_wp2_with fail
      refine HC.out.mono ?_
      rintro e w3 ⟨rfl, hb3⟩
      have hr3 := blk_below hrow2 hb3
      have hL3 := hL2.go hb3
      have hb := bnext hstB hb3
      clear c0 c1 hb3 hW1 hW2
      go_wp2_with fail
      refine (HO.out w3 hL3).mono ?_
      rintro e w4 ⟨rfl, hb4⟩
      have hr4 := blk_below hr3 hb4
      have hbb := bnext hb hb4
      have f0 := blk_frozen hr4 0
      have f1 := blk_frozen hr4 1
      have f2 := blk_frozen hr4 2
      have d0 := cell_of_row _ (b0 + 1) 0 _ _ _ hr4
      have d1 := cell_of_row _ (b0 + 1) 1 _ _ _ hr4
      have d2 := cell_of_row _ (b0 + 1) 2 _ _ _ hr4
      have HS := hr4
      clear hr3 hL3 hb hb4 hr4
      go_wp2_with fail
      refine bodyPost_ret (res_date rfl rfl (set3_row HS _ _ _)) rfl ?_
      exact ⟨rfl, set3_below hbb (by have := Hb0.out; omega) _ _ _⟩
    · have hE := errA_out hcal hn
      rw [mayV_no (by rw [hE]; decide), hE]
      have HO := Lib.hid (of_bad n hn)
      unfold dateV
      clear hE hcal hn hR hL
      go_enter Tryz.func56, Tryz.ntmps56
      go_wp2_with fail
      refine HC.out.mono ?_
      rintro e w3 ⟨rfl, hb3⟩
      have hr3 := blk_below hrow2 hb3
      have hb := bnext hstB hb3
      clear c0 c1 hb3 hW1 hW2
      go_wp2_with fail
      refine (HO.out w3).mono ?_
      rintro e w4 ⟨rfl, hb4⟩
      have hr4 := blk_below hr3 hb4
      have hbb := bnext hb hb4
      have f0 := blk_frozen hr4 0
      have f1 := blk_frozen hr4 1
      have f2 := blk_frozen hr4 2
      have d0 := cell_of_row _ (b0 + 1) 0 _ _ _ hr4
      have d1 := cell_of_row _ (b0 + 1) 1 _ _ _ hr4
      have d2 := cell_of_row _ (b0 + 1) 2 _ _ _ hr4
      have HS := hr4
      clear hr3 hb hb4 hr4
      go_wp2_with fail
      refine bodyPost_ret (res_date rfl rfl (set3_row HS _ _ _)) rfl ?_
      exact ⟨rfl, set3_below hbb (by have := Hb0.out; omega) _ _ _⟩
  · rw [show calE la gh lb gs = 80 from if_neg hcal] at HC
    replace HC := Lib.hid HC
    have hE := errA_bad (n := n) hcal
    rw [mayV_no (by rw [hE]; decide), hE]
    unfold dateV
    clear hE hcal hR hL
    go_enter Tryz.func56, Tryz.ntmps56
    go_wp2_with fail
    refine HC.out.mono ?_
    rintro e w3 ⟨rfl, hb3⟩
    have hr3 := blk_below hrow2 hb3
    have hb := bnext hstB hb3
    have f0 := blk_frozen hr3 0
    have f1 := blk_frozen hr3 1
    have f2 := blk_frozen hr3 2
    have d0 := cell_of_row _ (b0 + 1) 0 _ _ _ hr3
    have d1 := cell_of_row _ (b0 + 1) 1 _ _ _ hr3
    have d2 := cell_of_row _ (b0 + 1) 2 _ _ _ hr3
    have HS := hr3
    clear hr3 c0 c1 hb3 hW1 hW2
    go_wp2_with fail
    refine bodyPost_ret (res_date rfl rfl (set3_row HS _ _ _)) rfl ?_
    exact ⟨rfl, set3_below hb (by have := Hb0.out; omega) _ _ _⟩
end Go.Proofs.YtgbkedjjgbhcmaaGreatDoor
