/-
  A weekday of a month that is none, walked: Nth. Conditions stand at each theorem.
-/
import Derived.Test.YtgbkedjjgbhcmaaGreatDoorCivil5
namespace Go.Proofs.YtgbkedjjgbhcmaaGreatDoor
open Go Go.RowKit Go.Kw Go.Kw.Cv Go.Shelf
set_option linter.unusedVariables false
set_option linter.unusedSimpArgs false

set_option maxRecDepth 100000 in
set_option maxHeartbeats 8000000 in
theorem nth_late (y m k n : Int) (h : nthOk y m k n) (hle : ¬ nthN y m k n ≤ dim y m) (w : World) (hL : Lens w) :
    Calls Tryz.prog 98 #[.int .i64 y, .int .i64 m, .int .i64 k, .int .i64 n] w fun e w' => e = .returned (.tuple #[.agg #[.int .i64 0, .int .i64 0, .int .i64 0], .int .i64 60]) ∧ Below w.heap.size w w' := by
  obtain ⟨b0, hb0⟩ : ∃ b0, w.heap.size = b0 := ⟨_, rfl⟩
  have Hb0 := Lib.hid hb0
  have hok1 := ok_one ⟨h.1, h.2.1, h.2.2.1, h.2.2.2.1⟩
  have hlo := nth_lo y m k n h
  have hd1 := d1_in y m k ⟨h.1, h.2.1, h.2.2.1, h.2.2.2.1⟩
  have hdl := dim_lo y m ⟨h.2.2.1, h.2.2.2.1⟩
  have hwd := wd_in hok1
  have hrg := day_range hok1
  have hokF : ¬ okD y m (nthN y m k n) := fun hh => hle hh.2.2.2
  have hL1 := hL.alloc (.cells #[.int .i64 0, .int .i64 0, .int .i64 0] 113)
  have hB1 := bstep w (.cells #[.int .i64 0, .int .i64 0, .int .i64 0] 113)
  have hrow := World.alloc_heap_new w (.cells #[.int .i64 0, .int .i64 0, .int .i64 0] 113)
  rw [hb0] at hrow hB1
  have hs1 : (w.alloc (.cells #[.int .i64 0, .int .i64 0, .int .i64 0] 113)).heap.size = b0 + 1 := by simp [hb0]
  have HDay := day_calls y m 1 _ hL1
  rw [show dayE y m 1 = dayN y m 1 from if_pos hok1, chk_ok hok1] at HDay
  have HD := Lib.hid HDay
  have HW := Lib.hid (weekday_calls (dayN y m 1))
  obtain ⟨N, hN⟩ : ∃ N, dayN y m 1 = N := ⟨_, rfl⟩
  obtain ⟨W7, hW7⟩ : ∃ W7, wdN N = W7 := ⟨_, rfl⟩
  rw [hN] at hwd hrg HD HW
  rw [hW7] at hwd HW
  have hd1e : d1N y m k = 1 + (k - W7) % 7 := by unfold d1N; rw [hN, hW7]
  obtain ⟨D1, hD1⟩ : ∃ D1, d1N y m k = D1 := ⟨_, rfl⟩
  rw [hD1] at hd1 hd1e
  have hnx := h
  unfold nthOk at hnx
  have e7 : (k - W7 + 7).tmod 7 = (k - W7) % 7 := by rw [Int.tmod_eq_emod_of_nonneg (by omega)]; omega
  have a1 := i64_same (k - W7) (by omega)
  have a2 := i64_same (k - W7 + 7) (by omega)
  have a3 := i64_same ((k - W7) % 7) (by omega)
  have a4 : IntKind.i64.wrap (1 + (k - W7) % 7) = D1 := by rw [← hd1e]; exact i64_same _ (by omega)
  have B1 := Lib.hid (wrap64_in (k - W7) (by omega))
  have B2 := Lib.hid (wrap64_in (k - W7 + 7) (by omega))
  have B4 : Hid (wrap64 (1 + (k - W7) % 7) = D1) := Lib.hid (by rw [← hd1e]; exact wrap64_in _ (by omega))
  have HDs := Lib.hid (fun W hh => days_calls y m (by omega) W hh)
  have HC := Lib.hid (fun W hh => check_calls y m (nthN y m k n) W hh)
  rw [chk_no hokF] at HC
  obtain ⟨F, hF⟩ : ∃ F, nthN y m k n = F := ⟨_, rfl⟩
  have hFe := hF
  unfold nthN at hFe
  rw [hD1] at hFe
  rw [hF] at HC hlo hle
  obtain ⟨D, hD⟩ : ∃ D, dim y m = D := ⟨_, rfl⟩
  rw [hD] at HDs hdl hFe hle
  have k1 : decide (k < 1) = false := decide_eq_false (by omega)
  have k2 : decide (k > 7) = false := decide_eq_false (by omega)
  have hlow : 0 < b0 := by rw [← hb0]; exact hL.low
  by_cases hm1 : n = -1
  · exfalso
    subst hm1
    rw [if_pos rfl] at hFe
    omega
  · have k3 : (n == -1) = false := beq_eq_false_iff_ne.2 hm1
    have k4 : (n != -1) = true := by simpa using hm1
    have k5 : decide (n < 1) = false := decide_eq_false (by omega)
    have k6 : decide (n > 5) = false := decide_eq_false (by omega)
    rw [if_neg hm1] at hFe
    have a5 := i64_same (n - 1) (by omega)
    have a6 := i64_same (7 * (n - 1)) (by omega)
    have a7 : IntKind.i64.wrap (D1 + 7 * (n - 1)) = F := by rw [hFe]; exact i64_same _ (by omega)
    have B5 := Lib.hid (wrap64_in (n - 1) (by omega))
    have B6 := Lib.hid (wrap64_in (7 * (n - 1)) (by omega))
    have B7 : Hid (wrap64 (D1 + 7 * (n - 1)) = F) := Lib.hid (by rw [hFe]; exact wrap64_in _ (by omega))
    clear h hle hok1 hlo hd1 hdl hwd hrg hokF hL HDay hN hW7 hd1e hD1 hnx hF hFe hD
    have b1 := B1.out
    have b2 := B2.out
    have b4 := B4.out
    have b5 := B5.out
    have b6 := B6.out
    have b7 := B7.out
    go_enter Tryz.func98, Tryz.ntmps98
    go_wp2_with fail
    refine HD.out.mono ?_
    rintro e w2 ⟨rfl, hb2⟩
    go_wp2_with fail
    refine (HW.out _).mono ?_
    rintro e w3 ⟨rfl, rfl⟩
    go_wp2_with fail
    refine (HC.out _ ?hLc).mono ?_
    case hLc => exact ((hL1.go hb2).alloc _)
    rintro e w4 ⟨rfl, hb4⟩
    have hs3 : b0 + 1 ≤ w3.heap.size := by rw [← hs1]; exact hb2.size
    have ho4 : w4.heap[w3.heap.size]? = some (.cells #[.int .i64 y, .int .i64 m, .int .i64 F] 113 (0, 0)) := blk_below (World.alloc_heap_new w3 _) hb4
    have hz3 := blk_below hrow hb2
    have hz4 : w4.heap[b0]? = some (.cells #[.int .i64 0, .int .i64 0, .int .i64 0] 113 (0, 0)) := blk_below (blk_below hz3 (bstep w3 _)) hb4
    have hB4 : Below b0 w w4 := (hB1.trans (hb2.mono (by rw [hs1]; omega))).trans (((bstep w3 (.cells #[.int .i64 y, .int .i64 m, .int .i64 F] 113)).mono (by omega)).trans (hb4.mono (by simp; omega)))
    have z0 := cell_of_row w4 b0 0 _ _ _ hz4
    have z1 := cell_of_row w4 b0 1 _ _ _ hz4
    have z2 := cell_of_row w4 b0 2 _ _ _ hz4
    have f0 := blk_frozen hz4 0
    have f1 := blk_frozen hz4 1
    have f2 := blk_frozen hz4 2
    have hz5 := heap_setCell_same w4 b0 0 _ _ (.int .i64 0) hz4
    have hz6 := heap_setCell_same _ b0 1 _ _ (.int .i64 0) hz5
    have hz7 := heap_setCell_same _ b0 2 _ _ (.int .i64 0) hz6
    have hB7 := ((hB4.setCell (p := ⟨b0, 0, none⟩) (Nat.le_refl _) (.int .i64 0)).setCell (p := ⟨b0, 1, none⟩) (Nat.le_refl _) (.int .i64 0)).setCell (p := ⟨b0, 2, none⟩) (Nat.le_refl _) (.int .i64 0)
    clear hz5 hz6 hz4 hz3 ho4 hrow hB1 hB4
    go_wp2_with fail
    refine bodyPost_ret (res_date rfl rfl hz7) rfl ?_
    exact ⟨rfl, by rw [Hb0.out]; exact hB7⟩
set_option maxRecDepth 100000 in
set_option maxHeartbeats 8000000 in
theorem nth_early (y m k n : Int) (h : ¬ nthOk y m k n) (w : World) (hL : Lens w) :
    Calls Tryz.prog 98 #[.int .i64 y, .int .i64 m, .int .i64 k, .int .i64 n] w fun e w' => e = .returned (.tuple #[.agg #[.int .i64 0, .int .i64 0, .int .i64 0], .int .i64 60]) ∧ Below w.heap.size w w' := by
  obtain ⟨b0, hb0⟩ : ∃ b0, w.heap.size = b0 := ⟨_, rfl⟩
  have Hb0 := Lib.hid hb0
  have hL1 := hL.alloc (.cells #[.int .i64 0, .int .i64 0, .int .i64 0] 113)
  have hB1 := bstep w (.cells #[.int .i64 0, .int .i64 0, .int .i64 0] 113)
  have hrow := World.alloc_heap_new w (.cells #[.int .i64 0, .int .i64 0, .int .i64 0] 113)
  rw [hb0] at hrow hB1
  have hs1 : (w.alloc (.cells #[.int .i64 0, .int .i64 0, .int .i64 0] 113)).heap.size = b0 + 1 := by simp [hb0]
  have HD := Lib.hid (day_calls y m 1 _ hL1)
  have post : ∀ w4 : World, Below (w.alloc (.cells #[.int .i64 0, .int .i64 0, .int .i64 0] 113)).heap.size (w.alloc (.cells #[.int .i64 0, .int .i64 0, .int .i64 0] 113)) w4 →
      (((w4.setCell ⟨b0, 0, none⟩ (.int .i64 0)).setCell ⟨b0, 1, none⟩ (.int .i64 0)).setCell ⟨b0, 2, none⟩ (.int .i64 0)).heap[b0]? = some (.cells #[.int .i64 0, .int .i64 0, .int .i64 0] 113 (0, 0)) ∧
      Below b0 w (((w4.setCell ⟨b0, 0, none⟩ (.int .i64 0)).setCell ⟨b0, 1, none⟩ (.int .i64 0)).setCell ⟨b0, 2, none⟩ (.int .i64 0)) := fun w4 hb => by
    have hz4 := blk_below hrow hb
    have hz5 := heap_setCell_same w4 b0 0 _ _ (.int .i64 0) hz4
    have hz6 := heap_setCell_same _ b0 1 _ _ (.int .i64 0) hz5
    have hz7 := heap_setCell_same _ b0 2 _ _ (.int .i64 0) hz6
    have hB4 := hB1.trans (hb.mono (by rw [hs1]; omega))
    exact ⟨hz7, ((hB4.setCell (p := ⟨b0, 0, none⟩) (Nat.le_refl _) (.int .i64 0)).setCell (p := ⟨b0, 1, none⟩) (Nat.le_refl _) (.int .i64 0)).setCell (p := ⟨b0, 2, none⟩) (Nat.le_refl _) (.int .i64 0)⟩
  have HP := Lib.hid post
  by_cases hok : okD y m 1
  · rw [show dayE y m 1 = dayN y m 1 from if_pos hok, chk_ok hok] at HD
    have hdm := dim_month hok
    have H : Hid (¬ (1 ≤ k ∧ k ≤ 7 ∧ (n = -1 ∨ (1 ≤ n ∧ n ≤ 5)))) := Lib.hid fun hh => h ⟨hok.1, hok.2.1, hdm.1, hdm.2, hh.1, hh.2.1, hh.2.2⟩
    clear h hok hdm hL post
    by_cases hn : n = -1
    · subst hn
      by_cases hk : k < 1
      · have k1 : decide (k < 1) = true := decide_eq_true hk
        go_enter Tryz.func98, Tryz.ntmps98
        go_wp2_with fail
        refine HD.out.mono ?_
        rintro e w4 ⟨rfl, hb2⟩
        have HP4 := Lib.hid (HP.out w4 hb2)
        have hz4 := blk_below hrow hb2
        have z0 := cell_of_row w4 b0 0 _ _ _ hz4
        have z1 := cell_of_row w4 b0 1 _ _ _ hz4
        have z2 := cell_of_row w4 b0 2 _ _ _ hz4
        have f0 := blk_frozen hz4 0
        have f1 := blk_frozen hz4 1
        have f2 := blk_frozen hz4 2
        clear hz4 hrow hB1
        go_wp2_with fail
        all_goals first
          | (exfalso; have := H.out; omega)
          | (refine bodyPost_ret (res_date rfl rfl HP4.out.1) rfl ?_; exact ⟨rfl, by first | exact HP4.out.2 | (rw [Hb0.out]; exact HP4.out.2)⟩)
      · have k1 : decide (k < 1) = false := decide_eq_false hk
        have k2 : decide (k > 7) = true := decide_eq_true (by have := H.out; omega)
        go_enter Tryz.func98, Tryz.ntmps98
        go_wp2_with fail
        refine HD.out.mono ?_
        rintro e w4 ⟨rfl, hb2⟩
        have HP4 := Lib.hid (HP.out w4 hb2)
        have hz4 := blk_below hrow hb2
        have z0 := cell_of_row w4 b0 0 _ _ _ hz4
        have z1 := cell_of_row w4 b0 1 _ _ _ hz4
        have z2 := cell_of_row w4 b0 2 _ _ _ hz4
        have f0 := blk_frozen hz4 0
        have f1 := blk_frozen hz4 1
        have f2 := blk_frozen hz4 2
        clear hz4 hrow hB1
        go_wp2_with fail
        all_goals first
          | (exfalso; have := H.out; omega)
          | (refine bodyPost_ret (res_date rfl rfl HP4.out.1) rfl ?_; exact ⟨rfl, by first | exact HP4.out.2 | (rw [Hb0.out]; exact HP4.out.2)⟩)
    · have k3 : (n == -1) = false := beq_eq_false_iff_ne.2 hn
      have k4 : (n != -1) = true := by simpa using hn
      go_enter Tryz.func98, Tryz.ntmps98
      go_wp2_with fail
      refine HD.out.mono ?_
      rintro e w4 ⟨rfl, hb2⟩
      have HP4 := Lib.hid (HP.out w4 hb2)
      have hz4 := blk_below hrow hb2
      have z0 := cell_of_row w4 b0 0 _ _ _ hz4
      have z1 := cell_of_row w4 b0 1 _ _ _ hz4
      have z2 := cell_of_row w4 b0 2 _ _ _ hz4
      have f0 := blk_frozen hz4 0
      have f1 := blk_frozen hz4 1
      have f2 := blk_frozen hz4 2
      clear hz4 hrow hB1
      go_wp2_with fail
      all_goals first
        | (exfalso; have := H.out; omega)
        | (refine bodyPost_ret (res_date rfl rfl HP4.out.1) rfl ?_; exact ⟨rfl, by first | exact HP4.out.2 | (rw [Hb0.out]; exact HP4.out.2)⟩)
  · rw [show dayE y m 1 = 0 from if_neg hok, chk_no hok] at HD
    clear h hok hL post
    go_enter Tryz.func98, Tryz.ntmps98
    go_wp2_with fail
    refine HD.out.mono ?_
    rintro e w4 ⟨rfl, hb2⟩
    have HP4 := Lib.hid (HP.out w4 hb2)
    have hz4 := blk_below hrow hb2
    have z0 := cell_of_row w4 b0 0 _ _ _ hz4
    have z1 := cell_of_row w4 b0 1 _ _ _ hz4
    have z2 := cell_of_row w4 b0 2 _ _ _ hz4
    have f0 := blk_frozen hz4 0
    have f1 := blk_frozen hz4 1
    have f2 := blk_frozen hz4 2
    clear hz4 hrow hB1
    go_wp2_with fail
    refine bodyPost_ret (res_date rfl rfl HP4.out.1) rfl ?_
    exact ⟨rfl, by rw [Hb0.out]; exact HP4.out.2⟩
end Go.Proofs.YtgbkedjjgbhcmaaGreatDoor
