/-
  Texts that the proof leans on, merged by program, part 3. Conditions stand at each theorem.
-/
import Derived.Test.YtgbkedjjgbhcmaaDoorTarM1
import Derived.Test.YtgbkedjjgbhcmaaDoorTarM2
import Derived.Deep.Matrix
import Derived.Deep.Strs
import Derived.Deep.Fields
import Derived.OpenShut
import Derived.Lib.SmallJoins
/-
  A weekday of a month, walked: Nth. Conditions stand at each theorem.
-/
namespace Go.Proofs.YtgbkedjjgbhcmaaDoor
open Go Go.RowKit Go.Kw Go.Kw.Cv Go.Shelf
set_option linter.unusedVariables false
set_option linter.unusedSimpArgs false

def nthOk (y m k n : Int) : Prop := 1970 ≤ y ∧ y ≤ 9999 ∧ 1 ≤ m ∧ m ≤ 12 ∧ 1 ≤ k ∧ k ≤ 7 ∧ (n = -1 ∨ (1 ≤ n ∧ n ≤ 5))
instance (y m k n : Int) : Decidable (nthOk y m k n) := by unfold nthOk; infer_instance
/-- The first such weekday's place; the one that is meant. -/
def d1N (y m k : Int) : Int := 1 + (k - wdN (dayN y m 1)) % 7
def nthN (y m k n : Int) : Int := if n = -1 then d1N y m k + 7 * ((dim y m - d1N y m k) / 7) else d1N y m k + 7 * (n - 1)
theorem ok_one {y m : Int} (h : 1970 ≤ y ∧ y ≤ 9999 ∧ 1 ≤ m ∧ m ≤ 12) : okD y m 1 := ⟨h.1, h.2.1, by omega, by have := dim_lo y m ⟨h.2.2.1, h.2.2.2⟩; omega⟩
theorem wd_in {y m d : Int} (h : okD y m d) : wdN (dayN y m d) = (dayN y m d + 3) % 7 + 1 := if_pos (day_range h)
theorem d1_in (y m k : Int) (h : 1970 ≤ y ∧ y ≤ 9999 ∧ 1 ≤ m ∧ m ≤ 12) : 1 ≤ d1N y m k ∧ d1N y m k ≤ 7 := by unfold d1N; omega
theorem nth_lo (y m k n : Int) (h : nthOk y m k n) : 1 ≤ nthN y m k n ∧ nthN y m k n ≤ 40 := by
  have h1 := d1_in y m k ⟨h.1, h.2.1, h.2.2.1, h.2.2.2.1⟩
  have h2 := dim_lo y m ⟨h.2.2.1, h.2.2.2.1⟩
  have h3 := h.2.2.2.2.2.2
  unfold nthN
  split
  · omega
  · omega
set_option maxRecDepth 100000 in
set_option maxHeartbeats 8000000 in
theorem nth_calls (y m k n : Int) (h : nthOk y m k n) (hle : nthN y m k n ≤ dim y m) (w : World) (hL : Lens w) :
    Calls Tryd.prog 90 #[.int .i64 y, .int .i64 m, .int .i64 k, .int .i64 n] w fun e w' => e = .returned (.tuple #[.agg #[.int .i64 y, .int .i64 m, .int .i64 (nthN y m k n)], .int .i64 0]) ∧ Below w.heap.size w w' := by
  obtain ⟨b0, hb0⟩ : ∃ b0, w.heap.size = b0 := ⟨_, rfl⟩
  have Hb0 := Lib.hid hb0
  have hok1 := ok_one ⟨h.1, h.2.1, h.2.2.1, h.2.2.2.1⟩
  have hlo := nth_lo y m k n h
  have hd1 := d1_in y m k ⟨h.1, h.2.1, h.2.2.1, h.2.2.2.1⟩
  have hdl := dim_lo y m ⟨h.2.2.1, h.2.2.2.1⟩
  have hwd := wd_in hok1
  have hrg := day_range hok1
  have hokF : okD y m (nthN y m k n) := ⟨h.1, h.2.1, hlo.1, hle⟩
  have hL1 := hL.alloc (.cells #[.int .i64 0, .int .i64 0, .int .i64 0] 121)
  have hB1 := bstep w (.cells #[.int .i64 0, .int .i64 0, .int .i64 0] 121)
  have hrow := World.alloc_heap_new w (.cells #[.int .i64 0, .int .i64 0, .int .i64 0] 121)
  rw [hb0] at hrow hB1
  have hs1 : (w.alloc (.cells #[.int .i64 0, .int .i64 0, .int .i64 0] 121)).heap.size = b0 + 1 := by simp [hb0]
  have HDay := day_calls y m 1 _ hL1
  rw [show dayE y m 1 = dayN y m 1 from if_pos hok1, chk_ok hok1] at HDay
  have HD := Lib.hid HDay
  have HW := Lib.hid (weekday_calls (dayN y m 1))
  obtain ⟨N, hN⟩ : ∃ N, dayN y m 1 = N := ⟨_, rfl⟩
  obtain ⟨W7, hW7⟩ : ∃ W7, wdN N = W7 := ⟨_, rfl⟩
  rw [hN] at hwd hrg HD HW
  rw [hW7] at hwd HW
  have hd1e : d1N y m k = 1 + (k - W7) % 7 := by unfold d1N; rw [hN, hW7]
  obtain ⟨D1, hD1⟩ : ∃ D1, d1N y m k = D1 := ⟨_, rfl⟩
  rw [hD1] at hd1 hd1e
  have hnx := h
  unfold nthOk at hnx
  have e7 : (k - W7 + 7).tmod 7 = (k - W7) % 7 := by rw [Int.tmod_eq_emod_of_nonneg (by omega)]; omega
  have a1 := i64_same (k - W7) (by omega)
  have a2 := i64_same (k - W7 + 7) (by omega)
  have a3 := i64_same ((k - W7) % 7) (by omega)
  have a4 : IntKind.i64.wrap (1 + (k - W7) % 7) = D1 := by rw [← hd1e]; exact i64_same _ (by omega)
  have B1 := Lib.hid (wrap64_in (k - W7) (by omega))
  have B2 := Lib.hid (wrap64_in (k - W7 + 7) (by omega))
  have B4 : Hid (wrap64 (1 + (k - W7) % 7) = D1) := Lib.hid (by rw [← hd1e]; exact wrap64_in _ (by omega))
  have HDs := Lib.hid (fun W hh => days_calls y m (by omega) W hh)
  have HC := Lib.hid (fun W hh => check_calls y m (nthN y m k n) W hh)
  rw [chk_ok hokF] at HC
  obtain ⟨F, hF⟩ : ∃ F, nthN y m k n = F := ⟨_, rfl⟩
  have hFe := hF
  unfold nthN at hFe
  rw [hD1] at hFe
  rw [hF] at HC hlo ⊢
  obtain ⟨D, hD⟩ : ∃ D, dim y m = D := ⟨_, rfl⟩
  rw [hD] at HDs hdl hFe
  have k1 : decide (k < 1) = false := decide_eq_false (by omega)
  have k2 : decide (k > 7) = false := decide_eq_false (by omega)
  have hlow : 2 < b0 := by rw [← hb0]; exact hL.low
  by_cases hm1 : n = -1
  · subst hm1
    have hd7 : 0 ≤ (D - D1) / 7 ∧ (D - D1) / 7 ≤ 5 := by omega
    have e8 : (D - D1).tdiv 7 = (D - D1) / 7 := Int.tdiv_eq_ediv_of_nonneg (by omega)
    rw [if_pos rfl] at hFe
    have a5 := i64_same (D - D1) (by omega)
    have a6 := i64_same ((D - D1) / 7) (by omega)
    have a7 := i64_same (1 + (D - D1) / 7) (by omega)
    have a8 : IntKind.i64.wrap (1 + (D - D1) / 7 - 1) = (D - D1) / 7 := by rw [i64_same _ (by omega)]; omega
    have a9 := i64_same (7 * ((D - D1) / 7)) (by omega)
    have a10 : IntKind.i64.wrap (D1 + 7 * ((D - D1) / 7)) = F := by rw [hFe]; exact i64_same _ (by omega)
    have B5 := Lib.hid (wrap64_in (D - D1) (by omega))
    have B7 := Lib.hid (wrap64_in (1 + (D - D1) / 7) (by omega))
    have B8 : Hid (wrap64 (1 + (D - D1) / 7 - 1) = (D - D1) / 7) := Lib.hid (by rw [wrap64_in _ (by omega)]; omega)
    have B9 := Lib.hid (wrap64_in (7 * ((D - D1) / 7)) (by omega))
    have B10 : Hid (wrap64 (D1 + 7 * ((D - D1) / 7)) = F) := Lib.hid (by rw [hFe]; exact wrap64_in _ (by omega))
    clear h hle hok1 hlo hd1 hdl hwd hrg hokF hL HDay hN hW7 hd1e hD1 hnx hF hFe hD hd7
    have b1 := B1.out
    have b2 := B2.out
    have b4 := B4.out
    have b5 := B5.out
    have b7 := B7.out
    have b8 := B8.out
    have b9 := B9.out
    have b10 := B10.out
    go_enter Tryd.func90, Tryd.ntmps90
    go_wp2_with fail
    refine HD.out.mono ?_
    rintro e w2 ⟨rfl, hb2⟩
    go_wp2_with fail
    refine (HW.out _).mono ?_
    rintro e w3 ⟨rfl, rfl⟩
    go_wp2_with fail
    refine (HDs.out _ ?hLd).mono ?_
    case hLd => exact hL1.go hb2
    rintro e w4 ⟨rfl, rfl⟩
    go_wp2_with fail
    refine (HC.out _ ?hLc).mono ?_
    case hLc => exact ((hL1.go hb2).alloc _)
    rintro e w5 ⟨rfl, hb4⟩
    have hs3 : b0 + 1 ≤ w4.heap.size := by rw [← hs1]; exact hb2.size
    have ho4 : w5.heap[w4.heap.size]? = some (.cells #[.int .i64 y, .int .i64 m, .int .i64 F] 121 (0, 0)) := blk_below (World.alloc_heap_new w4 _) hb4
    have hz3 := blk_below hrow hb2
    have hz4 : w5.heap[b0]? = some (.cells #[.int .i64 0, .int .i64 0, .int .i64 0] 121 (0, 0)) := blk_below (blk_below hz3 (bstep w4 _)) hb4
    have hB4 : Below b0 w w5 := (hB1.trans (hb2.mono (by rw [hs1]; omega))).trans (((bstep w4 (.cells #[.int .i64 y, .int .i64 m, .int .i64 F] 121)).mono (by omega)).trans (hb4.mono (by simp; omega)))
    have o0 := cell_of_row w5 w4.heap.size 0 _ _ _ ho4
    have o1 := cell_of_row w5 w4.heap.size 1 _ _ _ ho4
    have o2 := cell_of_row w5 w4.heap.size 2 _ _ _ ho4
    have z0 := cell_of_row w5 b0 0 _ _ _ hz4
    have z1 := cell_of_row w5 b0 1 _ _ _ hz4
    have z2 := cell_of_row w5 b0 2 _ _ _ hz4
    have f0 := blk_frozen hz4 0
    have f1 := blk_frozen hz4 1
    have f2 := blk_frozen hz4 2
    have hz5 := heap_setCell_same w5 b0 0 _ _ (.int .i64 y) hz4
    have hz6 := heap_setCell_same _ b0 1 _ _ (.int .i64 m) hz5
    have hz7 := heap_setCell_same _ b0 2 _ _ (.int .i64 F) hz6
    have hB7 := ((hB4.setCell (p := ⟨b0, 0, none⟩) (Nat.le_refl _) (.int .i64 y)).setCell (p := ⟨b0, 1, none⟩) (Nat.le_refl _) (.int .i64 m)).setCell (p := ⟨b0, 2, none⟩) (Nat.le_refl _) (.int .i64 F)
    clear hz5 hz6 hz4 hz3 ho4 hrow hB1 hB4
    go_wp2_with fail
    refine bodyPost_ret (res_date rfl rfl hz7) rfl ?_
    exact ⟨rfl, by rw [Hb0.out]; exact hB7⟩
  · have k3 : (n == -1) = false := beq_eq_false_iff_ne.2 hm1
    have k4 : (n != -1) = true := by simpa using hm1
    have k5 : decide (n < 1) = false := decide_eq_false (by omega)
    have k6 : decide (n > 5) = false := decide_eq_false (by omega)
    rw [if_neg hm1] at hFe
    have a5 := i64_same (n - 1) (by omega)
    have a6 := i64_same (7 * (n - 1)) (by omega)
    have a7 : IntKind.i64.wrap (D1 + 7 * (n - 1)) = F := by rw [hFe]; exact i64_same _ (by omega)
    have B5 := Lib.hid (wrap64_in (n - 1) (by omega))
    have B6 := Lib.hid (wrap64_in (7 * (n - 1)) (by omega))
    have B7 : Hid (wrap64 (D1 + 7 * (n - 1)) = F) := Lib.hid (by rw [hFe]; exact wrap64_in _ (by omega))
    clear h hle hok1 hlo hd1 hdl hwd hrg hokF hL HDay hN hW7 hd1e hD1 hnx hF hFe hD
    have b1 := B1.out
    have b2 := B2.out
    have b4 := B4.out
    have b5 := B5.out
    have b6 := B6.out
    have b7 := B7.out
    go_enter Tryd.func90, Tryd.ntmps90
    go_wp2_with fail
    refine HD.out.mono ?_
    rintro e w2 ⟨rfl, hb2⟩
    go_wp2_with fail
    refine (HW.out _).mono ?_
    rintro e w3 ⟨rfl, rfl⟩
    go_wp2_with fail
    refine (HC.out _ ?hLc).mono ?_
    case hLc => exact ((hL1.go hb2).alloc _)
    rintro e w4 ⟨rfl, hb4⟩
    have hs3 : b0 + 1 ≤ w3.heap.size := by rw [← hs1]; exact hb2.size
    have ho4 : w4.heap[w3.heap.size]? = some (.cells #[.int .i64 y, .int .i64 m, .int .i64 F] 121 (0, 0)) := blk_below (World.alloc_heap_new w3 _) hb4
    have hz3 := blk_below hrow hb2
    have hz4 : w4.heap[b0]? = some (.cells #[.int .i64 0, .int .i64 0, .int .i64 0] 121 (0, 0)) := blk_below (blk_below hz3 (bstep w3 _)) hb4
    have hB4 : Below b0 w w4 := (hB1.trans (hb2.mono (by rw [hs1]; omega))).trans (((bstep w3 (.cells #[.int .i64 y, .int .i64 m, .int .i64 F] 121)).mono (by omega)).trans (hb4.mono (by simp; omega)))
    have o0 := cell_of_row w4 w3.heap.size 0 _ _ _ ho4
    have o1 := cell_of_row w4 w3.heap.size 1 _ _ _ ho4
    have o2 := cell_of_row w4 w3.heap.size 2 _ _ _ ho4
    have z0 := cell_of_row w4 b0 0 _ _ _ hz4
    have z1 := cell_of_row w4 b0 1 _ _ _ hz4
    have z2 := cell_of_row w4 b0 2 _ _ _ hz4
    have f0 := blk_frozen hz4 0
    have f1 := blk_frozen hz4 1
    have f2 := blk_frozen hz4 2
    have hz5 := heap_setCell_same w4 b0 0 _ _ (.int .i64 y) hz4
    have hz6 := heap_setCell_same _ b0 1 _ _ (.int .i64 m) hz5
    have hz7 := heap_setCell_same _ b0 2 _ _ (.int .i64 F) hz6
    have hB7 := ((hB4.setCell (p := ⟨b0, 0, none⟩) (Nat.le_refl _) (.int .i64 y)).setCell (p := ⟨b0, 1, none⟩) (Nat.le_refl _) (.int .i64 m)).setCell (p := ⟨b0, 2, none⟩) (Nat.le_refl _) (.int .i64 F)
    clear hz5 hz6 hz4 hz3 ho4 hrow hB1 hB4
    go_wp2_with fail
    refine bodyPost_ret (res_date rfl rfl hz7) rfl ?_
    exact ⟨rfl, by rw [Hb0.out]; exact hB7⟩
end Go.Proofs.YtgbkedjjgbhcmaaDoor

/-
  A weekday of a month that is none, walked: Nth. Conditions stand at each theorem.
-/
namespace Go.Proofs.YtgbkedjjgbhcmaaDoor
open Go Go.RowKit Go.Kw Go.Kw.Cv Go.Shelf
set_option linter.unusedVariables false
set_option linter.unusedSimpArgs false

set_option maxRecDepth 100000 in
set_option maxHeartbeats 8000000 in
theorem nth_late (y m k n : Int) (h : nthOk y m k n) (hle : ¬ nthN y m k n ≤ dim y m) (w : World) (hL : Lens w) :
    Calls Tryd.prog 90 #[.int .i64 y, .int .i64 m, .int .i64 k, .int .i64 n] w fun e w' => e = .returned (.tuple #[.agg #[.int .i64 0, .int .i64 0, .int .i64 0], .int .i64 60]) ∧ Below w.heap.size w w' := by
  obtain ⟨b0, hb0⟩ : ∃ b0, w.heap.size = b0 := ⟨_, rfl⟩
  have Hb0 := Lib.hid hb0
  have hok1 := ok_one ⟨h.1, h.2.1, h.2.2.1, h.2.2.2.1⟩
  have hlo := nth_lo y m k n h
  have hd1 := d1_in y m k ⟨h.1, h.2.1, h.2.2.1, h.2.2.2.1⟩
  have hdl := dim_lo y m ⟨h.2.2.1, h.2.2.2.1⟩
  have hwd := wd_in hok1
  have hrg := day_range hok1
  have hokF : ¬ okD y m (nthN y m k n) := fun hh => hle hh.2.2.2
  have hL1 := hL.alloc (.cells #[.int .i64 0, .int .i64 0, .int .i64 0] 121)
  have hB1 := bstep w (.cells #[.int .i64 0, .int .i64 0, .int .i64 0] 121)
  have hrow := World.alloc_heap_new w (.cells #[.int .i64 0, .int .i64 0, .int .i64 0] 121)
  rw [hb0] at hrow hB1
  have hs1 : (w.alloc (.cells #[.int .i64 0, .int .i64 0, .int .i64 0] 121)).heap.size = b0 + 1 := by simp [hb0]
  have HDay := day_calls y m 1 _ hL1
  rw [show dayE y m 1 = dayN y m 1 from if_pos hok1, chk_ok hok1] at HDay
  have HD := Lib.hid HDay
  have HW := Lib.hid (weekday_calls (dayN y m 1))
  obtain ⟨N, hN⟩ : ∃ N, dayN y m 1 = N := ⟨_, rfl⟩
  obtain ⟨W7, hW7⟩ : ∃ W7, wdN N = W7 := ⟨_, rfl⟩
  rw [hN] at hwd hrg HD HW
  rw [hW7] at hwd HW
  have hd1e : d1N y m k = 1 + (k - W7) % 7 := by unfold d1N; rw [hN, hW7]
  obtain ⟨D1, hD1⟩ : ∃ D1, d1N y m k = D1 := ⟨_, rfl⟩
  rw [hD1] at hd1 hd1e
  have hnx := h
  unfold nthOk at hnx
  have e7 : (k - W7 + 7).tmod 7 = (k - W7) % 7 := by rw [Int.tmod_eq_emod_of_nonneg (by omega)]; omega
  have a1 := i64_same (k - W7) (by omega)
  have a2 := i64_same (k - W7 + 7) (by omega)
  have a3 := i64_same ((k - W7) % 7) (by omega)
  have a4 : IntKind.i64.wrap (1 + (k - W7) % 7) = D1 := by rw [← hd1e]; exact i64_same _ (by omega)
  have B1 := Lib.hid (wrap64_in (k - W7) (by omega))
  have B2 := Lib.hid (wrap64_in (k - W7 + 7) (by omega))
  have B4 : Hid (wrap64 (1 + (k - W7) % 7) = D1) := Lib.hid (by rw [← hd1e]; exact wrap64_in _ (by omega))
  have HDs := Lib.hid (fun W hh => days_calls y m (by omega) W hh)
  have HC := Lib.hid (fun W hh => check_calls y m (nthN y m k n) W hh)
  rw [chk_no hokF] at HC
  obtain ⟨F, hF⟩ : ∃ F, nthN y m k n = F := ⟨_, rfl⟩
  have hFe := hF
  unfold nthN at hFe
  rw [hD1] at hFe
  rw [hF] at HC hlo hle
  obtain ⟨D, hD⟩ : ∃ D, dim y m = D := ⟨_, rfl⟩
  rw [hD] at HDs hdl hFe hle
  have k1 : decide (k < 1) = false := decide_eq_false (by omega)
  have k2 : decide (k > 7) = false := decide_eq_false (by omega)
  have hlow : 2 < b0 := by rw [← hb0]; exact hL.low
  by_cases hm1 : n = -1
  · exfalso
    subst hm1
    rw [if_pos rfl] at hFe
    omega
  · have k3 : (n == -1) = false := beq_eq_false_iff_ne.2 hm1
    have k4 : (n != -1) = true := by simpa using hm1
    have k5 : decide (n < 1) = false := decide_eq_false (by omega)
    have k6 : decide (n > 5) = false := decide_eq_false (by omega)
    rw [if_neg hm1] at hFe
    have a5 := i64_same (n - 1) (by omega)
    have a6 := i64_same (7 * (n - 1)) (by omega)
    have a7 : IntKind.i64.wrap (D1 + 7 * (n - 1)) = F := by rw [hFe]; exact i64_same _ (by omega)
    have B5 := Lib.hid (wrap64_in (n - 1) (by omega))
    have B6 := Lib.hid (wrap64_in (7 * (n - 1)) (by omega))
    have B7 : Hid (wrap64 (D1 + 7 * (n - 1)) = F) := Lib.hid (by rw [hFe]; exact wrap64_in _ (by omega))
    clear h hle hok1 hlo hd1 hdl hwd hrg hokF hL HDay hN hW7 hd1e hD1 hnx hF hFe hD
    have b1 := B1.out
    have b2 := B2.out
    have b4 := B4.out
    have b5 := B5.out
    have b6 := B6.out
    have b7 := B7.out
    go_enter Tryd.func90, Tryd.ntmps90
    go_wp2_with fail
    refine HD.out.mono ?_
    rintro e w2 ⟨rfl, hb2⟩
    go_wp2_with fail
    refine (HW.out _).mono ?_
    rintro e w3 ⟨rfl, rfl⟩
    go_wp2_with fail
    refine (HC.out _ ?hLc).mono ?_
    case hLc => exact ((hL1.go hb2).alloc _)
    rintro e w4 ⟨rfl, hb4⟩
    have hs3 : b0 + 1 ≤ w3.heap.size := by rw [← hs1]; exact hb2.size
    have ho4 : w4.heap[w3.heap.size]? = some (.cells #[.int .i64 y, .int .i64 m, .int .i64 F] 121 (0, 0)) := blk_below (World.alloc_heap_new w3 _) hb4
    have hz3 := blk_below hrow hb2
    have hz4 : w4.heap[b0]? = some (.cells #[.int .i64 0, .int .i64 0, .int .i64 0] 121 (0, 0)) := blk_below (blk_below hz3 (bstep w3 _)) hb4
    have hB4 : Below b0 w w4 := (hB1.trans (hb2.mono (by rw [hs1]; omega))).trans (((bstep w3 (.cells #[.int .i64 y, .int .i64 m, .int .i64 F] 121)).mono (by omega)).trans (hb4.mono (by simp; omega)))
    have z0 := cell_of_row w4 b0 0 _ _ _ hz4
    have z1 := cell_of_row w4 b0 1 _ _ _ hz4
    have z2 := cell_of_row w4 b0 2 _ _ _ hz4
    have f0 := blk_frozen hz4 0
    have f1 := blk_frozen hz4 1
    have f2 := blk_frozen hz4 2
    have hz5 := heap_setCell_same w4 b0 0 _ _ (.int .i64 0) hz4
    have hz6 := heap_setCell_same _ b0 1 _ _ (.int .i64 0) hz5
    have hz7 := heap_setCell_same _ b0 2 _ _ (.int .i64 0) hz6
    have hB7 := ((hB4.setCell (p := ⟨b0, 0, none⟩) (Nat.le_refl _) (.int .i64 0)).setCell (p := ⟨b0, 1, none⟩) (Nat.le_refl _) (.int .i64 0)).setCell (p := ⟨b0, 2, none⟩) (Nat.le_refl _) (.int .i64 0)
    clear hz5 hz6 hz4 hz3 ho4 hrow hB1 hB4
    go_wp2_with fail
    refine bodyPost_ret (res_date rfl rfl hz7) rfl ?_
    exact ⟨rfl, by rw [Hb0.out]; exact hB7⟩
set_option maxRecDepth 100000 in
set_option maxHeartbeats 8000000 in
theorem nth_early (y m k n : Int) (h : ¬ nthOk y m k n) (w : World) (hL : Lens w) :
    Calls Tryd.prog 90 #[.int .i64 y, .int .i64 m, .int .i64 k, .int .i64 n] w fun e w' => e = .returned (.tuple #[.agg #[.int .i64 0, .int .i64 0, .int .i64 0], .int .i64 60]) ∧ Below w.heap.size w w' := by
  obtain ⟨b0, hb0⟩ : ∃ b0, w.heap.size = b0 := ⟨_, rfl⟩
  have Hb0 := Lib.hid hb0
  have hL1 := hL.alloc (.cells #[.int .i64 0, .int .i64 0, .int .i64 0] 121)
  have hB1 := bstep w (.cells #[.int .i64 0, .int .i64 0, .int .i64 0] 121)
  have hrow := World.alloc_heap_new w (.cells #[.int .i64 0, .int .i64 0, .int .i64 0] 121)
  rw [hb0] at hrow hB1
  have hs1 : (w.alloc (.cells #[.int .i64 0, .int .i64 0, .int .i64 0] 121)).heap.size = b0 + 1 := by simp [hb0]
  have HD := Lib.hid (day_calls y m 1 _ hL1)
  have post : ∀ w4 : World, Below (w.alloc (.cells #[.int .i64 0, .int .i64 0, .int .i64 0] 121)).heap.size (w.alloc (.cells #[.int .i64 0, .int .i64 0, .int .i64 0] 121)) w4 →
      (((w4.setCell ⟨b0, 0, none⟩ (.int .i64 0)).setCell ⟨b0, 1, none⟩ (.int .i64 0)).setCell ⟨b0, 2, none⟩ (.int .i64 0)).heap[b0]? = some (.cells #[.int .i64 0, .int .i64 0, .int .i64 0] 121 (0, 0)) ∧
      Below b0 w (((w4.setCell ⟨b0, 0, none⟩ (.int .i64 0)).setCell ⟨b0, 1, none⟩ (.int .i64 0)).setCell ⟨b0, 2, none⟩ (.int .i64 0)) := fun w4 hb => by
    have hz4 := blk_below hrow hb
    have hz5 := heap_setCell_same w4 b0 0 _ _ (.int .i64 0) hz4
    have hz6 := heap_setCell_same _ b0 1 _ _ (.int .i64 0) hz5
    have hz7 := heap_setCell_same _ b0 2 _ _ (.int .i64 0) hz6
    have hB4 := hB1.trans (hb.mono (by rw [hs1]; omega))
    exact ⟨hz7, ((hB4.setCell (p := ⟨b0, 0, none⟩) (Nat.le_refl _) (.int .i64 0)).setCell (p := ⟨b0, 1, none⟩) (Nat.le_refl _) (.int .i64 0)).setCell (p := ⟨b0, 2, none⟩) (Nat.le_refl _) (.int .i64 0)⟩
  have HP := Lib.hid post
  by_cases hok : okD y m 1
  · rw [show dayE y m 1 = dayN y m 1 from if_pos hok, chk_ok hok] at HD
    have hdm := dim_month hok
    have H : Hid (¬ (1 ≤ k ∧ k ≤ 7 ∧ (n = -1 ∨ (1 ≤ n ∧ n ≤ 5)))) := Lib.hid fun hh => h ⟨hok.1, hok.2.1, hdm.1, hdm.2, hh.1, hh.2.1, hh.2.2⟩
    clear h hok hdm hL post
    by_cases hn : n = -1
    · subst hn
      by_cases hk : k < 1
      · have k1 : decide (k < 1) = true := decide_eq_true hk
        go_enter Tryd.func90, Tryd.ntmps90
        go_wp2_with fail
        refine HD.out.mono ?_
        rintro e w4 ⟨rfl, hb2⟩
        have HP4 := Lib.hid (HP.out w4 hb2)
        have hz4 := blk_below hrow hb2
        have z0 := cell_of_row w4 b0 0 _ _ _ hz4
        have z1 := cell_of_row w4 b0 1 _ _ _ hz4
        have z2 := cell_of_row w4 b0 2 _ _ _ hz4
        have f0 := blk_frozen hz4 0
        have f1 := blk_frozen hz4 1
        have f2 := blk_frozen hz4 2
        clear hz4 hrow hB1
        go_wp2_with fail
        all_goals first
          | (exfalso; have := H.out; omega)
          | (refine bodyPost_ret (res_date rfl rfl HP4.out.1) rfl ?_; exact ⟨rfl, by first | exact HP4.out.2 | (rw [Hb0.out]; exact HP4.out.2)⟩)
      · have k1 : decide (k < 1) = false := decide_eq_false hk
        have k2 : decide (k > 7) = true := decide_eq_true (by have := H.out; omega)
        go_enter Tryd.func90, Tryd.ntmps90
        go_wp2_with fail
        refine HD.out.mono ?_
        rintro e w4 ⟨rfl, hb2⟩
        have HP4 := Lib.hid (HP.out w4 hb2)
        have hz4 := blk_below hrow hb2
        have z0 := cell_of_row w4 b0 0 _ _ _ hz4
        have z1 := cell_of_row w4 b0 1 _ _ _ hz4
        have z2 := cell_of_row w4 b0 2 _ _ _ hz4
        have f0 := blk_frozen hz4 0
        have f1 := blk_frozen hz4 1
        have f2 := blk_frozen hz4 2
        clear hz4 hrow hB1
        go_wp2_with fail
        all_goals first
          | (exfalso; have := H.out; omega)
          | (refine bodyPost_ret (res_date rfl rfl HP4.out.1) rfl ?_; exact ⟨rfl, by first | exact HP4.out.2 | (rw [Hb0.out]; exact HP4.out.2)⟩)
    · have k3 : (n == -1) = false := beq_eq_false_iff_ne.2 hn
      have k4 : (n != -1) = true := by simpa using hn
      go_enter Tryd.func90, Tryd.ntmps90
      go_wp2_with fail
      refine HD.out.mono ?_
      rintro e w4 ⟨rfl, hb2⟩
      have HP4 := Lib.hid (HP.out w4 hb2)
      have hz4 := blk_below hrow hb2
      have z0 := cell_of_row w4 b0 0 _ _ _ hz4
      have z1 := cell_of_row w4 b0 1 _ _ _ hz4
      have z2 := cell_of_row w4 b0 2 _ _ _ hz4
      have f0 := blk_frozen hz4 0
      have f1 := blk_frozen hz4 1
      have f2 := blk_frozen hz4 2
      clear hz4 hrow hB1
      go_wp2_with fail
      all_goals first
        | (exfalso; have := H.out; omega)
        | (refine bodyPost_ret (res_date rfl rfl HP4.out.1) rfl ?_; exact ⟨rfl, by first | exact HP4.out.2 | (rw [Hb0.out]; exact HP4.out.2)⟩)
  · rw [show dayE y m 1 = 0 from if_neg hok, chk_no hok] at HD
    clear h hok hL post
    go_enter Tryd.func90, Tryd.ntmps90
    go_wp2_with fail
    refine HD.out.mono ?_
    rintro e w4 ⟨rfl, hb2⟩
    have HP4 := Lib.hid (HP.out w4 hb2)
    have hz4 := blk_below hrow hb2
    have z0 := cell_of_row w4 b0 0 _ _ _ hz4
    have z1 := cell_of_row w4 b0 1 _ _ _ hz4
    have z2 := cell_of_row w4 b0 2 _ _ _ hz4
    have f0 := blk_frozen hz4 0
    have f1 := blk_frozen hz4 1
    have f2 := blk_frozen hz4 2
    clear hz4 hrow hB1
    go_wp2_with fail
    refine bodyPost_ret (res_date rfl rfl HP4.out.1) rfl ?_
    exact ⟨rfl, by rw [Hb0.out]; exact HP4.out.2⟩
end Go.Proofs.YtgbkedjjgbhcmaaDoor

/-
  The document's calendar, walked: Leap, Days, May, Day, Weekday. Conditions stand at each theorem.
-/
namespace Go.Proofs.YtgbkedjjgbhcmaaDoor
open Go Go.RowKit Go.Kw Go.Kw.Cv Go.Shelf
set_option linter.unusedVariables false
set_option linter.unusedSimpArgs false

end Go.Proofs.YtgbkedjjgbhcmaaDoor

/-
  The document's calendar, walked: Day, Weekday, Of. Conditions stand at each theorem.
-/
namespace Go.Proofs.YtgbkedjjgbhcmaaDoor
open Go Go.RowKit Go.Kw Go.Kw.Cv Go.Shelf
set_option linter.unusedVariables false
set_option linter.unusedSimpArgs false

end Go.Proofs.YtgbkedjjgbhcmaaDoor

/-
  The document's calendar, walked: Of, Nth. Conditions stand at each theorem.
-/
namespace Go.Proofs.YtgbkedjjgbhcmaaDoor
open Go Go.RowKit Go.Kw Go.Kw.Cv Go.Shelf
set_option linter.unusedVariables false
set_option linter.unusedSimpArgs false

end Go.Proofs.YtgbkedjjgbhcmaaDoor

/-
  The document's calendar, walked: Nth. Conditions stand at each theorem.
-/
namespace Go.Proofs.YtgbkedjjgbhcmaaDoor
open Go Go.RowKit Go.Kw Go.Kw.Cv Go.Shelf
set_option linter.unusedVariables false
set_option linter.unusedSimpArgs false

/-- What Nth answers of the document: the day, the error. -/
def nthV (y m k n : Int) : Int × Int := if nthOk y m k n ∧ nthN y m k n ≤ dim y m then (nthN y m k n, 0) else (0, 60)
/-- How many were met ahead of day j; the last of them. -/
def cntN (a j : Int) : Int := (j + 6 - a) / 7
def lstN (a j : Int) : Int := if cntN a j = 0 then 0 else a + 7 * (cntN a j - 1)
theorem wd_day (y m k j : Int) (h : 1970 ≤ y ∧ y ≤ 9999 ∧ 1 ≤ m ∧ m ≤ 12) (hk : 1 ≤ k ∧ k ≤ 7) (hj : 1 ≤ j ∧ j ≤ dim y m) : wdN (dayN y m j) = k ↔ (j - d1N y m k) % 7 = 0 := by
  have hok : okD y m j := ⟨h.1, h.2.1, hj.1, hj.2⟩
  have hok1 := ok_one h
  have e1 := wd_in hok
  have e2 := wd_in hok1
  have e3 : dayN y m j = dayN y m 1 + (j - 1) := by unfold dayN; omega
  rw [e1, e3]
  unfold d1N
  rw [e2]
  omega
theorem cnt_hit (a j : Int) (ha : 1 ≤ a ∧ a ≤ 7) (hj : 1 ≤ j) (h : (j - a) % 7 = 0) : cntN a (j + 1) = cntN a j + 1 ∧ lstN a (j + 1) = j ∧ 0 ≤ cntN a j ∧ j = a + 7 * cntN a j := by
  unfold lstN cntN
  refine ⟨by omega, ?_, by omega, by omega⟩
  rw [if_neg (by omega)]; omega
theorem cnt_miss (a j : Int) (ha : 1 ≤ a ∧ a ≤ 7) (hj : 1 ≤ j) (h : (j - a) % 7 ≠ 0) : cntN a (j + 1) = cntN a j ∧ lstN a (j + 1) = lstN a j := by
  have : cntN a (j + 1) = cntN a j := by unfold cntN; omega
  exact ⟨this, by unfold lstN; rw [this]⟩
end Go.Proofs.YtgbkedjjgbhcmaaDoor

/-
  Zones in plain numbers: whether one may be, a year's rule and its edges, an instant's offset; no walk here. Conditions stand at each theorem.
-/
namespace Go.Proofs.YtgbkedjjgbhcmaaDoor
open Go Go.Kw Go.Kw.Cv
set_option linter.unusedVariables false
set_option linter.unusedSimpArgs false

/-- May a change be? -/
def chgOk (m wd n mi : Int) : Prop := 1 ≤ m ∧ m ≤ 12 ∧ 1 ≤ wd ∧ wd ≤ 7 ∧ (n = -1 ∨ (1 ≤ n ∧ n ≤ 4)) ∧ 0 ≤ mi ∧ mi ≤ 1439
instance (m wd n mi : Int) : Decidable (chgOk m wd n mi) := by unfold chgOk; infer_instance
/-- May rule i be? Its cells: First, Last, On (4), Off (4), Extra. -/
def rulOk (g : Nat → Nat → Int) (i : Nat) : Prop := 1970 ≤ g i 0 ∧ g i 0 ≤ g i 1 ∧ g i 1 ≤ 9999 ∧ 1 ≤ g i 10 ∧ g i 10 ≤ 7200 ∧ chgOk (g i 2) (g i 3) (g i 4) (g i 5) ∧ chgOk (g i 6) (g i 7) (g i 8) (g i 9)
instance (g : Nat → Nat → Int) (i : Nat) : Decidable (rulOk g i) := by unfold rulOk; infer_instance
def zonOk (o : Int) (lr : Nat) (g : Nat → Nat → Int) : Prop := -50400 ≤ o ∧ o ≤ 50400 ∧ lr ≤ 20 ∧ ∀ i, i < lr → rulOk g i
noncomputable instance (o : Int) (lr : Nat) (g : Nat → Nat → Int) : Decidable (zonOk o lr g) := Classical.propDecidable _
noncomputable def zonE (o : Int) (lr : Nat) (g : Nat → Nat → Int) : Int := if zonOk o lr g then 0 else 70
/-- The first rule of a year among the first k; k: there is none. -/
def inYearZ (g : Nat → Nat → Int) (i : Nat) (y : Int) : Bool := decide (g i 0 ≤ y) && decide (y ≤ g i 1)
def rulF (g : Nat → Nat → Int) (y : Int) : Nat → Nat
  | 0 => 0
  | k + 1 => if rulF g y k < k then rulF g y k else if inYearZ g k y = true then k else k + 1
theorem rulF_le (g : Nat → Nat → Int) (y : Int) : ∀ k, rulF g y k ≤ k
  | 0 => Nat.le_refl _
  | k + 1 => by
    have := rulF_le g y k
    unfold rulF
    split
    · omega
    · split <;> omega
theorem rulF_spec (g : Nat → Nat → Int) (y : Int) : ∀ k, (rulF g y k < k → inYearZ g (rulF g y k) y = true) ∧ ∀ i, i < rulF g y k → i < k → inYearZ g i y = false
  | 0 => ⟨fun h => absurd h (Nat.not_lt_zero _), fun i _ h => absurd h (Nat.not_lt_zero _)⟩
  | k + 1 => by
    obtain ⟨h1, h2⟩ := rulF_spec g y k
    have hle := rulF_le g y k
    by_cases hc : rulF g y k < k
    · have e : rulF g y (k + 1) = rulF g y k := by rw [rulF, if_pos hc]
      rw [e]
      exact ⟨fun _ => h1 hc, fun i hi _ => h2 i hi (by omega)⟩
    · have e0 : rulF g y k = k := by omega
      by_cases hk : inYearZ g k y = true
      · have e : rulF g y (k + 1) = k := by rw [rulF, if_neg hc, if_pos hk]
        rw [e]
        exact ⟨fun _ => hk, fun i hi _ => h2 i (by omega) hi⟩
      · have e : rulF g y (k + 1) = k + 1 := by rw [rulF, if_neg hc, if_neg hk]
        rw [e]
        refine ⟨fun h => absurd h (Nat.lt_irrefl _), fun i hi _ => ?_⟩
        by_cases hik : i = k
        · rw [hik]; exact Bool.eq_false_iff.2 hk
        · exact h2 i (by omega) (by omega)
/-- Whatever place is the first is this one. -/
theorem rulF_unique (g : Nat → Nat → Int) (y : Int) (k j : Nat) (hj : j ≤ k) (h1 : j < k → inYearZ g j y = true) (h2 : ∀ i, i < j → inYearZ g i y = false) : rulF g y k = j := by
  obtain ⟨s1, s2⟩ := rulF_spec g y k
  have hle := rulF_le g y k
  rcases Nat.lt_trichotomy (rulF g y k) j with h | h | h
  · have a := s1 (by omega)
    rw [h2 _ h] at a; cases a
  · exact h
  · have a := s2 j h (by omega)
    rw [h1 (by omega)] at a; cases a
/-- The standard time of a change in a year. -/
def chgT (y m wd n mi : Int) : Int := dayN y m (nthN y m wd n) * 86400 + mi * 60
theorem chg_nth {m wd n mi y : Int} (h : chgOk m wd n mi) (hy : 1970 ≤ y ∧ y ≤ 9999) : nthOk y m wd n ∧ nthN y m wd n ≤ dim y m := by
  obtain ⟨h1, h2, h3, h4, h5, h6, h7⟩ := h
  have hd := d1_in y m wd ⟨hy.1, hy.2, h1, h2⟩
  have hl := dim_lo y m ⟨h1, h2⟩
  refine ⟨⟨hy.1, hy.2, h1, h2, h3, h4, by rcases h5 with h5 | h5 <;> omega⟩, ?_⟩
  unfold nthN
  split
  · omega
  · rcases h5 with h5 | h5 <;> omega
theorem chgT_range {m wd n mi y : Int} (h : chgOk m wd n mi) (hy : 1970 ≤ y ∧ y ≤ 9999) : 0 ≤ chgT y m wd n mi ∧ chgT y m wd n mi ≤ 253402300799 := by
  obtain ⟨h1, h2⟩ := chg_nth h hy
  have hok : okD y m (nthN y m wd n) := ⟨hy.1, hy.2, (nth_lo y m wd n h1).1, h2⟩
  have hr := day_range hok
  obtain ⟨-, -, -, -, -, h6, h7⟩ := h
  unfold chgT
  omega
def onT (g : Nat → Nat → Int) (i : Nat) (y : Int) : Int := chgT y (g i 2) (g i 3) (g i 4) (g i 5)
def offT (g : Nat → Nat → Int) (i : Nat) (y : Int) : Int := chgT y (g i 6) (g i 7) (g i 8) (g i 9)
/-- Is it summer, at a standard time, by edges? -/
def sumB (on off s : Int) : Bool := (decide (on < off) && (decide (on ≤ s) && decide (s < off))) || (decide (off < on) && (decide (s < off) || decide (on ≤ s)))
/-- A day's date. -/
noncomputable def zD (n : Int) : Int × Int × Int := if h : 0 ≤ n ∧ n ≤ 2932896 then ((day_ex n h).choose, (day_ex n h).choose_spec.choose, (day_ex n h).choose_spec.choose_spec.choose) else (0, 0, 0)
theorem zD_spec (n : Int) (h : 0 ≤ n ∧ n ≤ 2932896) : okD (zD n).1 (zD n).2.1 (zD n).2.2 ∧ dayN (zD n).1 (zD n).2.1 (zD n).2.2 = n := by
  unfold zD
  rw [dif_pos h]
  exact (day_ex n h).choose_spec.choose_spec.choose_spec
theorem zD_day {y m d : Int} (h : okD y m d) : zD (dayN y m d) = (y, m, d) := by
  obtain ⟨h1, h2⟩ := zD_spec _ (day_range h)
  obtain ⟨e1, e2, e3⟩ := day_inj h1 h h2
  exact Prod.ext_iff.2 ⟨e1, Prod.ext_iff.2 ⟨e2, e3⟩⟩
/-- May a second be? Its day may be. -/
def secOk (s : Int) : Prop := 0 ≤ s ∧ s < 253402300800
instance (s : Int) : Decidable (secOk s) := by unfold secOk; infer_instance
theorem sec_day {s : Int} (h : secOk s) : 0 ≤ s / 86400 ∧ s / 86400 ≤ 2932896 := by unfold secOk at h; omega
/-- What summer adds at a standard time. -/
noncomputable def extV (g : Nat → Nat → Int) (lr : Nat) (s : Int) : Int :=
  if rulF g (zD (s / 86400)).1 lr < lr then (if sumB (onT g (rulF g (zD (s / 86400)).1 lr) (zD (s / 86400)).1) (offT g (rulF g (zD (s / 86400)).1 lr) (zD (s / 86400)).1) s = true then g (rulF g (zD (s / 86400)).1 lr) 10 else 0) else 0
theorem extV_range {o : Int} {lr : Nat} {g : Nat → Nat → Int} (h : zonOk o lr g) (s : Int) : 0 ≤ extV g lr s ∧ extV g lr s ≤ 7200 := by
  unfold extV
  split
  · rename_i hi
    have hr := h.2.2.2 _ hi
    unfold rulOk at hr
    split <;> omega
  · omega
/-- An instant's offset, and the error. -/
noncomputable def offE (o : Int) (lr : Nat) (g : Nat → Nat → Int) (t : Int) : Int :=
  if zonOk o lr g then (if secOk (t + o) ∧ secOk (t + o + extV g lr (t + o)) then 0 else 60) else 70
noncomputable def offV (o : Int) (lr : Nat) (g : Nat → Nat → Int) (t : Int) : Int := if offE o lr g t = 0 then o + extV g lr (t + o) else 0
end Go.Proofs.YtgbkedjjgbhcmaaDoor

/-
  What a call is told of a slice that comes in whose elements are n integers each (structs of integers, arrays of integers): its cells. No program in sight. Conditions stand at each theorem.
-/
namespace Go.Kw
open Go Go.RowKit Go.ChangeShapes Go.WideShapes Go.Deep
set_option linter.unusedVariables false

variable {P : Program} {H : Type} {enc : TypeId × Value → H}
/-- The cells of a datum that is n integers. -/
def IntCells (n : Nat) (kd : Nat → IntKind) (cs : List Value) : Prop :=
  cs.length = n ∧ ∃ g : Nat → Int, ∀ j, j < n → cs[j]? = some (.int (kd j) (g j)) ∧ (Lit.int (kd j) (g j)).wf = true
/-- A struct of integers. -/
theorem struct_ints {w : World} {base : Nat} {spare : Nat → Bool} {held : Bool} {fuel : Nat} {t : TypeId} {cs : List Value} {x : DataW H × List MemPlace} {fs : Array Field} {n : Nat} (kd : Nat → IntKind)
    (ht : P.underlying t = some (.struct fs)) (hn : fs.size = n) (hc : P.cellsOf t = n) (hk : ∀ j, j < n → ∃ f, fs[j]? = some f ∧ f.offset = j ∧ P.cellsOf f.type = 1 ∧ P.underlying f.type = some (.int (kd j)))
    (h : DataW.trod enc P w base spare held fuel t cs = some x) : IntCells n kd cs := by
  obtain ⟨xs, m, rfl, hx, hl, hxl, hall⟩ := DataW.trod_struct ht h
  rw [hc] at hl
  refine ⟨hl, ?_⟩
  have each : ∀ j, j < n → ∃ z : Int, cs[j]? = some (.int (kd j) z) ∧ (Lit.int (kd j) z).wf = true := fun j hj => by
    obtain ⟨f, hf, ho, h1, hu⟩ := hk j hj
    have ht := hall j f hf
    rw [ho, h1, List.getElem?_eq_getElem (by omega)] at ht
    obtain ⟨z, e, -, hw⟩ := DataW.trod_int hu ht
    refine ⟨z, ?_, hw⟩
    have : ((cs.drop j).take 1)[0]? = some (.int (kd j) z) := by rw [e]; rfl
    rw [List.getElem?_take_of_lt (by omega), List.getElem?_drop] at this
    exact this
  obtain ⟨g, hg⟩ := choose_lt each
  exact ⟨g, hg⟩
/-- An array of integers. -/
theorem array_ints {w : World} {base : Nat} {spare : Nat → Bool} {held : Bool} {fuel : Nat} {t e : TypeId} {cs : List Value} {x : DataW H × List MemPlace} {n : Nat} {kd : IntKind}
    (ht : P.underlying t = some (.array n e)) (hc : P.cellsOf t = n) (h1 : P.cellsOf e = 1) (hu : P.underlying e = some (.int kd))
    (h : DataW.trod enc P w base spare held fuel t cs = some x) : IntCells n (fun _ => kd) cs := by
  obtain ⟨xs, m, rfl, hx, hl, hxl, hall⟩ := DataW.trod_array ht h
  rw [hc] at hl
  refine ⟨hl, ?_⟩
  have each : ∀ j, j < n → ∃ z : Int, cs[j]? = some (.int kd z) ∧ (Lit.int kd z).wf = true := fun j hj => by
    have ht := hall j hj
    rw [h1, Nat.mul_one, List.getElem?_eq_getElem (by omega)] at ht
    obtain ⟨z, e, -, hw⟩ := DataW.trod_int hu ht
    refine ⟨z, ?_, hw⟩
    have : ((cs.drop j).take 1)[0]? = some (.int kd z) := by rw [e]; rfl
    rw [List.getElem?_take_of_lt (by omega), List.getElem?_drop] at this
    exact this
  obtain ⟨g, hg⟩ := choose_lt each
  exact ⟨g, hg⟩
/-- A slice of elements of n integers each: what is told of it. -/
def IRows (n : Nat) (kd : Nat → IntKind) (w : World) (A : Option Addr) (len cap : Nat) (g : Nat → Nat → Int) : Prop :=
  len ≤ cap ∧ cap ≤ maxLen ∧ (A = none → len = 0) ∧ Rd w w.heap.size A (len * n) (fun i => .int (kd (i % n)) (g (i / n) (i % n))) ∧ ∀ r j, r < len → j < n → (Lit.int (kd j) (g r j)).wf = true
theorem open_irows {W : World} {fuel : Nat} {t e : TypeId} {cs : List Value} {x : DataW H × List MemPlace} {n : Nat} {kd : Nat → IntKind} (hn : 0 < n)
    (ht : P.underlying t = some (.slice e)) (hc : P.cellsOf e = n)
    (hel : ∀ (fuel : Nat) (cs : List Value) (y : DataW H × List MemPlace), DataW.trod enc P W 0 (fun _ => true) true fuel e cs = some y → IntCells n kd cs)
    (h : DataW.trod enc P W 0 (fun _ => true) true fuel t cs = some x) : ∃ (A : Option Addr) (len cap : Nat) (g : Nat → Nat → Int), cs = [Value.slice A len cap] ∧ IRows n kd W A len cap g := by
  rcases open_slice ht h with ⟨hcs, hx⟩ | ⟨a', len', cap', m, k, D, Pl, hcs, hb0, hl, hm, hmm, hx, hr⟩
  · exact ⟨none, 0, 0, fun _ _ => 0, hcs, Nat.le_refl _, Nat.zero_le _, fun _ => rfl, .inl (by omega), fun r j hr => by omega⟩
  · simp only [if_true] at hmm
    subst hmm
    have each : ∀ r, r < m → ∃ g : Nat → Int, ∀ j, j < n → W.cell? (a'.add (r * n + j)) = some (.int (kd j) (g j)) ∧ (Lit.int (kd j) (g j)).wf = true := fun r hlt => by
      obtain ⟨cs', h1, h2⟩ := hr r hlt
      rw [hc] at h1
      obtain ⟨-, hlen, hget⟩ := World.cells?_some h1
      obtain ⟨hlen2, g, hg⟩ := hel _ _ _ h2
      refine ⟨g, fun j hj => ⟨?_, (hg j hj).2⟩⟩
      have g0 := hget j (by omega)
      rw [add_add] at g0
      rw [g0]; exact (hg j hj).1
    obtain ⟨g, hg⟩ := choose_lt each
    refine ⟨some a', len', m, g, hcs, hl, hm, (fun h => by cases h), ?_, fun r j h1 h2 => (hg r (by omega) j h2).2⟩
    rcases Nat.eq_zero_or_pos len' with h0 | h0
    · exact .inl (by subst h0; omega)
    · have hcell : ∀ i, i < len' * n → W.cell? (a'.add i) = some (.int (kd (i % n)) (g (i / n) (i % n))) := fun i hi => by
        have h1 : i / n < len' := Nat.div_lt_of_lt_mul (by rw [Nat.mul_comm]; exact hi)
        have h2 := Nat.mod_lt i hn
        have := (hg (i / n) (by omega) (i % n) h2).1
        rw [Nat.mul_comm, Nat.div_add_mod] at this
        exact this
      have hp : 0 < len' * n := Nat.mul_pos h0 hn
      obtain ⟨b, off, spot⟩ := a'
      have hspot : spot = none := by simpa [Addr.add] using World.cell?_spot (hcell 0 hp)
      subst hspot
      have hc : ∀ i, i < len' * n → W.cell? ⟨b, off + i, none⟩ = some (.int (kd (i % n)) (g (i / n) (i % n))) := fun j hj => by rw [← Go.WideShapes.add_plain]; exact hcell j hj
      exact .inr ⟨b, off, rfl, block_lt (hc 0 hp), hc⟩
theorem IRows.go {n : Nat} {kd : Nat → IntKind} {w w' : World} {A : Option Addr} {len cap : Nat} {g : Nat → Nat → Int} (h : IRows n kd w A len cap g) (hb : Below w.heap.size w w') : IRows n kd w' A len cap g :=
  ⟨h.1, h.2.1, h.2.2.1, h.2.2.2.1.go hb, h.2.2.2.2⟩
/-- The cells of one element. -/
theorem IRows.at_ {n : Nat} {kd : Nat → IntKind} {w : World} {A : Option Addr} {len cap : Nat} {g : Nat → Nat → Int} (h : IRows n kd w A len cap g) (hn : 0 < n) {r : Nat} (hr : r < len) :
    ∃ b off, A = some ⟨b, off, none⟩ ∧ b < w.heap.size ∧ ∀ j, j < n → w.cell? ⟨b, off + r * n + j, none⟩ = some (.int (kd j) (g r j)) := by
  have hlt : ∀ j, j < n → r * n + j < len * n := fun j hj => by
    have : (r + 1) * n ≤ len * n := Nat.mul_le_mul_right _ (by omega)
    rw [Nat.add_mul, Nat.one_mul] at this; omega
  rcases h.2.2.2.1 with h0 | ⟨b, off, e, hb, hc⟩
  · exact absurd (hlt 0 hn) (by omega)
  · refine ⟨b, off, e, hb, fun j hj => ?_⟩
    have := hc (r * n + j) (hlt j hj)
    rw [← Nat.add_assoc] at this
    rw [this]
    show some (Value.int (kd ((r * n + j) % n)) (g ((r * n + j) / n) ((r * n + j) % n))) = _
    have e1 : (r * n + j) % n = j := by rw [Nat.mul_comm, Nat.mul_add_mod, Nat.mod_eq_of_lt hj]
    have e2 : (r * n + j) / n = r := by rw [Nat.mul_comm, Nat.mul_add_div hn, Nat.div_eq_of_lt hj]; rfl
    rw [e1, e2]
end Go.Kw

/-
  A zone that comes in, opened. Conditions stand at each theorem.
-/
namespace Go.Proofs.YtgbkedjjgbhcmaaDoor
open Go Go.RowKit Go.Kw Go.Kw.Cv Go.Joins Go.ChangeShapes Go.WideShapes Go.ChangeAt Go.Deep
set_option linter.unusedVariables false
set_option linter.unusedSimpArgs false

def kI : Nat → IntKind := fun _ => .i64
def zero_t43 : Value := .agg #[.int .i64 0, .slice none 0 0]
/-- A zone's rules, as they are read. -/
abbrev RdZ (W : World) (A : Option Addr) (lr cr : Nat) (g : Nat → Nat → Int) : Prop := IRows 11 kI W A lr cr g
set_option maxRecDepth 100000 in
theorem chg_cells {H : Type} {enc : TypeId × Value → H} {W : World} {fuel : Nat} {cs : List Value} {y : DataW H × List MemPlace} (h : DataW.trod enc Tryd.prog W 0 (fun _ => true) true fuel 132 cs = some y) : IntCells 4 kI cs := by
  refine struct_ints (fs := _) kI Tryd.underlying132 (by kernel_rfl) (by kernel_rfl) ?_ h
  intro j hj
  have : j = 0 ∨ j = 1 ∨ j = 2 ∨ j = 3 := by omega
  rcases this with rfl | rfl | rfl | rfl
  all_goals exact ⟨_, rfl, rfl, by kernel_rfl, Tryd.underlying3⟩
set_option maxRecDepth 100000 in
theorem rul_cells {H : Type} {enc : TypeId × Value → H} {W : World} {fuel : Nat} {cs : List Value} {y : DataW H × List MemPlace} (h : DataW.trod enc Tryd.prog W 0 (fun _ => true) true fuel 134 cs = some y) : IntCells 11 kI cs := by
  obtain ⟨xs, m, rfl, hx, hl, hxl, hall⟩ := DataW.trod_struct Tryd.underlying134 h
  rw [show Tryd.prog.cellsOf 134 = 11 by kernel_rfl] at hl
  have ki : Tryd.prog.cellsOf 3 = 1 := by kernel_rfl
  have kc : Tryd.prog.cellsOf 132 = 4 := by kernel_rfl
  obtain ⟨y0, hy0⟩ : ∃ y, xs[0]? = some y := ⟨_, List.getElem?_eq_getElem (by rw [hxl]; decide)⟩
  have t0 : DataW.trod enc Tryd.prog W 0 (fun _ => true) true m 3 (List.take (Tryd.prog.cellsOf 3) (List.drop 0 cs)) = some y0 := (hall 0 _ rfl).trans hy0
  rw [ki] at t0
  obtain ⟨y1, hy1⟩ : ∃ y, xs[1]? = some y := ⟨_, List.getElem?_eq_getElem (by rw [hxl]; decide)⟩
  have t1 : DataW.trod enc Tryd.prog W 0 (fun _ => true) true m 3 (List.take (Tryd.prog.cellsOf 3) (List.drop 1 cs)) = some y1 := (hall 1 _ rfl).trans hy1
  rw [ki] at t1
  obtain ⟨y2, hy2⟩ : ∃ y, xs[2]? = some y := ⟨_, List.getElem?_eq_getElem (by rw [hxl]; decide)⟩
  have t2 : DataW.trod enc Tryd.prog W 0 (fun _ => true) true m 132 (List.take (Tryd.prog.cellsOf 132) (List.drop 2 cs)) = some y2 := (hall 2 _ rfl).trans hy2
  rw [kc] at t2
  obtain ⟨y3, hy3⟩ : ∃ y, xs[3]? = some y := ⟨_, List.getElem?_eq_getElem (by rw [hxl]; decide)⟩
  have t3 : DataW.trod enc Tryd.prog W 0 (fun _ => true) true m 132 (List.take (Tryd.prog.cellsOf 132) (List.drop 6 cs)) = some y3 := (hall 3 _ rfl).trans hy3
  rw [kc] at t3
  obtain ⟨y4, hy4⟩ : ∃ y, xs[4]? = some y := ⟨_, List.getElem?_eq_getElem (by rw [hxl]; decide)⟩
  have t4 : DataW.trod enc Tryd.prog W 0 (fun _ => true) true m 3 (List.take (Tryd.prog.cellsOf 3) (List.drop 10 cs)) = some y4 := (hall 4 _ rfl).trans hy4
  rw [ki] at t4
  have one : ∀ (o : Nat) (ho : o < cs.length) (z : Int), (cs.drop o).take 1 = [Value.int .i64 z] → cs[o]? = some (.int .i64 z) := fun o ho z e => by
    have h0 : ((cs.drop o).take 1)[0]? = some (.int .i64 z) := by rw [e]; rfl
    rw [List.getElem?_take_of_lt (by omega), List.getElem?_drop] at h0
    exact h0
  obtain ⟨z0, e0, -, w0⟩ := DataW.trod_int Tryd.underlying3 t0
  obtain ⟨z1, e1, -, w1⟩ := DataW.trod_int Tryd.underlying3 t1
  obtain ⟨z10, e10, -, w10⟩ := DataW.trod_int Tryd.underlying3 t4
  obtain ⟨-, ga, ha⟩ := chg_cells t2
  obtain ⟨-, gb, hb⟩ := chg_cells t3
  refine ⟨hl, fun j => if j = 0 then z0 else if j = 1 then z1 else if j = 10 then z10 else if j < 6 then ga (j - 2) else gb (j - 6), fun j hj => ?_⟩
  have c0 := one 0 (by omega) z0 e0
  have c1 := one 1 (by omega) z1 e1
  have c10 := one 10 (by omega) z10 e10
  have ca : ∀ i, i < 4 → cs[2 + i]? = some (.int .i64 (ga i)) := fun i hi => by
    have := (ha i hi).1
    rw [List.getElem?_take_of_lt hi, List.getElem?_drop] at this
    exact this
  have cb : ∀ i, i < 4 → cs[6 + i]? = some (.int .i64 (gb i)) := fun i hi => by
    have := (hb i hi).1
    rw [List.getElem?_take_of_lt hi, List.getElem?_drop] at this
    exact this
  rcases (by omega : j = 0 ∨ j = 1 ∨ j = 2 ∨ j = 3 ∨ j = 4 ∨ j = 5 ∨ j = 6 ∨ j = 7 ∨ j = 8 ∨ j = 9 ∨ j = 10) with rfl | rfl | rfl | rfl | rfl | rfl | rfl | rfl | rfl | rfl | rfl
  · exact ⟨c0, w0⟩
  · exact ⟨c1, w1⟩
  · exact ⟨ca 0 (by omega), (ha 0 (by omega)).2⟩
  · exact ⟨ca 1 (by omega), (ha 1 (by omega)).2⟩
  · exact ⟨ca 2 (by omega), (ha 2 (by omega)).2⟩
  · exact ⟨ca 3 (by omega), (ha 3 (by omega)).2⟩
  · exact ⟨cb 0 (by omega), (hb 0 (by omega)).2⟩
  · exact ⟨cb 1 (by omega), (hb 1 (by omega)).2⟩
  · exact ⟨cb 2 (by omega), (hb 2 (by omega)).2⟩
  · exact ⟨cb 3 (by omega), (hb 3 (by omega)).2⟩
  · exact ⟨c10, w10⟩
set_option maxRecDepth 100000 in
theorem open_t43 {H : Type} {enc : TypeId × Value → H} {W : World} {base : Nat} {v : Value} {d : DataW H} {p : List MemPlace} (hv : Value.okWide Tryd.prog W .any base 43 v) (h : DataW.Trod enc Tryd.prog W 0 (fun _ => true) true 43 v d p) :
    ∃ x : Int × Option Addr × Nat × Nat × (Nat → Nat → Int), v = .agg #[.int .i64 x.1, .slice x.2.1 x.2.2.1 x.2.2.2.1] ∧ RdZ W x.2.1 x.2.2.1 x.2.2.2.1 x.2.2.2.2 ∧ (Lit.int .i64 x.1).wf = true := by
  obtain ⟨c0, c1, y0, y1, m, rfl, rfl, rfl, hy0, hy1⟩ := open_agg2 Tryd.underlying43 (by kernel_rfl) (show Tryd.prog.cellsOf 43 = 2 by kernel_rfl) hv h
  obtain ⟨o, e0, -, w0⟩ := DataW.trod_int Tryd.underlying3 hy0
  obtain ⟨A, lr, cr, g, e1, r1⟩ := open_irows (by omega) Tryd.underlying41 (show Tryd.prog.cellsOf 134 = 11 by kernel_rfl) (fun _ _ _ h => rul_cells h) hy1
  simp at e0 e1
  subst e0 e1
  exact ⟨(o, A, lr, cr, g), rfl, r1, w0⟩
end Go.Proofs.YtgbkedjjgbhcmaaDoor

/-
  Plans of bands, and tables of them, in plain numbers; no program in sight. Conditions stand at each theorem.
-/
namespace Go.Kw
open Go
set_option linter.unusedVariables false
set_option linter.unusedSimpArgs false

/-- Entry i of a plan: minute g i 0, band g i 1. -/
def swOk (g : Nat → Nat → Int) (i : Nat) : Prop := 0 ≤ g i 1 ∧ g i 1 ≤ 7 ∧ g i 0 < 1440 ∧ (0 < i → g (i - 1) 0 < g i 0)
instance (g : Nat → Nat → Int) (i : Nat) : Decidable (swOk g i) := by unfold swOk; infer_instance
def planOk (n : Nat) (g : Nat → Nat → Int) : Prop := (1 ≤ n ∧ n ≤ 48 ∧ g 0 0 = 0) ∧ ∀ i, i < n → swOk g i
noncomputable instance (n : Nat) (g : Nat → Nat → Int) : Decidable (planOk n g) := Classical.propDecidable _
noncomputable def planE (n : Nat) (g : Nat → Nat → Int) : Int := if planOk n g then 0 else 90
/-- The first k entries: the place of the last whose minute is not above m. -/
def swAt (g : Nat → Nat → Int) (m : Int) : Nat → Nat
  | 0 => 0
  | k + 1 => if g k 0 ≤ m then k else swAt g m k
theorem plan_mono {n : Nat} {g : Nat → Nat → Int} (h : planOk n g) : ∀ (k i : Nat), i + k < n → g i 0 + k ≤ g (i + k) 0
  | 0, i, _ => by simp
  | k + 1, i, hi => by
    have h1 := plan_mono h k i (by omega)
    have h2 := (h.2 (i + k + 1) (by omega)).2.2.2 (by omega)
    rw [show i + k + 1 - 1 = i + k by omega] at h2
    rw [show i + (k + 1) = i + k + 1 by omega]
    push_cast; omega
theorem plan_lt {n : Nat} {g : Nat → Nat → Int} (h : planOk n g) {i j : Nat} (hij : i < j) (hj : j < n) : g i 0 < g j 0 := by
  have := plan_mono h (j - i) i (by omega)
  rw [show i + (j - i) = j by omega] at this
  omega
theorem plan_lo {n : Nat} {g : Nat → Nat → Int} (h : planOk n g) {i : Nat} (hi : i < n) : 0 ≤ g i 0 := by
  rcases Nat.eq_zero_or_pos i with h0 | h0
  · rw [h0, h.1.2.2]; omega
  · have := plan_lt h h0 hi; rw [h.1.2.2] at this; omega
/-- The end of entry i. -/
def swEnd (n : Nat) (g : Nat → Nat → Int) (i : Nat) : Int := if i + 1 < n then g (i + 1) 0 else 1440
theorem swAt_spec (g : Nat → Nat → Int) (m : Int) : ∀ k, (∃ i, i < k ∧ g i 0 ≤ m) → swAt g m k < k ∧ g (swAt g m k) 0 ≤ m ∧ ∀ j, swAt g m k < j → j < k → m < g j 0
  | 0, ⟨i, h, _⟩ => absurd h (Nat.not_lt_zero _)
  | k + 1, ⟨i, h1, h2⟩ => by
    unfold swAt
    split
    · rename_i h; exact ⟨by omega, h, fun j h3 h4 => by omega⟩
    · rename_i h
      have hne : i ≠ k := fun e => h (e ▸ h2)
      obtain ⟨s1, s2, s3⟩ := swAt_spec g m k ⟨i, by omega, h2⟩
      refine ⟨by omega, s2, fun j h3 h4 => ?_⟩
      by_cases e : j = k
      · rw [e]; omega
      · exact s3 j h3 (by omega)
/-- Of a plan that may be: the first entry whose end is above m is the last that does not begin above m. -/
theorem swAt_first {n : Nat} {g : Nat → Nat → Int} (h : planOk n g) {m : Int} (hm : 0 ≤ m ∧ m < 1440) {k : Nat} (hk : k < n) (h1 : m < swEnd n g k) (h2 : ∀ j, j < k → swEnd n g j ≤ m) : swAt g m n = k := by
  have hex : ∃ i, i < n ∧ g i 0 ≤ m := ⟨0, by omega, by rw [h.1.2.2]; omega⟩
  obtain ⟨s1, s2, s3⟩ := swAt_spec g m n hex
  have hgk : g k 0 ≤ m := by
    rcases Nat.eq_zero_or_pos k with h0 | h0
    · rw [h0, h.1.2.2]; omega
    · have := h2 (k - 1) (by omega)
      unfold swEnd at this
      rw [if_pos (by omega), show k - 1 + 1 = k by omega] at this
      exact this
  rcases Nat.lt_trichotomy (swAt g m n) k with h3 | h3 | h3
  · have := s3 k h3 hk; omega
  · exact h3
  · have h4 : m < g (swAt g m n) 0 := by
      unfold swEnd at h1
      rw [if_pos (by omega)] at h1
      rcases Nat.lt_or_ge (k + 1) (swAt g m n) with h5 | h5
      · have := plan_lt h h5 s1; omega
      · rw [show swAt g m n = k + 1 by omega]; exact h1
    omega
def bandV (n : Nat) (g : Nat → Nat → Int) (m : Int) : Int := g (swAt g m n) 1
/-- Rule i of a table: season, kind, plan. -/
def brOk (np : Nat) (r : Nat → Nat → Int) (i : Nat) : Prop := 0 ≤ r i 0 ∧ r i 0 ≤ 99 ∧ 0 ≤ r i 1 ∧ r i 1 ≤ 4 ∧ 0 ≤ r i 2 ∧ r i 2 < np
instance (np : Nat) (r : Nat → Nat → Int) (i : Nat) : Decidable (brOk np r i) := by unfold brOk; infer_instance
def tabOk (np : Nat) (pl : Nat → Nat) (gp : Nat → Nat → Nat → Int) (nr : Nat) (r : Nat → Nat → Int) : Prop := (1 ≤ np ∧ np ≤ 50 ∧ nr ≤ 100) ∧ (∀ i, i < nr → brOk np r i) ∧ ∀ i, i < np → planOk (pl i) (gp i)
noncomputable instance (np : Nat) (pl : Nat → Nat) (gp : Nat → Nat → Nat → Int) (nr : Nat) (r : Nat → Nat → Int) : Decidable (tabOk np pl gp nr r) := Classical.propDecidable _
noncomputable def tabE (np : Nat) (pl : Nat → Nat) (gp : Nat → Nat → Nat → Int) (nr : Nat) (r : Nat → Nat → Int) : Int := if tabOk np pl gp nr r then 0 else 90
/-- Does rule i meet a season and a kind? -/
def brIs (r : Nat → Nat → Int) (s k : Int) (i : Nat) : Bool := (decide (r i 0 = 0) || decide (r i 0 = s)) && (decide (r i 1 = 0) || decide (r i 1 = k))
/-- The first of n places at which P says yes; n: none. -/
def fstI (P : Nat → Bool) : Nat → Nat
  | 0 => 0
  | n + 1 => if fstI P n < n then fstI P n else if P n = true then n else n + 1
theorem fstI_le (P : Nat → Bool) : ∀ n, fstI P n ≤ n
  | 0 => Nat.le_refl _
  | n + 1 => by
    have := fstI_le P n
    unfold fstI
    split
    · omega
    · split <;> omega
theorem fstI_spec (P : Nat → Bool) : ∀ n, (fstI P n < n → P (fstI P n) = true) ∧ ∀ i, i < fstI P n → i < n → P i = false
  | 0 => ⟨fun h => absurd h (Nat.not_lt_zero _), fun i _ h => absurd h (Nat.not_lt_zero _)⟩
  | n + 1 => by
    obtain ⟨h1, h2⟩ := fstI_spec P n
    have hle := fstI_le P n
    by_cases hc : fstI P n < n
    · have e : fstI P (n + 1) = fstI P n := by rw [fstI, if_pos hc]
      rw [e]
      exact ⟨fun _ => h1 hc, fun i hi _ => h2 i hi (by omega)⟩
    · have e0 : fstI P n = n := by omega
      by_cases hk : P n = true
      · have e : fstI P (n + 1) = n := by rw [fstI, if_neg hc, if_pos hk]
        rw [e]
        exact ⟨fun _ => hk, fun i hi _ => h2 i (by omega) hi⟩
      · have e : fstI P (n + 1) = n + 1 := by rw [fstI, if_neg hc, if_neg hk]
        rw [e]
        refine ⟨fun h => absurd h (Nat.lt_irrefl _), fun i hi _ => ?_⟩
        by_cases hik : i = n
        · rw [hik]; exact Bool.eq_false_iff.2 hk
        · exact h2 i (by omega) (by omega)
theorem fstI_unique (P : Nat → Bool) (n j : Nat) (hj : j ≤ n) (h1 : j < n → P j = true) (h2 : ∀ i, i < j → P i = false) : fstI P n = j := by
  obtain ⟨s1, s2⟩ := fstI_spec P n
  have hle := fstI_le P n
  rcases Nat.lt_trichotomy (fstI P n) j with h | h | h
  · have a := s1 (by omega)
    rw [h2 _ h] at a; cases a
  · exact h
  · have a := s2 j h (by omega)
    rw [h1 (by omega)] at a; cases a
theorem fst_step {P : Nat → Bool} {k : Nat} (h : P k = false) (hA : ∀ j, j < k → P j = false) : ∀ j, j < k + 1 → P j = false := fun j hj => by
  by_cases e : j = k
  · rw [e]; exact h
  · exact hA j (by omega)
/-- Its place as IndexFunc says it; whether there is one, as ContainsFunc. -/
def idxI (P : Nat → Bool) (n : Nat) : Int := if fstI P n < n then (fstI P n : Int) else -1
def anyI (P : Nat → Bool) (n : Nat) : Bool := decide (fstI P n < n)
theorem anyI_iff (P : Nat → Bool) (n : Nat) : anyI P n = true ↔ ∃ i, i < n ∧ P i = true := by
  unfold anyI
  rw [decide_eq_true_eq]
  obtain ⟨s1, s2⟩ := fstI_spec P n
  constructor
  · intro h; exact ⟨_, h, s1 h⟩
  · rintro ⟨i, hi, hp⟩
    have hle := fstI_le P n
    rcases Nat.lt_or_ge (fstI P n) n with h | h
    · exact h
    · have := s2 i (by omega) hi
      rw [hp] at this; cases this
theorem idxI_any (P : Nat → Bool) (n : Nat) : decide (idxI P n ≥ 0) = anyI P n := by
  unfold idxI anyI
  by_cases h : fstI P n < n
  · rw [if_pos h, decide_eq_true h, decide_eq_true (by omega)]
  · rw [if_neg h, decide_eq_false h]; rfl
def planV (r : Nat → Nat → Int) (nr : Nat) (s k : Int) : Int := if fstI (brIs r s k) nr < nr then r (fstI (brIs r s k) nr) 2 else 0
theorem planV_in {np : Nat} {pl : Nat → Nat} {gp : Nat → Nat → Nat → Int} {nr : Nat} {r : Nat → Nat → Int} (h : tabOk np pl gp nr r) (s k : Int) : 0 ≤ planV r nr s k ∧ planV r nr s k < np := by
  unfold planV
  split
  · rename_i hi
    have := h.2.1 _ hi
    exact ⟨this.2.2.2.2.1, this.2.2.2.2.2⟩
  · have := h.1.1; omega
/-- Version i of rates: from, and its len i prices. -/
def ver1 (f : Int) (n : Nat) (p : Nat → Int) : Prop := (0 ≤ f ∧ f < 253402300800 ∧ 1 ≤ n ∧ n ≤ 16) ∧ ∀ j, j < n → 0 ≤ p j ∧ p j ≤ 1073741824
noncomputable instance (f : Int) (n : Nat) (p : Nat → Int) : Decidable (ver1 f n p) := Classical.propDecidable _
def verOk (f : Nat → Int) (ln : Nat → Nat) (p : Nat → Nat → Int) (i : Nat) : Prop := ver1 (f i) (ln i) (p i)
def prNo (p : Int) : Bool := decide (p < 0) || decide (p > 1073741824)
theorem prNo_iff (p : Int) : prNo p = false ↔ 0 ≤ p ∧ p ≤ 1073741824 := by unfold prNo; simp
theorem prs_ok (n : Nat) (p : Nat → Int) : anyI (fun k => prNo (p k)) n = false ↔ ∀ j, j < n → 0 ≤ p j ∧ p j ≤ 1073741824 := by
  rw [← Bool.not_eq_true, anyI_iff]
  constructor
  · intro h j hj
    rw [← prNo_iff]
    exact Bool.eq_false_iff.2 (fun q => h ⟨j, hj, q⟩)
  · rintro h ⟨j, hj, q⟩
    rw [(prNo_iff _).2 (h j hj)] at q; cases q
def goB (f : Nat → Int) (ln : Nat → Nat) (i : Nat) : Prop := 0 < i → f (i - 1) < f i ∧ ln i = ln (i - 1)
instance (f : Nat → Int) (ln : Nat → Nat) (i : Nat) : Decidable (goB f ln i) := by unfold goB; infer_instance
def ratOk (nv : Nat) (f : Nat → Int) (ln : Nat → Nat) (p : Nat → Nat → Int) : Prop := nv ≤ 200 ∧ ∀ i, i < nv → verOk f ln p i ∧ goB f ln i
noncomputable instance (nv : Nat) (f : Nat → Int) (ln : Nat → Nat) (p : Nat → Nat → Int) : Decidable (ratOk nv f ln p) := Classical.propDecidable _
noncomputable def ratE (nv : Nat) (f : Nat → Int) (ln : Nat → Nat) (p : Nat → Nat → Int) : Int := if ratOk nv f ln p then 0 else 100
/-- How many of the first n begin at t or ahead of it (they stand in order). -/
def verN (f : Nat → Int) (t : Int) : Nat → Nat
  | 0 => 0
  | n + 1 => if f n ≤ t then n + 1 else verN f t n
theorem rat_lt {nv : Nat} {f : Nat → Int} {ln : Nat → Nat} {p : Nat → Nat → Int} (h : ratOk nv f ln p) : ∀ (k i : Nat), i + k + 1 < nv → f i < f (i + k + 1)
  | 0, i, hi => by
    have := ((h.2 (i + 1) (by omega)).2 (by omega)).1
    rw [show i + 1 - 1 = i by omega] at this
    exact this
  | k + 1, i, hi => by
    have h1 := rat_lt h k i (by omega)
    have h2 := ((h.2 (i + (k + 1) + 1) (by omega)).2 (by omega)).1
    rw [show i + (k + 1) + 1 - 1 = i + k + 1 by omega] at h2
    omega
theorem rat_sorted {nv : Nat} {f : Nat → Int} {ln : Nat → Nat} {p : Nat → Nat → Int} (h : ratOk nv f ln p) {i j : Nat} (hij : i < j) (hj : j < nv) : f i < f j := by
  have := rat_lt h (j - i - 1) i (by omega)
  rw [show i + (j - i - 1) + 1 = j by omega] at this
  exact this
theorem verN_le (f : Nat → Int) (t : Int) : ∀ n, verN f t n ≤ n
  | 0 => Nat.le_refl _
  | n + 1 => by
    have := verN_le f t n
    unfold verN
    split <;> omega
theorem verN_hi (f : Nat → Int) (t : Int) : ∀ n j, verN f t n ≤ j → j < n → t < f j
  | 0, j, _, h => absurd h (Nat.not_lt_zero _)
  | n + 1, j, h1, h2 => by
    unfold verN at h1
    split at h1
    · omega
    · by_cases e : j = n
      · rw [e]; omega
      · exact verN_hi f t n j h1 (by omega)
theorem verN_at (f : Nat → Int) (t : Int) : ∀ n, 0 < verN f t n → f (verN f t n - 1) ≤ t
  | 0, h => absurd h (Nat.not_lt_zero _)
  | n + 1, h => by
    unfold verN at h ⊢
    split
    · rename_i h1; simpa using h1
    · rename_i h1
      rw [if_neg h1] at h
      exact verN_at f t n h
/-- Whatever number parts the versions is this one. -/
theorem verN_unique {nv : Nat} {f : Nat → Int} {ln : Nat → Nat} {p : Nat → Nat → Int} (h : ratOk nv f ln p) (t : Int) (k : Nat) (hk : k ≤ nv) (h1 : ∀ i, i < k → f i ≤ t) (h2 : ∀ i, k ≤ i → i < nv → t < f i) : verN f t nv = k := by
  have hle := verN_le f t nv
  rcases Nat.lt_trichotomy (verN f t nv) k with h3 | h3 | h3
  · have := verN_hi f t nv (verN f t nv) (Nat.le_refl _) (by omega)
    have := h1 _ h3
    omega
  · exact h3
  · have h4 := verN_at f t nv (by omega)
    have h5 := h2 (verN f t nv - 1) (by omega) (by omega)
    omega
theorem verN_lo {nv : Nat} {f : Nat → Int} {ln : Nat → Nat} {p : Nat → Nat → Int} (h : ratOk nv f ln p) (t : Int) {i : Nat} (hi : i < verN f t nv) : f i ≤ t := by
  have h4 := verN_at f t nv (by omega)
  have hle := verN_le f t nv
  by_cases e : i = verN f t nv - 1
  · rw [e]; exact h4
  · have := rat_sorted h (show i < verN f t nv - 1 by omega) (by omega); omega
end Go.Kw

/-
  What is read of a tariff's bands and prices: slices of slices of integers, slices of an integer beside a slice. Conditions stand at each theorem.
-/
namespace Go.Proofs.YtgbkedjjgbhcmaaDoor
open Go Go.RowKit Go.Kw Go.Kw.Cv Go.Joins Go.ChangeShapes Go.WideShapes Go.ChangeAt Go.Deep
set_option linter.unusedVariables false
set_option linter.unusedSimpArgs false

/-- A slice's address, length, capacity. -/
abbrev SlX : Type := Option Addr × Nat × Nat
def slV (x : SlX) : Value := .slice x.1 x.2.1 x.2.2
/-- Plans. -/
def RdPl (W : World) (A : Option Addr) (np cp : Nat) (F : Nat → SlX) (g : Nat → Nat → Nat → Int) : Prop :=
  np ≤ cp ∧ cp ≤ maxLen ∧ (A = none → np = 0) ∧ Rd W W.heap.size A np (fun i => slV (F i)) ∧ ∀ i, i < np → IRows 2 kI W (F i).1 (F i).2.1 (F i).2.2 (g i)
theorem RdPl.go {W W' : World} {A : Option Addr} {np cp : Nat} {F : Nat → SlX} {g : Nat → Nat → Nat → Int} (h : RdPl W A np cp F g) (hb : Below W.heap.size W W') : RdPl W' A np cp F g :=
  ⟨h.1, h.2.1, h.2.2.1, h.2.2.2.1.go hb, fun i hi => (h.2.2.2.2 i hi).go hb⟩
/-- Versions: from, and a slice of prices. -/
def RdRt (W : World) (A : Option Addr) (nv cv : Nat) (f : Nat → Int) (F : Nat → SlX) (p : Nat → Nat → Int) : Prop :=
  nv ≤ cv ∧ cv ≤ maxLen ∧ (A = none → nv = 0) ∧ Rd W W.heap.size A (nv * 2) (fun i => if i % 2 = 0 then .int .i64 (f (i / 2)) else slV (F (i / 2))) ∧ ∀ i, i < nv → IRows 1 kI W (F i).1 (F i).2.1 (F i).2.2 (fun j _ => p i j)
theorem RdRt.go {W W' : World} {A : Option Addr} {nv cv : Nat} {f : Nat → Int} {F : Nat → SlX} {p : Nat → Nat → Int} (h : RdRt W A nv cv f F p) (hb : Below W.heap.size W W') : RdRt W' A nv cv f F p :=
  ⟨h.1, h.2.1, h.2.2.1, h.2.2.2.1.go hb, fun i hi => (h.2.2.2.2 i hi).go hb⟩
theorem RdRt.at_ {W : World} {A : Option Addr} {nv cv : Nat} {f : Nat → Int} {F : Nat → SlX} {p : Nat → Nat → Int} (h : RdRt W A nv cv f F p) {r : Nat} (hr : r < nv) :
    ∃ b off, A = some ⟨b, off, none⟩ ∧ b < W.heap.size ∧ W.cell? ⟨b, off + r * 2, none⟩ = some (.int .i64 (f r)) ∧ W.cell? ⟨b, off + r * 2 + 1, none⟩ = some (slV (F r)) := by
  rcases h.2.2.2.1 with h0 | ⟨b, off, e, hb, hc⟩
  · omega
  · refine ⟨b, off, e, hb, ?_, ?_⟩
    · have := hc (r * 2) (by omega)
      rw [this]
      show some (if r * 2 % 2 = 0 then _ else _) = _
      rw [if_pos (by omega), show r * 2 / 2 = r by omega]
    · have := hc (r * 2 + 1) (by omega)
      rw [← Nat.add_assoc] at this
      rw [this]
      show some (if (r * 2 + 1) % 2 = 0 then _ else _) = _
      rw [if_neg (by omega), show (r * 2 + 1) / 2 = r by omega]
/-- One price. -/
theorem prices_at {W : World} {x : SlX} {p : Nat → Int} (h : IRows 1 kI W x.1 x.2.1 x.2.2 (fun j _ => p j)) {j : Nat} (hj : j < x.2.1) :
    ∃ b off, x.1 = some ⟨b, off, none⟩ ∧ b < W.heap.size ∧ W.cell? ⟨b, off + j, none⟩ = some (.int .i64 (p j)) := by
  obtain ⟨b, off, e, hb, hc⟩ := h.at_ (by omega) hj
  have := hc 0 (by omega)
  rw [Nat.mul_one, Nat.add_zero] at this
  exact ⟨b, off, e, hb, this⟩
end Go.Proofs.YtgbkedjjgbhcmaaDoor
