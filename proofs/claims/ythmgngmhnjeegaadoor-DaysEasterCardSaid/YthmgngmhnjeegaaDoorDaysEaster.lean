/-
  DaysEaster: the walk of the law. Conditions stand at each theorem.
-/
import Derived.Test.YthmgngmhnjeegaaDoorAlive
namespace Go.Proofs.YthmgngmhnjeegaaDoor
open Go Go.RowKit Go.Kw Go.Kw.Cv
set_option linter.unusedVariables false
set_option linter.unusedSimpArgs false

set_option maxRecDepth 100000 in
set_option maxHeartbeats 8000000 in
theorem daysEaster_walk (y : Int) (w : World) (hy0 : (Lit.int .i64 y).wf = true) (hL : Lens w) :
    Calls Tryd.prog 3 #[.int .i64 y] w fun e w' => e = .returned (.bool true) ∧ Below w.heap.size w w' := by
  have HA := Lib.hid (alive_calls w hL)
  have HL := Lib.hid hL
  clear hL hy0
  by_cases hy : 1970 ≤ y ∧ y ≤ 9999
  · have k1 : decide (y < 1970) = false := decide_eq_false (by omega)
    have k2 : decide (y > 9999) = false := decide_eq_false (by omega)
    have hok := eas_ok hy
    have hin := eas_in hy
    have hsun := eas_sun hy
    have HE := easter_calls y hy
    have HD := day_calls y (easM y) (easD y)
    rw [show dayE y (easM y) (easD y) = dayN y (easM y) (easD y) from if_pos hok, chk_ok hok] at HD
    have HW := weekday_calls (dayN y (easM y) (easD y))
    rw [hsun] at HW
    obtain ⟨m, hm⟩ : ∃ m, easM y = m := ⟨_, rfl⟩
    obtain ⟨d, hd⟩ : ∃ d, easD y = d := ⟨_, rfl⟩
    obtain ⟨N, hN⟩ : ∃ N, dayN y (easM y) (easD y) = N := ⟨_, rfl⟩
    rw [hN] at HW HD
    rw [hm, hd] at HE HD hin
    replace HE := Lib.hid HE
    replace HD := Lib.hid HD
    replace HW := Lib.hid HW
    clear hok hsun hm hd hN hy
    rcases hin with ⟨rfl, h⟩ | ⟨rfl, h⟩
    · have k3 : decide (d ≥ 22) = true := decide_eq_true h
      clear h
      go_enter Tryd.func3, Tryd.ntmps3
      go_wp2_with fail
      refine HA.out.mono ?_
      rintro e w1 ⟨rfl, hb1⟩
      have hL1 := HL.out.go hb1
      go_wp2_with fail
      refine (HE.out _).mono ?_
      rintro e w2 ⟨rfl, hb2⟩
      have t1 := bstep w2 (.cells #[.int .i64 y, .int .i64 3, .int .i64 d] 24)
      have r2 := World.alloc_heap_new w2 (.cells #[.int .i64 y, .int .i64 3, .int .i64 d] 24)
      have hL3 := (hL1.go hb2).go t1
      have hb3 := bnext (bnext hb1 hb2) t1
      clear hL1 hb1 hb2 t1
      go_wp2_with fail
      refine (HD.out _ hL3).mono ?_
      rintro e w4 ⟨rfl, hb4⟩
      have r4 := blk_below r2 hb4
      have c0 := cell_of_row _ _ 0 _ _ _ r4
      have c1 := cell_of_row _ _ 1 _ _ _ r4
      have c2 := cell_of_row _ _ 2 _ _ _ r4
      have hb5 := bnext hb3 hb4
      clear r2 hL3 hb3 hb4 r4
      go_wp2_with fail
      refine (HW.out _).mono ?_
      rintro e w5 ⟨rfl, rfl⟩
      go_wp2_with fail
      go_ret
      exact ⟨rfl, hb5⟩
    · have k3 : decide (d ≤ 25) = true := decide_eq_true h
      clear h
      go_enter Tryd.func3, Tryd.ntmps3
      go_wp2_with fail
      refine HA.out.mono ?_
      rintro e w1 ⟨rfl, hb1⟩
      have hL1 := HL.out.go hb1
      go_wp2_with fail
      refine (HE.out _).mono ?_
      rintro e w2 ⟨rfl, hb2⟩
      have t1 := bstep w2 (.cells #[.int .i64 y, .int .i64 4, .int .i64 d] 24)
      have r2 := World.alloc_heap_new w2 (.cells #[.int .i64 y, .int .i64 4, .int .i64 d] 24)
      have hL3 := (hL1.go hb2).go t1
      have hb3 := bnext (bnext hb1 hb2) t1
      clear hL1 hb1 hb2 t1
      go_wp2_with fail
      refine (HD.out _ hL3).mono ?_
      rintro e w4 ⟨rfl, hb4⟩
      have r4 := blk_below r2 hb4
      have c0 := cell_of_row _ _ 0 _ _ _ r4
      have c1 := cell_of_row _ _ 1 _ _ _ r4
      have c2 := cell_of_row _ _ 2 _ _ _ r4
      have hb5 := bnext hb3 hb4
      clear r2 hL3 hb3 hb4 r4
      go_wp2_with fail
      refine (HW.out _).mono ?_
      rintro e w5 ⟨rfl, rfl⟩
      go_wp2_with fail
      go_ret
      exact ⟨rfl, hb5⟩
  · have HE := Lib.hid (easter_bad y hy)
    have Hy := Lib.hid hy
    clear hy
    go_enter Tryd.func3, Tryd.ntmps3
    go_wp2_with fail
    refine HA.out.mono ?_
    rintro e w1 ⟨rfl, hb1⟩
    go_wp2_with fail
    refine (HE.out _).mono ?_
    rintro e w2 ⟨rfl, hb2⟩
    have hb3 := bnext (bnext hb1 hb2) (bstep w2 (.cells #[.int .i64 0, .int .i64 0, .int .i64 0] 24))
    clear hb1 hb2
    by_cases h1 : y < 1970
    · have k1 : decide (y < 1970) = true := decide_eq_true h1
      clear h1
      go_wp2_with fail
      go_ret
      exact ⟨rfl, hb3⟩
    · have k1 : decide (y < 1970) = false := decide_eq_false h1
      have k2 : decide (y > 9999) = true := decide_eq_true (by have := Hy.out; omega)
      clear h1
      go_wp2_with fail
      go_ret
      exact ⟨rfl, hb3⟩
end Go.Proofs.YthmgngmhnjeegaaDoor
