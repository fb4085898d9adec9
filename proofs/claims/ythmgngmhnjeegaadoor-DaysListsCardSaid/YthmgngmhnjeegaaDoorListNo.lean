/-
  A year's holidays of a calendar or a year that may not be: days.List, walked; what the law DaysLists asks, in plain numbers. Conditions stand at each theorem.
-/
import Derived.Test.YthmgngmhnjeegaaDoorList
import Derived.Test.YthmgngmhnjeegaaDoorDaysKinds
namespace Go.Proofs.YthmgngmhnjeegaaDoor
open Go Go.RowKit Go.Kw Go.Kw.Cv Go.Shelf
set_option linter.unusedVariables false
set_option linter.unusedSimpArgs false

set_option maxRecDepth 100000 in
set_option maxHeartbeats 8000000 in
theorem list_nocal (A : Option Addr) (la ca : Nat) (gh : Nat → Nat → Int) (B : Option Addr) (lb cb : Nat) (gs : Nat → Nat → Int) (y : Int) (hcal : ¬ calOk la gh lb gs) (w : World) (hR : RdCal w A la ca gh B lb cb gs) (hL : Lens w) :
    Calls Tryd.prog 27 #[calC A la ca B lb cb, .int .i64 y] w fun e w' => e = .returned (.tuple #[.slice none 0 0, .int .i64 80]) ∧ Below w.heap.size w w' := by
  have hF := wide_fn
  have hst1 := bstep w (.cells #[.slice A la ca, .slice B lb cb] 35)
  have hst2 := bstep (w.alloc (.cells #[.slice A la ca, .slice B lb cb] 35)) (.cells #[.int .i64 y] 3)
  have hst := bnext hst1 hst2
  have hM := daysCheck_calls A la ca gh B lb cb gs _ (hR.go hst) (hL.go hst)
  rw [show calE la gh lb gs = 80 from if_neg hcal] at hM
  unfold calC at hM ⊢
  have HM := Lib.hid hM
  have HX := Lib.hid hst
  clear hM hst1 hst2 hst hR hL hcal
  refine calls_of_marks Tryd.func27 rfl ?_
  simp only [Tryd.ntmps27, List.size_toArray, List.length_cons, List.length_nil, Nat.reduceAdd, Nat.reduceSub, Array.replicate_succ, Array.replicate_zero, List.push_toArray, List.append_toArray, List.nil_append, List.cons_append]
  gi_wp2_with (first | (refine wpIn_scope ?_) | (refine wpIn_label ?_))
  refine (callsIn_wide.2 HM.out).mono ?_
  rintro e w3 ⟨rfl, hb3⟩
  have hbw := bnext HX.out hb3
  clear hb3
  gi_wp2
  try rw [Exit.noGoto_ret]
  refine ⟨_, results_tmp2 rfl _ _ _, rfl, ?_⟩
  exact hbw
set_option maxRecDepth 100000 in
set_option maxHeartbeats 8000000 in
theorem list_noyear (A : Option Addr) (la ca : Nat) (gh : Nat → Nat → Int) (B : Option Addr) (lb cb : Nat) (gs : Nat → Nat → Int) (y : Int) (hcal : calOk la gh lb gs) (hy : ¬ (1970 ≤ y ∧ y ≤ 9999)) (w : World) (hR : RdCal w A la ca gh B lb cb gs) (hL : Lens w) :
    Calls Tryd.prog 27 #[calC A la ca B lb cb, .int .i64 y] w fun e w' => e = .returned (.tuple #[.slice none 0 0, .int .i64 60]) ∧ Below w.heap.size w w' := by
  have hF := wide_fn
  obtain ⟨b0, hb0⟩ : ∃ b0, w.heap.size = b0 := ⟨_, rfl⟩
  have hst1 := bstep w (.cells #[.slice A la ca, .slice B lb cb] 35)
  have hst2 := bstep (w.alloc (.cells #[.slice A la ca, .slice B lb cb] 35)) (.cells #[.int .i64 y] 3)
  have hst := bnext hst1 hst2
  have hr1 := World.alloc_heap_new (w.alloc (.cells #[.slice A la ca, .slice B lb cb] 35)) (.cells #[.int .i64 y] 3)
  have hs1 : (w.alloc (.cells #[.slice A la ca, .slice B lb cb] 35)).heap.size = b0 + 1 := by simp [hb0]
  rw [hs1] at hr1
  have hM := daysCheck_calls A la ca gh B lb cb gs _ (hR.go hst) (hL.go hst)
  rw [show calE la gh lb gs = 0 from if_pos hcal] at hM
  have hI := in_calls y 1970 9999
  rw [show (decide (1970 ≤ y) && decide (y ≤ 9999)) = false by
    by_cases h1 : 1970 ≤ y
    · rw [decide_eq_true h1, decide_eq_false (fun h => hy ⟨h1, h⟩)]; rfl
    · rw [decide_eq_false h1]; rfl] at hI
  replace hI := Lib.hid hI
  unfold calC at hM ⊢
  have HM := Lib.hid hM
  have HX := Lib.hid (And.intro hst hr1)
  clear hM hst1 hst2 hst hr1 hs1 hR hL hcal hy
  refine calls_of_marks Tryd.func27 rfl ?_
  simp only [Tryd.ntmps27, List.size_toArray, List.length_cons, List.length_nil, Nat.reduceAdd, Nat.reduceSub, Array.replicate_succ, Array.replicate_zero, List.push_toArray, List.append_toArray, List.nil_append, List.cons_append]
  gi_wp2_with (first | (refine wpIn_scope ?_) | (refine wpIn_label ?_))
  refine (callsIn_wide.2 HM.out).mono ?_
  rintro e w3 ⟨rfl, hb3⟩
  have hr1 := blk_below HX.out.2 hb3
  have hbw := bnext HX.out.1 hb3
  have cy := cell_of_row _ (b0 + 1) 0 _ _ _ hr1
  clear hb3
  gi_wp2
  refine (callsIn_wide.2 (hI.out _)).mono ?_
  rintro e w4 ⟨rfl, e4⟩
  rw [e4]
  clear e4 w4
  gi_wp2
  try rw [Exit.noGoto_ret]
  refine ⟨_, results_tmp2 rfl _ _ _, rfl, ?_⟩
  exact hbw
/-- The year's first day and its last. -/
theorem first_day (y : Int) (hy : 1970 ≤ y ∧ y ≤ 9999) : okD y 1 1 ∧ dayN y 1 1 = ahd y := by
  refine ⟨ok_one ⟨hy.1, hy.2, by omega, by omega⟩, ?_⟩
  unfold dayN; rw [mst_1]; omega
theorem last_day (y : Int) (hy : 1970 ≤ y ∧ y ≤ 9999) : okD y 12 31 ∧ dayN y 12 31 = ahd (y + 1) - 1 := by
  have h1 : dim y 12 = 31 := rfl
  have h2 := mst_12 y
  have h3 := ahd_step y
  refine ⟨⟨hy.1, hy.2, by omega, by rw [h1]; omega⟩, ?_⟩
  unfold dayN; omega
end Go.Proofs.YthmgngmhnjeegaaDoor
