/-
  The instants of a local time that may not be, or of a zone that may not be: zone.Instants, walked. Conditions stand at each theorem.
-/
import Derived.Test.YtoipmhmghcngcaaDoorInsts
namespace Go.Proofs.YtoipmhmghcngcaaDoor
open Go Go.RowKit Go.Kw Go.Kw.Cv Go.Shelf
attribute [local go_sem] Oper.semAt_some
set_option linter.unusedVariables false
set_option linter.unusedSimpArgs false

set_option maxRecDepth 100000 in
set_option maxHeartbeats 8000000 in
theorem insts_nozone (o : Int) (A : Option Addr) (lr cr : Nat) (g : Nat → Nat → Int) (y m d h i s : Int) (hok : ¬ zonOk o lr g) (w : World) (hR : RdZ w A lr cr g) :
    Calls Tryd.prog 20 #[zonC o A lr cr, .agg #[.int .i64 y, .int .i64 m, .int .i64 d, .int .i64 h, .int .i64 i, .int .i64 s]] w fun e w' => e = .returned (.tuple #[.slice none 0 0, .int .i64 70]) ∧ Below w.heap.size w w' := by
  have hF := wide_fn
  have hst1 := bstep w (.cells #[.int .i64 o, .slice A lr cr] 24)
  have hst2 := bstep (w.alloc (.cells #[.int .i64 o, .slice A lr cr] 24)) (.cells #[.int .i64 y, .int .i64 m, .int .i64 d, .int .i64 h, .int .i64 i, .int .i64 s] 44)
  have hst := bnext hst1 hst2
  have hM := zCheck_calls o A lr cr g _ (hR.go hst)
  rw [show zonE o lr g = 70 from if_neg hok] at hM
  unfold zonC at hM ⊢
  have HM := Lib.hid hM
  have HX := Lib.hid hst
  clear hM hst1 hst2 hst hR hok
  refine calls_of_marks Tryd.func20 rfl ?_
  simp only [Tryd.ntmps20, List.size_toArray, List.length_cons, List.length_nil, Nat.reduceAdd, Nat.reduceSub, Array.replicate_succ, Array.replicate_zero, List.push_toArray, List.append_toArray, List.nil_append, List.cons_append]
  gi_wp2_with (first | (refine wpIn_scope ?_) | (refine wpIn_label ?_))
  refine (callsIn_wide.2 HM.out).mono ?_
  rintro e w3 ⟨rfl, hb3⟩
  have hbw := bnext HX.out hb3
  clear hb3
  gi_wp2
  try rw [Exit.noGoto_ret]
  refine ⟨_, results_tmp2 rfl _ _ _, rfl, ?_⟩
  exact hbw
set_option maxRecDepth 100000 in
set_option maxHeartbeats 8000000 in
theorem insts_nomom (o : Int) (A : Option Addr) (lr cr : Nat) (g : Nat → Nat → Int) (y m d h i s : Int) (hok : zonOk o lr g) (hn : ¬ (okD y m d ∧ clkOk h i s)) (w : World) (hR : RdZ w A lr cr g) (hL : Lens w) :
    Calls Tryd.prog 20 #[zonC o A lr cr, .agg #[.int .i64 y, .int .i64 m, .int .i64 d, .int .i64 h, .int .i64 i, .int .i64 s]] w fun e w' => e = .returned (.tuple #[.slice none 0 0, .int .i64 60]) ∧ Below w.heap.size w w' := by
  have hF := wide_fn
  obtain ⟨b0, hb0⟩ : ∃ b0, w.heap.size = b0 := ⟨_, rfl⟩
  have hst1 := bstep w (.cells #[.int .i64 o, .slice A lr cr] 24)
  have hst2 := bstep (w.alloc (.cells #[.int .i64 o, .slice A lr cr] 24)) (.cells #[.int .i64 y, .int .i64 m, .int .i64 d, .int .i64 h, .int .i64 i, .int .i64 s] 44)
  have hst := bnext hst1 hst2
  have hr1 := World.alloc_heap_new (w.alloc (.cells #[.int .i64 o, .slice A lr cr] 24)) (.cells #[.int .i64 y, .int .i64 m, .int .i64 d, .int .i64 h, .int .i64 i, .int .i64 s] 44)
  have hs1 : (w.alloc (.cells #[.int .i64 o, .slice A lr cr] 24)).heap.size = b0 + 1 := by simp [hb0]
  rw [hs1] at hr1
  have hM := zCheck_calls o A lr cr g _ (hR.go hst)
  rw [show zonE o lr g = 0 from if_pos hok] at hM
  have hI : ∀ w, Lens w → Calls Tryd.prog 28 #[.agg #[.int .i64 y, .int .i64 m, .int .i64 d, .int .i64 h, .int .i64 i, .int .i64 s]] w fun e w' => e = .returned (.tuple #[.int .i64 0, .int .i64 60]) ∧ Below w.heap.size w w' := fun w hL => by
    have := instant_calls y m d h i s w hL
    rw [(inst_no hn).1, (inst_no hn).2] at this
    exact this
  replace hI := Lib.hid hI
  unfold zonC at hM ⊢
  have HM := Lib.hid hM
  have HX := Lib.hid (And.intro hst (And.intro hr1 (hL.go hst)))
  have Hb0 := Lib.hid hb0
  clear hM hst1 hst2 hst hr1 hs1 hR hL hok hn
  refine calls_of_marks Tryd.func20 rfl ?_
  simp only [Tryd.ntmps20, List.size_toArray, List.length_cons, List.length_nil, Nat.reduceAdd, Nat.reduceSub, Array.replicate_succ, Array.replicate_zero, List.push_toArray, List.append_toArray, List.nil_append, List.cons_append]
  gi_wp2_with (first | (refine wpIn_scope ?_) | (refine wpIn_label ?_))
  refine (callsIn_wide.2 HM.out).mono ?_
  rintro e w3 ⟨rfl, hb3⟩
  have hr1 := blk_below HX.out.2.1 hb3
  have hL3 := HX.out.2.2.go hb3
  have hbw := bnext HX.out.1 hb3
  have m0 := cell_of_row _ (b0 + 1) 0 _ _ _ hr1
  have m1 := cell_of_row _ (b0 + 1) 1 _ _ _ hr1
  have m2 := cell_of_row _ (b0 + 1) 2 _ _ _ hr1
  have m3 := cell_of_row _ (b0 + 1) 3 _ _ _ hr1
  have m4 := cell_of_row _ (b0 + 1) 4 _ _ _ hr1
  have m5 := cell_of_row _ (b0 + 1) 5 _ _ _ hr1
  clear hb3
  gi_wp2
  refine (callsIn_wide.2 (hI.out _ hL3)).mono ?_
  rintro e w4 ⟨rfl, hb4⟩
  have hbw4 := (bnext hbw hb4).alloc (bnext hbw hb4).size (.cells #[.int .i64 0] 2)
  clear m0 m1 m2 m3 m4 m5 hb4 hr1 hL3 hbw
  gi_wp2
  try rw [Exit.noGoto_ret]
  refine ⟨_, results_tmp2 rfl _ _ _, rfl, ?_⟩
  exact hbw4
end Go.Proofs.YtoipmhmghcngcaaDoor
