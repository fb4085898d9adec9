/-
  Whether a day is a holiday: days.Is, walked. Conditions stand at each theorem.
-/
import Derived.Test.YtgbkedjjgbhcmaaGreatDoorFeasts
namespace Go.Proofs.YtgbkedjjgbhcmaaGreatDoor
open Go Go.RowKit Go.Kw Go.Kw.Cv Go.Shelf
attribute [local go_sem] Oper.semAt_some
set_option linter.unusedVariables false
set_option linter.unusedSimpArgs false

theorem HoldF.set {cB yB B fb : Nat} {A : Option Addr} {la ca : Nat} {gh : Nat → Nat → Int} {C : Value} {y : Int} {W : World} (h : HoldF cB yB B A la ca gh C y W) (h1 : cB ≠ fb) (h2 : yB ≠ fb) (h3 : B ≤ fb) (h4 : 0 < fb) (v : Value) : HoldF cB yB B A la ca gh C y (W.setCell ⟨fb, 0, none⟩ v) :=
  ⟨(heap_setCell_other W ⟨fb, 0, none⟩ cB v h1).trans h.1, (heap_setCell_other W ⟨fb, 0, none⟩ yB v h2).trans h.2.1, Rd.setCell h.2.2.1 (p := ⟨fb, 0, none⟩) h3 v, by simpa using h.2.2.2.1, h.2.2.2.2.below ((Below.refl fb W).setCell (p := ⟨fb, 0, none⟩) (Nat.le_refl _) v) h4⟩
theorem RdCal.rdH {w : World} {A : Option Addr} {la ca : Nat} {gh : Nat → Nat → Int} {B : Option Addr} {lb cb : Nat} {gs : Nat → Nat → Int} (h : RdCal w A la ca gh B lb cb gs) : RdH w w.heap.size A la gh := h.1.2.2.2.1
/-- What is known in the range over the feasts: the box of what was found, the day's box. -/
def IsI (b0 fb : Nat) (w : World) (n : Int) (L : List Int) (k : Nat) (W : World) : Prop :=
  (∀ j, j < k → L[j]? ≠ some n) ∧ Boxed W fb 4 (.bool false) ∧ Boxed W (b0 + 1) 3 (.int .i64 n) ∧ (Below b0 w W ∧ b0 ≤ W.heap.size)
def IsX (b0 fb : Nat) (w : World) (n : Int) (L : List Int) (c : Code) (k : Nat) (W : World) : Prop :=
  c = .exit 0 ∧ n ∈ L ∧ Boxed W fb 4 (.bool true) ∧ (Below b0 w W ∧ b0 ≤ W.heap.size)
set_option maxRecDepth 100000 in
set_option maxHeartbeats 8000000 in
theorem daysIs_ok (A : Option Addr) (la ca : Nat) (gh : Nat → Nat → Int) (B : Option Addr) (lb cb : Nat) (gs : Nat → Nat → Int) (n : Int) (hcal : calOk la gh lb gs) (hn : 0 ≤ n ∧ n ≤ 2932896) (w : World) (hR : RdCal w A la ca gh B lb cb gs) (hL : Lens w) :
    Calls Tryz.prog 57 #[calC A la ca B lb cb, .int .i64 n] w fun e w' => e = .returned (.tuple #[.bool (isF gh la n), .int .i64 0]) ∧ Below w.heap.size w w' := by
  have hF := wide_fn
  obtain ⟨b0, hb0⟩ : ∃ b0, w.heap.size = b0 := ⟨_, rfl⟩
  have Hb0 := Lib.hid hb0
  have hE := errA_ok hcal hn
  obtain ⟨hok, hday⟩ := dOf_spec n hn
  have hF1 := isF_day gh la hok
  rw [hday] at hF1
  rw [hF1]
  have hst1 := bstep w (.cells #[.slice A la ca, .slice B lb cb] 28)
  have hst2 := bstep (w.alloc (.cells #[.slice A la ca, .slice B lb cb] 28)) (.cells #[.int .i64 n] 3)
  have hst := bnext hst1 hst2
  have hr0 := World.alloc_heap_new w (.cells #[.slice A la ca, .slice B lb cb] 28)
  have hr1 := World.alloc_heap_new (w.alloc (.cells #[.slice A la ca, .slice B lb cb] 28)) (.cells #[.int .i64 n] 3)
  have hs1 : (w.alloc (.cells #[.slice A la ca, .slice B lb cb] 28)).heap.size = b0 + 1 := by simp [hb0]
  have hr0' := blk_below hr0 hst2
  rw [hb0] at hr0'
  rw [hs1] at hr1
  have hs2 : ((w.alloc (.cells #[.slice A la ca, .slice B lb cb] 28)).alloc (.cells #[.int .i64 n] 3)).heap.size = b0 + 2 := by simp [hb0]
  have hM := may_calls A la ca gh B lb cb gs n _ (hR.go hst) (hL.go hst)
  rw [mayV_ok hE, hE] at hM
  obtain ⟨T, hT⟩ : ∃ T, dOf n = T := ⟨_, rfl⟩
  rw [hT] at hM hok hday ⊢
  obtain ⟨y, m, d⟩ := T
  unfold dateV at hM
  unfold calC at hM ⊢
  have hyy : 1970 ≤ y ∧ y ≤ 9999 := ⟨hok.1, hok.2.1⟩
  have Hyy := Lib.hid hyy
  have HM := Lib.hid hM
  have HX := Lib.hid (And.intro hst (And.intro hs2 (And.intro hr0' (And.intro hr1 (And.intro (hL.go hst) hL.low)))))
  have HRd := Lib.hid hR.rdH
  have Hcal := Lib.hid hcal
  clear hM hF1 hT hE hst1 hst2 hst hr0 hr1 hs1 hr0' hs2 hR hL hcal hok hday hyy hn
  refine calls_of_marks Tryz.func57 rfl ?_
  simp only [Tryz.ntmps57, List.size_toArray, List.length_cons, List.length_nil, Nat.reduceAdd, Nat.reduceSub, Array.replicate_succ, Array.replicate_zero, List.push_toArray, List.append_toArray, List.nil_append, List.cons_append]
  gi_wp2_with (first | (refine wpIn_scope ?_) | (refine wpIn_label ?_))
  refine (callsIn_wide.2 HM.out).mono ?_
  rintro e w3 ⟨rfl, hb3⟩
  have hr0 := blk_below HX.out.2.2.1 hb3
  have hr1 := blk_below HX.out.2.2.2.1 hb3
  have hL3 := HX.out.2.2.2.2.1.go hb3
  have hbw := bnext HX.out.1 hb3
  have hs3 : b0 + 2 ≤ w3.heap.size := by have := hb3.size; have := HX.out.2.1; omega
  clear hb3
  obtain ⟨s3, hs3e⟩ : ∃ s3, w3.heap.size = s3 := ⟨_, rfl⟩
  have t1 := bstep w3 (.cells #[.int .i64 y, .int .i64 m, .int .i64 d] 113)
  have t2 := bstep (w3.alloc (.cells #[.int .i64 y, .int .i64 m, .int .i64 d] 113)) (.cells #[.bool false] 4)
  have h4 := bnext t1 t2
  have rD := World.alloc_heap_new w3 (.cells #[.int .i64 y, .int .i64 m, .int .i64 d] 113)
  have sD : (w3.alloc (.cells #[.int .i64 y, .int .i64 m, .int .i64 d] 113)).heap.size = s3 + 1 := by simp [hs3e]
  have rF : Boxed ((w3.alloc (.cells #[.int .i64 y, .int .i64 m, .int .i64 d] 113)).alloc (.cells #[.bool false] 4)) _ 4 (.bool false) := Boxed.new (w3.alloc (.cells #[.int .i64 y, .int .i64 m, .int .i64 d] 113)) _ _
  have rD' := blk_below rD t2
  rw [hs3e] at rD'
  rw [sD] at rF
  have s4 : ((w3.alloc (.cells #[.int .i64 y, .int .i64 m, .int .i64 d] 113)).alloc (.cells #[.bool false] 4)).heap.size = s3 + 2 := by simp [hs3e]
  have c0 := cell_of_row _ b0 0 _ _ _ (blk_below hr0 h4)
  have c1 := cell_of_row _ b0 1 _ _ _ (blk_below hr0 h4)
  have d0 := cell_of_row _ s3 0 _ _ _ rD'
  have r1 : Boxed _ (b0 + 1) 3 (.int .i64 n) := blk_below hr1 h4
  have hL4 := hL3.go h4
  have hb4 := bnext hbw h4
  clear t1 t2 h4 rD sD hL3 hbw hr0 hr1 rD' s4
  gi_wp2_with (first | (refine wpIn_scope ?_) | (refine wpIn_label ?_))
  clear c0 c1 d0
  refine (callsIn_wide.2 (feasts_calls A la ca (.slice B lb cb) y _)).mono ?_
  obtain ⟨W4, hW4⟩ : ∃ W4, ((w3.alloc (.cells #[.int .i64 y, .int .i64 m, .int .i64 d] 113)).alloc (.cells #[.bool false] 4)) = W4 := ⟨_, rfl⟩
  have s4 : W4.heap.size = s3 + 2 := by rw [← hW4]; simp [hs3e]
  rw [hW4] at rF r1 hL4 hb4
  rw [hW4, s4]
  obtain ⟨W6, hW6⟩ : ∃ W6, (W4.alloc (.cells #[.slice A la ca, .slice B lb cb] 28)).alloc (.cells #[.int .i64 y] 3) = W6 := ⟨_, rfl⟩
  have u1 := bstep W4 (.cells #[.slice A la ca, .slice B lb cb] 28)
  have u2 := bstep (W4.alloc (.cells #[.slice A la ca, .slice B lb cb] 28)) (.cells #[.int .i64 y] 3)
  have s5 : (W4.alloc (.cells #[.slice A la ca, .slice B lb cb] 28)).heap.size = s3 + 3 := by simp [s4]
  have rC := World.alloc_heap_new W4 (.cells #[.slice A la ca, .slice B lb cb] 28)
  rw [s4] at rC
  have rC' := blk_below rC u2
  have rY : Boxed ((W4.alloc (.cells #[.slice A la ca, .slice B lb cb] 28)).alloc (.cells #[.int .i64 y] 3)) (s3 + 3) 3 (.int .i64 y) := by
    have h : Boxed ((W4.alloc (.cells #[.slice A la ca, .slice B lb cb] 28)).alloc (.cells #[.int .i64 y] 3)) _ 3 (.int .i64 y) := Boxed.new (W4.alloc (.cells #[.slice A la ca, .slice B lb cb] 28)) _ _
    rw [s5] at h; exact h
  have s6 : W6.heap.size = s3 + 4 := by rw [← hW6]; simp [s4]
  have u := bnext u1 u2
  rw [hW6] at u rC' rY
  have rF6 : Boxed W6 (s3 + 1) 4 (.bool false) := blk_below rF u
  have r16 : Boxed W6 (b0 + 1) 3 (.int .i64 n) := blk_below r1 u
  have hL6 := hL4.go u
  have hb6 := bnext hb4 u
  have hRd6 : RdH W6 b0 A la gh := by have := HRd.out; rw [Hb0.out] at this; exact Rd.below this (Hb0.out ▸ hb6)
  have hlow := HX.out.2.2.2.2.2
  rw [Hb0.out] at hlow hb6
  rintro e w6 ⟨rfl, e6⟩
  rw [hW6] at e6
  rw [e6]
  clear e6 w6 u1 u2 s5 rC u hW6 hW4 rF r1 hL4 hb4 s4
  gi_wp2_with (first | (refine wpIn_scope ?_) | (refine wpIn_label ?_))
  have Hs3 := Lib.hid hs3
  have Hlow := Lib.hid hlow
  have HS6 := Lib.hid s6
  refine wpIn_rangeT rfl (by decide) (gf := 87) (lb := #[.pointer (some ⟨s3 + 2, 0, none⟩), .pointer (some ⟨s3 + 3, 0, none⟩)]) rfl trivial (enters_of Tryz.func87 (by kernel_rfl) rfl)
    (feasts_seq (s3 + 2) (s3 + 3) b0 (s3 + 4) A la ca gh (.slice B lb cb) y Hyy.out (by have := Hcal.out.1; omega) Hcal.out.2.2.1) (fun A B h => keepsB h) (fun _ => rfl)
    (HoldF.own.and (fun W W' row h hg hr => Nat.le_trans h hg.size)) (fun _ _ => HoldG.own) (OwnW.const _) (fun _ => OwnW.const _) ⟨⟨rC', rY, hRd6, by omega, hL6⟩, by omega⟩
    (IsI b0 (s3 + 1) w n (feastL gh la y)) (IsX b0 (s3 + 1) w n (feastL gh la y))
    ?ownI ?ownX ?abI ?abX ⟨fun j hj => absurd hj (by omega), rF6, r16, hb6, by omega⟩ ?round ?done ?stop
  case ownI => exact fun k => (OwnW.const _).and ((boxed_ownW _ _ _ _).and ((boxed_ownW _ _ _ _).and (below_own (by omega))))
  case ownX => exact fun c k => (OwnW.const _).and ((OwnW.const _).and ((boxed_ownW _ _ _ _).and (below_own (by omega))))
  case abI => exact fun k A B h hb => ⟨h.1, blk_below h.2.1 hb, blk_below h.2.2.1 hb, h.2.2.2.1.trans (hb.mono h.2.2.2.2), Nat.le_trans h.2.2.2.2 hb.size⟩
  case abX => exact fun c k A B h hb => ⟨h.1, h.2.1, blk_below h.2.2.1 hb, h.2.2.2.1.trans (hb.mono h.2.2.2.2), Nat.le_trans h.2.2.2.2 hb.size⟩
  case round =>
    rintro lo k t x W hx _ _
    clear rC' rY rF6 r16 hL6 hb6 hRd6 s6 hs3 hlow
    gi_wp2
    refine ⟨trivial, ?_⟩
    rintro W1 ⟨hall, hb1, hd1, hBl⟩ ⟨hHF, hBt, hrt⟩ hsz
    have cd := hd1.cell
    by_cases hxn : x = n
    · subst hxn
      have fb := hb1.frozen
      have cf := hb1.cell
      have HE := Lib.hid (show KeepsOthers W1 (W1.setCell ⟨s3 + 1, 0, none⟩ (.bool true)) ∧ HoldG (s3 + 2) (s3 + 3) b0 (s3 + 4) A la ca gh (.slice B lb cb) y t (W1.setCell ⟨s3 + 1, 0, none⟩ (.bool true)) ∧ IsX b0 (s3 + 1) w x (feastL gh la y) (.exit 0) (k + 1) (W1.setCell ⟨s3 + 1, 0, none⟩ (.bool true)) from
        ⟨KeepsOthers.setCell _ _ _, ⟨hHF.set (by omega) (by omega) (by have := Hs3.out; omega) (by have := Hlow.out; have := Hs3.out; omega) _, hBt, (heap_setCell_other W1 ⟨s3 + 1, 0, none⟩ t.1 _ (by show t.1 ≠ s3 + 1; omega)).trans hrt⟩,
          rfl, List.mem_of_getElem? hx, hb1.set _, hBl.1.setCell (p := ⟨s3 + 1, 0, none⟩) (by have := Hs3.out; show b0 ≤ s3 + 1; omega) _, by simpa using hBl.2⟩)
      clear hall hb1 hd1 hBl hHF hBt hrt hsz
      gi_wp2
      exact HE.out
    · have kb : (x == n) = false := beq_eq_false_iff_ne.2 hxn
      have HE := Lib.hid (show KeepsOthers W1 W1 ∧ HoldG (s3 + 2) (s3 + 3) b0 (s3 + 4) A la ca gh (.slice B lb cb) y t W1 ∧ IsI b0 (s3 + 1) w n (feastL gh la y) (k + 1) W1 from
        ⟨KeepsOthers.refl _, ⟨hHF, hBt, hrt⟩, fun j hj => by
          by_cases e : j = k
          · rw [e, hx]; exact fun h => hxn (by injection h)
          · exact hall j (by omega), hb1, hd1, hBl⟩)
      clear hall hb1 hd1 hBl hHF hBt hrt hsz hxn
      gi_wp2
      exact HE.out
  case done =>
    rintro D W hD ⟨hall, hb1, hd1, hBl⟩ _ hK
    have hno : decide (n ∈ feastL gh la y) = false := decide_eq_false (fun h => by
      obtain ⟨j, hj⟩ := List.mem_iff_getElem?.1 h
      exact hall j (List.getElem?_eq_some_iff.1 hj).1 hj)
    have HNo := Lib.hid hno
    have cb := hb1.cell
    clear hno hall rC' rY rF6 r16 hL6 hb6 hRd6 s6 hs3 hlow
    gi_wp2
    refine ⟨by simp, .inl ⟨_, _, rfl, run_takeDeferred hK, ?_⟩⟩
    refine ⟨_, results_tmp2 rfl _ _ _, by rw [HNo.out]; rfl, ?_⟩
    first | exact hBl.1.putObj (by have := Hs3.out; have := HS6.out; omega) hBl.2 _ | (rw [Hb0.out]; exact hBl.1.putObj (by have := Hs3.out; have := HS6.out; omega) hBl.2 _)
  case stop =>
    rintro D c k W hD hk ⟨rfl, hmem, hb1, hBl⟩ _ hK
    have HNo := Lib.hid (decide_eq_true hmem)
    have cb := hb1.cell
    clear hmem rC' rY rF6 r16 hL6 hb6 hRd6 s6 hs3 hlow
    gi_wp2
    refine ⟨by simp, .inl ⟨_, _, rfl, run_takeDeferred hK, ?_⟩⟩
    refine ⟨_, results_tmp2 rfl _ _ _, by rw [HNo.out]; rfl, ?_⟩
    first | exact hBl.1.putObj (by have := Hs3.out; have := HS6.out; omega) hBl.2 _ | (rw [Hb0.out]; exact hBl.1.putObj (by have := Hs3.out; have := HS6.out; omega) hBl.2 _)
set_option maxRecDepth 100000 in
set_option maxHeartbeats 8000000 in
theorem daysIs_no (A : Option Addr) (la ca : Nat) (gh : Nat → Nat → Int) (B : Option Addr) (lb cb : Nat) (gs : Nat → Nat → Int) (n : Int) (hE : errA la gh lb gs n ≠ 0) (w : World) (hR : RdCal w A la ca gh B lb cb gs) (hL : Lens w) :
    Calls Tryz.prog 57 #[calC A la ca B lb cb, .int .i64 n] w fun e w' => e = .returned (.tuple #[.bool false, .int .i64 (errA la gh lb gs n)]) ∧ Below w.heap.size w w' := by
  have hF := wide_fn
  obtain ⟨b0, hb0⟩ : ∃ b0, w.heap.size = b0 := ⟨_, rfl⟩
  have Hb0 := Lib.hid hb0
  have hst1 := bstep w (.cells #[.slice A la ca, .slice B lb cb] 28)
  have hst2 := bstep (w.alloc (.cells #[.slice A la ca, .slice B lb cb] 28)) (.cells #[.int .i64 n] 3)
  have hst := bnext hst1 hst2
  have hM := may_calls A la ca gh B lb cb gs n _ (hR.go hst) (hL.go hst)
  rw [mayV_no hE] at hM
  obtain ⟨E, hEe⟩ : ∃ E, errA la gh lb gs n = E := ⟨_, rfl⟩
  rw [hEe] at hM hE ⊢
  unfold dateV at hM
  unfold calC at hM ⊢
  have HM := Lib.hid hM
  have HX := Lib.hid hst
  have k0 : (E == 0) = false := beq_eq_false_iff_ne.2 hE
  have k1 : (E != 0) = true := bne_iff_ne.2 hE
  clear hM hst1 hst2 hst hR hL hE hEe
  refine calls_of_marks Tryz.func57 rfl ?_
  simp only [Tryz.ntmps57, List.size_toArray, List.length_cons, List.length_nil, Nat.reduceAdd, Nat.reduceSub, Array.replicate_succ, Array.replicate_zero, List.push_toArray, List.append_toArray, List.nil_append, List.cons_append]
  gi_wp2_with (first | (refine wpIn_scope ?_) | (refine wpIn_label ?_))
  refine (callsIn_wide.2 HM.out).mono ?_
  rintro e w3 ⟨rfl, hb3⟩
  have hbw := bnext (bnext HX.out hb3) (bstep w3 (.cells #[.int .i64 0, .int .i64 0, .int .i64 0] 113))
  clear hb3
  gi_wp2
  try rw [Exit.noGoto_ret]
  refine ⟨_, results_tmp2 rfl _ _ _, rfl, ?_⟩
  exact hbw
end Go.Proofs.YtgbkedjjgbhcmaaGreatDoor
