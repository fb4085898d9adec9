/-
  A date's day, walked: Day, Weekday. Conditions stand at each theorem.
-/
import Derived.Test.YtgbkedjjgbhcmaaGreatDoorCivil2
import Derived.Sort.CutIn
import Derived.Sort.CutIn
namespace Go.Proofs.YtgbkedjjgbhcmaaGreatDoor
open Go Go.RowKit Go.Kw Go.Kw.Cv Go.Shelf
attribute [local go_sem] Oper.semAt_some
set_option linter.unusedVariables false
set_option linter.unusedSimpArgs false

/-- Only the normal exit. -/
def normOnly (K : Act → World → Prop) : Exit → Act → World → Prop
  | .normal, a, w => K a w
  | _, _, _ => False
theorem wpIn_norm {F : Fence} {n : Nat} {P : Program} {c : Code} {Q : Exit → Act → World → Prop} {a : Act} {w : World} (h : c.wpIn F n P (normOnly fun a w => Q .normal a w) a w) : c.wpIn F n P Q a w :=
  wpIn_mono h fun e a w hq => by cases e <;> first | exact hq | exact hq.elim
def dayE (y m d : Int) : Int := if okD y m d then dayN y m d else 0
theorem chk_no {y m d : Int} (h : ¬ okD y m d) : chkV y m d = 60 := if_neg h
theorem chk_ok {y m d : Int} (h : okD y m d) : chkV y m d = 0 := if_pos h
/-- The sum behind k months. -/
def dvS (T y m : Int) (k : Nat) : Int := T + if (m - 1).toNat < k then msx y (m - 1).toNat else 0
theorem dvS_0 (T y m : Int) : dvS T y m 0 = T := by unfold dvS; rw [if_neg (by omega)]; omega
theorem dvS_hit (T y m : Int) (k : Nat) (h : (k : Int) + 1 = m) : dvS T y m k = T ∧ dvS T y m (k + 1) = T + msx y k := by
  have e : (m - 1).toNat = k := by omega
  unfold dvS
  rw [e, if_neg (by omega), if_pos (by omega)]
  exact ⟨by omega, rfl⟩
theorem dvS_miss (T y m : Int) (k : Nat) (hm : 1 ≤ m) (h : (k : Int) + 1 ≠ m) : dvS T y m (k + 1) = dvS T y m k := by
  unfold dvS
  by_cases h1 : (m - 1).toNat < k
  · rw [if_pos h1, if_pos (by omega)]
  · rw [if_neg h1, if_neg (by omega)]
theorem dvS_end (T y m : Int) (h : 1 ≤ m ∧ m ≤ 12) : dvS T y m 12 = T + mst y m := by
  unfold dvS
  rw [if_pos (by omega)]
  unfold msx
  rw [if_pos (by omega), show ((m - 1).toNat : Int) + 1 = m by omega]
/-- What is known in the months' range: the sum's box. -/
def DayI (b0 s : Nat) (w : World) (y m d T : Int) (k : Nat) (W : World) : Prop :=
  Boxed W s 3 (.int .i64 (dvS T y m k)) ∧ W.heap[b0]? = some (.cells #[.int .i64 y, .int .i64 m, .int .i64 d] 113 (0, 0)) ∧ (Below b0 w W ∧ b0 ≤ W.heap.size)
set_option maxRecDepth 100000 in
set_option maxHeartbeats 8000000 in
theorem day_calls (y m d : Int) (w : World) (hL : Lens w) : Calls Tryz.prog 99 #[.agg #[.int .i64 y, .int .i64 m, .int .i64 d]] w fun e w' => e = .returned (.tuple #[.int .i64 (dayE y m d), .int .i64 (chkV y m d)]) ∧ Below w.heap.size w w' := by
  have hF := wide_fn
  obtain ⟨b0, hb0⟩ : ∃ b0, w.heap.size = b0 := ⟨_, rfl⟩
  have Hb0 := Lib.hid hb0
  have hL1 := hL.alloc (.cells #[.int .i64 y, .int .i64 m, .int .i64 d] 113)
  have hB1 : Below b0 w (w.alloc (.cells #[.int .i64 y, .int .i64 m, .int .i64 d] 113)) := by subst hb0; exact (Below.refl _ w).alloc (Nat.le_refl _) _
  have hs1 : (w.alloc (.cells #[.int .i64 y, .int .i64 m, .int .i64 d] 113)).heap.size = b0 + 1 := by simp [hb0]
  have hrow := World.alloc_heap_new w (.cells #[.int .i64 y, .int .i64 m, .int .i64 d] 113)
  rw [hb0] at hrow
  have HC := Lib.hid (check_calls y m d _ hL1)
  refine calls_of_marks Tryz.func99 rfl ?_
  simp only [Tryz.ntmps99, List.size_toArray, List.length_cons, List.length_nil, Nat.reduceAdd, Nat.reduceSub, Array.replicate_succ, Array.replicate_zero, List.push_toArray, List.append_toArray, List.nil_append, List.cons_append]
  by_cases hok : okD y m d
  · have Hok := Lib.hid hok
    have hv : dayE y m d = dayN y m d := if_pos hok
    have hc := chk_ok hok
    rw [hc] at HC
    gi_wp2_with (first | (refine wpIn_scope ?_) | (refine wpIn_label ?_))
    refine (callsIn_wide.2 HC.out).mono ?_
    rintro e w2 ⟨rfl, hb2⟩
    have hrow2 := (hb2.block b0 (by rw [hs1]; omega)).trans hrow
    have hL2 := hL1.go hb2
    have hB2 := hB1.trans (hb2.mono (by rw [hs1]; omega))
    have hs2 : b0 + 1 ≤ w2.heap.size := by rw [← hs1]; exact hb2.size
    have c0 := cell_of_row w2 b0 0 _ _ _ hrow2
    have c1 := cell_of_row w2 b0 1 _ _ _ hrow2
    have c2 := cell_of_row w2 b0 2 _ _ _ hrow2
    have hda := day_in hok
    have hrg := day_range hok
    unfold okD at hok
    have hdm := dim_month Hok.out
    have hA := Lib.hid (ahead_calls y (by omega))
    clear hb2 hrow hB1 hs1 hL1
    obtain ⟨S, hS⟩ : ∃ S, ahd y = S := ⟨_, rfl⟩
    have hSb : 0 ≤ S ∧ S ≤ 3000000 := by
      have h1 := ahd_mono (show (1970 : Int) ≤ y from hok.1)
      have h2 := ahd_mono (show y ≤ 10000 by omega)
      rw [ahd_1970] at h1
      rw [ahd_10000] at h2
      omega
    have hdb : 1 ≤ d ∧ d ≤ 31 := by have := dim_lo y m hdm; omega
    rw [hS] at hA
    have HS := Lib.hid hS
    have HDb := Lib.hid hdb
    have HSb := Lib.hid hSb
    have w1 := i64_same (S + d) (by omega)
    have w2' := i64_same (S + d - 1) (by omega)
    have X1 := Lib.hid (wrap64_in (S + d) (by omega))
    have X2 := Lib.hid (wrap64_in (S + d - 1) (by omega))
    have Hy := Lib.hid (show 0 ≤ y ∧ y ≤ 1000000 by omega)
    clear hda hrg hdm hok hSb hdb hS
    have x1 := X1.out
    have x2 := X2.out
    gi_upto_region 4 with fail
    gi_cut [5] from 13 (fun s5 wx => s5 = .pointer (some ⟨w2.heap.size, 0, none⟩) ∧ Boxed wx w2.heap.size 3 (.int .i64 (S + d - 1)) ∧ Below w2.heap.size w2 wx)
    case first =>
      refine wpIn_norm ?_
      have hst := (Below.refl w2.heap.size w2).alloc (Nat.le_refl _) (.cells #[.int .i64 0] 3)
      have f0 : (w2.alloc (.cells #[.int .i64 0] 3)).cell? ⟨b0, 0, none⟩ = some (.int .i64 y) := (hst.cell (p := ⟨b0, 0, none⟩) (by exact hs2)).trans c0
      have f2 : (w2.alloc (.cells #[.int .i64 0] 3)).cell? ⟨b0, 2, none⟩ = some (.int .i64 d) := (hst.cell (p := ⟨b0, 2, none⟩) (by exact hs2)).trans c2
      gi_region_with (gi_at_call 85; refine (callsIn_wide.2 (hA.out _)).mono ?_; rintro e w3 ⟨rfl, rfl⟩)
      all_goals (simp only [normOnly]; gi_wp2; gi_meet; exact ⟨rfl, Boxed.new w2 _ _, (bstep w2 _).drew⟩)
    case rest =>
      obtain ⟨rfl, hbx, hBx⟩ := hcut
      have hrowx := (hBx.block b0 (by omega)).trans hrow2
      have hLx := hL2.go hBx
      have d0 := cell_of_row wc b0 0 _ _ _ hrowx
      have hB3 := hB2.trans (hBx.mono (by omega))
      have hsx := hBx.size
      have Hs2 := Lib.hid hs2
      clear c0 c1 c2 hrow2 hL2 hB2 hBx w1 w2' x1 x2 hA
      gi_wp2_with (first | (refine wpIn_scope ?_) | (refine wpIn_label ?_) | (gi_at_call 86; refine (callsIn_wide.2 (months_calls _ _)).mono ?_; rintro e w' ⟨rfl, rfl⟩))
      obtain ⟨W0, hW0⟩ : ∃ W0, wc.alloc (.cells #[.int .i64 y] 3) = W0 := ⟨_, rfl⟩
      have hst0 : Below wc.heap.size wc W0 := hW0 ▸ bstep wc _
      have bY : Boxed W0 wc.heap.size 3 (.int .i64 y) := hW0 ▸ Boxed.new wc _ _
      have hL0 := hLx.go hst0
      have hbx0 : Boxed W0 w2.heap.size 3 (.int .i64 (dvS (S + d - 1) y m 0)) := by rw [dvS_0]; exact blk_below hbx hst0
      have hrow0 := (hst0.block b0 (by omega)).trans hrowx
      have hB0 := hB3.trans (hst0.mono (by omega))
      have hs0 := hst0.size
      rw [hW0]
      refine wpIn_rangeX rfl (by decide) (gf := 101) (lb := #[.pointer (some ⟨wc.heap.size, 0, none⟩)]) rfl trivial (enters_of Tryz.func101 (by kernel_rfl) rfl)
        (months_seq wc.heap.size y Hy.out) (fun A B h => h ▸ KeepsOthers.refl _) (fun _ => rfl)
        ((boxed_ownW _ _ _ _).and (Lens.own _)) (fun _ => (boxed_ownW _ _ _ _).and (Lens.own _)) (OwnW.const _) (fun _ => OwnW.const _) ⟨bY, hL0⟩
        (DayI b0 w2.heap.size w y m d (S + d - 1)) (fun _ _ _ => False)
        (fun k => (boxed_ownW _ _ _ _).and (block_ownW.and (below_own (by omega)))) (fun _ _ => OwnW.const _) (fun k A B h e => e ▸ h) (fun _ _ _ _ h _ => h)
        ⟨hbx0, hrow0, hB0, by omega⟩ ?round ?done ?stop
      case round =>
        rintro lo k x W hx _ _
        gi_wp2
        refine ⟨trivial, ?_⟩
        rintro W1 ⟨hb1, hr1, hBl⟩ ⟨hY1, hL1⟩ hsz
        have hkl : k < 12 := by have := (List.getElem?_eq_some_iff.1 hx).1; rwa [moL_len] at this
        have hxv : x = ((k : Int) + 1, msx y k) := by have := moL_at y k hkl; rw [hx] at this; injection this
        subst hxv
        have c1 := cell_of_row W1 b0 1 _ _ _ hr1
        have cb := hb1.cell
        have fb := hb1.frozen
        have hdr := dvS_hit (S + d - 1) y m k
        have hmr := msx_range y k (by omega)
        by_cases hm : (k : Int) + 1 = m
        · obtain ⟨h1, h2⟩ := dvS_hit (S + d - 1) y m k hm
          have hb3 := hb1.set (.int .i64 (S + d - 1 + msx y k))
          rw [← h2] at hb3
          have HE := Lib.hid (show KeepsOthers W1 (W1.setCell ⟨w2.heap.size, 0, none⟩ (.int .i64 (S + d - 1 + msx y k))) ∧ (Boxed (W1.setCell ⟨w2.heap.size, 0, none⟩ (.int .i64 (S + d - 1 + msx y k))) wc.heap.size 3 (.int .i64 y) ∧ Lens (W1.setCell ⟨w2.heap.size, 0, none⟩ (.int .i64 (S + d - 1 + msx y k)))) ∧
              DayI b0 w2.heap.size w y m d (S + d - 1) (k + 1) (W1.setCell ⟨w2.heap.size, 0, none⟩ (.int .i64 (S + d - 1 + msx y k))) from
            ⟨KeepsOthers.setCell _ _ _, ⟨hY1.kept (row := some w2.heap.size) (grownBy_setCell' _ w2.heap.size _) (by simp; have := hbx.lt; omega), hL1.below ((Below.refl w2.heap.size W1).setCell (Nat.le_refl _) _) (by have := hL.low; omega)⟩,
              by rw [h2] at hb3 ⊢; exact hb3, (heap_setCell_other W1 ⟨w2.heap.size, 0, none⟩ b0 _ (by simp; omega)).trans hr1, hBl.1.setCell (p := ⟨w2.heap.size, 0, none⟩) (by show b0 ≤ w2.heap.size; omega) _, by simpa using hBl.2⟩)
          rw [h1] at cb
          subst hm
          have x3 := i64_same (S + d - 1 + msx y k) (by have := HSb.out; have := HDb.out; omega)
          have X4 := Lib.hid (wrap64_in (S + d - 1 + msx y k) (by have := HSb.out; have := HDb.out; omega))
          clear hdr hmr h1 h2 hb3
          have x4 := X4.out
          gi_wp2
          exact HE.out
        · have h2 := dvS_miss (S + d - 1) y m k (by have := dim_month Hok.out; omega) hm
          have hmb : ((k : Int) + 1 == m) = false := beq_eq_false_iff_ne.2 hm
          have HE := Lib.hid (show KeepsOthers W1 W1 ∧ (Boxed W1 wc.heap.size 3 (.int .i64 y) ∧ Lens W1) ∧ DayI b0 w2.heap.size w y m d (S + d - 1) (k + 1) W1 from ⟨KeepsOthers.refl _, ⟨hY1, hL1⟩, by rw [h2]; exact hb1, hr1, hBl⟩)
          clear hdr hmr h2
          gi_wp2
          exact HE.out
      case done =>
        rintro D W hD ⟨hb1, hr1, hBl⟩ _ hK
        rw [moL_len] at hb1
        have cb := hb1.cell
        gi_wp2
        refine ⟨by simp, .inl ⟨_, _, rfl, run_takeDeferred hK, ?_⟩⟩
        refine ⟨_, results_tmp2 rfl _ _ _, ?_, ?_⟩
        · rw [hv, hc]
          show Ending.returned (.tuple #[.int .i64 (dvS (S + d - 1) y m 12), .int .i64 0]) = _
          rw [dvS_end _ _ _ (dim_month Hok.out)]
          have : S + d - 1 + mst y m = dayN y m d := by unfold dayN; rw [HS.out]; omega
          rw [this]
        · rw [Hb0.out]
          exact hBl.1.putObj (by omega) hBl.2 _
      case stop =>
        rintro D c k W _ _ h _ _
        exact h.elim
  · have hv : dayE y m d = 0 := if_neg hok
    have hc := chk_no hok
    rw [hc] at HC
    have Hvc := Lib.hid (show dayE y m d = 0 ∧ chkV y m d = 60 from ⟨hv, hc⟩)
    clear hv hc hok
    gi_wp2_with (first | (refine wpIn_scope ?_) | (refine wpIn_label ?_))
    refine (callsIn_wide.2 HC.out).mono ?_
    rintro e w2 ⟨rfl, hb2⟩
    have hB2 := hB1.trans (hb2.mono (by rw [hs1]; omega))
    gi_wp2
    refine ⟨_, results_tmp2 rfl _ _ _, ?_, ?_⟩
    · rw [Hvc.out.1, Hvc.out.2]; rfl
    · rw [Hb0.out]; exact hB2
end Go.Proofs.YtgbkedjjgbhcmaaGreatDoor
