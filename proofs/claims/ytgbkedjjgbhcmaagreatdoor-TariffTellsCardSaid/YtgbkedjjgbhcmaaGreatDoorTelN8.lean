/-
  Texts that the proof leans on, merged by program, part 8. Conditions stand at each theorem.
-/
import Derived.Test.YtgbkedjjgbhcmaaGreatDoorTelN10
import Derived.Test.YtgbkedjjgbhcmaaGreatDoorSeasonPlain
/-
  The document's at, Rule and Edges, walked. Conditions stand at each theorem.
-/
namespace Go.Proofs.YtgbkedjjgbhcmaaGreatDoor
open Go Go.RowKit Go.Kw Go.Kw.Cv Go.Shelf
set_option linter.unusedVariables false
set_option linter.unusedSimpArgs false

set_option maxRecDepth 100000 in
set_option maxHeartbeats 8000000 in
theorem refAt_calls (y m wd n mi : Int) (h : chgOk m wd n mi) (hy : 1970 ≤ y ∧ y ≤ 9999) (w : World) :
    Calls Tryz.prog 79 #[.int .i64 y, chgC m wd n mi] w fun e w' => e = .returned (.int .i64 (chgT y m wd n mi)) ∧ Below w.heap.size w w' := by
  obtain ⟨b0, hb0⟩ : ∃ b0, w.heap.size = b0 := ⟨_, rfl⟩
  obtain ⟨W1, hW1⟩ : ∃ W1, w.alloc (.cells #[.int .i64 m, .int .i64 wd, .int .i64 n, .int .i64 mi] 88) = W1 := ⟨_, rfl⟩
  have hst : Below w.heap.size w W1 := hW1 ▸ bstep w _
  have hrn : W1.heap[b0]? = some (.cells #[.int .i64 m, .int .i64 wd, .int .i64 n, .int .i64 mi] 88 (0, 0)) := by rw [← hb0, ← hW1]; exact World.alloc_heap_new w _
  have d0 := cell_of_row W1 b0 0 _ _ _ hrn
  have d1 := cell_of_row W1 b0 1 _ _ _ hrn
  have d2 := cell_of_row W1 b0 2 _ _ _ hrn
  have d3 := cell_of_row W1 b0 3 _ _ _ hrn
  obtain ⟨h1, h2⟩ := chg_nth h hy
  have hT := chgT_range h hy
  have HN := fun W => refNth_calls y m wd n W
  rw [show nthV y m wd n = (nthN y m wd n, 0) from if_pos ⟨h1, h2⟩] at HN
  have hk : okD y m (nthN y m wd n) := ⟨hy.1, hy.2, (nth_lo y m wd n h1).1, h2⟩
  have HD := fun W => refDay_calls y m (nthN y m wd n) W
  rw [show dayE y m (nthN y m wd n) = dayN y m (nthN y m wd n) from if_pos hk, chk_ok hk] at HD
  have hdr := day_range hk
  have hmi := h.2.2.2.2.2
  unfold chgT at hT ⊢
  obtain ⟨D, hD⟩ : ∃ D, nthN y m wd n = D := ⟨_, rfl⟩
  rw [hD] at HN HD hdr hT ⊢
  obtain ⟨V, hV⟩ : ∃ V, dayN y m D = V := ⟨_, rfl⟩
  rw [hV] at HD hdr hT ⊢
  have X1 := Lib.hid (And.intro (wrap64_in (V * 86400) (by omega)) (And.intro (wrap64_in (mi * 60) (by omega)) (wrap64_in (V * 86400 + mi * 60) (by omega))))
  have w1 := i64_same (V * 86400) (by omega)
  have w2 := i64_same (mi * 60) (by omega)
  have w3 := i64_same (V * 86400 + mi * 60) (by omega)
  dsimp only at HN
  replace HN := Lib.hid HN
  replace HD := Lib.hid HD
  unfold chgC
  clear h hy h1 h2 hT hk hdr hmi hD hV hrn
  go_enter Tryz.func79, Tryz.ntmps79
  go_wp2_with fail
  refine (HN.out _).mono ?_
  rintro e wa ⟨rfl, ea⟩
  rw [ea]; clear ea wa
  go_wp2_with fail
  refine (HD.out _).mono ?_
  rintro e wa ⟨rfl, ea⟩
  rw [ea]; clear ea wa
  have x1 := X1.out.1
  have x2 := X1.out.2.1
  have x3 := X1.out.2.2
  go_wp2_with fail
  clear x1 x2 x3
  go_ret
  exact ⟨rfl, hst⟩
set_option maxRecDepth 100000 in
set_option maxHeartbeats 8000000 in
theorem refRule_calls (o : Int) (A : Option Addr) (lr cr : Nat) (g : Nat → Nat → Int) (y : Int) (w : World) (hR : RdZ w A lr cr g) :
    Calls Tryz.prog 65 #[zonC o A lr cr, .int .i64 y] w fun e w' => e = .returned (.int .i64 (idxV lr g y)) ∧ Below w.heap.size w w' := by
  obtain ⟨b0, hb0⟩ : ∃ b0, w.heap.size = b0 := ⟨_, rfl⟩
  have Hb0 := Lib.hid hb0
  obtain ⟨W1, hW1⟩ : ∃ W1, w.alloc (.cells #[.int .i64 o, .slice A lr cr] 24) = W1 := ⟨_, rfl⟩
  have hst : Below w.heap.size w W1 := hW1 ▸ bstep w _
  have hr1 : W1.heap[b0]? = some (.cells #[.int .i64 o, .slice A lr cr] 24 (0, 0)) := by rw [← hb0, ← hW1]; exact World.alloc_heap_new w _
  have e1 := cell_of_row W1 b0 1 _ _ _ hr1
  have HR := Lib.hid (hR.go hst)
  have hla := hR.1
  have hca := hR.2.1
  have hmx : maxLen = 9223372036854775807 := rfl
  have Hlen := Lib.hid (show lr ≤ 9223372036854775807 by omega)
  have Hst := Lib.hid hst
  have HRw := Lib.hid hR
  unfold zonC
  clear hR hla hca hmx hst hr1
  go_enter Tryz.func65, Tryz.ntmps65
  go_wp2_with fail
  go_loopw [5] (fun i wr => ∃ k : Nat, k ≤ lr ∧ i = .int .i64 k ∧ (∀ j, j < k → inYearZ g j y = false) ∧ wr = W1) (fun i _ => lr - (intOf i).toNat)
  case atStart => exact ⟨0, by omega, rfl, fun j hj => absurd hj (by omega), rfl⟩
  case round =>
    obtain ⟨k, hk, rfl, hA, rfl⟩ := hrel
    by_cases hlt : k < lr
    · have hI : (k : Int) < lr := by omega
      obtain ⟨sb, off, rfl, hsb, hc⟩ := HRw.out.at_ (by omega) hlt
      have hc' : ∀ j, j < 11 → wr.cell? ⟨sb, off + k * 11 + j, none⟩ = some (.int .i64 (g k j)) := fun j hj => (Hst.out.cell (p := ⟨sb, off + k * 11 + j, none⟩) hsb).trans (hc j hj)
      have c0 : wr.cell? ⟨sb, off + k * 11, none⟩ = some (.int .i64 (g k 0)) := hc' 0 (by omega)
      have c1 := hc' 1 (by omega)
      have w1 : IntKind.i64.wrap ((k : Int) + 1) = (k : Int) + 1 := i64_same _ (by have := Hlen.out; omega)
      have X1 := Lib.hid (wrap64_in ((k : Int) + 1) (by have := Hlen.out; omega))
      have Hk := Lib.hid (show k + 1 ≤ lr from hlt)
      have Hlt := Lib.hid hlt
      have HA := Lib.hid hA
      by_cases h0 : g k 0 ≤ y
      · have k0 : decide (y ≥ g k 0) = true := decide_eq_true h0
        by_cases h1 : y ≤ g k 1
        · have k1 : decide (y ≤ g k 1) = true := decide_eq_true h1
          have hF : rulF g y lr = k := rulF_unique g y lr k (by have := Hlt.out; omega) (fun _ => by unfold inYearZ; rw [decide_eq_true h0, decide_eq_true h1]; rfl) HA.out
          have Hv : Hid (idxV lr g y = (k : Int)) := by show _ = _; unfold idxV; rw [hF, if_pos hlt]
          clear hc hc' hA hk hlt h0 h1 hF
          go_wp2_with fail
          go_ret
          rw [Hv.out]
          exact ⟨rfl, by first | exact Hst.out | (rw [Hb0.out]; exact Hst.out) | (rw [← Hb0.out]; exact Hst.out)⟩
        · have k1 : decide (y ≤ g k 1) = false := decide_eq_false h1
          have HV := Lib.hid (show inYearZ g k y = false by unfold inYearZ; rw [decide_eq_false h1, Bool.and_false])
          clear hc hc' hA hk hlt h0 h1
          have x1 := X1.out
          go_wp2_with fail
          clear x1
          exact ⟨⟨k + 1, Hk.out, by push_cast; rfl, fun j hj => by
            by_cases e : j = k
            · rw [e]; exact HV.out
            · exact HA.out j (by omega), by first | rfl | trivial⟩, meas_z lr k Hk.out⟩
      · have k0 : decide (y ≥ g k 0) = false := decide_eq_false h0
        have HV := Lib.hid (show inYearZ g k y = false by unfold inYearZ; rw [decide_eq_false h0, Bool.false_and])
        clear hc hc' hA hk hlt h0
        have x1 := X1.out
        go_wp2_with fail
        clear x1
        exact ⟨⟨k + 1, Hk.out, by push_cast; rfl, fun j hj => by
          by_cases e : j = k
          · rw [e]; exact HV.out
          · exact HA.out j (by omega), by first | rfl | trivial⟩, meas_z lr k Hk.out⟩
    · obtain rfl : k = lr := by omega
      have hI : ¬ ((k : Int) < k) := by omega
      have hF : rulF g y k = k := rulF_unique g y k k (Nat.le_refl _) (fun h => absurd h (Nat.lt_irrefl _)) hA
      have Hv : Hid (idxV k g y = -1) := by show _ = _; unfold idxV; rw [hF, if_neg (Nat.lt_irrefl _)]
      clear hA hk hlt hF
      go_wp2_with fail
      go_ret
      rw [Hv.out]
      exact ⟨rfl, by first | exact Hst.out | (rw [Hb0.out]; exact Hst.out) | (rw [← Hb0.out]; exact Hst.out)⟩
noncomputable def reA (lr : Nat) (g : Nat → Nat → Int) (y : Int) : Int := if rulF g y lr < lr then onT g (rulF g y lr) y else 0
noncomputable def reB (lr : Nat) (g : Nat → Nat → Int) (y : Int) : Int := if rulF g y lr < lr then offT g (rulF g y lr) y else 0
set_option maxRecDepth 100000 in
set_option maxHeartbeats 16000000 in
theorem refEdges_calls (o : Int) (A : Option Addr) (lr cr : Nat) (g : Nat → Nat → Int) (y : Int) (hok : zonOk o lr g) (w : World) (hR : RdZ w A lr cr g) :
    Calls Tryz.prog 64 #[zonC o A lr cr, .int .i64 y] w fun e w' => e = .returned (.tuple #[.int .i64 (reA lr g y), .int .i64 (reB lr g y), .bool (ofB o lr g y)]) ∧ Below w.heap.size w w' := by
  obtain ⟨b0, hb0⟩ : ∃ b0, w.heap.size = b0 := ⟨_, rfl⟩
  have Hb0 := Lib.hid hb0
  obtain ⟨W1, hW1⟩ : ∃ W1, w.alloc (.cells #[.int .i64 o, .slice A lr cr] 24) = W1 := ⟨_, rfl⟩
  have hst1 : Below w.heap.size w W1 := hW1 ▸ bstep w _
  have hr1 : W1.heap[b0]? = some (.cells #[.int .i64 o, .slice A lr cr] 24 (0, 0)) := by rw [← hb0, ← hW1]; exact World.alloc_heap_new w _
  have e0 := cell_of_row W1 b0 0 _ _ _ hr1
  have e1 := cell_of_row W1 b0 1 _ _ _ hr1
  have HU := refRule_calls o A lr cr g y W1 (hR.go hst1)
  unfold zonC at HU ⊢
  by_cases hi : rulF g y lr < lr
  · obtain ⟨hk, hy⟩ := of_year (show OfIs o lr g y from ⟨hok, hi⟩)
    rw [show idxV lr g y = (rulF g y lr : Int) from if_pos hi] at HU
    rw [show reA lr g y = onT g (rulF g y lr) y from if_pos hi, show reB lr g y = offT g (rulF g y lr) y from if_pos hi, (of_yes (show OfIs o lr g y from ⟨hok, hi⟩)).2]
    unfold onT offT
    obtain ⟨F, hF⟩ : ∃ F, rulF g y lr = F := ⟨_, rfl⟩
    rw [hF] at HU hk hi ⊢
    have hFc := Lib.hid (rulF_le g y lr)
    obtain ⟨sb, off, rfl, hsb, hc⟩ := hR.at_ (by omega) hi
    unfold rulOk at hk
    have hC1 := fun W => refAt_calls y (g F 2) (g F 3) (g F 4) (g F 5) hk.2.2.2.2.2.1 hy W
    have hC2 := fun W => refAt_calls y (g F 6) (g F 7) (g F 8) (g F 9) hk.2.2.2.2.2.2 hy W
    obtain ⟨T1, hT1⟩ : ∃ T, chgT y (g F 2) (g F 3) (g F 4) (g F 5) = T := ⟨_, rfl⟩
    obtain ⟨T2, hT2⟩ : ∃ T, chgT y (g F 6) (g F 7) (g F 8) (g F 9) = T := ⟨_, rfl⟩
    rw [hT1] at hC1 ⊢
    rw [hT2] at hC2 ⊢
    have HF0 : ∀ W, Below w.heap.size w W → W.heap[b0]? = some (.cells #[.int .i64 o, .slice (some ⟨sb, off, none⟩) lr cr] 24 (0, 0)) → W.cell? ⟨b0, 0, none⟩ = some (.int .i64 o) ∧ W.cell? ⟨b0, 1, none⟩ = some (.slice (some ⟨sb, off, none⟩) lr cr) ∧ W.cell? ⟨sb, off + F * 11 + 2, none⟩ = some (.int .i64 (g F 2)) ∧ W.cell? ⟨sb, off + F * 11 + 3, none⟩ = some (.int .i64 (g F 3)) ∧ W.cell? ⟨sb, off + F * 11 + 4, none⟩ = some (.int .i64 (g F 4)) ∧ W.cell? ⟨sb, off + F * 11 + 5, none⟩ = some (.int .i64 (g F 5)) ∧ W.cell? ⟨sb, off + F * 11 + 6, none⟩ = some (.int .i64 (g F 6)) ∧ W.cell? ⟨sb, off + F * 11 + 7, none⟩ = some (.int .i64 (g F 7)) ∧ W.cell? ⟨sb, off + F * 11 + 8, none⟩ = some (.int .i64 (g F 8)) ∧ W.cell? ⟨sb, off + F * 11 + 9, none⟩ = some (.int .i64 (g F 9)) := fun W hW hz =>
      ⟨cell_of_row W b0 0 _ _ _ hz, cell_of_row W b0 1 _ _ _ hz, (hW.cell (p := ⟨sb, off + F * 11 + 2, none⟩) hsb).trans (hc 2 (by omega)), (hW.cell (p := ⟨sb, off + F * 11 + 3, none⟩) hsb).trans (hc 3 (by omega)), (hW.cell (p := ⟨sb, off + F * 11 + 4, none⟩) hsb).trans (hc 4 (by omega)), (hW.cell (p := ⟨sb, off + F * 11 + 5, none⟩) hsb).trans (hc 5 (by omega)), (hW.cell (p := ⟨sb, off + F * 11 + 6, none⟩) hsb).trans (hc 6 (by omega)), (hW.cell (p := ⟨sb, off + F * 11 + 7, none⟩) hsb).trans (hc 7 (by omega)), (hW.cell (p := ⟨sb, off + F * 11 + 8, none⟩) hsb).trans (hc 8 (by omega)), (hW.cell (p := ⟨sb, off + F * 11 + 9, none⟩) hsb).trans (hc 9 (by omega))⟩

    obtain ⟨f2, hf2⟩ : ∃ f, g F 2 = f := ⟨_, rfl⟩
    obtain ⟨f3, hf3⟩ : ∃ f, g F 3 = f := ⟨_, rfl⟩
    obtain ⟨f4, hf4⟩ : ∃ f, g F 4 = f := ⟨_, rfl⟩
    obtain ⟨f5, hf5⟩ : ∃ f, g F 5 = f := ⟨_, rfl⟩
    obtain ⟨f6, hf6⟩ : ∃ f, g F 6 = f := ⟨_, rfl⟩
    obtain ⟨f7, hf7⟩ : ∃ f, g F 7 = f := ⟨_, rfl⟩
    obtain ⟨f8, hf8⟩ : ∃ f, g F 8 = f := ⟨_, rfl⟩
    obtain ⟨f9, hf9⟩ : ∃ f, g F 9 = f := ⟨_, rfl⟩
    rw [hf2, hf3, hf4, hf5] at hC1
    rw [hf6, hf7, hf8, hf9] at hC2
    rw [hf2, hf3, hf4, hf5, hf6, hf7, hf8, hf9] at HF0
    have HF := Lib.hid HF0
    unfold chgC at hC1 hC2
    have HC1 := Lib.hid hC1
    have HC2 := Lib.hid hC2
    replace HU := Lib.hid HU
    have kI : decide ((F : Int) < 0) = false := decide_eq_false (by omega)
    have kJ : (0 : Int) ≤ F ∧ (F : Int) < lr := by omega
    have kJ1 := kJ.1
    have kJ2 := kJ.2
    have kJ3 : F < lr := hi
    clear hC1 hC2 HF0 hf2 hf3 hf4 hf5 hf6 hf7 hf8 hf9 hT1 hT2 hk hy hc hF hi hok hR
    go_enter Tryz.func64, Tryz.ntmps64
    go_wp2_with fail
    refine HU.out.mono ?_
    rintro e w2 ⟨rfl, hb2⟩
    have hr2 := blk_below hr1 hb2
    have hB2 := bnext hst1 hb2
    have HH : Hid (∀ W, Below w2.heap.size w2 W → W.cell? ⟨b0, 0, none⟩ = some (.int .i64 o) ∧ W.cell? ⟨b0, 1, none⟩ = some (.slice (some ⟨sb, off, none⟩) lr cr) ∧ W.cell? ⟨sb, off + F * 11 + 2, none⟩ = some (.int .i64 f2) ∧ W.cell? ⟨sb, off + F * 11 + 3, none⟩ = some (.int .i64 f3) ∧ W.cell? ⟨sb, off + F * 11 + 4, none⟩ = some (.int .i64 f4) ∧ W.cell? ⟨sb, off + F * 11 + 5, none⟩ = some (.int .i64 f5) ∧ W.cell? ⟨sb, off + F * 11 + 6, none⟩ = some (.int .i64 f6) ∧ W.cell? ⟨sb, off + F * 11 + 7, none⟩ = some (.int .i64 f7) ∧ W.cell? ⟨sb, off + F * 11 + 8, none⟩ = some (.int .i64 f8) ∧ W.cell? ⟨sb, off + F * 11 + 9, none⟩ = some (.int .i64 f9)) := fun W hW => HF.out W (bnext hB2 hW) (blk_below hr2 hW)
    clear e0 e1 hst1 hr1 hb2 hr2 HF
    go_wp2_with fail
    go_region_held3 (fun W => W.cell? ⟨b0, 0, none⟩ = some (.int .i64 o) ∧ W.cell? ⟨b0, 1, none⟩ = some (.slice (some ⟨sb, off, none⟩) lr cr) ∧ W.cell? ⟨sb, off + F * 11 + 2, none⟩ = some (.int .i64 f2) ∧ W.cell? ⟨sb, off + F * 11 + 3, none⟩ = some (.int .i64 f3) ∧ W.cell? ⟨sb, off + F * 11 + 4, none⟩ = some (.int .i64 f4) ∧ W.cell? ⟨sb, off + F * 11 + 5, none⟩ = some (.int .i64 f5) ∧ W.cell? ⟨sb, off + F * 11 + 6, none⟩ = some (.int .i64 f6) ∧ W.cell? ⟨sb, off + F * 11 + 7, none⟩ = some (.int .i64 f7) ∧ W.cell? ⟨sb, off + F * 11 + 8, none⟩ = some (.int .i64 f8) ∧ W.cell? ⟨sb, off + F * 11 + 9, none⟩ = some (.int .i64 f9))
      (first | exact HH.out _ ((Below.refl _ _).drew) | exact HH.out _ hb4 | exact HH.out _ hb6)
      (first
        | (go_at_call_of 79 (Value.int .i64 f2); first | (refine (HC1.out w2.drew).mono ?_; rintro e w4 ⟨rfl, hb3⟩; have hb4 := bnext ((Below.refl w2.heap.size w2).drew) hb3) | (refine (HC1.out w4).mono ?_; rintro e w6 ⟨rfl, hb5⟩; have hb6 := bnext hb4 hb5))
        | (go_at_call_of 79 (Value.int .i64 f6); first | (refine (HC2.out w2.drew).mono ?_; rintro e w4 ⟨rfl, hb3⟩; have hb4 := bnext ((Below.refl w2.heap.size w2).drew) hb3) | (refine (HC2.out w4).mono ?_; rintro e w6 ⟨rfl, hb5⟩; have hb6 := bnext hb4 hb5)))
    all_goals
      go_wp2_with fail
      go_ret3
      exact ⟨rfl, bnext hB2 hb6⟩
  · rw [show idxV lr g y = -1 from if_neg hi] at HU
    rw [show reA lr g y = 0 from if_neg hi, show reB lr g y = 0 from if_neg hi, (of_not (show ¬ OfIs o lr g y from fun h => hi h.2)).2]
    replace HU := Lib.hid HU
    clear hi hok hR hr1
    go_enter Tryz.func64, Tryz.ntmps64
    go_wp2_with fail
    refine HU.out.mono ?_
    rintro e w2 ⟨rfl, hb2⟩
    have hB2 := bnext hst1 hb2
    go_wp2_with fail
    go_ret3
    exact ⟨rfl, hB2⟩
end Go.Proofs.YtgbkedjjgbhcmaaGreatDoor

/-
  The document's Offset, walked. Conditions stand at each theorem.
-/
namespace Go.Proofs.YtgbkedjjgbhcmaaGreatDoor
open Go Go.RowKit Go.Kw Go.Kw.Cv Go.Shelf
set_option linter.unusedVariables false
set_option linter.unusedSimpArgs false

noncomputable def summS (o : Int) (lr : Nat) (g : Nat → Nat → Int) (s : Int) : Bool := ofB o lr g (zD (s / 86400)).1 && sumB (reA lr g (zD (s / 86400)).1) (reB lr g (zD (s / 86400)).1) s
theorem summ_ext {o : Int} {lr : Nat} {g : Nat → Nat → Int} (hok : zonOk o lr g) (s : Int) : extV g lr s = if summS o lr g s = true then g (rulF g (zD (s / 86400)).1 lr) 10 else 0 := by
  unfold extV summS
  by_cases hi : rulF g (zD (s / 86400)).1 lr < lr
  · rw [if_pos hi, (of_yes (show OfIs o lr g _ from ⟨hok, hi⟩)).2, Bool.true_and, show reA lr g (zD (s / 86400)).1 = onT g (rulF g (zD (s / 86400)).1 lr) (zD (s / 86400)).1 from if_pos hi, show reB lr g (zD (s / 86400)).1 = offT g (rulF g (zD (s / 86400)).1 lr) (zD (s / 86400)).1 from if_pos hi]
  · rw [if_neg hi, (of_not (show ¬ OfIs o lr g _ from fun h => hi h.2)).2, Bool.false_and]
    rfl
theorem summ_in {o : Int} {lr : Nat} {g : Nat → Nat → Int} {s : Int} (h : summS o lr g s = true) : rulF g (zD (s / 86400)).1 lr < lr := by
  unfold summS at h
  rw [Bool.and_eq_true] at h
  have h1 := h.1
  unfold ofB at h1
  rw [decide_eq_true_eq] at h1
  exact h1.2
set_option maxRecDepth 100000 in
set_option maxHeartbeats 16000000 in
theorem refOffset_no (o : Int) (A : Option Addr) (lr cr : Nat) (g : Nat → Nat → Int) (t : Int) (h : ¬ (zonOk o lr g ∧ secOk (t + o))) (w : World) (hR : RdZ w A lr cr g) :
    Calls Tryz.prog 32 #[zonC o A lr cr, .int .i64 t] w fun e w' => e = .returned (.tuple #[.int .i64 (offV o lr g t), .int .i64 (offE o lr g t)]) ∧ Below w.heap.size w w' := by
  obtain ⟨b0, hb0⟩ : ∃ b0, w.heap.size = b0 := ⟨_, rfl⟩
  obtain ⟨W1, hW1⟩ : ∃ W1, w.alloc (.cells #[.int .i64 o, .slice A lr cr] 24) = W1 := ⟨_, rfl⟩
  have hst1 : Below w.heap.size w W1 := hW1 ▸ bstep w _
  have hr1 : W1.heap[b0]? = some (.cells #[.int .i64 o, .slice A lr cr] 24 (0, 0)) := by rw [← hb0, ← hW1]; exact World.alloc_heap_new w _
  have e0 := cell_of_row W1 b0 0 _ _ _ hr1
  have e1 := cell_of_row W1 b0 1 _ _ _ hr1
  have HM := refMayZ_calls o A lr cr g W1 (hR.go hst1)
  unfold zonC at HM ⊢
  by_cases hok : zonOk o lr g
  · rw [decide_eq_true hok] at HM
    replace HM := Lib.hid HM
    have hs : ¬ secOk (t + o) := fun h' => h ⟨hok, h'⟩
    obtain ⟨v1, v2⟩ := zoff_setup (t := t) hok (fun h => hs h.1)
    rw [v1, v2]
    have ho := hok
    unfold zonOk at ho
    unfold secOk at hs
    clear v1 v2 hok h hR
    by_cases hx : t < -100000
    · have k1 : decide (t < -100000) = true := decide_eq_true hx
      clear ho hs hx hr1
      go_enter Tryz.func32, Tryz.ntmps32
      go_wp2_with fail
      refine HM.out.mono ?_
      rintro e w3 ⟨rfl, hb3⟩
      have hbb := bnext hst1 hb3
      go_wp2_with fail
      go_ret2
      exact ⟨rfl, hbb⟩
    have k1 : decide (t < -100000) = false := decide_eq_false hx
    by_cases hy : t > 253402400800
    · have k2 : decide (t > 253402400800) = true := decide_eq_true hy
      clear ho hs hx hy hr1
      go_enter Tryz.func32, Tryz.ntmps32
      go_wp2_with fail
      refine HM.out.mono ?_
      rintro e w3 ⟨rfl, hb3⟩
      have hbb := bnext hst1 hb3
      go_wp2_with fail
      go_ret2
      exact ⟨rfl, hbb⟩
    have k2 : decide (t > 253402400800) = false := decide_eq_false hy
    obtain ⟨s, hsv⟩ : ∃ s, t + o = s := ⟨_, rfl⟩
    rw [hsv] at hs
    have hb1 : -9223372036854775808 ≤ s ∧ s ≤ 9223372036854775807 := by omega
    have w1 : IntKind.i64.wrap (t + o) = s := by rw [hsv]; exact i64_same s hb1
    have X1 : Hid (wrap64 (t + o) = s) := by show _ = _; rw [hsv]; exact wrap64_in s hb1
    by_cases hz : s < 0
    · have k3 : decide (s < 0) = true := decide_eq_true hz
      clear ho hs hx hy hz hsv hb1
      go_enter Tryz.func32, Tryz.ntmps32
      go_wp2_with fail
      refine HM.out.mono ?_
      rintro e w3 ⟨rfl, hb3⟩
      have e0 := cell_of_row w3 b0 0 _ _ _ (blk_below hr1 hb3)
      have hbb := bnext hst1 hb3
      have x1 := X1.out
      clear hr1 hst1 hW1 hb3 e1
      go_wp2_with fail
      clear x1
      go_ret2
      exact ⟨rfl, hbb⟩
    have k3 : decide (s < 0) = false := decide_eq_false hz
    have k4 : decide (s ≥ 253402300800) = true := decide_eq_true (by omega)
    clear ho hs hx hy hz hsv hb1
    go_enter Tryz.func32, Tryz.ntmps32
    go_wp2_with fail
    refine HM.out.mono ?_
    rintro e w3 ⟨rfl, hb3⟩
    have e0 := cell_of_row w3 b0 0 _ _ _ (blk_below hr1 hb3)
    have hbb := bnext hst1 hb3
    have x1 := X1.out
    clear hr1 hst1 hW1 hb3 e1
    go_wp2_with fail
    clear x1
    go_ret2
    exact ⟨rfl, hbb⟩
  · rw [decide_eq_false hok] at HM
    replace HM := Lib.hid HM
    have v1 : offE o lr g t = 70 := if_neg hok
    have v2 : offV o lr g t = 0 := off_v o lr g t 70 v1 (by decide)
    rw [v1, v2]
    clear v1 v2 hok h hR hr1
    go_enter Tryz.func32, Tryz.ntmps32
    go_wp2_with fail
    refine HM.out.mono ?_
    rintro e w3 ⟨rfl, hb3⟩
    have hbb := bnext hst1 hb3
    go_wp2_with fail
    go_ret2
    exact ⟨rfl, hbb⟩
set_option maxRecDepth 100000 in
set_option maxHeartbeats 32000000 in
theorem refOffset_yes (o : Int) (A : Option Addr) (lr cr : Nat) (g : Nat → Nat → Int) (t : Int) (hok : zonOk o lr g) (hs : secOk (t + o)) (w : World) (hR : RdZ w A lr cr g) :
    Calls Tryz.prog 32 #[zonC o A lr cr, .int .i64 t] w fun e w' => e = .returned (.tuple #[.int .i64 (offV o lr g t), .int .i64 (offE o lr g t)]) ∧ Below w.heap.size w w' := by
  obtain ⟨b0, hb0⟩ : ∃ b0, w.heap.size = b0 := ⟨_, rfl⟩
  have Hb0 := Lib.hid hb0
  obtain ⟨W1, hW1⟩ : ∃ W1, w.alloc (.cells #[.int .i64 o, .slice A lr cr] 24) = W1 := ⟨_, rfl⟩
  have hst1 : Below w.heap.size w W1 := hW1 ▸ bstep w _
  have hr1 : W1.heap[b0]? = some (.cells #[.int .i64 o, .slice A lr cr] 24 (0, 0)) := by rw [← hb0, ← hW1]; exact World.alloc_heap_new w _
  have e0 := cell_of_row W1 b0 0 _ _ _ hr1
  have e1 := cell_of_row W1 b0 1 _ _ _ hr1
  have HM := refMayZ_calls o A lr cr g W1 (hR.go hst1)
  rw [decide_eq_true hok] at HM
  replace HM := Lib.hid HM
  have ho := hok
  unfold zonOk at ho
  have hsr := hs
  unfold secOk at hsr
  have hd := sec_day hs
  obtain ⟨hokD, hday⟩ := zD_spec _ hd
  have hO := fun W => refOf_calls _ _ _ hokD W
  rw [hday] at hO
  have hE := fun W hR => refEdges_calls o A lr cr g (zD ((t + o) / 86400)).1 hok W hR
  have hU := fun W hR => refRule_calls o A lr cr g (zD ((t + o) / 86400)).1 W hR
  have hx := summ_ext hok (t + o)
  have her := extV_range hok (t + o)
  have hin := @summ_in o lr g (t + o)
  have hEE : offE o lr g t = if secOk (t + o + extV g lr (t + o)) then 0 else 60 := by
    unfold offE; rw [if_pos hok]
    by_cases hz : secOk (t + o + extV g lr (t + o))
    · rw [if_pos ⟨hs, hz⟩, if_pos hz]
    · rw [if_neg (fun h => hz h.2), if_neg hz]
  have hV : secOk (t + o + extV g lr (t + o)) → offV o lr g t = o + extV g lr (t + o) := fun h => if_pos (by rw [hEE, if_pos h])
  have hV0 : ¬ secOk (t + o + extV g lr (t + o)) → offV o lr g t = 0 := fun h => if_neg (by rw [hEE, if_neg h]; decide)
  have hS : summS o lr g (t + o) = (ofB o lr g (zD ((t + o) / 86400)).1 && sumB (reA lr g (zD ((t + o) / 86400)).1) (reB lr g (zD ((t + o) / 86400)).1) (t + o)) := rfl
  obtain ⟨E, hEv⟩ : ∃ E, offE o lr g t = E := ⟨_, rfl⟩
  obtain ⟨V, hVv⟩ : ∃ V, offV o lr g t = V := ⟨_, rfl⟩
  rw [hEv] at hEE ⊢
  rw [hVv] at hV hV0 ⊢
  obtain ⟨S, hSv⟩ : ∃ S, summS o lr g (t + o) = S := ⟨_, rfl⟩
  rw [hSv] at hx hin hS
  have k1 : decide (t < -100000) = false := decide_eq_false (by omega)
  have k2 : decide (t > 253402400800) = false := decide_eq_false (by omega)
  obtain ⟨s, hsv⟩ : ∃ s, t + o = s := ⟨_, rfl⟩
  rw [hsv] at hs hsr hO hE hU hx her hin hEE hV hV0 hS hd
  obtain ⟨q, hq⟩ : ∃ q, s / 86400 = q := ⟨_, rfl⟩
  rw [hq] at hO hE hU hin hS hd hx
  obtain ⟨y, hy⟩ : ∃ y, (zD q).1 = y := ⟨_, rfl⟩
  obtain ⟨mm, hmm⟩ : ∃ y, (zD q).2.1 = y := ⟨_, rfl⟩
  obtain ⟨dd, hdd⟩ : ∃ y, (zD q).2.2 = y := ⟨_, rfl⟩
  rw [hy, hmm, hdd] at hO
  rw [hy] at hE hU hin hS hx
  obtain ⟨B, hB⟩ : ∃ B, ofB o lr g y = B := ⟨_, rfl⟩
  obtain ⟨T1, hT1⟩ : ∃ T, reA lr g y = T := ⟨_, rfl⟩
  obtain ⟨T2, hT2⟩ : ∃ T, reB lr g y = T := ⟨_, rfl⟩
  rw [hB, hT1, hT2] at hE hS
  have k3 : decide (s < 0) = false := decide_eq_false (by omega)
  have k4 : decide (s ≥ 253402300800) = false := decide_eq_false (by omega)
  have t1 : s.tdiv 86400 = q := by rw [Int.tdiv_eq_ediv_of_nonneg (by omega)]; exact hq
  have hb1 : -9223372036854775808 ≤ s ∧ s ≤ 9223372036854775807 := by omega
  have a1 := i64_same q (by omega)
  obtain ⟨F, hF⟩ : ∃ F, rulF g y lr = F := ⟨_, rfl⟩
  have hidx : F < lr → idxV lr g y = (F : Int) := fun h => by unfold idxV; rw [hF, if_pos h]
  rw [hF] at hin hx
  have hc : F < lr → ∃ sb off, A = some ⟨sb, off, none⟩ ∧ sb < w.heap.size ∧ ∀ j, j < 11 → w.cell? ⟨sb, off + F * 11 + j, none⟩ = some (.int .i64 (g F j)) := fun h => hR.at_ (by omega) h
  have Hbnd := Lib.hid (And.intro hb1 (And.intro ho.1 (And.intro ho.2.1 hsv)))
  have Hsr := Lib.hid hsr
  have Her := Lib.hid her
  have Hlr := Lib.hid (show lr ≤ 20 from ho.2.2.1)
  have w1 : IntKind.i64.wrap (t + o) = s := by rw [hsv]; exact i64_same s hb1
  have X1 : Hid (wrap64 (t + o) = s) := by show _ = _; rw [hsv]; exact wrap64_in s hb1
  unfold zonC at HM hE hU ⊢
  have HO := Lib.hid hO
  have HE := Lib.hid hE
  have HU := Lib.hid hU
  have HR := Lib.hid (hR.go hst1)
  have Hx := Lib.hid hx
  have Hin := Lib.hid hin
  have HEE := Lib.hid hEE
  have HV := Lib.hid hV
  have HV0 := Lib.hid hV0
  have HS := Lib.hid hS
  have Hidx := Lib.hid hidx
  have Hc := Lib.hid hc
  have Hs := Lib.hid hs
  clear hEv hVv hO hE hU hx her hin hEE hV hV0 hS hidx hc hs hsr hd hokD hday hok ho hSv hq hy hmm hdd hB hT1 hT2 hb1 hF hR hsv
  go_enter Tryz.func32, Tryz.ntmps32
  go_wp2_with fail
  refine HM.out.mono ?_
  rintro e w2 ⟨rfl, hb2⟩
  have hr2 := blk_below hr1 hb2
  have e0 := cell_of_row w2 b0 0 _ _ _ hr2
  have e1 := cell_of_row w2 b0 1 _ _ _ hr2
  have hB2 := bnext hst1 hb2
  have hR2 := HR.out.go hb2
  have x1 := X1.out
  clear hr1 hst1 hW1 hb2 HM
  go_wp2_with fail
  clear x1
  refine (HO.out _).mono ?_
  rintro e w3 ⟨rfl, ea⟩
  rw [ea]; clear ea w3 HO
  go_wp2_with fail
  refine (HE.out _ hR2).mono ?_
  rintro e w4 ⟨rfl, hb4⟩
  have hr4 := blk_below hr2 hb4
  have hB4 := bnext hB2 hb4
  have hR4 := hR2.go hb4
  clear hr2 hB2 hR2 hb4 HE e0 e1
  go_upto_region 11 with fail
  go_cut [15] from 52 to 82 (fun s15 wx => s15 = .bool S ∧ wx = w4)
  case first =>
    cases B with
    | false =>
      have hS := HS.out
      rw [Bool.false_and] at hS
      subst hS
      go_wp2_with fail
      go_meet
      exact ⟨rfl, rfl⟩
    | true =>
      have hS := HS.out
      rw [Bool.true_and] at hS
      have hiff := sumB_iff T1 T2 s
      rw [← hS] at hiff
      rcases (by omega : (T1 < T2 ∧ s < T1) ∨ (T1 < T2 ∧ ¬ s < T1 ∧ T2 ≤ s) ∨ (T1 < T2 ∧ ¬ s < T1 ∧ s < T2) ∨ (T2 < T1 ∧ s < T2) ∨ (T2 < T1 ∧ ¬ s < T2 ∧ T1 ≤ s) ∨ (T2 < T1 ∧ ¬ s < T2 ∧ s < T1) ∨ T1 = T2) with hp | hp | hp | hp | hp | hp | hp
      · skip
        have c1 : decide (T1 < T2) = true := decide_eq_true (by omega)
        have c2 : decide (s ≥ T1) = false := decide_eq_false (by omega)
        have c4 : decide (T2 < T1) = false := decide_eq_false (by omega)
        obtain rfl : S = false := Bool.eq_false_iff.2 (fun h => by have := hiff.1 h; omega)
        clear hp hiff hS
        go_wp2_with fail
        go_meet
        exact ⟨rfl, rfl⟩
      · skip
        have c1 : decide (T1 < T2) = true := decide_eq_true (by omega)
        have c2 : decide (s ≥ T1) = true := decide_eq_true (by omega)
        have c3 : decide (s < T2) = false := decide_eq_false (by omega)
        have c4 : decide (T2 < T1) = false := decide_eq_false (by omega)
        obtain rfl : S = false := Bool.eq_false_iff.2 (fun h => by have := hiff.1 h; omega)
        clear hp hiff hS
        go_wp2_with fail
        go_meet
        exact ⟨rfl, rfl⟩
      · skip
        have c1 : decide (T1 < T2) = true := decide_eq_true (by omega)
        have c2 : decide (s ≥ T1) = true := decide_eq_true (by omega)
        have c3 : decide (s < T2) = true := decide_eq_true (by omega)
        obtain rfl : S = true := hiff.2 (by omega)
        clear hp hiff hS
        go_wp2_with fail
        go_meet
        exact ⟨rfl, rfl⟩
      · skip
        have c1 : decide (T1 < T2) = false := decide_eq_false (by omega)
        have c4 : decide (T2 < T1) = true := decide_eq_true (by omega)
        have c3 : decide (s < T2) = true := decide_eq_true (by omega)
        obtain rfl : S = true := hiff.2 (by omega)
        clear hp hiff hS
        go_wp2_with fail
        go_meet
        exact ⟨rfl, rfl⟩
      · skip
        have c1 : decide (T1 < T2) = false := decide_eq_false (by omega)
        have c4 : decide (T2 < T1) = true := decide_eq_true (by omega)
        have c3 : decide (s < T2) = false := decide_eq_false (by omega)
        have c2 : decide (s ≥ T1) = true := decide_eq_true (by omega)
        obtain rfl : S = true := hiff.2 (by omega)
        clear hp hiff hS
        go_wp2_with fail
        go_meet
        exact ⟨rfl, rfl⟩
      · skip
        have c1 : decide (T1 < T2) = false := decide_eq_false (by omega)
        have c4 : decide (T2 < T1) = true := decide_eq_true (by omega)
        have c3 : decide (s < T2) = false := decide_eq_false (by omega)
        have c2 : decide (s ≥ T1) = false := decide_eq_false (by omega)
        obtain rfl : S = false := Bool.eq_false_iff.2 (fun h => by have := hiff.1 h; omega)
        clear hp hiff hS
        go_wp2_with fail
        go_meet
        exact ⟨rfl, rfl⟩
      · skip
        have c1 : decide (T1 < T2) = false := decide_eq_false (by omega)
        have c4 : decide (T2 < T1) = false := decide_eq_false (by omega)
        obtain rfl : S = false := Bool.eq_false_iff.2 (fun h => by have := hiff.1 h; omega)
        clear hp hiff hS
        go_wp2_with fail
        go_meet
        exact ⟨rfl, rfl⟩
  case rest =>
    obtain ⟨rfl, rfl⟩ := hcut
    have e0 := cell_of_row wc b0 0 _ _ _ hr4
    have e1 := cell_of_row wc b0 1 _ _ _ hr4
    cases S with
    | false =>
      have hx : extV g lr s = 0 := by rw [Hx.out, if_neg (by decide)]
      have hu : secOk (s + extV g lr s) := by rw [hx, Int.add_zero]; exact Hs.out
      have HEV := Lib.hid (show E = 0 ∧ V = o from ⟨by rw [HEE.out, if_pos hu], by rw [HV.out hu, hx, Int.add_zero]⟩)
      have x1 := X1.out
      clear hx hu
      go_wp2_with fail
      clear x1
      go_ret2
      exact ⟨by rw [HEV.out.1, HEV.out.2] <;> rfl, hB4⟩
    | true =>
      have hlt := Hin.out rfl
      have hx : extV g lr s = g F 10 := by rw [Hx.out, if_pos rfl]
      have hidx := Hidx.out hlt
      obtain ⟨sb, off, rfl, hsb, hcc⟩ := Hc.out hlt
      rw [hx] at Her HEE HV HV0
      have hU := HU.out
      rw [hidx] at hU
      have HH0 : ∀ W, Below wc.heap.size wc W → W.cell? ⟨b0, 0, none⟩ = some (.int .i64 o) ∧ W.cell? ⟨b0, 1, none⟩ = some (.slice (some ⟨sb, off, none⟩) lr cr) ∧ W.cell? ⟨sb, off + F * 11 + 10, none⟩ = some (.int .i64 (g F 10)) := fun W hW =>
        ⟨cell_of_row W b0 0 _ _ _ (blk_below hr4 hW), cell_of_row W b0 1 _ _ _ (blk_below hr4 hW), (((bnext hB4 hW)).cell (p := ⟨sb, off + F * 11 + 10, none⟩) hsb).trans (hcc 10 (by omega))⟩
      obtain ⟨x, hxv⟩ : ∃ x, g F 10 = x := ⟨_, rfl⟩
      rw [hxv] at Her HEE HV HV0 HH0
      have HH := Lib.hid HH0
      have hbd := Hbnd.out
      have her := Her.out
      have hsr := Hsr.out
      have kJ1 : (0 : Int) ≤ F := by omega
      have kJ2 : (F : Int) < lr := by omega
      have hbx : -9223372036854775808 ≤ o + x ∧ o + x ≤ 9223372036854775807 := by omega
      have hbu : -9223372036854775808 ≤ s + x ∧ s + x ≤ 9223372036854775807 := by omega
      have hadd : t + (o + x) = s + x := by omega
      obtain ⟨u, hu⟩ : ∃ u, s + x = u := ⟨_, rfl⟩
      rw [hu] at hadd hbu HEE HV HV0
      have w2 := i64_same (o + x) hbx
      have w3 : IntKind.i64.wrap (t + (o + x)) = u := by rw [hadd]; exact i64_same u hbu
      have XX : Hid (wrap64 (o + x) = o + x ∧ wrap64 (t + (o + x)) = u) := ⟨wrap64_in _ hbx, by rw [hadd]; exact wrap64_in u hbu⟩
      have hun : secOk u ↔ u < 253402300800 := by unfold secOk; omega
      have HUU := Lib.hid hU
      have hRc := Lib.hid hR4
      obtain ⟨D, hD⟩ : ∃ D, decide (u ≥ 253402300800) = D := ⟨_, rfl⟩
      have HD := Lib.hid hD
      have Hun := Lib.hid hun
      have HB4 := Lib.hid hB4
      clear hlt hx hidx hU HH0 hcc hxv hbd her hsr hbx hbu hadd hu hun hR4 hB4 hr4 Hbnd Hsr Her Hx Hin Hidx Hc Hs HU HR HS Hlr
      go_upto_region 14 with fail
      clear e0 e1
      have x2 := XX.out.1
      go_region_held3 (fun W => W.cell? ⟨b0, 0, none⟩ = some (.int .i64 o) ∧ W.cell? ⟨b0, 1, none⟩ = some (.slice (some ⟨sb, off, none⟩) lr cr) ∧ W.cell? ⟨sb, off + F * 11 + 10, none⟩ = some (.int .i64 x))
        (first | exact HH.out _ ((Below.refl _ _).drew) | exact HH.out _ hb6)
        ((go_at_call 65; refine (HUU.out _ (hRc.out.go ((Below.refl _ _).drew))).mono ?_; rintro e w5 ⟨rfl, hb5⟩; have hb6 := bnext ((Below.refl wc.heap.size wc).drew) hb5))
      all_goals
        clear x2
        have hB6 := bnext HB4.out hb6
        cases D with
        | true =>
          have hno : ¬ secOk u := fun h => by have h1 := Hun.out.1 h; have h2 := of_decide_eq_true HD.out; omega
          have HEV := Lib.hid (show E = 60 ∧ V = 0 from ⟨by rw [HEE.out, if_neg hno], HV0.out hno⟩)
          clear hno
          have x3 := XX.out.2
          go_wp2_with fail
          clear x3
          go_ret2
          exact ⟨by rw [HEV.out.1, HEV.out.2] <;> rfl, hB6⟩
        | false =>
          have hyes : secOk u := Hun.out.2 (by have h2 := of_decide_eq_false HD.out; omega)
          have HEV := Lib.hid (show E = 0 ∧ V = o + x from ⟨by rw [HEE.out, if_pos hyes], HV.out hyes⟩)
          clear hyes
          have x3 := XX.out.2
          go_wp2_with fail
          clear x3
          go_ret2
          exact ⟨by rw [HEV.out.1, HEV.out.2] <;> rfl, hB6⟩
theorem refOffset_calls (o : Int) (A : Option Addr) (lr cr : Nat) (g : Nat → Nat → Int) (t : Int) (w : World) (hR : RdZ w A lr cr g) :
    Calls Tryz.prog 32 #[zonC o A lr cr, .int .i64 t] w fun e w' => e = .returned (.tuple #[.int .i64 (offV o lr g t), .int .i64 (offE o lr g t)]) ∧ Below w.heap.size w w' := by
  by_cases h : zonOk o lr g ∧ secOk (t + o)
  · exact refOffset_yes o A lr cr g t h.1 h.2 w hR
  · exact refOffset_no o A lr cr g t h w hR
end Go.Proofs.YtgbkedjjgbhcmaaGreatDoor

/-
  The document's word on a day's season: walked. Conditions stand at each theorem.
-/
namespace Go.Proofs.YtgbkedjjgbhcmaaGreatDoor
open Go Go.RowKit Go.Kw Go.Kw.Cv Go.Shelf
set_option linter.unusedVariables false
set_option linter.unusedSimpArgs false

theorem meas_800 (k : Nat) (h : k + 1 ≤ 800) : 800 - (intOf (Value.int .i64 ((k : Int) + 1))).toNat < 800 - (intOf (Value.int .i64 (k : Int))).toNat := by
  show 800 - ((k : Int) + 1).toNat < 800 - (k : Int).toNat
  omega
set_option maxRecDepth 100000 in
set_option maxHeartbeats 8000000 in
theorem refSeason_calls (A : Option Addr) (la ca : Nat) (gh : Nat → Nat → Int) (B : Option Addr) (lb cb : Nat) (gs : Nat → Nat → Int) (hS : seasAll gs lb) (hlb : lb ≤ 12) (n : Int) (hn : 0 ≤ n ∧ n ≤ 2932896) (w : World) (hR : RdCal w A la ca gh B lb cb gs) :
    Calls Tryz.prog 33 #[calC A la ca B lb cb, .int .i64 n] w fun e w' => e = .returned (.int .i64 (seasD gs lb n)) ∧ Below w.heap.size w w' := by
  obtain ⟨hok, hday⟩ := dOf_spec n hn
  unfold seasD
  obtain ⟨y, hy⟩ : ∃ y, (dOf n).1 = y := ⟨_, rfl⟩
  obtain ⟨m, hm⟩ : ∃ m, (dOf n).2.1 = m := ⟨_, rfl⟩
  obtain ⟨d, hd⟩ : ∃ d, (dOf n).2.2 = d := ⟨_, rfl⟩
  rw [hy, hm, hd] at hok hday
  rw [hm, hd]
  have HO := refOf_calls y m d hok
  rw [hday] at HO
  have hyy := And.intro hok.1 hok.2.1
  have hI0 := seaI_0 gs lb y m d hok
  have HS := Lib.hid hS
  have Hok := Lib.hid hok
  have Hyy := Lib.hid hyy
  have Hlb := Lib.hid hlb
  replace HO := Lib.hid HO
  clear hy hm hd hok hday hyy hS hlb
  obtain ⟨b0, hb0⟩ : ∃ b0, w.heap.size = b0 := ⟨_, rfl⟩
  have Hb0 := Lib.hid hb0
  obtain ⟨W1, hW1⟩ : ∃ W1, w.alloc (.cells #[.slice A la ca, .slice B lb cb] 28) = W1 := ⟨_, rfl⟩
  have hrow : W1.heap[b0]? = some (.cells #[.slice A la ca, .slice B lb cb] 28 (0, 0)) := by rw [← hb0, ← hW1]; exact World.alloc_heap_new w _
  have hB1 : Below w.heap.size w W1 := hW1 ▸ bstep w _
  have HR := Lib.hid hR
  have HB1 := Lib.hid hB1
  have Hrow := Lib.hid hrow
  unfold calC
  clear hR hB1 hrow
  go_enter Tryz.func33, Tryz.ntmps33
  go_wp2_with fail
  refine (HO.out _).mono ?_
  rintro e w3 ⟨rfl, e3⟩
  rw [e3]
  clear e3 w3
  go_wp2_with fail
  try rw [hW1]
  clear hW1
  go_loopw [5, 6, 7, 9] (fun vy vm vd vi wr => ∃ (k : Nat) (a b c : Int), vy = .int .i64 a ∧ vm = .int .i64 b ∧ vd = .int .i64 c ∧ vi = .int .i64 k ∧ k ≤ 800 ∧ wr = W1 ∧ SeaI gs lb y m d a b c k) (fun _ _ _ vi _ => 800 - (intOf vi).toNat)
  case atStart => exact ⟨0, y, m, d, rfl, rfl, rfl, rfl, by omega, rfl, hI0⟩
  case round =>
    obtain ⟨k, a, b, c, rfl, rfl, rfl, rfl, hk, hwr, hI⟩ := hrel
    subst hwr
    by_cases hlt : k < 800
    · have hI8 : (k : Int) < 800 := by omega
      have Hk := Lib.hid (show k + 1 ≤ 800 from hlt)
      have HI := Lib.hid hI
      clear hI hk hlt
      go_wp2_with fail
      go_loopw [10] (fun i wx => ∃ q : Nat, i = .int .i64 q ∧ q ≤ lb ∧ wx = wr ∧ ∀ j, j < q → ¬ (gs j 1 = b ∧ gs j 2 = c)) (fun i _ => lb - (intOf i).toNat)
      case atStart => exact ⟨0, rfl, by omega, rfl, fun j hj => absurd hj (by omega)⟩
      case round =>
        obtain ⟨q, rfl, hq, hwx, hno⟩ := hrel
        subst hwx
        have e1 := cell_of_row _ b0 1 _ _ _ Hrow.out
        by_cases hql : q < lb
        · have hQ : (q : Int) < lb := by omega
          obtain ⟨sb, off, rfl, hsb, hc⟩ := HR.out.2.at_ (by omega) hql
          have hc' : ∀ j, j < 3 → wr.cell? ⟨sb, off + q * 3 + j, none⟩ = some (.int .i64 (gs q j)) := fun j hj => (HB1.out.cell (p := ⟨sb, off + q * 3 + j, none⟩) hsb).trans (hc j hj)
          have c0 : wr.cell? ⟨sb, off + q * 3, none⟩ = some (.int .i64 (gs q 0)) := hc' 0 (by omega)
          have c1 := hc' 1 (by omega)
          have c2 := hc' 2 (by omega)
          have Hno := Lib.hid hno
          have Hq := Lib.hid (show q + 1 ≤ lb from hql)
          have wq1 : IntKind.i64.wrap ((q : Int) + 1) = (q : Int) + 1 := i64_same _ (by have := Hlb.out; omega)
          have Xq := Lib.hid (wrap64_in ((q : Int) + 1) (by have := Hlb.out; omega))
          by_cases h1 : gs q 1 = b
          · have k1 : (gs q 1 == b) = true := beq_iff_eq.2 h1
            by_cases h2 : gs q 2 = c
            · have k2 : (gs q 2 == c) = true := beq_iff_eq.2 h2
              have HY := Lib.hid (seaI_hit HS.out HI.out hql h1 h2)
              clear hc hc' hno hq hql h1 h2
              go_wp2_with fail
              go_ret
              rw [HY.out]
              exact ⟨rfl, HB1.out⟩
            · have k2 : (gs q 2 == c) = false := beq_eq_false_iff_ne.2 h2
              have H2 := Lib.hid (show ¬ (gs q 1 = b ∧ gs q 2 = c) from fun h => h2 h.2)
              clear hc hc' hno hq hql h1 h2
              have xq := Xq.out
              go_wp2_with fail
              clear xq
              exact ⟨⟨q + 1, by push_cast; rfl, Hq.out, by first | rfl | trivial, fun j hj => by
                by_cases e : j = q
                · rw [e]; exact H2.out
                · exact Hno.out j (by omega)⟩, meas_step lb q Hq.out⟩
          · have k1 : (gs q 1 == b) = false := beq_eq_false_iff_ne.2 h1
            have H2 := Lib.hid (show ¬ (gs q 1 = b ∧ gs q 2 = c) from fun h => h1 h.1)
            clear hc hc' hno hq hql h1
            have xq := Xq.out
            go_wp2_with fail
            clear xq
            exact ⟨⟨q + 1, by push_cast; rfl, Hq.out, by first | rfl | trivial, fun j hj => by
              by_cases e : j = q
              · rw [e]; exact H2.out
              · exact Hno.out j (by omega)⟩, meas_step lb q Hq.out⟩
        · obtain rfl : q = lb := by omega
          have hQ : ¬ ((q : Int) < q) := by omega
          have hbd := seaI_bd HI.out
          have hyy := Hyy.out
          have a1 := i64_same (c - 1) (by omega)
          have A1 := Lib.hid (wrap64_in (c - 1) (by omega))
          have wk1 : IntKind.i64.wrap ((k : Int) + 1) = (k : Int) + 1 := i64_same _ (by have := Hk.out; omega)
          have Xk := Lib.hid (wrap64_in ((k : Int) + 1) (by have := Hk.out; omega))
          by_cases h2 : 2 ≤ c
          · have kc : (c - 1 == 0) = false := beq_eq_false_iff_ne.2 (by omega)
            have HN := Lib.hid (seaI_step1 HS.out HI.out hno h2)
            clear hno hq hql h2 hbd hyy
            have x1 := A1.out
            have xk := Xk.out
            go_wp2_with fail
            clear x1 xk
            exact ⟨⟨k + 1, a, b, c - 1, rfl, rfl, rfl, by push_cast; rfl, Hk.out, by first | rfl | trivial, HN.out⟩, meas_800 k Hk.out⟩
          · obtain rfl : c = 1 := by omega
            have a2 := i64_same (b - 1) (by omega)
            have A2 := Lib.hid (wrap64_in (b - 1) (by omega))
            by_cases h3 : 2 ≤ b
            · have kb : (b - 1 == 0) = false := beq_eq_false_iff_ne.2 (by omega)
              have HN := Lib.hid (seaI_step2 HS.out HI.out hno h3)
              have HD := Lib.hid (refDays_calls a (b - 1) (by have := Hk.out; omega))
              clear hno hq hql h2 h3 hbd hyy a1 A1
              have x2 := A2.out
              have xk := Xk.out
              go_wp2_with fail
              refine (HD.out _).mono ?_
              rintro e w4 ⟨rfl, rfl⟩
              go_wp2_with fail
              clear x2 xk
              exact ⟨⟨k + 1, a, b - 1, _, rfl, rfl, rfl, by push_cast; rfl, Hk.out, by first | rfl | trivial, HN.out⟩, meas_800 k Hk.out⟩
            · obtain rfl : b = 1 := by omega
              have a3 := i64_same (a - 1) (by have := Hk.out; omega)
              have A3 := Lib.hid (wrap64_in (a - 1) (by have := Hk.out; omega))
              have HN := Lib.hid (seaI_step3 HS.out HI.out hno)
              have HD := Lib.hid (refDays_calls (a - 1) 12 (by have := Hk.out; omega))
              clear hno hq hql h2 h3 hbd hyy a1 A1 a2 A2
              have x3 := A3.out
              have xk := Xk.out
              go_wp2_with fail
              refine (HD.out _).mono ?_
              rintro e w4 ⟨rfl, rfl⟩
              go_wp2_with fail
              clear x3 xk
              exact ⟨⟨k + 1, a - 1, 12, _, rfl, rfl, rfl, by push_cast; rfl, Hk.out, by first | rfl | trivial, HN.out⟩, meas_800 k Hk.out⟩
    · obtain rfl : k = 800 := by omega
      have HE := Lib.hid (seaI_end Hok.out hI)
      clear hI hlt hk
      go_wp2_with fail
      go_ret
      rw [HE.out]
      exact ⟨rfl, HB1.out⟩
end Go.Proofs.YtgbkedjjgbhcmaaGreatDoor
