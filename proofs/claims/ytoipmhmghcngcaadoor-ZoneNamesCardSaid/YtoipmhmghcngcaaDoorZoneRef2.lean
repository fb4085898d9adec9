/-
  The document's at, Rule and Edges, walked. Conditions stand at each theorem.
-/
import Derived.Test.YtoipmhmghcngcaaDoorZoneLocal
namespace Go.Proofs.YtoipmhmghcngcaaDoor
open Go Go.RowKit Go.Kw Go.Kw.Cv Go.Shelf
set_option linter.unusedVariables false
set_option linter.unusedSimpArgs false

set_option maxRecDepth 100000 in
set_option maxHeartbeats 8000000 in
theorem refAt_calls (y m wd n mi : Int) (h : chgOk m wd n mi) (hy : 1970 ≤ y ∧ y ≤ 9999) (w : World) :
    Calls Tryd.prog 37 #[.int .i64 y, chgC m wd n mi] w fun e w' => e = .returned (.int .i64 (chgT y m wd n mi)) ∧ Below w.heap.size w w' := by
  obtain ⟨b0, hb0⟩ : ∃ b0, w.heap.size = b0 := ⟨_, rfl⟩
  obtain ⟨W1, hW1⟩ : ∃ W1, w.alloc (.cells #[.int .i64 m, .int .i64 wd, .int .i64 n, .int .i64 mi] 29) = W1 := ⟨_, rfl⟩
  have hst : Below w.heap.size w W1 := hW1 ▸ bstep w _
  have hrn : W1.heap[b0]? = some (.cells #[.int .i64 m, .int .i64 wd, .int .i64 n, .int .i64 mi] 29 (0, 0)) := by rw [← hb0, ← hW1]; exact World.alloc_heap_new w _
  have d0 := cell_of_row W1 b0 0 _ _ _ hrn
  have d1 := cell_of_row W1 b0 1 _ _ _ hrn
  have d2 := cell_of_row W1 b0 2 _ _ _ hrn
  have d3 := cell_of_row W1 b0 3 _ _ _ hrn
  obtain ⟨h1, h2⟩ := chg_nth h hy
  have hT := chgT_range h hy
  have HN := fun W => refNth_calls y m wd n W
  rw [show nthV y m wd n = (nthN y m wd n, 0) from if_pos ⟨h1, h2⟩] at HN
  have hk : okD y m (nthN y m wd n) := ⟨hy.1, hy.2, (nth_lo y m wd n h1).1, h2⟩
  have HD := fun W => refDay_calls y m (nthN y m wd n) W
  rw [show dayE y m (nthN y m wd n) = dayN y m (nthN y m wd n) from if_pos hk, chk_ok hk] at HD
  have hdr := day_range hk
  have hmi := h.2.2.2.2.2
  unfold chgT at hT ⊢
  obtain ⟨D, hD⟩ : ∃ D, nthN y m wd n = D := ⟨_, rfl⟩
  rw [hD] at HN HD hdr hT ⊢
  obtain ⟨V, hV⟩ : ∃ V, dayN y m D = V := ⟨_, rfl⟩
  rw [hV] at HD hdr hT ⊢
  have X1 := Lib.hid (And.intro (wrap64_in (V * 86400) (by omega)) (And.intro (wrap64_in (mi * 60) (by omega)) (wrap64_in (V * 86400 + mi * 60) (by omega))))
  have w1 := i64_same (V * 86400) (by omega)
  have w2 := i64_same (mi * 60) (by omega)
  have w3 := i64_same (V * 86400 + mi * 60) (by omega)
  dsimp only at HN
  replace HN := Lib.hid HN
  replace HD := Lib.hid HD
  unfold chgC
  clear h hy h1 h2 hT hk hdr hmi hD hV hrn
  go_enter Tryd.func37, Tryd.ntmps37
  go_wp2_with fail
  refine (HN.out _).mono ?_
  rintro e wa ⟨rfl, ea⟩
  rw [ea]; clear ea wa
  go_wp2_with fail
  refine (HD.out _).mono ?_
  rintro e wa ⟨rfl, ea⟩
  rw [ea]; clear ea wa
  have x1 := X1.out.1
  have x2 := X1.out.2.1
  have x3 := X1.out.2.2
  go_wp2_with fail
  clear x1 x2 x3
  go_ret
  exact ⟨rfl, hst⟩
set_option maxRecDepth 100000 in
set_option maxHeartbeats 8000000 in
theorem refRule_calls (o : Int) (A : Option Addr) (lr cr : Nat) (g : Nat → Nat → Int) (y : Int) (w : World) (hR : RdZ w A lr cr g) :
    Calls Tryd.prog 14 #[zonC o A lr cr, .int .i64 y] w fun e w' => e = .returned (.int .i64 (idxV lr g y)) ∧ Below w.heap.size w w' := by
  obtain ⟨b0, hb0⟩ : ∃ b0, w.heap.size = b0 := ⟨_, rfl⟩
  have Hb0 := Lib.hid hb0
  obtain ⟨W1, hW1⟩ : ∃ W1, w.alloc (.cells #[.int .i64 o, .slice A lr cr] 24) = W1 := ⟨_, rfl⟩
  have hst : Below w.heap.size w W1 := hW1 ▸ bstep w _
  have hr1 : W1.heap[b0]? = some (.cells #[.int .i64 o, .slice A lr cr] 24 (0, 0)) := by rw [← hb0, ← hW1]; exact World.alloc_heap_new w _
  have e1 := cell_of_row W1 b0 1 _ _ _ hr1
  have HR := Lib.hid (hR.go hst)
  have hla := hR.1
  have hca := hR.2.1
  have hmx : maxLen = 9223372036854775807 := rfl
  have Hlen := Lib.hid (show lr ≤ 9223372036854775807 by omega)
  have Hst := Lib.hid hst
  have HRw := Lib.hid hR
  unfold zonC
  clear hR hla hca hmx hst hr1
  go_enter Tryd.func14, Tryd.ntmps14
  go_wp2_with fail
  go_loopw [5] (fun i wr => ∃ k : Nat, k ≤ lr ∧ i = .int .i64 k ∧ (∀ j, j < k → inR g j y = false) ∧ wr = W1) (fun i _ => lr - (intOf i).toNat)
  case atStart => exact ⟨0, by omega, rfl, fun j hj => absurd hj (by omega), rfl⟩
  case round =>
    obtain ⟨k, hk, rfl, hA, rfl⟩ := hrel
    by_cases hlt : k < lr
    · have hI : (k : Int) < lr := by omega
      obtain ⟨sb, off, rfl, hsb, hc⟩ := HRw.out.at_ (by omega) hlt
      have hc' : ∀ j, j < 11 → wr.cell? ⟨sb, off + k * 11 + j, none⟩ = some (.int .i64 (g k j)) := fun j hj => (Hst.out.cell (p := ⟨sb, off + k * 11 + j, none⟩) hsb).trans (hc j hj)
      have c0 : wr.cell? ⟨sb, off + k * 11, none⟩ = some (.int .i64 (g k 0)) := hc' 0 (by omega)
      have c1 := hc' 1 (by omega)
      have w1 : IntKind.i64.wrap ((k : Int) + 1) = (k : Int) + 1 := i64_same _ (by have := Hlen.out; omega)
      have X1 := Lib.hid (wrap64_in ((k : Int) + 1) (by have := Hlen.out; omega))
      have Hk := Lib.hid (show k + 1 ≤ lr from hlt)
      have Hlt := Lib.hid hlt
      have HA := Lib.hid hA
      by_cases h0 : g k 0 ≤ y
      · have k0 : decide (y ≥ g k 0) = true := decide_eq_true h0
        by_cases h1 : y ≤ g k 1
        · have k1 : decide (y ≤ g k 1) = true := decide_eq_true h1
          have hF : rulF g y lr = k := rulF_unique g y lr k (by have := Hlt.out; omega) (fun _ => by unfold inR; rw [decide_eq_true h0, decide_eq_true h1]; rfl) HA.out
          have Hv : Hid (idxV lr g y = (k : Int)) := by show _ = _; unfold idxV; rw [hF, if_pos hlt]
          clear hc hc' hA hk hlt h0 h1 hF
          go_wp2_with fail
          go_ret
          rw [Hv.out]
          exact ⟨rfl, by first | exact Hst.out | (rw [Hb0.out]; exact Hst.out) | (rw [← Hb0.out]; exact Hst.out)⟩
        · have k1 : decide (y ≤ g k 1) = false := decide_eq_false h1
          have HV := Lib.hid (show inR g k y = false by unfold inR; rw [decide_eq_false h1, Bool.and_false])
          clear hc hc' hA hk hlt h0 h1
          have x1 := X1.out
          go_wp2_with fail
          clear x1
          exact ⟨⟨k + 1, Hk.out, by push_cast; rfl, fun j hj => by
            by_cases e : j = k
            · rw [e]; exact HV.out
            · exact HA.out j (by omega), by first | rfl | trivial⟩, meas_z lr k Hk.out⟩
      · have k0 : decide (y ≥ g k 0) = false := decide_eq_false h0
        have HV := Lib.hid (show inR g k y = false by unfold inR; rw [decide_eq_false h0, Bool.false_and])
        clear hc hc' hA hk hlt h0
        have x1 := X1.out
        go_wp2_with fail
        clear x1
        exact ⟨⟨k + 1, Hk.out, by push_cast; rfl, fun j hj => by
          by_cases e : j = k
          · rw [e]; exact HV.out
          · exact HA.out j (by omega), by first | rfl | trivial⟩, meas_z lr k Hk.out⟩
    · obtain rfl : k = lr := by omega
      have hI : ¬ ((k : Int) < k) := by omega
      have hF : rulF g y k = k := rulF_unique g y k k (Nat.le_refl _) (fun h => absurd h (Nat.lt_irrefl _)) hA
      have Hv : Hid (idxV k g y = -1) := by show _ = _; unfold idxV; rw [hF, if_neg (Nat.lt_irrefl _)]
      clear hA hk hlt hF
      go_wp2_with fail
      go_ret
      rw [Hv.out]
      exact ⟨rfl, by first | exact Hst.out | (rw [Hb0.out]; exact Hst.out) | (rw [← Hb0.out]; exact Hst.out)⟩
noncomputable def reA (lr : Nat) (g : Nat → Nat → Int) (y : Int) : Int := if rulF g y lr < lr then onT g (rulF g y lr) y else 0
noncomputable def reB (lr : Nat) (g : Nat → Nat → Int) (y : Int) : Int := if rulF g y lr < lr then offT g (rulF g y lr) y else 0
set_option maxRecDepth 100000 in
set_option maxHeartbeats 16000000 in
theorem refEdges_calls (o : Int) (A : Option Addr) (lr cr : Nat) (g : Nat → Nat → Int) (y : Int) (hok : zonOk o lr g) (w : World) (hR : RdZ w A lr cr g) :
    Calls Tryd.prog 15 #[zonC o A lr cr, .int .i64 y] w fun e w' => e = .returned (.tuple #[.int .i64 (reA lr g y), .int .i64 (reB lr g y), .bool (ofB o lr g y)]) ∧ Below w.heap.size w w' := by
  obtain ⟨b0, hb0⟩ : ∃ b0, w.heap.size = b0 := ⟨_, rfl⟩
  have Hb0 := Lib.hid hb0
  obtain ⟨W1, hW1⟩ : ∃ W1, w.alloc (.cells #[.int .i64 o, .slice A lr cr] 24) = W1 := ⟨_, rfl⟩
  have hst1 : Below w.heap.size w W1 := hW1 ▸ bstep w _
  have hr1 : W1.heap[b0]? = some (.cells #[.int .i64 o, .slice A lr cr] 24 (0, 0)) := by rw [← hb0, ← hW1]; exact World.alloc_heap_new w _
  have e0 := cell_of_row W1 b0 0 _ _ _ hr1
  have e1 := cell_of_row W1 b0 1 _ _ _ hr1
  have HU := refRule_calls o A lr cr g y W1 (hR.go hst1)
  unfold zonC at HU ⊢
  by_cases hi : rulF g y lr < lr
  · obtain ⟨hk, hy⟩ := of_year (show OfIs o lr g y from ⟨hok, hi⟩)
    rw [show idxV lr g y = (rulF g y lr : Int) from if_pos hi] at HU
    rw [show reA lr g y = onT g (rulF g y lr) y from if_pos hi, show reB lr g y = offT g (rulF g y lr) y from if_pos hi, (of_yes (show OfIs o lr g y from ⟨hok, hi⟩)).2]
    unfold onT offT
    obtain ⟨F, hF⟩ : ∃ F, rulF g y lr = F := ⟨_, rfl⟩
    rw [hF] at HU hk hi ⊢
    have hFc := Lib.hid (rulF_le g y lr)
    obtain ⟨sb, off, rfl, hsb, hc⟩ := hR.at_ (by omega) hi
    unfold rulOk at hk
    have hC1 := fun W => refAt_calls y (g F 2) (g F 3) (g F 4) (g F 5) hk.2.2.2.2.2.1 hy W
    have hC2 := fun W => refAt_calls y (g F 6) (g F 7) (g F 8) (g F 9) hk.2.2.2.2.2.2 hy W
    obtain ⟨T1, hT1⟩ : ∃ T, chgT y (g F 2) (g F 3) (g F 4) (g F 5) = T := ⟨_, rfl⟩
    obtain ⟨T2, hT2⟩ : ∃ T, chgT y (g F 6) (g F 7) (g F 8) (g F 9) = T := ⟨_, rfl⟩
    rw [hT1] at hC1 ⊢
    rw [hT2] at hC2 ⊢
    have HF0 : ∀ W, Below w.heap.size w W → W.heap[b0]? = some (.cells #[.int .i64 o, .slice (some ⟨sb, off, none⟩) lr cr] 24 (0, 0)) → W.cell? ⟨b0, 0, none⟩ = some (.int .i64 o) ∧ W.cell? ⟨b0, 1, none⟩ = some (.slice (some ⟨sb, off, none⟩) lr cr) ∧ W.cell? ⟨sb, off + F * 11 + 2, none⟩ = some (.int .i64 (g F 2)) ∧ W.cell? ⟨sb, off + F * 11 + 3, none⟩ = some (.int .i64 (g F 3)) ∧ W.cell? ⟨sb, off + F * 11 + 4, none⟩ = some (.int .i64 (g F 4)) ∧ W.cell? ⟨sb, off + F * 11 + 5, none⟩ = some (.int .i64 (g F 5)) ∧ W.cell? ⟨sb, off + F * 11 + 6, none⟩ = some (.int .i64 (g F 6)) ∧ W.cell? ⟨sb, off + F * 11 + 7, none⟩ = some (.int .i64 (g F 7)) ∧ W.cell? ⟨sb, off + F * 11 + 8, none⟩ = some (.int .i64 (g F 8)) ∧ W.cell? ⟨sb, off + F * 11 + 9, none⟩ = some (.int .i64 (g F 9)) := fun W hW hz =>
      ⟨cell_of_row W b0 0 _ _ _ hz, cell_of_row W b0 1 _ _ _ hz, (hW.cell (p := ⟨sb, off + F * 11 + 2, none⟩) hsb).trans (hc 2 (by omega)), (hW.cell (p := ⟨sb, off + F * 11 + 3, none⟩) hsb).trans (hc 3 (by omega)), (hW.cell (p := ⟨sb, off + F * 11 + 4, none⟩) hsb).trans (hc 4 (by omega)), (hW.cell (p := ⟨sb, off + F * 11 + 5, none⟩) hsb).trans (hc 5 (by omega)), (hW.cell (p := ⟨sb, off + F * 11 + 6, none⟩) hsb).trans (hc 6 (by omega)), (hW.cell (p := ⟨sb, off + F * 11 + 7, none⟩) hsb).trans (hc 7 (by omega)), (hW.cell (p := ⟨sb, off + F * 11 + 8, none⟩) hsb).trans (hc 8 (by omega)), (hW.cell (p := ⟨sb, off + F * 11 + 9, none⟩) hsb).trans (hc 9 (by omega))⟩

    obtain ⟨f2, hf2⟩ : ∃ f, g F 2 = f := ⟨_, rfl⟩
    obtain ⟨f3, hf3⟩ : ∃ f, g F 3 = f := ⟨_, rfl⟩
    obtain ⟨f4, hf4⟩ : ∃ f, g F 4 = f := ⟨_, rfl⟩
    obtain ⟨f5, hf5⟩ : ∃ f, g F 5 = f := ⟨_, rfl⟩
    obtain ⟨f6, hf6⟩ : ∃ f, g F 6 = f := ⟨_, rfl⟩
    obtain ⟨f7, hf7⟩ : ∃ f, g F 7 = f := ⟨_, rfl⟩
    obtain ⟨f8, hf8⟩ : ∃ f, g F 8 = f := ⟨_, rfl⟩
    obtain ⟨f9, hf9⟩ : ∃ f, g F 9 = f := ⟨_, rfl⟩
    rw [hf2, hf3, hf4, hf5] at hC1
    rw [hf6, hf7, hf8, hf9] at hC2
    rw [hf2, hf3, hf4, hf5, hf6, hf7, hf8, hf9] at HF0
    have HF := Lib.hid HF0
    unfold chgC at hC1 hC2
    have HC1 := Lib.hid hC1
    have HC2 := Lib.hid hC2
    replace HU := Lib.hid HU
    have kI : decide ((F : Int) < 0) = false := decide_eq_false (by omega)
    have kJ : (0 : Int) ≤ F ∧ (F : Int) < lr := by omega
    have kJ1 := kJ.1
    have kJ2 := kJ.2
    have kJ3 : F < lr := hi
    clear hC1 hC2 HF0 hf2 hf3 hf4 hf5 hf6 hf7 hf8 hf9 hT1 hT2 hk hy hc hF hi hok hR
    go_enter Tryd.func15, Tryd.ntmps15
    go_wp2_with fail
    refine HU.out.mono ?_
    rintro e w2 ⟨rfl, hb2⟩
    have hr2 := blk_below hr1 hb2
    have hB2 := bnext hst1 hb2
    have HH : Hid (∀ W, Below w2.heap.size w2 W → W.cell? ⟨b0, 0, none⟩ = some (.int .i64 o) ∧ W.cell? ⟨b0, 1, none⟩ = some (.slice (some ⟨sb, off, none⟩) lr cr) ∧ W.cell? ⟨sb, off + F * 11 + 2, none⟩ = some (.int .i64 f2) ∧ W.cell? ⟨sb, off + F * 11 + 3, none⟩ = some (.int .i64 f3) ∧ W.cell? ⟨sb, off + F * 11 + 4, none⟩ = some (.int .i64 f4) ∧ W.cell? ⟨sb, off + F * 11 + 5, none⟩ = some (.int .i64 f5) ∧ W.cell? ⟨sb, off + F * 11 + 6, none⟩ = some (.int .i64 f6) ∧ W.cell? ⟨sb, off + F * 11 + 7, none⟩ = some (.int .i64 f7) ∧ W.cell? ⟨sb, off + F * 11 + 8, none⟩ = some (.int .i64 f8) ∧ W.cell? ⟨sb, off + F * 11 + 9, none⟩ = some (.int .i64 f9)) := fun W hW => HF.out W (bnext hB2 hW) (blk_below hr2 hW)
    clear e0 e1 hst1 hr1 hb2 hr2 HF
    go_wp2_with fail
    go_region_held3 (fun W => W.cell? ⟨b0, 0, none⟩ = some (.int .i64 o) ∧ W.cell? ⟨b0, 1, none⟩ = some (.slice (some ⟨sb, off, none⟩) lr cr) ∧ W.cell? ⟨sb, off + F * 11 + 2, none⟩ = some (.int .i64 f2) ∧ W.cell? ⟨sb, off + F * 11 + 3, none⟩ = some (.int .i64 f3) ∧ W.cell? ⟨sb, off + F * 11 + 4, none⟩ = some (.int .i64 f4) ∧ W.cell? ⟨sb, off + F * 11 + 5, none⟩ = some (.int .i64 f5) ∧ W.cell? ⟨sb, off + F * 11 + 6, none⟩ = some (.int .i64 f6) ∧ W.cell? ⟨sb, off + F * 11 + 7, none⟩ = some (.int .i64 f7) ∧ W.cell? ⟨sb, off + F * 11 + 8, none⟩ = some (.int .i64 f8) ∧ W.cell? ⟨sb, off + F * 11 + 9, none⟩ = some (.int .i64 f9))
      (first | exact HH.out _ ((Below.refl _ _).drew) | exact HH.out _ hb4 | exact HH.out _ hb6)
      (first
        | (go_at_call_of 37 (Value.int .i64 f2); first | (refine (HC1.out w2.drew).mono ?_; rintro e w4 ⟨rfl, hb3⟩; have hb4 := bnext ((Below.refl w2.heap.size w2).drew) hb3) | (refine (HC1.out w4).mono ?_; rintro e w6 ⟨rfl, hb5⟩; have hb6 := bnext hb4 hb5))
        | (go_at_call_of 37 (Value.int .i64 f6); first | (refine (HC2.out w2.drew).mono ?_; rintro e w4 ⟨rfl, hb3⟩; have hb4 := bnext ((Below.refl w2.heap.size w2).drew) hb3) | (refine (HC2.out w4).mono ?_; rintro e w6 ⟨rfl, hb5⟩; have hb6 := bnext hb4 hb5)))
    all_goals
      go_wp2_with fail
      go_ret3
      exact ⟨rfl, bnext hB2 hb6⟩
  · rw [show idxV lr g y = -1 from if_neg hi] at HU
    rw [show reA lr g y = 0 from if_neg hi, show reB lr g y = 0 from if_neg hi, (of_not (show ¬ OfIs o lr g y from fun h => hi h.2)).2]
    replace HU := Lib.hid HU
    clear hi hok hR hr1
    go_enter Tryd.func15, Tryd.ntmps15
    go_wp2_with fail
    refine HU.out.mono ?_
    rintro e w2 ⟨rfl, hb2⟩
    have hB2 := bnext hst1 hb2
    go_wp2_with fail
    go_ret3
    exact ⟨rfl, hB2⟩
end Go.Proofs.YtoipmhmghcngcaaDoor
