/-
  Whether a zone may be, by the document: kilowattref07.change, May, walked. Conditions stand at each theorem.
-/
import Derived.Test.YtgbkedjjgbhcmaaGreatDoorZoneFns
namespace Go.Proofs.YtgbkedjjgbhcmaaGreatDoor
open Go Go.RowKit Go.Kw Go.Kw.Cv Go.Shelf
set_option linter.unusedVariables false
set_option linter.unusedSimpArgs false

set_option maxRecDepth 100000 in
set_option maxHeartbeats 8000000 in
theorem refChange_calls (m wd n mi : Int) (w : World) : Calls Tryz.prog 50 #[chgC m wd n mi] w fun e w' => e = .returned (.bool (decide (chgOk m wd n mi))) ∧ Below w.heap.size w w' := by
  have HB := Lib.hid (bstep w (.cells #[.int .i64 m, .int .i64 wd, .int .i64 n, .int .i64 mi] 88))
  unfold chgC
  by_cases hx : 1 ≤ m
  · have k1 : decide (m ≥ 1) = true := decide_eq_true hx
    have q1 := Lib.hid hx
    clear hx
    by_cases hx : m ≤ 12
    · have k2 : decide (m ≤ 12) = true := decide_eq_true hx
      have q2 := Lib.hid hx
      clear hx
      by_cases hx : 1 ≤ wd
      · have k3 : decide (wd ≥ 1) = true := decide_eq_true hx
        have q3 := Lib.hid hx
        clear hx
        by_cases hx : wd ≤ 7
        · have k4 : decide (wd ≤ 7) = true := decide_eq_true hx
          have q4 := Lib.hid hx
          clear hx
          by_cases hn : n = -1
          · have kn : (n == -1) = true := beq_iff_eq.2 hn
            have qn := Lib.hid (show n = -1 ∨ (1 ≤ n ∧ n ≤ 4) from .inl hn)
            clear hn
            by_cases hx : 0 ≤ mi
            · have k8 : decide (mi ≥ 0) = true := decide_eq_true hx
              have q8 := Lib.hid hx
              clear hx
              by_cases hx : mi < 1440
              · have k9 : decide (mi < 1440) = true := decide_eq_true hx
                have q9 := Lib.hid hx
                clear hx
                rw [show decide (chgOk m wd n mi) = true from decide_eq_true (by have := q1.out; have := q2.out; have := q3.out; have := q4.out; have := qn.out; have := q8.out; have := q9.out; unfold chgOk; omega)]
                clear q1 q2 q3 q4 qn q8 q9
                go_enter Tryz.func50, Tryz.ntmps50
                go_wp2_with fail
                go_ret
                exact ⟨rfl, HB.out⟩
              · have k9 : decide (mi < 1440) = false := decide_eq_false hx
                rw [show decide (chgOk m wd n mi) = false from decide_eq_false (fun h => hx (by unfold chgOk at h; omega))]
                clear hx
                go_enter Tryz.func50, Tryz.ntmps50
                go_wp2_with fail
                go_ret
                exact ⟨rfl, HB.out⟩
            · have k8 : decide (mi ≥ 0) = false := decide_eq_false hx
              rw [show decide (chgOk m wd n mi) = false from decide_eq_false (fun h => hx (by unfold chgOk at h; omega))]
              clear hx
              go_enter Tryz.func50, Tryz.ntmps50
              go_wp2_with fail
              go_ret
              exact ⟨rfl, HB.out⟩
          · have kn : (n == -1) = false := beq_eq_false_iff_ne.2 hn
            by_cases hx : 1 ≤ n
            · have k5 : decide (n ≥ 1) = true := decide_eq_true hx
              by_cases hy : n ≤ 4
              · have k6 : decide (n ≤ 4) = true := decide_eq_true hy
                have qn := Lib.hid (show n = -1 ∨ (1 ≤ n ∧ n ≤ 4) from .inr ⟨hx, hy⟩)
                clear hn hx hy
                by_cases hx : 0 ≤ mi
                · have k8 : decide (mi ≥ 0) = true := decide_eq_true hx
                  have q8 := Lib.hid hx
                  clear hx
                  by_cases hx : mi < 1440
                  · have k9 : decide (mi < 1440) = true := decide_eq_true hx
                    have q9 := Lib.hid hx
                    clear hx
                    rw [show decide (chgOk m wd n mi) = true from decide_eq_true (by have := q1.out; have := q2.out; have := q3.out; have := q4.out; have := qn.out; have := q8.out; have := q9.out; unfold chgOk; omega)]
                    clear q1 q2 q3 q4 qn q8 q9
                    go_enter Tryz.func50, Tryz.ntmps50
                    go_wp2_with fail
                    go_ret
                    exact ⟨rfl, HB.out⟩
                  · have k9 : decide (mi < 1440) = false := decide_eq_false hx
                    rw [show decide (chgOk m wd n mi) = false from decide_eq_false (fun h => hx (by unfold chgOk at h; omega))]
                    clear hx
                    go_enter Tryz.func50, Tryz.ntmps50
                    go_wp2_with fail
                    go_ret
                    exact ⟨rfl, HB.out⟩
                · have k8 : decide (mi ≥ 0) = false := decide_eq_false hx
                  rw [show decide (chgOk m wd n mi) = false from decide_eq_false (fun h => hx (by unfold chgOk at h; omega))]
                  clear hx
                  go_enter Tryz.func50, Tryz.ntmps50
                  go_wp2_with fail
                  go_ret
                  exact ⟨rfl, HB.out⟩
              · have k6 : decide (n ≤ 4) = false := decide_eq_false hy
                have hx := hn
                rw [show decide (chgOk m wd n mi) = false from decide_eq_false (fun h => by unfold chgOk at h; omega)]
                clear hx hn hy
                go_enter Tryz.func50, Tryz.ntmps50
                go_wp2_with fail
                go_ret
                exact ⟨rfl, HB.out⟩
            · have k5 : decide (n ≥ 1) = false := decide_eq_false hx
              rw [show decide (chgOk m wd n mi) = false from decide_eq_false (fun h => by unfold chgOk at h; omega)]
              clear hx hn
              go_enter Tryz.func50, Tryz.ntmps50
              go_wp2_with fail
              go_ret
              exact ⟨rfl, HB.out⟩
        · have k4 : decide (wd ≤ 7) = false := decide_eq_false hx
          rw [show decide (chgOk m wd n mi) = false from decide_eq_false (fun h => hx (by unfold chgOk at h; omega))]
          clear hx
          go_enter Tryz.func50, Tryz.ntmps50
          go_wp2_with fail
          go_ret
          exact ⟨rfl, HB.out⟩
      · have k3 : decide (wd ≥ 1) = false := decide_eq_false hx
        rw [show decide (chgOk m wd n mi) = false from decide_eq_false (fun h => hx (by unfold chgOk at h; omega))]
        clear hx
        go_enter Tryz.func50, Tryz.ntmps50
        go_wp2_with fail
        go_ret
        exact ⟨rfl, HB.out⟩
    · have k2 : decide (m ≤ 12) = false := decide_eq_false hx
      rw [show decide (chgOk m wd n mi) = false from decide_eq_false (fun h => hx (by unfold chgOk at h; omega))]
      clear hx
      go_enter Tryz.func50, Tryz.ntmps50
      go_wp2_with fail
      go_ret
      exact ⟨rfl, HB.out⟩
  · have k1 : decide (m ≥ 1) = false := decide_eq_false hx
    rw [show decide (chgOk m wd n mi) = false from decide_eq_false (fun h => hx (by unfold chgOk at h; omega))]
    clear hx
    go_enter Tryz.func50, Tryz.ntmps50
    go_wp2_with fail
    go_ret
    exact ⟨rfl, HB.out⟩
set_option maxRecDepth 100000 in
set_option maxHeartbeats 16000000 in
theorem refMayZ_calls (o : Int) (A : Option Addr) (lr cr : Nat) (g : Nat → Nat → Int) (w : World) (hR : RdZ w A lr cr g) :
    Calls Tryz.prog 21 #[zonC o A lr cr] w fun e w' => e = .returned (.bool (decide (zonOk o lr g))) ∧ Below w.heap.size w w' := by
  obtain ⟨b0, hb0⟩ : ∃ b0, w.heap.size = b0 := ⟨_, rfl⟩
  have Hb0 := Lib.hid hb0
  have hrow := World.alloc_heap_new w (.cells #[.int .i64 o, .slice A lr cr] 24)
  have hB1 := bstep w (.cells #[.int .i64 o, .slice A lr cr] 24)
  have hs1 : (w.alloc (.cells #[.int .i64 o, .slice A lr cr] 24)).heap.size = b0 + 1 := by simp [hb0]
  rw [hb0] at hrow hB1
  have HR := Lib.hid hR
  have hla := hR.1
  have hca := hR.2.1
  have hmx : maxLen = 9223372036854775807 := rfl
  have Hlen := Lib.hid (show lr ≤ 9223372036854775807 by omega)
  obtain ⟨V, hV⟩ : ∃ V, decide (zonOk o lr g) = V := ⟨_, rfl⟩
  have HV := Lib.hid (show V = true ↔ zonOk o lr g by rw [← hV, decide_eq_true_eq])
  rw [hV]
  unfold zonC
  clear hR hla hca hmx hV
  have HB1 := Lib.hid hB1
  by_cases hx : o < -50400
  · have k1 : decide (o < -50400) = true := decide_eq_true hx
    obtain rfl : V = false := Bool.eq_false_iff.2 (fun h => by have h2 := HV.out.1 h; unfold zonOk at h2; omega)
    clear hx HV hrow hB1 hs1
    go_enter Tryz.func21, Tryz.ntmps21
    go_wp2_with fail
    go_ret
    exact ⟨rfl, by first | exact HB1.out | (rw [Hb0.out]; exact HB1.out)⟩
  have k1 : decide (o < -50400) = false := decide_eq_false hx
  have q1 := Lib.hid hx
  clear hx
  by_cases hx : o > 50400
  · have k2 : decide (o > 50400) = true := decide_eq_true hx
    obtain rfl : V = false := Bool.eq_false_iff.2 (fun h => by have h2 := HV.out.1 h; unfold zonOk at h2; omega)
    clear hx HV hrow hB1 hs1
    go_enter Tryz.func21, Tryz.ntmps21
    go_wp2_with fail
    go_ret
    exact ⟨rfl, by first | exact HB1.out | (rw [Hb0.out]; exact HB1.out)⟩
  have k2 : decide (o > 50400) = false := decide_eq_false hx
  have q2 := Lib.hid hx
  clear hx
  by_cases hx : (lr : Int) > 20
  · have k3 : decide ((lr : Int) > 20) = true := decide_eq_true hx
    obtain rfl : V = false := Bool.eq_false_iff.2 (fun h => by have h2 := HV.out.1 h; unfold zonOk at h2; omega)
    clear hx HV hrow hB1 hs1
    go_enter Tryz.func21, Tryz.ntmps21
    go_wp2_with fail
    go_ret
    exact ⟨rfl, by first | exact HB1.out | (rw [Hb0.out]; exact HB1.out)⟩
  have k3 : decide ((lr : Int) > 20) = false := decide_eq_false hx
  have q3 := Lib.hid hx
  clear hx
  go_enter Tryz.func21, Tryz.ntmps21
  have e0 := cell_of_row _ b0 0 _ _ _ hrow
  have e1 := cell_of_row _ b0 1 _ _ _ hrow
  go_wp2_with fail
  go_loopw [3] (fun i wr => ∃ k : Nat, k ≤ lr ∧ i = .int .i64 k ∧ (∀ j, j < k → rulOk g j) ∧ Below b0 w wr ∧ b0 + 1 ≤ wr.heap.size ∧ wr.heap[b0]? = some (.cells #[.int .i64 o, .slice A lr cr] 24 (0, 0))) (fun i _ => lr - (intOf i).toNat)
  case atStart => exact ⟨0, by omega, rfl, fun j hj => absurd hj (by omega), hB1, by rw [hs1]; exact Nat.le_refl _, hrow⟩
  case round =>
    obtain ⟨k, hk, rfl, hA, hB, hs, hr⟩ := hrel
    clear hrow hB1 hs1 e0 e1 k1 k2 k3 HB1
    have r1 := cell_of_row _ b0 1 _ _ _ hr
    by_cases hlt : k < lr
    · have hI : (k : Int) < lr := by omega
      obtain ⟨sb, off, rfl, hsb, hc⟩ := HR.out.at_ (by omega) hlt
      have hsb0 : sb < b0 := by have := Hb0.out; omega
      have hc' : ∀ j, j < 11 → wr.cell? ⟨sb, off + k * 11 + j, none⟩ = some (.int .i64 (g k j)) := fun j hj => (hB.cell (p := ⟨sb, off + k * 11 + j, none⟩) hsb0).trans (hc j hj)
      have c0 : wr.cell? ⟨sb, off + k * 11, none⟩ = some (.int .i64 (g k 0)) := hc' 0 (by omega)
      have c1 := hc' 1 (by omega)
      have c2 := hc' 2 (by omega)
      have c3 := hc' 3 (by omega)
      have c4 := hc' 4 (by omega)
      have c5 := hc' 5 (by omega)
      have c6 := hc' 6 (by omega)
      have c7 := hc' 7 (by omega)
      have c8 := hc' 8 (by omega)
      have c9 := hc' 9 (by omega)
      have c10 := hc' 10 (by omega)
      obtain ⟨W1, hW1⟩ : ∃ W1, wr.alloc (.cells #[.int .i64 (g k 0), .int .i64 (g k 1), .int .i64 (g k 2), .int .i64 (g k 3), .int .i64 (g k 4), .int .i64 (g k 5), .int .i64 (g k 6), .int .i64 (g k 7), .int .i64 (g k 8), .int .i64 (g k 9), .int .i64 (g k 10)] 90) = W1 := ⟨_, rfl⟩
      have hst : Below wr.heap.size wr W1 := hW1 ▸ bstep wr _
      have hrS : W1.heap[wr.heap.size]? = some (.cells #[.int .i64 (g k 0), .int .i64 (g k 1), .int .i64 (g k 2), .int .i64 (g k 3), .int .i64 (g k 4), .int .i64 (g k 5), .int .i64 (g k 6), .int .i64 (g k 7), .int .i64 (g k 8), .int .i64 (g k 9), .int .i64 (g k 10)] 90 (0, 0)) := hW1 ▸ World.alloc_heap_new wr _
      have hB1 : Below b0 w W1 := hB.trans (hst.mono (by omega))
      have hs1' : b0 + 1 ≤ W1.heap.size := Nat.le_trans hs hst.size
      have hr1 := blk_below hr hst
      have w1 : IntKind.i64.wrap ((k : Int) + 1) = (k : Int) + 1 := i64_same _ (by have := Hlen.out; omega)
      have X1 := Lib.hid (wrap64_in ((k : Int) + 1) (by have := Hlen.out; omega))
      have Hk := Lib.hid (show k + 1 ≤ lr from hlt)
      have Hlt := Lib.hid hlt
      have HA := Lib.hid hA
      have HE := Lib.hid (And.intro hB1 (And.intro hs1' hr1))
      clear hc hc' hA hB hs hk hlt hst hB1 hs1' hr hr1
      go_upto_region 7 with fail
      try rw [hW1]
      clear hW1 r1
      clear c0
      clear c1
      clear c2
      clear c3
      clear c4
      clear c5
      clear c6
      clear c7
      clear c8
      clear c9
      clear c10
      have d0 := cell_of_row W1 wr.heap.size 0 _ _ _ hrS
      have d1 := cell_of_row W1 wr.heap.size 1 _ _ _ hrS
      have d2 := cell_of_row W1 wr.heap.size 2 _ _ _ hrS
      have d3 := cell_of_row W1 wr.heap.size 3 _ _ _ hrS
      have d4 := cell_of_row W1 wr.heap.size 4 _ _ _ hrS
      have d5 := cell_of_row W1 wr.heap.size 5 _ _ _ hrS
      have d6 := cell_of_row W1 wr.heap.size 6 _ _ _ hrS
      have d7 := cell_of_row W1 wr.heap.size 7 _ _ _ hrS
      have d8 := cell_of_row W1 wr.heap.size 8 _ _ _ hrS
      have d9 := cell_of_row W1 wr.heap.size 9 _ _ _ hrS
      have d10 := cell_of_row W1 wr.heap.size 10 _ _ _ hrS
      by_cases hy : g k 0 < 1970
      · have k1 : decide (g k 0 < 1970) = true := decide_eq_true hy
        have hx : ¬ ¬ (g k 0 < 1970) := fun h => h hy
        clear hy
        obtain rfl : V = false := Bool.eq_false_iff.2 (fun h => hx (by have h := (HV.out.1 h).2.2.2 k Hlt.out; unfold rulOk at h; omega))
        clear hx HV HA
        go_wp2_with fail
        go_ret
        exact ⟨rfl, by first | exact HE.out.1 | (rw [Hb0.out]; exact HE.out.1)⟩
      have k1 : decide (g k 0 < 1970) = false := decide_eq_false hy
      have p1 := Lib.hid hy
      clear hy
      by_cases hy : g k 1 > 9999
      · have k2 : decide (g k 1 > 9999) = true := decide_eq_true hy
        have hx : ¬ ¬ (g k 1 > 9999) := fun h => h hy
        clear hy
        obtain rfl : V = false := Bool.eq_false_iff.2 (fun h => hx (by have h := (HV.out.1 h).2.2.2 k Hlt.out; unfold rulOk at h; omega))
        clear hx HV HA
        go_wp2_with fail
        go_ret
        exact ⟨rfl, by first | exact HE.out.1 | (rw [Hb0.out]; exact HE.out.1)⟩
      have k2 : decide (g k 1 > 9999) = false := decide_eq_false hy
      have p2 := Lib.hid hy
      clear hy
      by_cases hy : g k 0 > g k 1
      · have k3 : decide (g k 0 > g k 1) = true := decide_eq_true hy
        have hx : ¬ ¬ (g k 0 > g k 1) := fun h => h hy
        clear hy
        obtain rfl : V = false := Bool.eq_false_iff.2 (fun h => hx (by have h := (HV.out.1 h).2.2.2 k Hlt.out; unfold rulOk at h; omega))
        clear hx HV HA
        go_wp2_with fail
        go_ret
        exact ⟨rfl, by first | exact HE.out.1 | (rw [Hb0.out]; exact HE.out.1)⟩
      have k3 : decide (g k 0 > g k 1) = false := decide_eq_false hy
      have p3 := Lib.hid hy
      clear hy
      by_cases hy : g k 10 < 1
      · have k4 : decide (g k 10 < 1) = true := decide_eq_true hy
        have hx : ¬ ¬ (g k 10 < 1) := fun h => h hy
        clear hy
        obtain rfl : V = false := Bool.eq_false_iff.2 (fun h => hx (by have h := (HV.out.1 h).2.2.2 k Hlt.out; unfold rulOk at h; omega))
        clear hx HV HA
        go_wp2_with fail
        go_ret
        exact ⟨rfl, by first | exact HE.out.1 | (rw [Hb0.out]; exact HE.out.1)⟩
      have k4 : decide (g k 10 < 1) = false := decide_eq_false hy
      have p4 := Lib.hid hy
      clear hy
      by_cases hy : g k 10 > 7200
      · have k5 : decide (g k 10 > 7200) = true := decide_eq_true hy
        have hx : ¬ ¬ (g k 10 > 7200) := fun h => h hy
        clear hy
        obtain rfl : V = false := Bool.eq_false_iff.2 (fun h => hx (by have h := (HV.out.1 h).2.2.2 k Hlt.out; unfold rulOk at h; omega))
        clear hx HV HA
        go_wp2_with fail
        go_ret
        exact ⟨rfl, by first | exact HE.out.1 | (rw [Hb0.out]; exact HE.out.1)⟩
      have k5 : decide (g k 10 > 7200) = false := decide_eq_false hy
      have p5 := Lib.hid hy
      clear hy
      have HM := refChange_calls (g k 2) (g k 3) (g k 4) (g k 5)
      have HN := refChange_calls (g k 6) (g k 7) (g k 8) (g k 9)
      unfold chgC at HM HN
      by_cases hx : chgOk (g k 2) (g k 3) (g k 4) (g k 5)
      · rw [decide_eq_true hx] at HM
        replace HM := Lib.hid HM
        have p6 := Lib.hid hx
        clear hx
        by_cases hx : chgOk (g k 6) (g k 7) (g k 8) (g k 9)
        · rw [decide_eq_true hx] at HN
          replace HN := Lib.hid HN
          have Hyes := Lib.hid (show rulOk g k from by have := p1.out; have := p2.out; have := p3.out; have := p4.out; have := p5.out; exact ⟨by omega, by omega, by omega, by omega, by omega, p6.out, hx⟩)
          clear hx p1 p2 p3 p4 p5 p6
          go_wp2_with fail
          refine (HM.out _).mono ?_
          rintro e w4 ⟨rfl, hb4⟩
          have f6 := cell_of_row w4 wr.heap.size 6 _ _ _ (blk_below hrS hb4)
          have f7 := cell_of_row w4 wr.heap.size 7 _ _ _ (blk_below hrS hb4)
          have f8 := cell_of_row w4 wr.heap.size 8 _ _ _ (blk_below hrS hb4)
          have f9 := cell_of_row w4 wr.heap.size 9 _ _ _ (blk_below hrS hb4)
          go_wp2_with fail
          refine (HN.out _).mono ?_
          rintro e w5 ⟨rfl, hb5⟩
          replace hb5 := bnext hb4 hb5
          go_wp2_with fail
          have x1 := X1.out
          try go_wp2_with fail
          clear x1
          exact ⟨⟨k + 1, Hk.out, by push_cast; rfl, fun j hj => by
            by_cases e : j = k
            · rw [e]; exact Hyes.out
            · exact HA.out j (by omega), HE.out.1.trans (hb5.mono (Nat.le_trans (Nat.le_succ _) HE.out.2.1)), Nat.le_trans HE.out.2.1 hb5.size, blk_below HE.out.2.2 hb5⟩, meas_z lr k Hk.out⟩
        · rw [decide_eq_false hx] at HN
          replace HN := Lib.hid HN
          obtain rfl : V = false := Bool.eq_false_iff.2 (fun h => hx (by have h := (HV.out.1 h).2.2.2 k Hlt.out; unfold rulOk at h; exact h.2.2.2.2.2.2))
          clear hx HV HA
          go_wp2_with fail
          refine (HM.out _).mono ?_
          rintro e w4 ⟨rfl, hb4⟩
          have f6 := cell_of_row w4 wr.heap.size 6 _ _ _ (blk_below hrS hb4)
          have f7 := cell_of_row w4 wr.heap.size 7 _ _ _ (blk_below hrS hb4)
          have f8 := cell_of_row w4 wr.heap.size 8 _ _ _ (blk_below hrS hb4)
          have f9 := cell_of_row w4 wr.heap.size 9 _ _ _ (blk_below hrS hb4)
          go_wp2_with fail
          refine (HN.out _).mono ?_
          rintro e w5 ⟨rfl, hb5⟩
          replace hb5 := bnext hb4 hb5
          go_wp2_with fail
          go_ret
          exact ⟨rfl, by have hZ := HE.out.1.trans (hb5.mono (Nat.le_trans (Nat.le_succ _) HE.out.2.1)); first | exact hZ | (rw [Hb0.out]; exact hZ)⟩
      · rw [decide_eq_false hx] at HM
        replace HM := Lib.hid HM
        clear HN
        obtain rfl : V = false := Bool.eq_false_iff.2 (fun h => hx (by have h := (HV.out.1 h).2.2.2 k Hlt.out; unfold rulOk at h; exact h.2.2.2.2.2.1))
        clear hx HV HA
        go_wp2_with fail
        refine (HM.out _).mono ?_
        rintro e w4 ⟨rfl, hb4⟩
        have f6 := cell_of_row w4 wr.heap.size 6 _ _ _ (blk_below hrS hb4)
        have f7 := cell_of_row w4 wr.heap.size 7 _ _ _ (blk_below hrS hb4)
        have f8 := cell_of_row w4 wr.heap.size 8 _ _ _ (blk_below hrS hb4)
        have f9 := cell_of_row w4 wr.heap.size 9 _ _ _ (blk_below hrS hb4)
        go_wp2_with fail
        go_ret
        exact ⟨rfl, by have hZ := HE.out.1.trans (hb4.mono (Nat.le_trans (Nat.le_succ _) HE.out.2.1)); first | exact hZ | (rw [Hb0.out]; exact hZ)⟩
    · obtain rfl : k = lr := by omega
      have hI : ¬ ((k : Int) < k) := by omega
      have HBq := Lib.hid hB
      obtain rfl : V = true := HV.out.2 ⟨by have := q1.out; omega, by have := q2.out; omega, by have := q3.out; omega, hA⟩
      clear hA hk hlt hB hs
      go_wp2_with fail
      go_ret
      exact ⟨rfl, by first | exact HBq.out | (rw [Hb0.out]; exact HBq.out)⟩
end Go.Proofs.YtgbkedjjgbhcmaaGreatDoor
