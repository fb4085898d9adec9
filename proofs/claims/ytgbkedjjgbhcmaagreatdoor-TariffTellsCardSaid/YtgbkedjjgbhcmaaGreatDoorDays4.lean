/-
  Whether a calendar may be: the document's May, walked. Conditions stand at each theorem.
-/
import Derived.Test.YtgbkedjjgbhcmaaGreatDoorDays3
namespace Go.Proofs.YtgbkedjjgbhcmaaGreatDoor
open Go Go.RowKit Go.Kw Go.Kw.Cv Go.Shelf
set_option linter.unusedVariables false
set_option linter.unusedSimpArgs false

theorem meas_step2 (lb q : Nat) (h : q + 1 ≤ lb) : lb - (intOf (Value.int .i64 ((q : Int) + 1))).toNat < lb - (intOf (Value.int .i64 (q : Int))).toNat := meas_step lb q h
set_option maxRecDepth 100000 in
set_option maxHeartbeats 8000000 in
theorem refCal_calls (A : Option Addr) (la ca : Nat) (gh : Nat → Nat → Int) (B : Option Addr) (lb cb : Nat) (gs : Nat → Nat → Int) (w : World) (hR : RdCal w A la ca gh B lb cb gs) :
    Calls Tryz.prog 22 #[calC A la ca B lb cb] w fun e w' => e = .returned (.bool (decide (calOk la gh lb gs))) ∧ Below w.heap.size w w' := by
  obtain ⟨b0, hb0⟩ : ∃ b0, w.heap.size = b0 := ⟨_, rfl⟩
  have Hb0 := Lib.hid hb0
  have hrow := World.alloc_heap_new w (.cells #[.slice A la ca, .slice B lb cb] 28)
  have hB1 := bstep w (.cells #[.slice A la ca, .slice B lb cb] 28)
  have hs1 : b0 + 1 ≤ (w.alloc (.cells #[.slice A la ca, .slice B lb cb] 28)).heap.size := by simp [hb0]
  rw [hb0] at hrow hB1
  have HR := Lib.hid hR
  unfold calC
  by_cases ha : (la : Int) ≤ 100 ∧ (lb : Int) ≤ 12
  · have Hlen := Lib.hid (show la ≤ 100 ∧ lb ≤ 12 by omega)
    have k1 : decide ((la : Int) > 100) = false := decide_eq_false (by omega)
    have k2 : decide ((lb : Int) > 12) = false := decide_eq_false (by omega)
    clear ha hR
    go_enter Tryz.func22, Tryz.ntmps22
    go_wp2_with fail
    go_loopw [3] (fun i wr => ∃ k : Nat, k ≤ la ∧ i = .int .i64 k ∧ (∀ j, j < k → holOk gh j) ∧ Below b0 w wr ∧ b0 + 1 ≤ wr.heap.size ∧ wr.heap[b0]? = some (.cells #[.slice A la ca, .slice B lb cb] 28 (0, 0))) (fun i _ => la - (intOf i).toNat)
    case atStart => exact ⟨0, by omega, rfl, fun j hj => absurd hj (by omega), hB1, hs1, hrow⟩
    case round =>
      obtain ⟨k, hk, rfl, hall, hB, hs, hr⟩ := hrel
      have e0 := cell_of_row wr b0 0 _ _ _ hr
      by_cases hlt : k < la
      · have hI : (k : Int) < la := by omega
        obtain ⟨sb, off, rfl, hsb, hc⟩ := HR.out.1.at_ (by omega) hlt
        have hsb0 : sb < b0 := by have := Hb0.out; omega
        have hc' : ∀ j, j < 6 → wr.cell? ⟨sb, off + k * 6 + j, none⟩ = some (.int .i64 (gh k j)) := fun j hj => (hB.cell (p := ⟨sb, off + k * 6 + j, none⟩) hsb0).trans (hc j hj)
        have c0 : wr.cell? ⟨sb, off + k * 6, none⟩ = some (.int .i64 (gh k 0)) := hc' 0 (by omega)
        have c1 := hc' 1 (by omega)
        have c2 := hc' 2 (by omega)
        have c3 := hc' 3 (by omega)
        have c4 := hc' 4 (by omega)
        have c5 := hc' 5 (by omega)
        have w1 : IntKind.i64.wrap ((k : Int) + 1) = (k : Int) + 1 := i64_same _ (by have := Hlen.out; omega)
        have X1 := Lib.hid (wrap64_in ((k : Int) + 1) (by have := Hlen.out; omega))
        have hM := refHol_calls (gh k 0) (gh k 1) (gh k 2) (gh k 3) (gh k 4) (gh k 5)
        have Hk := Lib.hid (show k + 1 ≤ la from hlt)
        by_cases hok : mayB (gh k 0) (gh k 1) (gh k 2) (gh k 3) (gh k 4) (gh k 5)
        · rw [decide_eq_true hok] at hM
          have HM := Lib.hid hM
          have HN := Lib.hid (show ∀ j, j < k + 1 → holOk gh j from fun j hj => by
            by_cases e : j = k
            · rw [e]; exact hok
            · exact hall j (by omega))
          clear hc hc' hM hok hall hk hlt
          have x1 := X1.out
          go_wp2_with fail
          refine (HM.out _).mono ?_
          rintro e w2 ⟨rfl, hb2⟩
          have hB2 := hB.trans (hb2.mono (by omega))
          have hs2 := Nat.le_trans hs hb2.size
          have hr2 := blk_below hr hb2
          go_wp2_with fail
          clear x1
          exact ⟨⟨k + 1, Hk.out, by push_cast; rfl, HN.out, hB2, hs2, hr2⟩, meas_step la k Hk.out⟩
        · rw [decide_eq_false hok] at hM
          have HM := Lib.hid hM
          have HNo := Lib.hid (show ¬ calOk la gh lb gs from fun h => hok (h.2.2.1 k hlt))
          clear hc hc' hM hok hall hk hlt
          go_wp2_with fail
          refine (HM.out _).mono ?_
          rintro e w2 ⟨rfl, hb2⟩
          have hB2 := hB.trans (hb2.mono (by omega))
          go_wp2_with fail
          go_ret
          rw [decide_eq_false HNo.out]
          exact ⟨rfl, by first | exact hB2 | (rw [Hb0.out]; exact hB2)⟩
      · obtain rfl : k = la := by omega
        have hI : ¬ ((k : Int) < k) := by omega
        have HA := Lib.hid hall
        have e1 := cell_of_row wr b0 1 _ _ _ hr
        clear hall hk hlt
        go_wp2_with fail
        clear e0 e1
        go_loopw [5] (fun i wr => ∃ q : Nat, q ≤ lb ∧ i = .int .i64 q ∧ (∀ j, j < q → seaOk gs j ∧ ¬ seaDup gs j) ∧ Below b0 w wr ∧ b0 + 1 ≤ wr.heap.size ∧ wr.heap[b0]? = some (.cells #[.slice A k ca, .slice B lb cb] 28 (0, 0))) (fun i _ => lb - (intOf i).toNat)
        case atStart => exact ⟨0, by omega, rfl, fun j hj => absurd hj (by omega), hB, hs, hr⟩
        case round =>
          clear hB hs hr
          obtain ⟨q, hq, rfl, hall, hB, hs, hr⟩ := hrel
          have e1 := cell_of_row wr b0 1 _ _ _ hr
          by_cases hlt : q < lb
          · have hJ : (q : Int) < lb := by omega
            obtain ⟨sb, off, rfl, hsb, hc⟩ := HR.out.2.at_ (by omega) hlt
            have hsb0 : sb < b0 := by have := Hb0.out; omega
            have hc' : ∀ j, j < 3 → wr.cell? ⟨sb, off + q * 3 + j, none⟩ = some (.int .i64 (gs q j)) := fun j hj => (hB.cell (p := ⟨sb, off + q * 3 + j, none⟩) hsb0).trans (hc j hj)
            have c0 : wr.cell? ⟨sb, off + q * 3, none⟩ = some (.int .i64 (gs q 0)) := hc' 0 (by omega)
            have c1 := hc' 1 (by omega)
            have c2 := hc' 2 (by omega)
            have hst := bstep wr (.cells #[.int .i64 (gs q 0), .int .i64 (gs q 1), .int .i64 (gs q 2)] 97)
            have hB2 := hB.trans (hst.mono (by omega))
            have hM := refMay_calls 2001 (gs q 1) (gs q 2)
            by_cases hn : 1 ≤ gs q 0 ∧ gs q 0 ≤ 99
            · have n1 : decide (gs q 0 < 1) = false := decide_eq_false (by omega)
              have n2 : decide (gs q 0 > 99) = false := decide_eq_false (by omega)
              by_cases hok : okD 2001 (gs q 1) (gs q 2)
              · rw [decide_eq_true hok] at hM
                have HM := Lib.hid hM
                have HS := Lib.hid (show seaOk gs q from ⟨hn.1, hn.2, hok⟩)
                have HAll := Lib.hid hall
                have Hq := Lib.hid (show q + 1 ≤ lb from hlt)
                have hrS := World.alloc_heap_new wr (.cells #[.int .i64 (gs q 0), .int .i64 (gs q 1), .int .i64 (gs q 2)] 97)
                have hr2 := blk_below hr hst
                have hs2 := Nat.le_trans hs hst.size
                have hcs : ∀ t, t < q → ∀ j, j < 3 → (wr.alloc (.cells #[.int .i64 (gs q 0), .int .i64 (gs q 1), .int .i64 (gs q 2)] 97)).cell? ⟨sb, off + t * 3 + j, none⟩ = some (.int .i64 (gs t j)) := fun t ht j hj => by
                  obtain ⟨sb', off', e', -, hc2⟩ := HR.out.2.at_ (r := t) (by omega) (by omega)
                  injection e' with e'; injection e' with e1 e2; subst e1 e2
                  exact (hB2.cell (p := ⟨sb, off + t * 3 + j, none⟩) hsb0).trans (hc2 j hj)
                have HCs := Lib.hid hcs
                have w1 : IntKind.i64.wrap ((q : Int) + 1) = (q : Int) + 1 := i64_same _ (by have := Hlen.out; omega)
                have X1 := Lib.hid (wrap64_in ((q : Int) + 1) (by have := Hlen.out; omega))
                obtain ⟨WS, hWS⟩ : ∃ WS, wr.alloc (.cells #[.int .i64 (gs q 0), .int .i64 (gs q 1), .int .i64 (gs q 2)] 97) = WS := ⟨_, rfl⟩
                obtain ⟨sx, hsx⟩ : ∃ sx, wr.heap.size = sx := ⟨_, rfl⟩
                rw [hWS] at hrS hr2 hs2 HCs hB2
                rw [hsx] at hrS
                have d0 := cell_of_row WS sx 0 _ _ _ hrS
                have d1 := cell_of_row WS sx 1 _ _ _ hrS
                have d2 := cell_of_row WS sx 2 _ _ _ hrS
                clear hc hc' hM hok hn hall hst hB hs hr hcs hq hlt
                go_wp2_with fail
                refine (HM.out _).mono ?_
                rintro e w2 ⟨rfl, e2⟩
                subst w2
                go_wp2_with fail
                try rw [hWS]
                clear hWS c0 c1 c2 e1 d0 d1 d2
                go_loopw [7] (fun i wt => ∃ t : Nat, t ≤ q ∧ i = .int .i64 t ∧ (∀ j, j < t → ¬ (gs j 1 = gs q 1 ∧ gs j 2 = gs q 2)) ∧ wt.heap = WS.heap ∧ Below b0 w wt) (fun i _ => q - (intOf i).toNat)
                case atStart => exact ⟨0, by omega, rfl, fun j hj => absurd hj (by omega), rfl, hB2⟩
                case round =>
                  obtain ⟨t, ht, rfl, hno, hh, hBt⟩ := hrel
                  have cellT : ∀ a, wr.cell? a = WS.cell? a := fun a => by unfold World.cell?; rw [hh]
                  by_cases htq : t < q
                  · have hT : (t : Int) < q := by omega
                    have hTl : (t : Int) < lb := by have := Hq.out; omega
                    have e1 := (cellT _).trans (cell_of_row WS b0 1 _ _ _ hr2)
                    have d1 := (cellT _).trans (cell_of_row WS sx 1 _ _ _ hrS)
                    have d2 := (cellT _).trans (cell_of_row WS sx 2 _ _ _ hrS)
                    have t1 := (cellT _).trans (HCs.out t htq 1 (by omega))
                    have t2 := (cellT _).trans (HCs.out t htq 2 (by omega))
                    have wt1 : IntKind.i64.wrap ((t : Int) + 1) = (t : Int) + 1 := i64_same _ (by have := Hlen.out; have := Hq.out; omega)
                    have Xt := Lib.hid (wrap64_in ((t : Int) + 1) (by have := Hlen.out; have := Hq.out; omega))
                    have Ht := Lib.hid (show t + 1 ≤ q from htq)
                    have HNo := Lib.hid hno
                    have Hh := Lib.hid hh
                    have HBt := Lib.hid hBt
                    by_cases hm : gs t 1 = gs q 1
                    · have km : (gs t 1 == gs q 1) = true := beq_iff_eq.2 hm
                      by_cases hd : gs t 2 = gs q 2
                      · have kd : (gs t 2 == gs q 2) = true := beq_iff_eq.2 hd
                        have HBad := Lib.hid (show ¬ calOk k gh lb gs from fun h => (h.2.2.2 q (by have := Hq.out; omega)).2 ⟨t, htq, hm, hd⟩)
                        clear hm hd ht hno hh htq cellT hBt
                        go_wp2_with fail
                        go_quiet (fail)
                        go_wp2_with fail
                        go_ret
                        rw [decide_eq_false HBad.out]
                        exact ⟨rfl, by first | exact HBt.out.drewN _ | (rw [Hb0.out]; exact HBt.out.drewN _)⟩
                      · have kd : (gs t 2 == gs q 2) = false := beq_eq_false_iff_ne.2 hd
                        have Hd := Lib.hid hd
                        clear hm hd ht hno hh htq cellT hBt
                        have xt := Xt.out
                        go_wp2_with fail
                        go_quiet (fail)
                        go_wp2_with fail
                        clear xt
                        exact ⟨⟨t + 1, Ht.out, by push_cast; rfl, fun j hj => by
                          by_cases e : j = t
                          · rw [e]; exact fun h => Hd.out h.2
                          · exact HNo.out j (by omega), Hh.out, HBt.out.drewN _⟩, meas_step q t Ht.out⟩
                    · have km : (gs t 1 == gs q 1) = false := beq_eq_false_iff_ne.2 hm
                      have Hm := Lib.hid hm
                      clear hm ht hno hh htq cellT hBt
                      have xt := Xt.out
                      go_wp2_with fail
                      go_quiet (fail)
                      go_wp2_with fail
                      clear xt
                      exact ⟨⟨t + 1, Ht.out, by push_cast; rfl, fun j hj => by
                        by_cases e : j = t
                        · rw [e]; exact fun h => Hm.out h.1
                        · exact HNo.out j (by omega), Hh.out, HBt.out.drewN _⟩, meas_step q t Ht.out⟩
                  · obtain rfl : t = q := by omega
                    have hT : ¬ ((t : Int) < t) := by omega
                    have HN := Lib.hid (show ∀ j, j < t + 1 → seaOk gs j ∧ ¬ seaDup gs j from fun j hj => by
                      by_cases e : j = t
                      · rw [e]; exact ⟨HS.out, fun ⟨i, hi, h1, h2⟩ => hno i hi ⟨h1, h2⟩⟩
                      · exact HAll.out j (by omega))
                    have hrt : wr.heap[b0]? = some (.cells #[.slice A k ca, .slice (some ⟨sb, off, none⟩) lb cb] 28 (0, 0)) := by rw [hh]; exact hr2
                    have hst : b0 + 1 ≤ wr.heap.size := by rw [hh]; exact hs2
                    clear hno ht htq cellT hh
                    have x1 := X1.out
                    go_wp2_with fail
                    clear x1
                    exact ⟨⟨t + 1, Hq.out, by push_cast; rfl, HN.out, hBt, hst, hrt⟩, meas_step lb t Hq.out⟩
              · rw [decide_eq_false hok] at hM
                have HM := Lib.hid hM
                have HNo := Lib.hid (show ¬ calOk k gh lb gs from fun h => hok (h.2.2.2 q hlt).1.2.2)
                clear hc hc' hM hok hn hall hst hB hs hr hq hlt
                go_wp2_with fail
                refine (HM.out _).mono ?_
                rintro e w2 ⟨rfl, rfl⟩
                go_wp2_with fail
                go_ret
                rw [decide_eq_false HNo.out]
                exact ⟨rfl, by first | exact hB2 | (rw [Hb0.out]; exact hB2)⟩
            · have HNo := Lib.hid (show ¬ calOk k gh lb gs from fun h => hn ⟨(h.2.2.2 q hlt).1.1, (h.2.2.2 q hlt).1.2.1⟩)
              have Hn := Lib.hid hn
              clear hc hc' hM hn hall hst hB hs hr hq hlt
              go_wp2_with fail
              all_goals first
                | (exfalso; have := Hn.out; omega)
                | (go_ret; rw [decide_eq_false HNo.out]; exact ⟨rfl, by first | exact hB2 | (rw [Hb0.out]; exact hB2)⟩)
          · obtain rfl : q = lb := by omega
            have hJ : ¬ ((q : Int) < q) := by omega
            have HY := Lib.hid (show calOk k gh q gs from ⟨Hlen.out.1, Hlen.out.2, HA.out, hall⟩)
            clear hall hs hr hq hlt
            go_wp2_with fail
            go_ret
            rw [decide_eq_true HY.out]
            exact ⟨rfl, by first | exact hB | (rw [Hb0.out]; exact hB)⟩
  · have hno : ¬ calOk la gh lb gs := fun h => ha ⟨by have := h.1; omega, by have := h.2.1; omega⟩
    rw [decide_eq_false hno]
    have Ha := Lib.hid ha
    clear hno ha hR
    go_enter Tryz.func22, Tryz.ntmps22
    go_wp2_with fail
    all_goals first
      | (exfalso; have := Ha.out; omega)
      | (go_ret; exact ⟨rfl, by first | exact hB1 | (rw [Hb0.out]; exact hB1)⟩)
end Go.Proofs.YtgbkedjjgbhcmaaGreatDoor
