/-
  Whether a zone may be: zone.in, may, Check, walked. Conditions stand at each theorem.
-/
import Derived.Test.YtgbkedjjgbhcmaaGreatDoorZoneOpen
import Derived.Deep.RegionWith
import Derived.Deep.DeepCutAuto
import Derived.Deep.CutRange
namespace Go.Proofs.YtgbkedjjgbhcmaaGreatDoor
open Go Go.RowKit Go.Kw Go.Kw.Cv Go.Shelf
set_option linter.unusedVariables false
set_option linter.unusedSimpArgs false

theorem zin_calls (n a b : Int) (w : World) : Calls Tryz.prog 38 #[.int .i64 n, .int .i64 a, .int .i64 b] w fun e w' => e = .returned (.bool (decide (a ≤ n) && decide (n ≤ b))) ∧ w' = w := by
  go_enter Tryz.func38, Tryz.ntmps38
  go_wp2_with fail
  all_goals (go_ret; simp_all; try omega)
def chgC (m wd n mi : Int) : Value := .agg #[.int .i64 m, .int .i64 wd, .int .i64 n, .int .i64 mi]
set_option maxRecDepth 100000 in
set_option maxHeartbeats 8000000 in
theorem zmay_calls (m wd n mi : Int) (w : World) : Calls Tryz.prog 39 #[chgC m wd n mi] w fun e w' => e = .returned (.bool (decide (chgOk m wd n mi))) ∧ Below w.heap.size w w' := by
  obtain ⟨B1, hB1⟩ : ∃ B, (decide ((1 : Int) ≤ m) && decide (m ≤ 12)) = B := ⟨_, rfl⟩
  obtain ⟨B2, hB2⟩ : ∃ B, (decide ((1 : Int) ≤ wd) && decide (wd ≤ 7)) = B := ⟨_, rfl⟩
  obtain ⟨B3, hB3⟩ : ∃ B, (decide ((1 : Int) ≤ n) && decide (n ≤ 4)) = B := ⟨_, rfl⟩
  obtain ⟨B4, hB4⟩ : ∃ B, (decide ((0 : Int) ≤ mi) && decide (mi ≤ 1439)) = B := ⟨_, rfl⟩
  have hv : decide (chgOk m wd n mi) = (B1 && B2 && (decide (n = -1) || B3) && B4) := by
    rw [← hB1, ← hB2, ← hB3, ← hB4, Bool.eq_iff_iff]
    simp only [decide_eq_true_eq, Bool.and_eq_true, Bool.or_eq_true]
    unfold chgOk
    constructor
    · intro h; exact ⟨⟨⟨⟨h.1, h.2.1⟩, h.2.2.1, h.2.2.2.1⟩, by omega⟩, h.2.2.2.2.2.1, h.2.2.2.2.2.2⟩
    · intro h; omega
  have H1 := zin_calls m 1 12
  have H2 := zin_calls wd 1 7
  have H3 := zin_calls n 1 4
  have H4 := zin_calls mi 0 1439
  rw [hB1] at H1
  rw [hB2] at H2
  rw [hB3] at H3
  rw [hB4] at H4
  replace H1 := Lib.hid H1
  replace H2 := Lib.hid H2
  replace H3 := Lib.hid H3
  replace H4 := Lib.hid H4
  rw [hv]
  have HB := Lib.hid (bstep w (.cells #[.int .i64 m, .int .i64 wd, .int .i64 n, .int .i64 mi] 88))
  unfold chgC
  clear hv hB1 hB2 hB3 hB4
  cases B1 with
  | false =>
    go_enter Tryz.func39, Tryz.ntmps39
    go_wp2_with fail
    refine (H1.out _).mono ?_
    rintro e w3 ⟨rfl, rfl⟩
    go_wp2_with fail
    go_ret
    exact ⟨rfl, HB.out⟩
  | true =>
    cases B2 with
    | false =>
      go_enter Tryz.func39, Tryz.ntmps39
      go_wp2_with fail
      refine (H1.out _).mono ?_
      rintro e w3 ⟨rfl, rfl⟩
      go_wp2_with fail
      refine (H2.out _).mono ?_
      rintro e w3 ⟨rfl, rfl⟩
      go_wp2_with fail
      go_ret
      exact ⟨rfl, HB.out⟩
    | true =>
      by_cases hn : n = -1
      · subst hn
        cases B4 with
        | false =>
          go_enter Tryz.func39, Tryz.ntmps39
          go_wp2_with fail
          refine (H1.out _).mono ?_
          rintro e w3 ⟨rfl, rfl⟩
          go_wp2_with fail
          refine (H2.out _).mono ?_
          rintro e w3 ⟨rfl, rfl⟩
          go_wp2_with fail
          refine (H4.out _).mono ?_
          rintro e w3 ⟨rfl, rfl⟩
          go_wp2_with fail
          go_ret
          exact ⟨rfl, HB.out⟩
        | true =>
          go_enter Tryz.func39, Tryz.ntmps39
          go_wp2_with fail
          refine (H1.out _).mono ?_
          rintro e w3 ⟨rfl, rfl⟩
          go_wp2_with fail
          refine (H2.out _).mono ?_
          rintro e w3 ⟨rfl, rfl⟩
          go_wp2_with fail
          refine (H4.out _).mono ?_
          rintro e w3 ⟨rfl, rfl⟩
          go_wp2_with fail
          go_ret
          exact ⟨rfl, HB.out⟩
      · have k3 : (n == -1) = false := beq_eq_false_iff_ne.2 hn
        rw [show decide (n = -1) = false from decide_eq_false hn]
        clear hn
        cases B3 with
        | false =>
          go_enter Tryz.func39, Tryz.ntmps39
          go_wp2_with fail
          refine (H1.out _).mono ?_
          rintro e w3 ⟨rfl, rfl⟩
          go_wp2_with fail
          refine (H2.out _).mono ?_
          rintro e w3 ⟨rfl, rfl⟩
          go_wp2_with fail
          refine (H3.out _).mono ?_
          rintro e w3 ⟨rfl, rfl⟩
          go_wp2_with fail
          go_ret
          exact ⟨rfl, HB.out⟩
        | true =>
          cases B4 with
          | false =>
            go_enter Tryz.func39, Tryz.ntmps39
            go_wp2_with fail
            refine (H1.out _).mono ?_
            rintro e w3 ⟨rfl, rfl⟩
            go_wp2_with fail
            refine (H2.out _).mono ?_
            rintro e w3 ⟨rfl, rfl⟩
            go_wp2_with fail
            refine (H3.out _).mono ?_
            rintro e w3 ⟨rfl, rfl⟩
            go_wp2_with fail
            refine (H4.out _).mono ?_
            rintro e w3 ⟨rfl, rfl⟩
            go_wp2_with fail
            go_ret
            exact ⟨rfl, HB.out⟩
          | true =>
            go_enter Tryz.func39, Tryz.ntmps39
            go_wp2_with fail
            refine (H1.out _).mono ?_
            rintro e w3 ⟨rfl, rfl⟩
            go_wp2_with fail
            refine (H2.out _).mono ?_
            rintro e w3 ⟨rfl, rfl⟩
            go_wp2_with fail
            refine (H3.out _).mono ?_
            rintro e w3 ⟨rfl, rfl⟩
            go_wp2_with fail
            refine (H4.out _).mono ?_
            rintro e w3 ⟨rfl, rfl⟩
            go_wp2_with fail
            go_ret
            exact ⟨rfl, HB.out⟩
/-- A zone as a value. -/
def zonC (o : Int) (A : Option Addr) (lr cr : Nat) : Value := .agg #[.int .i64 o, .slice A lr cr]
def ZCh (o : Int) (lr : Nat) (g : Nat → Nat → Int) (k : Nat) (F : Bool) : Prop := F = true ↔ (-50400 ≤ o ∧ o ≤ 50400 ∧ lr ≤ 20 ∧ ∀ i, i < k → rulOk g i)
theorem zch_step {o : Int} {lr : Nat} {g : Nat → Nat → Int} {k : Nat} {F G : Bool} (h : ZCh o lr g k F) (hG : G = true ↔ (F = true ∧ rulOk g k)) : ZCh o lr g (k + 1) G := by
  unfold ZCh at *
  rw [hG, h]
  constructor
  · rintro ⟨⟨h1, h2, h3, h4⟩, h5⟩
    refine ⟨h1, h2, h3, fun i hi => ?_⟩
    by_cases e : i = k
    · rw [e]; exact h5
    · exact h4 i (by omega)
  · rintro ⟨h1, h2, h3, h4⟩
    exact ⟨⟨h1, h2, h3, fun i hi => h4 i (by omega)⟩, h4 k (by omega)⟩
theorem zch_end {o : Int} {lr : Nat} {g : Nat → Nat → Int} {F : Bool} (h : ZCh o lr g lr F) : (F = true → zonE o lr g = 0) ∧ (F = false → zonE o lr g = 70) :=
  ⟨fun e => if_pos (h.1 e), fun e => if_neg (fun hh => by have := h.2 hh; rw [e] at this; cases this)⟩
theorem meas_z (lb q : Nat) (h : q + 1 ≤ lb) : lb - (intOf (Value.int .i64 ((q : Int) + 1))).toNat < lb - (intOf (Value.int .i64 (q : Int))).toNat := by
  show lb - ((q : Int) + 1).toNat < lb - (q : Int).toNat
  omega
set_option maxRecDepth 100000 in
set_option maxHeartbeats 16000000 in
theorem zCheck_calls (o : Int) (A : Option Addr) (lr cr : Nat) (g : Nat → Nat → Int) (w : World) (hR : RdZ w A lr cr g) :
    Calls Tryz.prog 12 #[zonC o A lr cr] w fun e w' => e = .returned (.int .i64 (zonE o lr g)) ∧ Below w.heap.size w w' := by
  obtain ⟨b0, hb0⟩ : ∃ b0, w.heap.size = b0 := ⟨_, rfl⟩
  have Hb0 := Lib.hid hb0
  have hrow := World.alloc_heap_new w (.cells #[.int .i64 o, .slice A lr cr] 24)
  have hB1 := bstep w (.cells #[.int .i64 o, .slice A lr cr] 24)
  have hs1 : (w.alloc (.cells #[.int .i64 o, .slice A lr cr] 24)).heap.size = b0 + 1 := by simp [hb0]
  rw [hb0] at hrow hB1
  have HR := Lib.hid hR
  have hla := hR.1
  have hca := hR.2.1
  have hmx : maxLen = 9223372036854775807 := rfl
  have Hlen := Lib.hid (show lr ≤ 9223372036854775807 by omega)
  obtain ⟨N0, hN0⟩ : ∃ B, (decide ((-50400 : Int) ≤ o) && decide (o ≤ 50400)) = B := ⟨_, rfl⟩
  have HI0 := zin_calls o (-50400) 50400
  rw [hN0] at HI0
  replace HI0 := Lib.hid HI0
  obtain ⟨F0, hF0⟩ : ∃ F : Bool, (N0 && decide ((lr : Int) ≤ 20)) = F := ⟨_, rfl⟩
  have hC0 : ZCh o lr g 0 F0 := by
    unfold ZCh; rw [← hF0, ← hN0, Bool.and_eq_true, Bool.and_eq_true, decide_eq_true_eq, decide_eq_true_eq, decide_eq_true_eq]
    constructor
    · rintro ⟨h1, h2⟩; exact ⟨h1.1, h1.2, by omega, fun i hi => absurd hi (by omega)⟩
    · rintro ⟨h1, h2, h3, _⟩; exact ⟨⟨h1, h2⟩, by omega⟩
  unfold zonC
  have HC0 := Lib.hid hC0
  clear hR hla hca hmx hN0 hC0
  have HF0 := Lib.hid hF0
  clear hF0
  go_enter Tryz.func12, Tryz.ntmps12
  go_upto_region 1 with fail
  go_cut [3] from 6 to 14 (fun s3 wx => s3 = .bool F0 ∧ wx = w.alloc (.cells #[.int .i64 o, .slice A lr cr] 24))
  case first =>
    cases N0 with
    | false =>
      go_wp2_with fail
      refine (HI0.out _).mono ?_
      rintro e w3 ⟨rfl, rfl⟩
      go_wp2_with fail
      go_meet
      exact ⟨by rw [← HF0.out]; rfl, rfl⟩
    | true =>
      obtain ⟨L, hL⟩ : ∃ L, decide ((lr : Int) ≤ 20) = L := ⟨_, rfl⟩
      have HF1 := Lib.hid (show L = F0 by rw [← HF0.out, hL]; rfl)
      clear HF0
      cases L
      all_goals
        go_wp2_with fail
        refine (HI0.out _).mono ?_
        rintro e w3 ⟨rfl, rfl⟩
        go_wp2_with fail
        go_meet
        exact ⟨by rw [← HF1.out], rfl⟩
  case rest =>
    obtain ⟨rfl, rfl⟩ := hcut
    clear HF0
    go_wp2_with fail
    go_loopw [3, 18] (fun f i wr => ∃ (k : Nat) (F : Bool), k ≤ lr ∧ i = .int .i64 k ∧ f = .bool F ∧ ZCh o lr g k F ∧ Below b0 w wr ∧ b0 + 1 ≤ wr.heap.size) (fun _ i _ => lr - (intOf i).toNat)
    case atStart => exact ⟨0, F0, by omega, rfl, rfl, HC0.out, hB1, by rw [hs1]; exact Nat.le_refl _⟩
    case round =>
      obtain ⟨k, F, hk, rfl, rfl, hC, hB, hs⟩ := hrel
      clear hrow hB1 hs1 HC0
      by_cases hlt : k < lr
      · have hI : (k : Int) < lr := by omega
        obtain ⟨sb, off, rfl, hsb, hc⟩ := HR.out.at_ (by omega) hlt
        have hsb0 : sb < b0 := by have := Hb0.out; omega
        have hc' : ∀ j, j < 11 → wr.cell? ⟨sb, off + k * 11 + j, none⟩ = some (.int .i64 (g k j)) := fun j hj => (hB.cell (p := ⟨sb, off + k * 11 + j, none⟩) hsb0).trans (hc j hj)
        have c0 : wr.cell? ⟨sb, off + k * 11, none⟩ = some (.int .i64 (g k 0)) := hc' 0 (by omega)
        have c1 := hc' 1 (by omega)
        have c2 := hc' 2 (by omega)
        have c3 := hc' 3 (by omega)
        have c4 := hc' 4 (by omega)
        have c5 := hc' 5 (by omega)
        have c6 := hc' 6 (by omega)
        have c7 := hc' 7 (by omega)
        have c8 := hc' 8 (by omega)
        have c9 := hc' 9 (by omega)
        have c10 := hc' 10 (by omega)
        obtain ⟨W1, hW1⟩ : ∃ W1, wr.alloc (.cells #[.int .i64 (g k 0), .int .i64 (g k 1), .int .i64 (g k 2), .int .i64 (g k 3), .int .i64 (g k 4), .int .i64 (g k 5), .int .i64 (g k 6), .int .i64 (g k 7), .int .i64 (g k 8), .int .i64 (g k 9), .int .i64 (g k 10)] 90) = W1 := ⟨_, rfl⟩
        have hst : Below wr.heap.size wr W1 := hW1 ▸ bstep wr _
        have hrS : W1.heap[wr.heap.size]? = some (.cells #[.int .i64 (g k 0), .int .i64 (g k 1), .int .i64 (g k 2), .int .i64 (g k 3), .int .i64 (g k 4), .int .i64 (g k 5), .int .i64 (g k 6), .int .i64 (g k 7), .int .i64 (g k 8), .int .i64 (g k 9), .int .i64 (g k 10)] 90 (0, 0)) := hW1 ▸ World.alloc_heap_new wr _
        have hB1 : Below b0 w W1 := hB.trans (hst.mono (by omega))
        have hs1' : b0 + 1 ≤ W1.heap.size := Nat.le_trans hs hst.size
        have w1 : IntKind.i64.wrap ((k : Int) + 1) = (k : Int) + 1 := i64_same _ (by have := Hlen.out; omega)
        have X1 := Lib.hid (wrap64_in ((k : Int) + 1) (by have := Hlen.out; omega))
        have Hk := Lib.hid (show k + 1 ≤ lr from hlt)
        have HRnd := Lib.hid (show ∀ (G : Bool) (W' : World), (G = true ↔ (F = true ∧ rulOk g k)) → Below W1.heap.size W1 W' → ZCh o lr g (k + 1) G ∧ Below b0 w W' ∧ b0 + 1 ≤ W'.heap.size from
          fun G W' hG hbx => ⟨zch_step hC hG, hB1.trans (hbx.mono (by omega)), Nat.le_trans hs1' hbx.size⟩)
        clear hc hc' hC hB hs hk hlt hst hB1 hs1'
        go_upto_region 5 with fail
        try rw [hW1]
        clear hW1
        clear c0
        clear c1
        clear c2
        clear c3
        clear c4
        clear c5
        clear c6
        clear c7
        clear c8
        clear c9
        clear c10
        have d0 := cell_of_row W1 wr.heap.size 0 _ _ _ hrS
        have d1 := cell_of_row W1 wr.heap.size 1 _ _ _ hrS
        have d2 := cell_of_row W1 wr.heap.size 2 _ _ _ hrS
        have d3 := cell_of_row W1 wr.heap.size 3 _ _ _ hrS
        have d4 := cell_of_row W1 wr.heap.size 4 _ _ _ hrS
        have d5 := cell_of_row W1 wr.heap.size 5 _ _ _ hrS
        have d6 := cell_of_row W1 wr.heap.size 6 _ _ _ hrS
        have d7 := cell_of_row W1 wr.heap.size 7 _ _ _ hrS
        have d8 := cell_of_row W1 wr.heap.size 8 _ _ _ hrS
        have d9 := cell_of_row W1 wr.heap.size 9 _ _ _ hrS
        have d10 := cell_of_row W1 wr.heap.size 10 _ _ _ hrS
        cases F with
        | false =>
          have x1 := X1.out
          go_wp2_with fail
          clear x1
          obtain ⟨z1, z2, z3⟩ := HRnd.out false _ (by simp) (Below.refl _ _)
          exact ⟨⟨k + 1, false, Hk.out, by push_cast; rfl, rfl, z1, z2, z3⟩, meas_z lr k Hk.out⟩
        | true =>
          by_cases hx : 1970 ≤ g k 0
          · have k1 : decide (g k 0 ≥ 1970) = true := decide_eq_true hx
            have q1 := Lib.hid hx
            clear hx
            by_cases hx : g k 0 ≤ g k 1
            · have k2 : decide (g k 0 ≤ g k 1) = true := decide_eq_true hx
              have q2 := Lib.hid hx
              clear hx
              by_cases hx : g k 1 ≤ 9999
              · have k3 : decide (g k 1 ≤ 9999) = true := decide_eq_true hx
                have q3 := Lib.hid hx
                clear hx
                obtain ⟨N1, hN1⟩ : ∃ N, (decide (1 ≤ g k 10) && decide (g k 10 ≤ 7200)) = N := ⟨_, rfl⟩
                have HI := zin_calls (g k 10) 1 7200
                rw [hN1] at HI
                replace HI := Lib.hid HI
                have hz : N1 = true ↔ 1 ≤ g k 10 ∧ g k 10 ≤ 7200 := by rw [← hN1, Bool.and_eq_true, decide_eq_true_eq, decide_eq_true_eq]
                clear hN1
                cases N1 with
                | false =>
                  have hx : ¬ (1 ≤ g k 10 ∧ g k 10 ≤ 7200) := fun h => Bool.noConfusion (hz.2 h)
                  clear hz
                  have HNo := Lib.hid (show ¬ rulOk g k from fun h => hx (by exact ⟨h.2.2.2.1, h.2.2.2.2.1⟩))
                  clear hx
                  have x1 := X1.out
                  go_wp2_with fail
                  refine (HI.out _).mono ?_
                  rintro e w3 ⟨rfl, rfl⟩
                  go_wp2_with fail
                  clear x1
                  obtain ⟨z1, z2, z3⟩ := HRnd.out false _ (by simp [HNo.out]) (Below.refl _ _)
                  exact ⟨⟨k + 1, false, Hk.out, by push_cast; rfl, rfl, z1, z2, z3⟩, meas_z lr k Hk.out⟩
                | true =>
                  have q4 := Lib.hid (hz.1 rfl)
                  clear hz
                  have HM := zmay_calls (g k 2) (g k 3) (g k 4) (g k 5)
                  have HN := zmay_calls (g k 6) (g k 7) (g k 8) (g k 9)
                  unfold chgC at HM HN
                  by_cases hx : chgOk (g k 2) (g k 3) (g k 4) (g k 5)
                  · rw [decide_eq_true hx] at HM
                    replace HM := Lib.hid HM
                    have q5 := Lib.hid hx
                    clear hx
                    by_cases hx : chgOk (g k 6) (g k 7) (g k 8) (g k 9)
                    · rw [decide_eq_true hx] at HN
                      replace HN := Lib.hid HN
                      have Hyes := Lib.hid (show rulOk g k from ⟨q1.out, q2.out, q3.out, q4.out.1, q4.out.2, q5.out, hx⟩)
                      clear hx q1 q2 q3 q4 q5
                      have x1 := X1.out
                      go_wp2_with fail
                      refine (HI.out _).mono ?_
                      rintro e w3 ⟨rfl, rfl⟩
                      go_wp2_with fail
                      refine (HM.out _).mono ?_
                      rintro e w4 ⟨rfl, hb4⟩
                      have f6 := cell_of_row w4 wr.heap.size 6 _ _ _ (blk_below hrS hb4)
                      have f7 := cell_of_row w4 wr.heap.size 7 _ _ _ (blk_below hrS hb4)
                      have f8 := cell_of_row w4 wr.heap.size 8 _ _ _ (blk_below hrS hb4)
                      have f9 := cell_of_row w4 wr.heap.size 9 _ _ _ (blk_below hrS hb4)
                      go_wp2_with fail
                      refine (HN.out _).mono ?_
                      rintro e w5 ⟨rfl, hb5⟩
                      replace hb5 := bnext hb4 hb5
                      go_wp2_with fail
                      clear x1
                      obtain ⟨z1, z2, z3⟩ := HRnd.out true _ (by simp [Hyes.out]) (hb5)
                      exact ⟨⟨k + 1, true, Hk.out, by push_cast; rfl, rfl, z1, z2, z3⟩, meas_z lr k Hk.out⟩
                    · rw [decide_eq_false hx] at HN
                      replace HN := Lib.hid HN
                      have HNo := Lib.hid (show ¬ rulOk g k from fun h => hx (by exact h.2.2.2.2.2.2))
                      clear hx
                      have x1 := X1.out
                      go_wp2_with fail
                      refine (HI.out _).mono ?_
                      rintro e w3 ⟨rfl, rfl⟩
                      go_wp2_with fail
                      refine (HM.out _).mono ?_
                      rintro e w4 ⟨rfl, hb4⟩
                      have f6 := cell_of_row w4 wr.heap.size 6 _ _ _ (blk_below hrS hb4)
                      have f7 := cell_of_row w4 wr.heap.size 7 _ _ _ (blk_below hrS hb4)
                      have f8 := cell_of_row w4 wr.heap.size 8 _ _ _ (blk_below hrS hb4)
                      have f9 := cell_of_row w4 wr.heap.size 9 _ _ _ (blk_below hrS hb4)
                      go_wp2_with fail
                      refine (HN.out _).mono ?_
                      rintro e w5 ⟨rfl, hb5⟩
                      replace hb5 := bnext hb4 hb5
                      go_wp2_with fail
                      clear x1
                      obtain ⟨z1, z2, z3⟩ := HRnd.out false _ (by simp [HNo.out]) (hb5)
                      exact ⟨⟨k + 1, false, Hk.out, by push_cast; rfl, rfl, z1, z2, z3⟩, meas_z lr k Hk.out⟩
                  · rw [decide_eq_false hx] at HM
                    replace HM := Lib.hid HM
                    clear HN
                    have HNo := Lib.hid (show ¬ rulOk g k from fun h => hx (by exact h.2.2.2.2.2.1))
                    clear hx
                    have x1 := X1.out
                    go_wp2_with fail
                    refine (HI.out _).mono ?_
                    rintro e w3 ⟨rfl, rfl⟩
                    go_wp2_with fail
                    refine (HM.out _).mono ?_
                    rintro e w4 ⟨rfl, hb4⟩
                    have f6 := cell_of_row w4 wr.heap.size 6 _ _ _ (blk_below hrS hb4)
                    have f7 := cell_of_row w4 wr.heap.size 7 _ _ _ (blk_below hrS hb4)
                    have f8 := cell_of_row w4 wr.heap.size 8 _ _ _ (blk_below hrS hb4)
                    have f9 := cell_of_row w4 wr.heap.size 9 _ _ _ (blk_below hrS hb4)
                    go_wp2_with fail
                    clear x1
                    obtain ⟨z1, z2, z3⟩ := HRnd.out false _ (by simp [HNo.out]) (hb4)
                    exact ⟨⟨k + 1, false, Hk.out, by push_cast; rfl, rfl, z1, z2, z3⟩, meas_z lr k Hk.out⟩
              · have k3 : decide (g k 1 ≤ 9999) = false := decide_eq_false hx
                have HNo := Lib.hid (show ¬ rulOk g k from fun h => hx (by exact h.2.2.1))
                clear hx
                have x1 := X1.out
                go_wp2_with fail
                clear x1
                obtain ⟨z1, z2, z3⟩ := HRnd.out false _ (by simp [HNo.out]) (Below.refl _ _)
                exact ⟨⟨k + 1, false, Hk.out, by push_cast; rfl, rfl, z1, z2, z3⟩, meas_z lr k Hk.out⟩
            · have k2 : decide (g k 0 ≤ g k 1) = false := decide_eq_false hx
              have HNo := Lib.hid (show ¬ rulOk g k from fun h => hx (by exact h.2.1))
              clear hx
              have x1 := X1.out
              go_wp2_with fail
              clear x1
              obtain ⟨z1, z2, z3⟩ := HRnd.out false _ (by simp [HNo.out]) (Below.refl _ _)
              exact ⟨⟨k + 1, false, Hk.out, by push_cast; rfl, rfl, z1, z2, z3⟩, meas_z lr k Hk.out⟩
          · have k1 : decide (g k 0 ≥ 1970) = false := decide_eq_false hx
            have HNo := Lib.hid (show ¬ rulOk g k from fun h => hx (by exact h.1))
            clear hx
            have x1 := X1.out
            go_wp2_with fail
            clear x1
            obtain ⟨z1, z2, z3⟩ := HRnd.out false _ (by simp [HNo.out]) (Below.refl _ _)
            exact ⟨⟨k + 1, false, Hk.out, by push_cast; rfl, rfl, z1, z2, z3⟩, meas_z lr k Hk.out⟩
      · obtain rfl : k = lr := by omega
        have hI : ¬ ((k : Int) < k) := by omega
        have Hfin := Lib.hid (zch_end hC)
        have HBq := Lib.hid hB
        clear hC hk hlt hB hs
        cases F with
        | true =>
          go_wp2_with fail
          go_ret
          rw [Hfin.out.1 (by first | exact rfl | exact trivial)]
          exact ⟨rfl, by first | exact HBq.out | (rw [Hb0.out]; exact HBq.out)⟩
        | false =>
          go_wp2_with fail
          go_ret
          rw [Hfin.out.2 (by first | exact rfl | exact trivial)]
          exact ⟨rfl, by first | exact HBq.out | (rw [Hb0.out]; exact HBq.out)⟩
end Go.Proofs.YtgbkedjjgbhcmaaGreatDoor
