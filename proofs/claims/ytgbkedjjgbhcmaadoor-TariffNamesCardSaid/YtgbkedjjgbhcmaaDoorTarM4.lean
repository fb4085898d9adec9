/-
  Texts that the proof leans on, merged by program, part 4. Conditions stand at each theorem.
-/
import Derived.Test.YtgbkedjjgbhcmaaDoorTarM3
import Derived.Deep.RegionWith
import Derived.Deep.DeepCutAuto
import Derived.Deep.CutRange
import Derived.OrdersHeld
import Derived.Deep.RegionHeld3
/-
  Whether a zone may be: zone.in, may, Check, walked. Conditions stand at each theorem.
-/
namespace Go.Proofs.YtgbkedjjgbhcmaaDoor
open Go Go.RowKit Go.Kw Go.Kw.Cv Go.Shelf
set_option linter.unusedVariables false
set_option linter.unusedSimpArgs false

theorem zin_calls (n a b : Int) (w : World) : Calls Tryd.prog 56 #[.int .i64 n, .int .i64 a, .int .i64 b] w fun e w' => e = .returned (.bool (decide (a ≤ n) && decide (n ≤ b))) ∧ w' = w := by
  go_enter Tryd.func56, Tryd.ntmps56
  go_wp2_with fail
  all_goals (go_ret; simp_all; try omega)
def chgC (m wd n mi : Int) : Value := .agg #[.int .i64 m, .int .i64 wd, .int .i64 n, .int .i64 mi]
set_option maxRecDepth 100000 in
set_option maxHeartbeats 8000000 in
theorem zmay_calls (m wd n mi : Int) (w : World) : Calls Tryd.prog 57 #[chgC m wd n mi] w fun e w' => e = .returned (.bool (decide (chgOk m wd n mi))) ∧ Below w.heap.size w w' := by
  obtain ⟨B1, hB1⟩ : ∃ B, (decide ((1 : Int) ≤ m) && decide (m ≤ 12)) = B := ⟨_, rfl⟩
  obtain ⟨B2, hB2⟩ : ∃ B, (decide ((1 : Int) ≤ wd) && decide (wd ≤ 7)) = B := ⟨_, rfl⟩
  obtain ⟨B3, hB3⟩ : ∃ B, (decide ((1 : Int) ≤ n) && decide (n ≤ 4)) = B := ⟨_, rfl⟩
  obtain ⟨B4, hB4⟩ : ∃ B, (decide ((0 : Int) ≤ mi) && decide (mi ≤ 1439)) = B := ⟨_, rfl⟩
  have hv : decide (chgOk m wd n mi) = (B1 && B2 && (decide (n = -1) || B3) && B4) := by
    rw [← hB1, ← hB2, ← hB3, ← hB4, Bool.eq_iff_iff]
    simp only [decide_eq_true_eq, Bool.and_eq_true, Bool.or_eq_true]
    unfold chgOk
    constructor
    · intro h; exact ⟨⟨⟨⟨h.1, h.2.1⟩, h.2.2.1, h.2.2.2.1⟩, by omega⟩, h.2.2.2.2.2.1, h.2.2.2.2.2.2⟩
    · intro h; omega
  have H1 := zin_calls m 1 12
  have H2 := zin_calls wd 1 7
  have H3 := zin_calls n 1 4
  have H4 := zin_calls mi 0 1439
  rw [hB1] at H1
  rw [hB2] at H2
  rw [hB3] at H3
  rw [hB4] at H4
  replace H1 := Lib.hid H1
  replace H2 := Lib.hid H2
  replace H3 := Lib.hid H3
  replace H4 := Lib.hid H4
  rw [hv]
  have HB := Lib.hid (bstep w (.cells #[.int .i64 m, .int .i64 wd, .int .i64 n, .int .i64 mi] 132))
  unfold chgC
  clear hv hB1 hB2 hB3 hB4
  cases B1 with
  | false =>
    go_enter Tryd.func57, Tryd.ntmps57
    go_wp2_with fail
    refine (H1.out _).mono ?_
    rintro e w3 ⟨rfl, rfl⟩
    go_wp2_with fail
    go_ret
    exact ⟨rfl, HB.out⟩
  | true =>
    cases B2 with
    | false =>
      go_enter Tryd.func57, Tryd.ntmps57
      go_wp2_with fail
      refine (H1.out _).mono ?_
      rintro e w3 ⟨rfl, rfl⟩
      go_wp2_with fail
      refine (H2.out _).mono ?_
      rintro e w3 ⟨rfl, rfl⟩
      go_wp2_with fail
      go_ret
      exact ⟨rfl, HB.out⟩
    | true =>
      by_cases hn : n = -1
      · subst hn
        cases B4 with
        | false =>
          go_enter Tryd.func57, Tryd.ntmps57
          go_wp2_with fail
          refine (H1.out _).mono ?_
          rintro e w3 ⟨rfl, rfl⟩
          go_wp2_with fail
          refine (H2.out _).mono ?_
          rintro e w3 ⟨rfl, rfl⟩
          go_wp2_with fail
          refine (H4.out _).mono ?_
          rintro e w3 ⟨rfl, rfl⟩
          go_wp2_with fail
          go_ret
          exact ⟨rfl, HB.out⟩
        | true =>
          go_enter Tryd.func57, Tryd.ntmps57
          go_wp2_with fail
          refine (H1.out _).mono ?_
          rintro e w3 ⟨rfl, rfl⟩
          go_wp2_with fail
          refine (H2.out _).mono ?_
          rintro e w3 ⟨rfl, rfl⟩
          go_wp2_with fail
          refine (H4.out _).mono ?_
          rintro e w3 ⟨rfl, rfl⟩
          go_wp2_with fail
          go_ret
          exact ⟨rfl, HB.out⟩
      · have k3 : (n == -1) = false := beq_eq_false_iff_ne.2 hn
        rw [show decide (n = -1) = false from decide_eq_false hn]
        clear hn
        cases B3 with
        | false =>
          go_enter Tryd.func57, Tryd.ntmps57
          go_wp2_with fail
          refine (H1.out _).mono ?_
          rintro e w3 ⟨rfl, rfl⟩
          go_wp2_with fail
          refine (H2.out _).mono ?_
          rintro e w3 ⟨rfl, rfl⟩
          go_wp2_with fail
          refine (H3.out _).mono ?_
          rintro e w3 ⟨rfl, rfl⟩
          go_wp2_with fail
          go_ret
          exact ⟨rfl, HB.out⟩
        | true =>
          cases B4 with
          | false =>
            go_enter Tryd.func57, Tryd.ntmps57
            go_wp2_with fail
            refine (H1.out _).mono ?_
            rintro e w3 ⟨rfl, rfl⟩
            go_wp2_with fail
            refine (H2.out _).mono ?_
            rintro e w3 ⟨rfl, rfl⟩
            go_wp2_with fail
            refine (H3.out _).mono ?_
            rintro e w3 ⟨rfl, rfl⟩
            go_wp2_with fail
            refine (H4.out _).mono ?_
            rintro e w3 ⟨rfl, rfl⟩
            go_wp2_with fail
            go_ret
            exact ⟨rfl, HB.out⟩
          | true =>
            go_enter Tryd.func57, Tryd.ntmps57
            go_wp2_with fail
            refine (H1.out _).mono ?_
            rintro e w3 ⟨rfl, rfl⟩
            go_wp2_with fail
            refine (H2.out _).mono ?_
            rintro e w3 ⟨rfl, rfl⟩
            go_wp2_with fail
            refine (H3.out _).mono ?_
            rintro e w3 ⟨rfl, rfl⟩
            go_wp2_with fail
            refine (H4.out _).mono ?_
            rintro e w3 ⟨rfl, rfl⟩
            go_wp2_with fail
            go_ret
            exact ⟨rfl, HB.out⟩
/-- A zone as a value. -/
def zonC (o : Int) (A : Option Addr) (lr cr : Nat) : Value := .agg #[.int .i64 o, .slice A lr cr]
def ZCh (o : Int) (lr : Nat) (g : Nat → Nat → Int) (k : Nat) (F : Bool) : Prop := F = true ↔ (-50400 ≤ o ∧ o ≤ 50400 ∧ lr ≤ 20 ∧ ∀ i, i < k → rulOk g i)
theorem zch_step {o : Int} {lr : Nat} {g : Nat → Nat → Int} {k : Nat} {F G : Bool} (h : ZCh o lr g k F) (hG : G = true ↔ (F = true ∧ rulOk g k)) : ZCh o lr g (k + 1) G := by
  unfold ZCh at *
  rw [hG, h]
  constructor
  · rintro ⟨⟨h1, h2, h3, h4⟩, h5⟩
    refine ⟨h1, h2, h3, fun i hi => ?_⟩
    by_cases e : i = k
    · rw [e]; exact h5
    · exact h4 i (by omega)
  · rintro ⟨h1, h2, h3, h4⟩
    exact ⟨⟨h1, h2, h3, fun i hi => h4 i (by omega)⟩, h4 k (by omega)⟩
theorem zch_end {o : Int} {lr : Nat} {g : Nat → Nat → Int} {F : Bool} (h : ZCh o lr g lr F) : (F = true → zonE o lr g = 0) ∧ (F = false → zonE o lr g = 70) :=
  ⟨fun e => if_pos (h.1 e), fun e => if_neg (fun hh => by have := h.2 hh; rw [e] at this; cases this)⟩
theorem meas_z (lb q : Nat) (h : q + 1 ≤ lb) : lb - (intOf (Value.int .i64 ((q : Int) + 1))).toNat < lb - (intOf (Value.int .i64 (q : Int))).toNat := by
  show lb - ((q : Int) + 1).toNat < lb - (q : Int).toNat
  omega
set_option maxRecDepth 100000 in
set_option maxHeartbeats 16000000 in
theorem zCheck_calls (o : Int) (A : Option Addr) (lr cr : Nat) (g : Nat → Nat → Int) (w : World) (hR : RdZ w A lr cr g) :
    Calls Tryd.prog 31 #[zonC o A lr cr] w fun e w' => e = .returned (.int .i64 (zonE o lr g)) ∧ Below w.heap.size w w' := by
  obtain ⟨b0, hb0⟩ : ∃ b0, w.heap.size = b0 := ⟨_, rfl⟩
  have Hb0 := Lib.hid hb0
  have hrow := World.alloc_heap_new w (.cells #[.int .i64 o, .slice A lr cr] 43)
  have hB1 := bstep w (.cells #[.int .i64 o, .slice A lr cr] 43)
  have hs1 : (w.alloc (.cells #[.int .i64 o, .slice A lr cr] 43)).heap.size = b0 + 1 := by simp [hb0]
  rw [hb0] at hrow hB1
  have HR := Lib.hid hR
  have hla := hR.1
  have hca := hR.2.1
  have hmx : maxLen = 9223372036854775807 := rfl
  have Hlen := Lib.hid (show lr ≤ 9223372036854775807 by omega)
  obtain ⟨N0, hN0⟩ : ∃ B, (decide ((-50400 : Int) ≤ o) && decide (o ≤ 50400)) = B := ⟨_, rfl⟩
  have HI0 := zin_calls o (-50400) 50400
  rw [hN0] at HI0
  replace HI0 := Lib.hid HI0
  obtain ⟨F0, hF0⟩ : ∃ F : Bool, (N0 && decide ((lr : Int) ≤ 20)) = F := ⟨_, rfl⟩
  have hC0 : ZCh o lr g 0 F0 := by
    unfold ZCh; rw [← hF0, ← hN0, Bool.and_eq_true, Bool.and_eq_true, decide_eq_true_eq, decide_eq_true_eq, decide_eq_true_eq]
    constructor
    · rintro ⟨h1, h2⟩; exact ⟨h1.1, h1.2, by omega, fun i hi => absurd hi (by omega)⟩
    · rintro ⟨h1, h2, h3, _⟩; exact ⟨⟨h1, h2⟩, by omega⟩
  unfold zonC
  have HC0 := Lib.hid hC0
  clear hR hla hca hmx hN0 hC0
  have HF0 := Lib.hid hF0
  clear hF0
  go_enter Tryd.func31, Tryd.ntmps31
  go_upto_region 1 with fail
  go_cut [3] from 6 to 14 (fun s3 wx => s3 = .bool F0 ∧ wx = w.alloc (.cells #[.int .i64 o, .slice A lr cr] 43))
  case first =>
    cases N0 with
    | false =>
      go_wp2_with fail
      refine (HI0.out _).mono ?_
      rintro e w3 ⟨rfl, rfl⟩
      go_wp2_with fail
      go_meet
      exact ⟨by rw [← HF0.out]; rfl, rfl⟩
    | true =>
      obtain ⟨L, hL⟩ : ∃ L, decide ((lr : Int) ≤ 20) = L := ⟨_, rfl⟩
      have HF1 := Lib.hid (show L = F0 by rw [← HF0.out, hL]; rfl)
      clear HF0
      cases L
      all_goals
        go_wp2_with fail
        refine (HI0.out _).mono ?_
        rintro e w3 ⟨rfl, rfl⟩
        go_wp2_with fail
        go_meet
        exact ⟨by rw [← HF1.out], rfl⟩
  case rest =>
    obtain ⟨rfl, rfl⟩ := hcut
    clear HF0
    go_wp2_with fail
    go_loopw [3, 18] (fun f i wr => ∃ (k : Nat) (F : Bool), k ≤ lr ∧ i = .int .i64 k ∧ f = .bool F ∧ ZCh o lr g k F ∧ Below b0 w wr ∧ b0 + 1 ≤ wr.heap.size) (fun _ i _ => lr - (intOf i).toNat)
    case atStart => exact ⟨0, F0, by omega, rfl, rfl, HC0.out, hB1, by rw [hs1]; exact Nat.le_refl _⟩
    case round =>
      obtain ⟨k, F, hk, rfl, rfl, hC, hB, hs⟩ := hrel
      clear hrow hB1 hs1 HC0
      by_cases hlt : k < lr
      · have hI : (k : Int) < lr := by omega
        obtain ⟨sb, off, rfl, hsb, hc⟩ := HR.out.at_ (by omega) hlt
        have hsb0 : sb < b0 := by have := Hb0.out; omega
        have hc' : ∀ j, j < 11 → wr.cell? ⟨sb, off + k * 11 + j, none⟩ = some (.int .i64 (g k j)) := fun j hj => (hB.cell (p := ⟨sb, off + k * 11 + j, none⟩) hsb0).trans (hc j hj)
        have c0 : wr.cell? ⟨sb, off + k * 11, none⟩ = some (.int .i64 (g k 0)) := hc' 0 (by omega)
        have c1 := hc' 1 (by omega)
        have c2 := hc' 2 (by omega)
        have c3 := hc' 3 (by omega)
        have c4 := hc' 4 (by omega)
        have c5 := hc' 5 (by omega)
        have c6 := hc' 6 (by omega)
        have c7 := hc' 7 (by omega)
        have c8 := hc' 8 (by omega)
        have c9 := hc' 9 (by omega)
        have c10 := hc' 10 (by omega)
        obtain ⟨W1, hW1⟩ : ∃ W1, wr.alloc (.cells #[.int .i64 (g k 0), .int .i64 (g k 1), .int .i64 (g k 2), .int .i64 (g k 3), .int .i64 (g k 4), .int .i64 (g k 5), .int .i64 (g k 6), .int .i64 (g k 7), .int .i64 (g k 8), .int .i64 (g k 9), .int .i64 (g k 10)] 134) = W1 := ⟨_, rfl⟩
        have hst : Below wr.heap.size wr W1 := hW1 ▸ bstep wr _
        have hrS : W1.heap[wr.heap.size]? = some (.cells #[.int .i64 (g k 0), .int .i64 (g k 1), .int .i64 (g k 2), .int .i64 (g k 3), .int .i64 (g k 4), .int .i64 (g k 5), .int .i64 (g k 6), .int .i64 (g k 7), .int .i64 (g k 8), .int .i64 (g k 9), .int .i64 (g k 10)] 134 (0, 0)) := hW1 ▸ World.alloc_heap_new wr _
        have hB1 : Below b0 w W1 := hB.trans (hst.mono (by omega))
        have hs1' : b0 + 1 ≤ W1.heap.size := Nat.le_trans hs hst.size
        have w1 : IntKind.i64.wrap ((k : Int) + 1) = (k : Int) + 1 := i64_same _ (by have := Hlen.out; omega)
        have X1 := Lib.hid (wrap64_in ((k : Int) + 1) (by have := Hlen.out; omega))
        have Hk := Lib.hid (show k + 1 ≤ lr from hlt)
        have HRnd := Lib.hid (show ∀ (G : Bool) (W' : World), (G = true ↔ (F = true ∧ rulOk g k)) → Below W1.heap.size W1 W' → ZCh o lr g (k + 1) G ∧ Below b0 w W' ∧ b0 + 1 ≤ W'.heap.size from
          fun G W' hG hbx => ⟨zch_step hC hG, hB1.trans (hbx.mono (by omega)), Nat.le_trans hs1' hbx.size⟩)
        clear hc hc' hC hB hs hk hlt hst hB1 hs1'
        go_upto_region 5 with fail
        try rw [hW1]
        clear hW1
        clear c0
        clear c1
        clear c2
        clear c3
        clear c4
        clear c5
        clear c6
        clear c7
        clear c8
        clear c9
        clear c10
        have d0 := cell_of_row W1 wr.heap.size 0 _ _ _ hrS
        have d1 := cell_of_row W1 wr.heap.size 1 _ _ _ hrS
        have d2 := cell_of_row W1 wr.heap.size 2 _ _ _ hrS
        have d3 := cell_of_row W1 wr.heap.size 3 _ _ _ hrS
        have d4 := cell_of_row W1 wr.heap.size 4 _ _ _ hrS
        have d5 := cell_of_row W1 wr.heap.size 5 _ _ _ hrS
        have d6 := cell_of_row W1 wr.heap.size 6 _ _ _ hrS
        have d7 := cell_of_row W1 wr.heap.size 7 _ _ _ hrS
        have d8 := cell_of_row W1 wr.heap.size 8 _ _ _ hrS
        have d9 := cell_of_row W1 wr.heap.size 9 _ _ _ hrS
        have d10 := cell_of_row W1 wr.heap.size 10 _ _ _ hrS
        cases F with
        | false =>
          have x1 := X1.out
          go_wp2_with fail
          clear x1
          obtain ⟨z1, z2, z3⟩ := HRnd.out false _ (by simp) (Below.refl _ _)
          exact ⟨⟨k + 1, false, Hk.out, by push_cast; rfl, rfl, z1, z2, z3⟩, meas_z lr k Hk.out⟩
        | true =>
          by_cases hx : 1970 ≤ g k 0
          · have k1 : decide (g k 0 ≥ 1970) = true := decide_eq_true hx
            have q1 := Lib.hid hx
            clear hx
            by_cases hx : g k 0 ≤ g k 1
            · have k2 : decide (g k 0 ≤ g k 1) = true := decide_eq_true hx
              have q2 := Lib.hid hx
              clear hx
              by_cases hx : g k 1 ≤ 9999
              · have k3 : decide (g k 1 ≤ 9999) = true := decide_eq_true hx
                have q3 := Lib.hid hx
                clear hx
                obtain ⟨N1, hN1⟩ : ∃ N, (decide (1 ≤ g k 10) && decide (g k 10 ≤ 7200)) = N := ⟨_, rfl⟩
                have HI := zin_calls (g k 10) 1 7200
                rw [hN1] at HI
                replace HI := Lib.hid HI
                have hz : N1 = true ↔ 1 ≤ g k 10 ∧ g k 10 ≤ 7200 := by rw [← hN1, Bool.and_eq_true, decide_eq_true_eq, decide_eq_true_eq]
                clear hN1
                cases N1 with
                | false =>
                  have hx : ¬ (1 ≤ g k 10 ∧ g k 10 ≤ 7200) := fun h => Bool.noConfusion (hz.2 h)
                  clear hz
                  have HNo := Lib.hid (show ¬ rulOk g k from fun h => hx (by exact ⟨h.2.2.2.1, h.2.2.2.2.1⟩))
                  clear hx
                  have x1 := X1.out
                  go_wp2_with fail
                  refine (HI.out _).mono ?_
                  rintro e w3 ⟨rfl, rfl⟩
                  go_wp2_with fail
                  clear x1
                  obtain ⟨z1, z2, z3⟩ := HRnd.out false _ (by simp [HNo.out]) (Below.refl _ _)
                  exact ⟨⟨k + 1, false, Hk.out, by push_cast; rfl, rfl, z1, z2, z3⟩, meas_z lr k Hk.out⟩
                | true =>
                  have q4 := Lib.hid (hz.1 rfl)
                  clear hz
                  have HM := zmay_calls (g k 2) (g k 3) (g k 4) (g k 5)
                  have HN := zmay_calls (g k 6) (g k 7) (g k 8) (g k 9)
                  unfold chgC at HM HN
                  by_cases hx : chgOk (g k 2) (g k 3) (g k 4) (g k 5)
                  · rw [decide_eq_true hx] at HM
                    replace HM := Lib.hid HM
                    have q5 := Lib.hid hx
                    clear hx
                    by_cases hx : chgOk (g k 6) (g k 7) (g k 8) (g k 9)
                    · rw [decide_eq_true hx] at HN
                      replace HN := Lib.hid HN
                      have Hyes := Lib.hid (show rulOk g k from ⟨q1.out, q2.out, q3.out, q4.out.1, q4.out.2, q5.out, hx⟩)
                      clear hx q1 q2 q3 q4 q5
                      have x1 := X1.out
                      go_wp2_with fail
                      refine (HI.out _).mono ?_
                      rintro e w3 ⟨rfl, rfl⟩
                      go_wp2_with fail
                      refine (HM.out _).mono ?_
                      rintro e w4 ⟨rfl, hb4⟩
                      have f6 := cell_of_row w4 wr.heap.size 6 _ _ _ (blk_below hrS hb4)
                      have f7 := cell_of_row w4 wr.heap.size 7 _ _ _ (blk_below hrS hb4)
                      have f8 := cell_of_row w4 wr.heap.size 8 _ _ _ (blk_below hrS hb4)
                      have f9 := cell_of_row w4 wr.heap.size 9 _ _ _ (blk_below hrS hb4)
                      go_wp2_with fail
                      refine (HN.out _).mono ?_
                      rintro e w5 ⟨rfl, hb5⟩
                      replace hb5 := bnext hb4 hb5
                      go_wp2_with fail
                      clear x1
                      obtain ⟨z1, z2, z3⟩ := HRnd.out true _ (by simp [Hyes.out]) (hb5)
                      exact ⟨⟨k + 1, true, Hk.out, by push_cast; rfl, rfl, z1, z2, z3⟩, meas_z lr k Hk.out⟩
                    · rw [decide_eq_false hx] at HN
                      replace HN := Lib.hid HN
                      have HNo := Lib.hid (show ¬ rulOk g k from fun h => hx (by exact h.2.2.2.2.2.2))
                      clear hx
                      have x1 := X1.out
                      go_wp2_with fail
                      refine (HI.out _).mono ?_
                      rintro e w3 ⟨rfl, rfl⟩
                      go_wp2_with fail
                      refine (HM.out _).mono ?_
                      rintro e w4 ⟨rfl, hb4⟩
                      have f6 := cell_of_row w4 wr.heap.size 6 _ _ _ (blk_below hrS hb4)
                      have f7 := cell_of_row w4 wr.heap.size 7 _ _ _ (blk_below hrS hb4)
                      have f8 := cell_of_row w4 wr.heap.size 8 _ _ _ (blk_below hrS hb4)
                      have f9 := cell_of_row w4 wr.heap.size 9 _ _ _ (blk_below hrS hb4)
                      go_wp2_with fail
                      refine (HN.out _).mono ?_
                      rintro e w5 ⟨rfl, hb5⟩
                      replace hb5 := bnext hb4 hb5
                      go_wp2_with fail
                      clear x1
                      obtain ⟨z1, z2, z3⟩ := HRnd.out false _ (by simp [HNo.out]) (hb5)
                      exact ⟨⟨k + 1, false, Hk.out, by push_cast; rfl, rfl, z1, z2, z3⟩, meas_z lr k Hk.out⟩
                  · rw [decide_eq_false hx] at HM
                    replace HM := Lib.hid HM
                    clear HN
                    have HNo := Lib.hid (show ¬ rulOk g k from fun h => hx (by exact h.2.2.2.2.2.1))
                    clear hx
                    have x1 := X1.out
                    go_wp2_with fail
                    refine (HI.out _).mono ?_
                    rintro e w3 ⟨rfl, rfl⟩
                    go_wp2_with fail
                    refine (HM.out _).mono ?_
                    rintro e w4 ⟨rfl, hb4⟩
                    have f6 := cell_of_row w4 wr.heap.size 6 _ _ _ (blk_below hrS hb4)
                    have f7 := cell_of_row w4 wr.heap.size 7 _ _ _ (blk_below hrS hb4)
                    have f8 := cell_of_row w4 wr.heap.size 8 _ _ _ (blk_below hrS hb4)
                    have f9 := cell_of_row w4 wr.heap.size 9 _ _ _ (blk_below hrS hb4)
                    go_wp2_with fail
                    clear x1
                    obtain ⟨z1, z2, z3⟩ := HRnd.out false _ (by simp [HNo.out]) (hb4)
                    exact ⟨⟨k + 1, false, Hk.out, by push_cast; rfl, rfl, z1, z2, z3⟩, meas_z lr k Hk.out⟩
              · have k3 : decide (g k 1 ≤ 9999) = false := decide_eq_false hx
                have HNo := Lib.hid (show ¬ rulOk g k from fun h => hx (by exact h.2.2.1))
                clear hx
                have x1 := X1.out
                go_wp2_with fail
                clear x1
                obtain ⟨z1, z2, z3⟩ := HRnd.out false _ (by simp [HNo.out]) (Below.refl _ _)
                exact ⟨⟨k + 1, false, Hk.out, by push_cast; rfl, rfl, z1, z2, z3⟩, meas_z lr k Hk.out⟩
            · have k2 : decide (g k 0 ≤ g k 1) = false := decide_eq_false hx
              have HNo := Lib.hid (show ¬ rulOk g k from fun h => hx (by exact h.2.1))
              clear hx
              have x1 := X1.out
              go_wp2_with fail
              clear x1
              obtain ⟨z1, z2, z3⟩ := HRnd.out false _ (by simp [HNo.out]) (Below.refl _ _)
              exact ⟨⟨k + 1, false, Hk.out, by push_cast; rfl, rfl, z1, z2, z3⟩, meas_z lr k Hk.out⟩
          · have k1 : decide (g k 0 ≥ 1970) = false := decide_eq_false hx
            have HNo := Lib.hid (show ¬ rulOk g k from fun h => hx (by exact h.1))
            clear hx
            have x1 := X1.out
            go_wp2_with fail
            clear x1
            obtain ⟨z1, z2, z3⟩ := HRnd.out false _ (by simp [HNo.out]) (Below.refl _ _)
            exact ⟨⟨k + 1, false, Hk.out, by push_cast; rfl, rfl, z1, z2, z3⟩, meas_z lr k Hk.out⟩
      · obtain rfl : k = lr := by omega
        have hI : ¬ ((k : Int) < k) := by omega
        have Hfin := Lib.hid (zch_end hC)
        have HBq := Lib.hid hB
        clear hC hk hlt hB hs
        cases F with
        | true =>
          go_wp2_with fail
          go_ret
          rw [Hfin.out.1 (by first | exact rfl | exact trivial)]
          exact ⟨rfl, by first | exact HBq.out | (rw [Hb0.out]; exact HBq.out)⟩
        | false =>
          go_wp2_with fail
          go_ret
          rw [Hfin.out.2 (by first | exact rfl | exact trivial)]
          exact ⟨rfl, by first | exact HBq.out | (rw [Hb0.out]; exact HBq.out)⟩
end Go.Proofs.YtgbkedjjgbhcmaaDoor

/-
  Versions of prices: rates.may and its closure, slices.IndexFunc and ContainsFunc at it, rates.goes, walked. Conditions stand at each theorem.
-/
namespace Go.Proofs.YtgbkedjjgbhcmaaDoor
open Go Go.RowKit Go.Kw Go.Kw.Cv Go.Shelf
set_option linter.unusedVariables false
set_option linter.unusedSimpArgs false

set_option maxRecDepth 100000 in
set_option maxHeartbeats 8000000 in
theorem may1_calls (p : Int) (w : World) : Calls Tryd.prog 77 #[.int .i64 p] w fun e w' => e = .returned (.bool (prNo p)) ∧ Below w.heap.size w w' := by
  have hst := Below.refl w.heap.size w
  obtain ⟨a, ha⟩ : ∃ a, decide (p < 0) = a := ⟨_, rfl⟩
  obtain ⟨b, hb⟩ : ∃ b, decide (p > 1073741824) = b := ⟨_, rfl⟩
  unfold prNo
  rw [ha, hb]
  cases a <;> cases b
  all_goals
    go_enter Tryd.func77, Tryd.ntmps77
    go_wp2_with fail
    go_ret
    exact ⟨rfl, hst⟩

set_option maxRecDepth 100000 in
set_option maxHeartbeats 8000000 in
theorem idxPr_calls (A : Option Addr) (n c : Nat) (p : Nat → Int) (w : World) (hR : IRows 1 kI w A n c (fun j _ => p j)) :
    Calls Tryd.prog 86 #[.slice A n c, .func (.func 77) #[] #[]] w fun e w' => e = .returned (.int .i64 (idxI (fun k => prNo (p k)) n)) ∧ Below w.heap.size w w' := by
  obtain ⟨b0, hb0⟩ : ∃ b0, w.heap.size = b0 := ⟨_, rfl⟩
  have Hb0 := Lib.hid hb0
  have HR := Lib.hid hR
  have hla := hR.1
  have hca := hR.2.1
  have hmx : maxLen = 9223372036854775807 := rfl
  have Hlen := Lib.hid (show n ≤ 9223372036854775807 by omega)
  obtain ⟨P, hP⟩ : ∃ P : Nat → Bool, (fun k => prNo (p k)) = P := ⟨_, rfl⟩
  have HPd := Lib.hid hP
  have hB0 := Below.refl b0 w
  rw [hP]
  clear hR hla hca hmx hP
  go_enter Tryd.func86, Tryd.ntmps86
  go_wp2_with fail
  go_loopw [5, 8] (fun s5 i wr => ∃ k : Nat, k ≤ n ∧ i = .int .i64 k ∧ (∀ j, j < k → P j = false) ∧ Below b0 w wr) (fun _ i _ => n - (intOf i).toNat)
  case atStart => exact ⟨0, by omega, rfl, fun j hj => absurd hj (by omega), hB0⟩
  case round =>
    obtain ⟨k, hk, rfl, hA, hB⟩ := hrel
    clear hB0
    by_cases hlt : k < n
    · have hI : (k : Int) < n := by omega
      obtain ⟨sb, off, rfl, hsb, q0⟩ := prices_at (x := (A, n, c)) HR.out hlt
      have hc := trivial
      have hsb0 : sb < b0 := by have := Hb0.out; omega
      have c0 : wr.cell? ⟨sb, off + k, none⟩ = some (.int .i64 (p k)) := (hB.cell (p := ⟨sb, off + k, none⟩) hsb0).trans q0
      have HO := may1_calls (p k) wr
      obtain ⟨V, hV⟩ : ∃ V, (fun k => prNo (p k)) k = V := ⟨_, rfl⟩
      have hV2 : P k = V := by rw [← HPd.out]; exact hV
      dsimp only at hV
      rw [hV] at HO
      replace HO := Lib.hid HO
      have HV := Lib.hid hV2
      have w1 : IntKind.i64.wrap ((k : Int) + 1) = (k : Int) + 1 := i64_same _ (by have := Hlen.out; omega)
      have X1 := Lib.hid (wrap64_in ((k : Int) + 1) (by have := Hlen.out; omega))
      have Hk := Lib.hid (show k + 1 ≤ n from hlt)
      have Hlt := Lib.hid hlt
      have HA := Lib.hid hA
      have HB := Lib.hid hB
      clear hc q0 hA hB hk hlt hV hV2
      cases V with
      | true =>
        go_wp2_with fail
        refine HO.out.mono ?_
        rintro e w4 ⟨rfl, hb4⟩
        go_wp2_with fail
        go_ret
        have hF : fstI P n = k := fstI_unique P n k (by have := Hlt.out; omega) (fun _ => HV.out) HA.out
        have hlt := Hlt.out
        have hv : idxI P n = (k : Int) := by unfold idxI; rw [hF, if_pos hlt]
        rw [hv]
        have hZ := HB.out.trans (hb4.mono (Hb0.out ▸ HB.out.size))
        exact ⟨rfl, by first | exact hZ | (rw [Hb0.out]; exact hZ)⟩
      | false =>
        have x1 := X1.out
        go_wp2_with fail
        refine HO.out.mono ?_
        rintro e w4 ⟨rfl, hb4⟩
        go_wp2_with fail
        clear x1
        exact ⟨⟨k + 1, Hk.out, by push_cast; rfl, fst_step HV.out HA.out, HB.out.trans (hb4.mono (Hb0.out ▸ HB.out.size))⟩, meas_z n k Hk.out⟩
    · obtain rfl : k = n := by omega
      have hI : ¬ ((k : Int) < k) := by omega
      have HBq := Lib.hid hB
      have hF : fstI P k = k := fstI_unique P k k (Nat.le_refl _) (fun h => absurd h (Nat.lt_irrefl _)) hA
      have hv : idxI P k = -1 := by unfold idxI; rw [hF, if_neg (Nat.lt_irrefl _)]
      have Hv := Lib.hid hv
      clear hA hk hlt hB hF hv
      go_wp2_with fail
      go_ret
      rw [Hv.out]
      exact ⟨rfl, by first | exact HBq.out | (rw [Hb0.out]; exact HBq.out)⟩

set_option maxRecDepth 100000 in
set_option maxHeartbeats 8000000 in
theorem containsPr_calls (A : Option Addr) (n c : Nat) (p : Nat → Int) (w : World) (hR : IRows 1 kI w A n c (fun j _ => p j)) :
    Calls Tryd.prog 76 #[.slice A n c, .func (.func 77) #[] #[]] w fun e w' => e = .returned (.bool (anyI (fun k => prNo (p k)) n)) ∧ Below w.heap.size w w' := by
  have HI := idxPr_calls A n c p w hR
  obtain ⟨I, hI⟩ : ∃ I, idxI (fun k => prNo (p k)) n = I := ⟨_, rfl⟩
  obtain ⟨B, hB⟩ : ∃ B, anyI (fun k => prNo (p k)) n = B := ⟨_, rfl⟩
  have hIB : decide (I ≥ 0) = B := by rw [← hI, ← hB]; exact idxI_any _ _
  rw [hI] at HI
  rw [hB]
  replace HI := Lib.hid HI
  clear hI hB hR
  go_enter Tryd.func76, Tryd.ntmps76
  go_wp2_with fail
  refine HI.out.mono ?_
  rintro e w2 ⟨rfl, hb⟩
  go_wp2_with fail
  go_ret
  exact ⟨rfl, hb⟩

set_option maxRecDepth 100000 in
set_option maxHeartbeats 8000000 in
theorem rMay_calls (f : Int) (A : Option Addr) (n c : Nat) (p : Nat → Int) (w : World) (hR : IRows 1 kI w A n c (fun j _ => p j)) :
    Calls Tryd.prog 63 #[.agg #[.int .i64 f, .slice A n c]] w fun e w' => e = .returned (.bool (decide (ver1 f n p))) ∧ Below w.heap.size w w' := by
  obtain ⟨b0, hb0⟩ : ∃ b0, w.heap.size = b0 := ⟨_, rfl⟩
  have Hb0 := Lib.hid hb0
  obtain ⟨W1, hW1⟩ : ∃ W1, w.alloc (.cells #[.int .i64 f, .slice A n c] 58) = W1 := ⟨_, rfl⟩
  have hst : Below w.heap.size w W1 := hW1 ▸ bstep w _
  have hr : W1.heap[b0]? = some (.cells #[.int .i64 f, .slice A n c] 58 (0, 0)) := by rw [← hb0, ← hW1]; exact World.alloc_heap_new w _
  have d0 := cell_of_row W1 b0 0 _ _ _ hr
  have d1 := cell_of_row W1 b0 1 _ _ _ hr
  have HC := Lib.hid (containsPr_calls A n c p W1 (hR.go hst))
  have HB := Lib.hid hst
  obtain ⟨V, hV⟩ : ∃ V, decide (ver1 f n p) = V := ⟨_, rfl⟩
  have HV : Hid (ver1 f n p ↔ V = true) := by show _ ↔ _; rw [← hV, decide_eq_true_eq]
  rw [hV]
  clear hst hr hV hR
  by_cases h0 : 0 ≤ f
  case neg =>
    have z0 : decide (f ≥ 0) = false := decide_eq_false (by omega)
    have HVV := Lib.hid (show V = false from Bool.eq_false_iff.2 (fun q => by have q9 := (HV.out.2 q).1; omega))
    clear HV HC h0
    go_enter Tryd.func63, Tryd.ntmps63
    go_wp2_with fail
    try go_quiet (fail)
    try go_wp2_with fail
    go_ret
    rw [HVV.out]
    exact ⟨rfl, by first | exact HB.out | exact HB.out.drewN _ | (rw [Hb0.out]; exact HB.out) | (rw [Hb0.out]; exact HB.out.drewN _) | (rw [← Hb0.out]; exact HB.out) | (rw [← Hb0.out]; exact HB.out.drewN _)⟩
  have z0 : decide (f ≥ 0) = true := decide_eq_true (by omega)
  by_cases h1 : f < 253402300800
  case neg =>
    have z1 : decide (f < 253402300800) = false := decide_eq_false (by omega)
    have HVV := Lib.hid (show V = false from Bool.eq_false_iff.2 (fun q => by have q9 := (HV.out.2 q).1; omega))
    clear HV HC h0 h1
    go_enter Tryd.func63, Tryd.ntmps63
    go_wp2_with fail
    try go_quiet (fail)
    try go_wp2_with fail
    go_ret
    rw [HVV.out]
    exact ⟨rfl, by first | exact HB.out | exact HB.out.drewN _ | (rw [Hb0.out]; exact HB.out) | (rw [Hb0.out]; exact HB.out.drewN _) | (rw [← Hb0.out]; exact HB.out) | (rw [← Hb0.out]; exact HB.out.drewN _)⟩
  have z1 : decide (f < 253402300800) = true := decide_eq_true (by omega)
  by_cases h2 : 1 ≤ n
  case neg =>
    have z2 : decide ((n : Int) ≥ 1) = false := decide_eq_false (by omega)
    have HVV := Lib.hid (show V = false from Bool.eq_false_iff.2 (fun q => by have q9 := (HV.out.2 q).1; omega))
    clear HV HC h0 h1 h2
    go_enter Tryd.func63, Tryd.ntmps63
    go_wp2_with fail
    try go_quiet (fail)
    try go_wp2_with fail
    go_ret
    rw [HVV.out]
    exact ⟨rfl, by first | exact HB.out | exact HB.out.drewN _ | (rw [Hb0.out]; exact HB.out) | (rw [Hb0.out]; exact HB.out.drewN _) | (rw [← Hb0.out]; exact HB.out) | (rw [← Hb0.out]; exact HB.out.drewN _)⟩
  have z2 : decide ((n : Int) ≥ 1) = true := decide_eq_true (by omega)
  by_cases h3 : n ≤ 16
  case neg =>
    have z3 : decide ((n : Int) ≤ 16) = false := decide_eq_false (by omega)
    have HVV := Lib.hid (show V = false from Bool.eq_false_iff.2 (fun q => by have q9 := (HV.out.2 q).1; omega))
    clear HV HC h0 h1 h2 h3
    go_enter Tryd.func63, Tryd.ntmps63
    go_wp2_with fail
    try go_quiet (fail)
    try go_wp2_with fail
    go_ret
    rw [HVV.out]
    exact ⟨rfl, by first | exact HB.out | exact HB.out.drewN _ | (rw [Hb0.out]; exact HB.out) | (rw [Hb0.out]; exact HB.out.drewN _) | (rw [← Hb0.out]; exact HB.out) | (rw [← Hb0.out]; exact HB.out.drewN _)⟩
  have z3 : decide ((n : Int) ≤ 16) = true := decide_eq_true (by omega)
  obtain ⟨Q, hQ⟩ : ∃ Q, anyI (fun k => prNo (p k)) n = Q := ⟨_, rfl⟩
  have HVV := Lib.hid (show V = !Q by
    cases Q with
    | true =>
      refine Bool.eq_false_iff.2 (fun q => ?_)
      have q9 := (prs_ok n p).2 (HV.out.2 q).2
      rw [hQ] at q9; cases q9
    | false => exact HV.out.1 ⟨⟨h0, h1, h2, h3⟩, (prs_ok n p).1 hQ⟩)
  rw [hQ] at HC
  clear HV hQ h0 h1 h2 h3
  go_enter Tryd.func63, Tryd.ntmps63
  go_wp2_with fail
  refine HC.out.mono ?_
  rintro e w2 ⟨rfl, hb2⟩
  have HB2 := Lib.hid (bnext HB.out hb2)
  clear hb2
  go_wp2_with fail
  go_ret
  rw [HVV.out]
  exact ⟨rfl, by first | exact HB2.out | exact HB2.out.drewN _ | (rw [Hb0.out]; exact HB2.out) | (rw [Hb0.out]; exact HB2.out.drewN _) | (rw [← Hb0.out]; exact HB2.out) | (rw [← Hb0.out]; exact HB2.out.drewN _)⟩
set_option maxRecDepth 100000 in
set_option maxHeartbeats 8000000 in
theorem goes_calls (f f2 : Int) (A B : Option Addr) (n c m d : Nat) (w : World) :
    Calls Tryd.prog 64 #[.agg #[.int .i64 f, .slice A n c], .agg #[.int .i64 f2, .slice B m d]] w fun e w' => e = .returned (.bool (decide (f2 < f ∧ n = m))) ∧ Below w.heap.size w w' := by
  obtain ⟨b0, hb0⟩ : ∃ b0, w.heap.size = b0 := ⟨_, rfl⟩
  have Hb0 := Lib.hid hb0
  obtain ⟨W1, hW1⟩ : ∃ W1, w.alloc (.cells #[.int .i64 f, .slice A n c] 58) = W1 := ⟨_, rfl⟩
  have hst1 : Below w.heap.size w W1 := hW1 ▸ bstep w _
  have hr1 : W1.heap[b0]? = some (.cells #[.int .i64 f, .slice A n c] 58 (0, 0)) := by rw [← hb0, ← hW1]; exact World.alloc_heap_new w _
  have hs1 : W1.heap.size = b0 + 1 := by rw [← hW1, ← hb0]; simp
  obtain ⟨W2, hW2⟩ : ∃ W2, W1.alloc (.cells #[.int .i64 f2, .slice B m d] 58) = W2 := ⟨_, rfl⟩
  have hst2 : Below W1.heap.size W1 W2 := hW2 ▸ bstep W1 _
  have hr2 : W2.heap[b0 + 1]? = some (.cells #[.int .i64 f2, .slice B m d] 58 (0, 0)) := by rw [← hs1, ← hW2]; exact World.alloc_heap_new W1 _
  have hr1' := blk_below hr1 hst2
  have d0 := cell_of_row W2 b0 0 _ _ _ hr1'
  have d1 := cell_of_row W2 b0 1 _ _ _ hr1'
  have e0 := cell_of_row W2 (b0 + 1) 0 _ _ _ hr2
  have e1 := cell_of_row W2 (b0 + 1) 1 _ _ _ hr2
  have HB := Lib.hid (bnext hst1 hst2)
  obtain ⟨V, hV⟩ : ∃ V, decide (f2 < f ∧ n = m) = V := ⟨_, rfl⟩
  have HV : Hid ((f2 < f ∧ n = m) ↔ V = true) := by show _ ↔ _; rw [← hV, decide_eq_true_eq]
  rw [hV]
  clear hst1 hst2 hr1 hr2 hr1' hV
  by_cases h0 : f2 < f
  · have z0 : decide (f > f2) = true := decide_eq_true h0
    by_cases h1 : n = m
    · have z1 : ((n : Int) == (m : Int)) = true := beq_iff_eq.2 (by omega)
      have HVV := Lib.hid (show V = true from HV.out.1 ⟨h0, h1⟩)
      clear HV h0 h1
      go_enter Tryd.func64, Tryd.ntmps64
      go_wp2_with fail
      go_ret
      rw [HVV.out]
      exact ⟨rfl, by first | exact HB.out | exact HB.out.drewN _ | (rw [Hb0.out]; exact HB.out) | (rw [Hb0.out]; exact HB.out.drewN _) | (rw [← Hb0.out]; exact HB.out) | (rw [← Hb0.out]; exact HB.out.drewN _)⟩
    · have z1 : ((n : Int) == (m : Int)) = false := beq_eq_false_iff_ne.2 (by omega)
      have HVV := Lib.hid (show V = false from Bool.eq_false_iff.2 (fun q => h1 (HV.out.2 q).2))
      clear HV h0 h1
      go_enter Tryd.func64, Tryd.ntmps64
      go_wp2_with fail
      go_ret
      rw [HVV.out]
      exact ⟨rfl, by first | exact HB.out | exact HB.out.drewN _ | (rw [Hb0.out]; exact HB.out) | (rw [Hb0.out]; exact HB.out.drewN _) | (rw [← Hb0.out]; exact HB.out) | (rw [← Hb0.out]; exact HB.out.drewN _)⟩
  · have z0 : decide (f > f2) = false := decide_eq_false h0
    have HVV := Lib.hid (show V = false from Bool.eq_false_iff.2 (fun q => h0 (HV.out.2 q).1))
    clear HV h0
    go_enter Tryd.func64, Tryd.ntmps64
    go_wp2_with fail
    go_ret
    rw [HVV.out]
    exact ⟨rfl, by first | exact HB.out | exact HB.out.drewN _ | (rw [Hb0.out]; exact HB.out) | (rw [Hb0.out]; exact HB.out.drewN _) | (rw [← Hb0.out]; exact HB.out) | (rw [← Hb0.out]; exact HB.out.drewN _)⟩
end Go.Proofs.YtgbkedjjgbhcmaaDoor

/-
  Whether a table of prices may be: rates.Check, walked. Conditions stand at each theorem.
-/
namespace Go.Proofs.YtgbkedjjgbhcmaaDoor
open Go Go.RowKit Go.Kw Go.Kw.Cv Go.Shelf
set_option linter.unusedVariables false
set_option linter.unusedSimpArgs false

theorem cell_go {W W' : World} {a : Addr} {v : Value} (h : W.cell? a = some v) (hb : Below W.heap.size W W') : W'.cell? a = some v := (hb.cell (p := a) (block_lt h)).trans h
theorem rat_step {P : Nat → Prop} {k : Nat} (h : P k) (hA : ∀ j, j < k → P j) : ∀ j, j < k + 1 → P j := fun j hj => by
  by_cases e : j = k
  · rw [e]; exact h
  · exact hA j (by omega)
/-- The sum of the findings on k versions. -/
def RatV (nv : Nat) (f : Nat → Int) (ln : Nat → Nat) (p : Nat → Nat → Int) (k : Nat) (V : Bool) : Prop := V = true ↔ nv ≤ 200 ∧ ∀ j, j < k → verOk f ln p j ∧ goB f ln j
theorem ratV_no {nv : Nat} {f : Nat → Int} {ln : Nat → Nat} {p : Nat → Nat → Int} {k : Nat} (h : RatV nv f ln p k false) : RatV nv f ln p (k + 1) false := by
  constructor
  · intro h; cases h
  · rintro ⟨h1, h2⟩; exact absurd (h.2 ⟨h1, fun j hj => h2 j (by omega)⟩) (by simp)
theorem ratV_bad {nv : Nat} {f : Nat → Int} {ln : Nat → Nat} {p : Nat → Nat → Int} {k : Nat} (h : ¬ (verOk f ln p k ∧ goB f ln k)) : RatV nv f ln p (k + 1) false := by
  constructor
  · intro h; cases h
  · rintro ⟨h1, h2⟩; exact absurd (h2 k (by omega)) h
theorem ratV_ok {nv : Nat} {f : Nat → Int} {ln : Nat → Nat} {p : Nat → Nat → Int} {k : Nat} (h : RatV nv f ln p k true) (h1 : verOk f ln p k ∧ goB f ln k) : RatV nv f ln p (k + 1) true :=
  ⟨fun _ => ⟨(h.1 rfl).1, rat_step h1 (h.1 rfl).2⟩, fun _ => rfl⟩

set_option maxRecDepth 100000 in
set_option maxHeartbeats 16000000 in
theorem ratCheck_calls (A : Option Addr) (nv cv : Nat) (f : Nat → Int) (F : Nat → SlX) (p : Nat → Nat → Int) (w : World) (hR : RdRt w A nv cv f F p) :
    Calls Tryd.prog 37 #[.slice A nv cv] w fun e w' => e = .returned (.int .i64 (ratE nv f (fun i => (F i).2.1) p)) ∧ Below w.heap.size w w' := by
  obtain ⟨b0, hb0⟩ : ∃ b0, w.heap.size = b0 := ⟨_, rfl⟩
  have Hb0 := Lib.hid hb0
  have HR := Lib.hid hR
  have hla := hR.1
  have hca := hR.2.1
  have hmx : maxLen = 9223372036854775807 := rfl
  have Hlen := Lib.hid (show nv ≤ 9223372036854775807 by omega)
  have hlen0 : nv ≤ 9223372036854775806 ∨ nv = 9223372036854775807 := by omega
  obtain ⟨ln, hln⟩ : ∃ ln : Nat → Nat, (fun i => (F i).2.1) = ln := ⟨_, rfl⟩
  have HLn := Lib.hid (show ∀ i, (F i).2.1 = ln i from fun i => by rw [← hln])
  rw [hln]
  obtain ⟨E, hE⟩ : ∃ E, ratE nv f ln p = E := ⟨_, rfl⟩
  have HE := Lib.hid hE
  rw [hE]
  obtain ⟨V0, hV0⟩ : ∃ V0, decide ((nv : Int) ≤ 200) = V0 := ⟨_, rfl⟩
  have HV0 := Lib.hid (show RatV nv f ln p 0 V0 by
    unfold RatV
    rw [← hV0, decide_eq_true_eq]
    exact ⟨fun h => ⟨by omega, fun j hj => absurd hj (by omega)⟩, fun h => by have := h.1; omega⟩)
  have hst := Below.refl b0 w
  have hbs0 : b0 ≤ w.heap.size := by omega
  clear hR hla hca hmx hln hE hlen0
  go_enter Tryd.func37, Tryd.ntmps37
  go_wp2_with fail
  clear hV0
  go_loopw [3, 11] (fun fv iv wr => ∃ k : Nat, k ≤ nv ∧ iv = .int .i64 k ∧ (∃ V, fv = .bool V ∧ RatV nv f ln p k V) ∧ Below b0 w wr ∧ b0 ≤ wr.heap.size) (fun _ iv _ => nv - (intOf iv).toNat)
  case atStart => exact ⟨0, by omega, rfl, ⟨V0, rfl, HV0.out⟩, hst, hbs0⟩
  case round =>
    obtain ⟨k, hk, rfl, ⟨V, rfl, hV⟩, hB, hbs⟩ := hrel
    clear hst hbs0
    by_cases hlt : k < nv
    · have hI : (k : Int) < nv := by omega
      have hk0 : (0 : Int) ≤ (k : Int) := by omega
      have hRw : RdRt wr A nv cv f F p := HR.out.go (by rw [Hb0.out]; exact hB)
      obtain ⟨sb, off, rfl, hsb, q0, q1⟩ := hRw.at_ hlt
      have hPk := hRw.2.2.2.2 k hlt
      have hLk := HLn.out k
      unfold slV at q1
      obtain ⟨P1, hP1⟩ : ∃ x, (F k).1 = x := ⟨_, rfl⟩
      obtain ⟨P2, hP2⟩ : ∃ x, (F k).2.1 = x := ⟨_, rfl⟩
      obtain ⟨P3, hP3⟩ : ∃ x, (F k).2.2 = x := ⟨_, rfl⟩
      rw [hP1, hP2, hP3] at q1 hPk
      rw [hP2] at hLk
      obtain ⟨fk, hfk⟩ : ∃ x, f k = x := ⟨_, rfl⟩
      rw [hfk] at q0
      have HF := Lib.hid (And.intro hfk hLk)
      obtain ⟨W1, hW1⟩ : ∃ W1, wr.alloc (.cells #[.int .i64 fk, .slice P1 P2 P3] 58) = W1 := ⟨_, rfl⟩
      obtain ⟨z, hz⟩ : ∃ z, wr.heap.size = z := ⟨_, rfl⟩
      have hst1 : Below wr.heap.size wr W1 := hW1 ▸ bstep wr _
      have hr1 : W1.heap[z]? = some (.cells #[.int .i64 fk, .slice P1 P2 P3] 58 (0, 0)) := by rw [← hz, ← hW1]; exact World.alloc_heap_new wr _
      have d0 := cell_of_row W1 z 0 _ _ _ hr1
      have d1 := cell_of_row W1 z 1 _ _ _ hr1
      have hB1 : Below b0 w W1 := hB.trans (hst1.mono hbs)
      have hbs1 : b0 ≤ W1.heap.size := Nat.le_trans hbs hst1.size
      have HB1 := Lib.hid (And.intro hB1 hbs1)
      have hR1 : RdRt W1 (some ⟨sb, off, none⟩) nv cv f F p := hRw.go hst1
      have HR1 := Lib.hid hR1
      have w1 : IntKind.i64.wrap ((k : Int) + 1) = (k : Int) + 1 := i64_same _ (by have := Hlen.out; omega)
      have X1 := Lib.hid (wrap64_in ((k : Int) + 1) (by have := Hlen.out; omega))
      have Hlt := Lib.hid hlt
      have HV := Lib.hid hV
      clear hRw hP1 hP2 hP3 hLk hfk hst1 hr1 hB1 hbs1 hR1 hlt hV hB hbs hk hsb
      cases V with
      | false =>
        clear hPk
        have x1 := X1.out
        go_wp2_with fail
        go_quiet (fail)
        go_wp2_with fail
        clear x1
        exact ⟨⟨k + 1, Hlt.out, by push_cast; rfl, ⟨false, rfl, ratV_no HV.out⟩, HB1.out.1.drewN _, HB1.out.2⟩, meas_z nv k Hlt.out⟩
      | true =>
        have hMay : ∀ W', Below W1.heap.size W1 W' → Calls Tryd.prog 63 #[.agg #[.int .i64 fk, .slice P1 P2 P3]] W' fun e w'' => e = .returned (.bool (decide (ver1 fk P2 (p k)))) ∧ Below W'.heap.size W' w'' :=
          fun W' hb => rMay_calls fk P1 P2 P3 (p k) W' ((hPk.go (by rw [← hW1]; exact bstep wr _)).go hb)
        obtain ⟨M, hM⟩ : ∃ M, decide (ver1 fk P2 (p k)) = M := ⟨_, rfl⟩
        have HM := Lib.hid (show ver1 fk P2 (p k) ↔ M = true by rw [← hM, decide_eq_true_eq])
        rw [hM] at hMay
        have HMay := Lib.hid hMay
        have HSS := Lib.hid (show ∀ W', Below W1.heap.size W1 W' → (W'.cell? ⟨z, 0, none⟩ = some (.int .i64 fk) ∧ W'.cell? ⟨z, 1, none⟩ = some (.slice P1 P2 P3)) ∧ Below W1.heap.size W1 W' from fun W' hb => ⟨⟨cell_go d0 hb, cell_go d1 hb⟩, hb⟩)
        have HbB := Lib.hid (show ∀ W', Below W1.heap.size W1 W' → Below b0 w W' ∧ b0 ≤ W'.heap.size from fun W' hb => ⟨HB1.out.1.trans (hb.mono HB1.out.2), Nat.le_trans HB1.out.2 hb.size⟩)
        clear hPk hM hMay
        cases M with
        | false =>
          have x1 := X1.out
          go_wp2_with fail
          try rw [hW1]

          refine wp_region_held_drew (S := (fun W => (W.cell? ⟨z, 0, none⟩ = some (.int .i64 fk) ∧ W.cell? ⟨z, 1, none⟩ = some (.slice P1 P2 P3)) ∧ Below W1.heap.size W1 W)) (by kernel_rfl) (HSS.out _ (Below.refl _ _).drew) (fun hHeld => ?_)
          refine wpAnyH_take (i := 0) (v := ?_) rfl (by kernel_rfl) (by kernel_rfl) (by kernel_rfl) (fun _ _ _ h => h) (Or.inl ⟨by kernel_rfl, ?_⟩) (by assumption) ?_
          rotate_left
          · intro w hSw; (try dsimp only at hSw); go_simp; try with_reducible rfl
          simp only [Act.put, List.getElem_toArray, List.getElem_cons_succ, List.getElem_cons_zero, List.setIfInBounds_toArray, List.set_cons_zero, List.set_cons_succ]
          refine wpAnyH_take (i := 1) (v := ?_) rfl (by kernel_rfl) (by kernel_rfl) (by kernel_rfl) (fun _ _ _ h => h) (Or.inl ⟨by kernel_rfl, ?_⟩) (by assumption) ?_
          rotate_left
          · intro w hSw; (try dsimp only at hSw); go_simp; try with_reducible rfl
          simp only [Act.put, List.getElem_toArray, List.getElem_cons_succ, List.getElem_cons_zero, List.setIfInBounds_toArray, List.set_cons_zero, List.set_cons_succ]
          refine wpAnyH_take (i := 2) (v := ?_) rfl (by kernel_rfl) (by kernel_rfl) (by kernel_rfl) (fun _ _ _ h => h) (Or.inl ⟨by kernel_rfl, ?_⟩) (by assumption) ?_
          rotate_left
          · intro w hSw; (try dsimp only at hSw); go_simp; try with_reducible rfl
          simp only [Act.put, List.getElem_toArray, List.getElem_cons_succ, List.getElem_cons_zero, List.setIfInBounds_toArray, List.set_cons_zero, List.set_cons_succ]
          refine wpAnyH_ready (rs := [3]) (by kernel_rfl) (by simp) ?_
          refine AllReadyH.cons rfl (fun K hK => ?_) AllReadyH.nil
          go_simp
          refine (HMay.out _ hHeld.2).mono ?_
          rintro e w4 ⟨rfl, hb4⟩
          have hb5 := bnext hHeld.2 hb4
          clear hHeld
          try go_wp2_with fail
          refine hK.out _ _ (HSS.out _ hb5) (fun hHeld => ?_)
          clear hK K
          try simp only [Act.put, List.getElem_toArray, List.getElem_cons_succ, List.getElem_cons_zero, List.setIfInBounds_toArray, List.set_cons_zero, List.set_cons_succ]
          refine wpAnyH_take (i := 4) (v := ?_) rfl (by kernel_rfl) (by kernel_rfl) (by kernel_rfl) (fun _ _ _ h => h) (Or.inl ⟨by kernel_rfl, ?_⟩) (by assumption) ?_
          rotate_left
          · intro w hSw; (try dsimp only at hSw); go_simp; try with_reducible rfl
          simp only [Act.put, List.getElem_toArray, List.getElem_cons_succ, List.getElem_cons_zero, List.setIfInBounds_toArray, List.set_cons_zero, List.set_cons_succ]
          refine wpAnyH_take (i := 5) (v := ?_) rfl (by kernel_rfl) (by kernel_rfl) (by kernel_rfl) (fun _ _ _ h => h) (Or.inl ⟨by kernel_rfl, ?_⟩) (by assumption) ?_
          rotate_left
          · intro w hSw; (try dsimp only at hSw); go_simp; try with_reducible rfl
          simp only [Act.put, List.getElem_toArray, List.getElem_cons_succ, List.getElem_cons_zero, List.setIfInBounds_toArray, List.set_cons_zero, List.set_cons_succ]
          refine wpAnyH_take (i := 6) (v := undef) rfl (by kernel_rfl) (by kernel_rfl) (by kernel_rfl) (fun _ _ _ h => h) (Or.inr ⟨by kernel_rfl, rfl⟩) (by assumption) ?_
          simp only [Act.put, List.getElem_toArray, List.getElem_cons_succ, List.getElem_cons_zero, List.setIfInBounds_toArray, List.set_cons_zero, List.set_cons_succ]
          refine wpAnyH_take (i := 7) (v := undef) rfl (by kernel_rfl) (by kernel_rfl) (by kernel_rfl) (fun _ _ _ h => h) (Or.inr ⟨by kernel_rfl, rfl⟩) (by assumption) ?_
          simp only [Act.put, List.getElem_toArray, List.getElem_cons_succ, List.getElem_cons_zero, List.setIfInBounds_toArray, List.set_cons_zero, List.set_cons_succ]
          refine wpAnyH_take (i := 8) (v := undef) rfl (by kernel_rfl) (by kernel_rfl) (by kernel_rfl) (fun _ _ _ h => h) (Or.inr ⟨by kernel_rfl, rfl⟩) (by assumption) ?_
          simp only [Act.put, List.getElem_toArray, List.getElem_cons_succ, List.getElem_cons_zero, List.setIfInBounds_toArray, List.set_cons_zero, List.set_cons_succ]
          refine wpAnyH_take (i := 9) (v := undef) rfl (by kernel_rfl) (by kernel_rfl) (by kernel_rfl) (fun _ _ _ h => h) (Or.inr ⟨by kernel_rfl, rfl⟩) (by assumption) ?_
          simp only [Act.put, List.getElem_toArray, List.getElem_cons_succ, List.getElem_cons_zero, List.setIfInBounds_toArray, List.set_cons_zero, List.set_cons_succ]
          refine wpAnyH_take (i := 10) (v := undef) rfl (by kernel_rfl) (by kernel_rfl) (by kernel_rfl) (fun _ _ _ h => h) (Or.inr ⟨by kernel_rfl, rfl⟩) (by assumption) ?_
          simp only [Act.put, List.getElem_toArray, List.getElem_cons_succ, List.getElem_cons_zero, List.setIfInBounds_toArray, List.set_cons_zero, List.set_cons_succ]
          refine wpAnyH_take (i := 11) (v := undef) rfl (by kernel_rfl) (by kernel_rfl) (by kernel_rfl) (fun _ _ _ h => h) (Or.inr ⟨by kernel_rfl, rfl⟩) (by assumption) ?_
          simp only [Act.put, List.getElem_toArray, List.getElem_cons_succ, List.getElem_cons_zero, List.setIfInBounds_toArray, List.set_cons_zero, List.set_cons_succ]
          refine wpAnyH_take (i := 12) (v := undef) rfl (by kernel_rfl) (by kernel_rfl) (by kernel_rfl) (fun _ _ _ h => h) (Or.inr ⟨by kernel_rfl, rfl⟩) (by assumption) ?_
          simp only [Act.put, List.getElem_toArray, List.getElem_cons_succ, List.getElem_cons_zero, List.setIfInBounds_toArray, List.set_cons_zero, List.set_cons_succ]
          refine wpAnyH_take (i := 13) (v := undef) rfl (by kernel_rfl) (by kernel_rfl) (by kernel_rfl) (fun _ _ _ h => h) (Or.inr ⟨by kernel_rfl, rfl⟩) (by assumption) ?_
          simp only [Act.put, List.getElem_toArray, List.getElem_cons_succ, List.getElem_cons_zero, List.setIfInBounds_toArray, List.set_cons_zero, List.set_cons_succ]
          refine wpAnyH_take (i := 14) (v := undef) rfl (by kernel_rfl) (by kernel_rfl) (by kernel_rfl) (fun _ _ _ h => h) (Or.inr ⟨by kernel_rfl, rfl⟩) (by assumption) ?_
          simp only [Act.put, List.getElem_toArray, List.getElem_cons_succ, List.getElem_cons_zero, List.setIfInBounds_toArray, List.set_cons_zero, List.set_cons_succ]
          refine wpAnyH_take (i := 15) (v := undef) rfl (by kernel_rfl) (by kernel_rfl) (by kernel_rfl) (fun _ _ _ h => h) (Or.inr ⟨by kernel_rfl, rfl⟩) (by assumption) ?_
          simp only [Act.put, List.getElem_toArray, List.getElem_cons_succ, List.getElem_cons_zero, List.setIfInBounds_toArray, List.set_cons_zero, List.set_cons_succ]
          refine wpAnyH_take (i := 16) (v := undef) rfl (by kernel_rfl) (by kernel_rfl) (by kernel_rfl) (fun _ _ _ h => h) (Or.inr ⟨by kernel_rfl, rfl⟩) (by assumption) ?_
          simp only [Act.put, List.getElem_toArray, List.getElem_cons_succ, List.getElem_cons_zero, List.setIfInBounds_toArray, List.set_cons_zero, List.set_cons_succ]
          refine wpAnyH_take (i := 17) (v := ?_) rfl (by kernel_rfl) (by kernel_rfl) (by kernel_rfl) (fun _ _ _ h => h) (Or.inl ⟨by kernel_rfl, ?_⟩) (by assumption) ?_
          rotate_left
          · intro w hSw; (try dsimp only at hSw); go_simp; try with_reducible rfl
          simp only [Act.put, List.getElem_toArray, List.getElem_cons_succ, List.getElem_cons_zero, List.setIfInBounds_toArray, List.set_cons_zero, List.set_cons_succ]
          refine wpAnyH_take (i := 18) (v := ?_) rfl (by kernel_rfl) (by kernel_rfl) (by kernel_rfl) (fun _ _ _ h => h) (Or.inl ⟨by kernel_rfl, ?_⟩) (by assumption) ?_
          rotate_left
          · intro w hSw; (try dsimp only at hSw); go_simp; try with_reducible rfl
          simp only [Act.put, List.getElem_toArray, List.getElem_cons_succ, List.getElem_cons_zero, List.setIfInBounds_toArray, List.set_cons_zero, List.set_cons_succ]
          refine wpAnyH_done (by kernel_rfl) ?_ _
          go_wp2_with fail
          clear x1
          exact ⟨⟨k + 1, Hlt.out, by push_cast; rfl, ⟨false, rfl, ratV_bad (fun h => by have h1 := HM.out.1 (by have := h.1; unfold verOk at this; rw [HF.out.1, ← HF.out.2] at this; exact this); cases h1)⟩, (HbB.out _ hb5).1, (HbB.out _ hb5).2⟩, meas_z nv k Hlt.out⟩
        | true =>
          by_cases h0 : k = 0
          · have kz : ((k : Int) == 0) = true := beq_iff_eq.2 (by omega)
            have H0 := Lib.hid h0
            clear h0
            have x1 := X1.out
            go_wp2_with fail
            try rw [hW1]

            refine wp_region_held_drew (S := (fun W => (W.cell? ⟨z, 0, none⟩ = some (.int .i64 fk) ∧ W.cell? ⟨z, 1, none⟩ = some (.slice P1 P2 P3)) ∧ Below W1.heap.size W1 W)) (by kernel_rfl) (HSS.out _ (Below.refl _ _).drew) (fun hHeld => ?_)
            refine wpAnyH_take (i := 0) (v := ?_) rfl (by kernel_rfl) (by kernel_rfl) (by kernel_rfl) (fun _ _ _ h => h) (Or.inl ⟨by kernel_rfl, ?_⟩) (by assumption) ?_
            rotate_left
            · intro w hSw; (try dsimp only at hSw); go_simp; try with_reducible rfl
            simp only [Act.put, List.getElem_toArray, List.getElem_cons_succ, List.getElem_cons_zero, List.setIfInBounds_toArray, List.set_cons_zero, List.set_cons_succ]
            refine wpAnyH_take (i := 1) (v := ?_) rfl (by kernel_rfl) (by kernel_rfl) (by kernel_rfl) (fun _ _ _ h => h) (Or.inl ⟨by kernel_rfl, ?_⟩) (by assumption) ?_
            rotate_left
            · intro w hSw; (try dsimp only at hSw); go_simp; try with_reducible rfl
            simp only [Act.put, List.getElem_toArray, List.getElem_cons_succ, List.getElem_cons_zero, List.setIfInBounds_toArray, List.set_cons_zero, List.set_cons_succ]
            refine wpAnyH_take (i := 2) (v := ?_) rfl (by kernel_rfl) (by kernel_rfl) (by kernel_rfl) (fun _ _ _ h => h) (Or.inl ⟨by kernel_rfl, ?_⟩) (by assumption) ?_
            rotate_left
            · intro w hSw; (try dsimp only at hSw); go_simp; try with_reducible rfl
            simp only [Act.put, List.getElem_toArray, List.getElem_cons_succ, List.getElem_cons_zero, List.setIfInBounds_toArray, List.set_cons_zero, List.set_cons_succ]
            refine wpAnyH_ready (rs := [3]) (by kernel_rfl) (by simp) ?_
            refine AllReadyH.cons rfl (fun K hK => ?_) AllReadyH.nil
            go_simp
            refine (HMay.out _ hHeld.2).mono ?_
            rintro e w4 ⟨rfl, hb4⟩
            have hb5 := bnext hHeld.2 hb4
            clear hHeld
            try go_wp2_with fail
            refine hK.out _ _ (HSS.out _ hb5) (fun hHeld => ?_)
            clear hK K
            try simp only [Act.put, List.getElem_toArray, List.getElem_cons_succ, List.getElem_cons_zero, List.setIfInBounds_toArray, List.set_cons_zero, List.set_cons_succ]
            refine wpAnyH_take (i := 4) (v := ?_) rfl (by kernel_rfl) (by kernel_rfl) (by kernel_rfl) (fun _ _ _ h => h) (Or.inl ⟨by kernel_rfl, ?_⟩) (by assumption) ?_
            rotate_left
            · intro w hSw; (try dsimp only at hSw); go_simp; try with_reducible rfl
            simp only [Act.put, List.getElem_toArray, List.getElem_cons_succ, List.getElem_cons_zero, List.setIfInBounds_toArray, List.set_cons_zero, List.set_cons_succ]
            refine wpAnyH_take (i := 5) (v := ?_) rfl (by kernel_rfl) (by kernel_rfl) (by kernel_rfl) (fun _ _ _ h => h) (Or.inl ⟨by kernel_rfl, ?_⟩) (by assumption) ?_
            rotate_left
            · intro w hSw; (try dsimp only at hSw); go_simp; try with_reducible rfl
            simp only [Act.put, List.getElem_toArray, List.getElem_cons_succ, List.getElem_cons_zero, List.setIfInBounds_toArray, List.set_cons_zero, List.set_cons_succ]
            refine wpAnyH_take (i := 6) (v := ?_) rfl (by kernel_rfl) (by kernel_rfl) (by kernel_rfl) (fun _ _ _ h => h) (Or.inl ⟨by kernel_rfl, ?_⟩) (by assumption) ?_
            rotate_left
            · intro w hSw; (try dsimp only at hSw); go_simp; try with_reducible rfl
            simp only [Act.put, List.getElem_toArray, List.getElem_cons_succ, List.getElem_cons_zero, List.setIfInBounds_toArray, List.set_cons_zero, List.set_cons_succ]
            refine wpAnyH_take (i := 7) (v := ?_) rfl (by kernel_rfl) (by kernel_rfl) (by kernel_rfl) (fun _ _ _ h => h) (Or.inl ⟨by kernel_rfl, ?_⟩) (by assumption) ?_
            rotate_left
            · intro w hSw; (try dsimp only at hSw); go_simp; try with_reducible rfl
            simp only [Act.put, List.getElem_toArray, List.getElem_cons_succ, List.getElem_cons_zero, List.setIfInBounds_toArray, List.set_cons_zero, List.set_cons_succ]
            refine wpAnyH_take (i := 8) (v := ?_) rfl (by kernel_rfl) (by kernel_rfl) (by kernel_rfl) (fun _ _ _ h => h) (Or.inl ⟨by kernel_rfl, ?_⟩) (by assumption) ?_
            rotate_left
            · intro w hSw; (try dsimp only at hSw); go_simp; try with_reducible rfl
            simp only [Act.put, List.getElem_toArray, List.getElem_cons_succ, List.getElem_cons_zero, List.setIfInBounds_toArray, List.set_cons_zero, List.set_cons_succ]
            refine wpAnyH_take (i := 9) (v := undef) rfl (by kernel_rfl) (by kernel_rfl) (by kernel_rfl) (fun _ _ _ h => h) (Or.inr ⟨by kernel_rfl, rfl⟩) (by assumption) ?_
            simp only [Act.put, List.getElem_toArray, List.getElem_cons_succ, List.getElem_cons_zero, List.setIfInBounds_toArray, List.set_cons_zero, List.set_cons_succ]
            refine wpAnyH_take (i := 10) (v := undef) rfl (by kernel_rfl) (by kernel_rfl) (by kernel_rfl) (fun _ _ _ h => h) (Or.inr ⟨by kernel_rfl, rfl⟩) (by assumption) ?_
            simp only [Act.put, List.getElem_toArray, List.getElem_cons_succ, List.getElem_cons_zero, List.setIfInBounds_toArray, List.set_cons_zero, List.set_cons_succ]
            refine wpAnyH_take (i := 11) (v := undef) rfl (by kernel_rfl) (by kernel_rfl) (by kernel_rfl) (fun _ _ _ h => h) (Or.inr ⟨by kernel_rfl, rfl⟩) (by assumption) ?_
            simp only [Act.put, List.getElem_toArray, List.getElem_cons_succ, List.getElem_cons_zero, List.setIfInBounds_toArray, List.set_cons_zero, List.set_cons_succ]
            refine wpAnyH_take (i := 12) (v := undef) rfl (by kernel_rfl) (by kernel_rfl) (by kernel_rfl) (fun _ _ _ h => h) (Or.inr ⟨by kernel_rfl, rfl⟩) (by assumption) ?_
            simp only [Act.put, List.getElem_toArray, List.getElem_cons_succ, List.getElem_cons_zero, List.setIfInBounds_toArray, List.set_cons_zero, List.set_cons_succ]
            refine wpAnyH_take (i := 13) (v := undef) rfl (by kernel_rfl) (by kernel_rfl) (by kernel_rfl) (fun _ _ _ h => h) (Or.inr ⟨by kernel_rfl, rfl⟩) (by assumption) ?_
            simp only [Act.put, List.getElem_toArray, List.getElem_cons_succ, List.getElem_cons_zero, List.setIfInBounds_toArray, List.set_cons_zero, List.set_cons_succ]
            refine wpAnyH_take (i := 14) (v := undef) rfl (by kernel_rfl) (by kernel_rfl) (by kernel_rfl) (fun _ _ _ h => h) (Or.inr ⟨by kernel_rfl, rfl⟩) (by assumption) ?_
            simp only [Act.put, List.getElem_toArray, List.getElem_cons_succ, List.getElem_cons_zero, List.setIfInBounds_toArray, List.set_cons_zero, List.set_cons_succ]
            refine wpAnyH_take (i := 15) (v := undef) rfl (by kernel_rfl) (by kernel_rfl) (by kernel_rfl) (fun _ _ _ h => h) (Or.inr ⟨by kernel_rfl, rfl⟩) (by assumption) ?_
            simp only [Act.put, List.getElem_toArray, List.getElem_cons_succ, List.getElem_cons_zero, List.setIfInBounds_toArray, List.set_cons_zero, List.set_cons_succ]
            refine wpAnyH_take (i := 16) (v := ?_) rfl (by kernel_rfl) (by kernel_rfl) (by kernel_rfl) (fun _ _ _ h => h) (Or.inl ⟨by kernel_rfl, ?_⟩) (by assumption) ?_
            rotate_left
            · intro w hSw; (try dsimp only at hSw); go_simp; try with_reducible rfl
            simp only [Act.put, List.getElem_toArray, List.getElem_cons_succ, List.getElem_cons_zero, List.setIfInBounds_toArray, List.set_cons_zero, List.set_cons_succ]
            refine wpAnyH_take (i := 17) (v := ?_) rfl (by kernel_rfl) (by kernel_rfl) (by kernel_rfl) (fun _ _ _ h => h) (Or.inl ⟨by kernel_rfl, ?_⟩) (by assumption) ?_
            rotate_left
            · intro w hSw; (try dsimp only at hSw); go_simp; try with_reducible rfl
            simp only [Act.put, List.getElem_toArray, List.getElem_cons_succ, List.getElem_cons_zero, List.setIfInBounds_toArray, List.set_cons_zero, List.set_cons_succ]
            refine wpAnyH_take (i := 18) (v := ?_) rfl (by kernel_rfl) (by kernel_rfl) (by kernel_rfl) (fun _ _ _ h => h) (Or.inl ⟨by kernel_rfl, ?_⟩) (by assumption) ?_
            rotate_left
            · intro w hSw; (try dsimp only at hSw); go_simp; try with_reducible rfl
            simp only [Act.put, List.getElem_toArray, List.getElem_cons_succ, List.getElem_cons_zero, List.setIfInBounds_toArray, List.set_cons_zero, List.set_cons_succ]
            refine wpAnyH_done (by kernel_rfl) ?_ _
            go_wp2_with fail
            clear x1
            exact ⟨⟨k + 1, Hlt.out, by push_cast; rfl, ⟨true, rfl, ratV_ok HV.out ⟨by unfold verOk; rw [HF.out.1, ← HF.out.2]; first | exact HM.out.2 rfl | exact HM.out.2 trivial, fun h => by have := H0.out; omega⟩⟩, (HbB.out _ hb5).1, (HbB.out _ hb5).2⟩, meas_z nv k Hlt.out⟩
          · obtain ⟨q, hq⟩ : ∃ q : Nat, k = q + 1 := ⟨k - 1, by omega⟩
            have kz : ((k : Int) == 0) = false := beq_eq_false_iff_ne.2 (by omega)
            have hqn : q < nv := by have := Hlt.out; omega
            obtain ⟨sb2, off2, e2, hsb2, r0, r1⟩ := HR1.out.at_ hqn
            injection e2 with e2
            injection e2 with e3 e4
            subst e3 e4
            have hLq := HLn.out q
            unfold slV at r1
            obtain ⟨Q1, hQ1⟩ : ∃ x, (F q).1 = x := ⟨_, rfl⟩
            obtain ⟨Q2, hQ2⟩ : ∃ x, (F q).2.1 = x := ⟨_, rfl⟩
            obtain ⟨Q3, hQ3⟩ : ∃ x, (F q).2.2 = x := ⟨_, rfl⟩
            rw [hQ1, hQ2, hQ3] at r1
            rw [hQ2] at hLq
            obtain ⟨fq, hfq⟩ : ∃ x, f q = x := ⟨_, rfl⟩
            rw [hfq] at r0
            have hw0 : IntKind.i64.wrap ((k : Int) - 1) = (q : Int) := by rw [show (k : Int) - 1 = (q : Int) by omega]; exact i64_same _ (by have := Hlen.out; omega)
            have hq0 : (0 : Int) ≤ (q : Int) := by omega
            have hq1 : (q : Int) < (nv : Int) := by omega
            have HQ := Lib.hid (And.intro hq (And.intro hfq hLq))
            obtain ⟨G, hG⟩ : ∃ G, decide (fq < fk ∧ P2 = Q2) = G := ⟨_, rfl⟩
            have HG := Lib.hid (show (fq < fk ∧ P2 = Q2) ↔ G = true by rw [← hG, decide_eq_true_eq])
            have hGo : ∀ W', Calls Tryd.prog 64 #[.agg #[.int .i64 fk, .slice P1 P2 P3], .agg #[.int .i64 fq, .slice Q1 Q2 Q3]] W' fun e w'' => e = .returned (.bool (decide (fq < fk ∧ P2 = Q2))) ∧ Below W'.heap.size W' w'' := fun W' => goes_calls fk fq P1 Q1 P2 P3 Q2 Q3 W'
            rw [hG] at hGo
            have HGo := Lib.hid hGo
            have HS4 := Lib.hid (show ∀ W', Below W1.heap.size W1 W' → W'.cell? ⟨z, 0, none⟩ = some (.int .i64 fk) ∧ W'.cell? ⟨z, 1, none⟩ = some (.slice P1 P2 P3) ∧ W'.cell? ⟨sb, off + q * 2, none⟩ = some (.int .i64 fq) ∧ W'.cell? ⟨sb, off + q * 2 + 1, none⟩ = some (.slice Q1 Q2 Q3) from fun W' hb => ⟨cell_go d0 hb, cell_go d1 hb, cell_go r0 hb, cell_go r1 hb⟩)
            have HFin := Lib.hid (show RatV nv f ln p (k + 1) G by
              have hb : goB f ln k ↔ G = true := by
                rw [← HG.out]
                unfold goB
                rw [HQ.out.1, show q + 1 - 1 = q by omega, HQ.out.2.1, ← HQ.out.2.2, ← HQ.out.1, HF.out.1, ← HF.out.2]
                exact ⟨fun h => h (by omega), fun h _ => h⟩
              cases G with
              | true => exact ratV_ok HV.out ⟨by unfold verOk; rw [HF.out.1, ← HF.out.2]; first | exact HM.out.2 rfl | exact HM.out.2 trivial, hb.2 rfl⟩
              | false => exact ratV_bad (fun h => by have := hb.1 h.2; cases this))
            clear h0 hq hqn hsb2 hLq hQ1 hQ2 hQ3 hfq hG hGo
            have x1 := X1.out
            go_wp2_with fail
            go_region_held3 (fun W => W.cell? ⟨z, 0, none⟩ = some (.int .i64 fk) ∧ W.cell? ⟨z, 1, none⟩ = some (.slice P1 P2 P3) ∧ W.cell? ⟨sb, off + q * 2, none⟩ = some (.int .i64 fq) ∧ W.cell? ⟨sb, off + q * 2 + 1, none⟩ = some (.slice Q1 Q2 Q3))
              (first | exact HS4.out _ ((Below.refl _ _).drew) | exact HS4.out _ hb5 | exact HS4.out _ hb7)
              (first
                | (go_at_call 63; refine (HMay.out _ ((Below.refl _ _).drew)).mono ?_; rintro e w4 ⟨rfl, hb4⟩; have hb5 := bnext ((Below.refl _ _).drew) hb4)
                | (go_at_call 64; refine (HGo.out _).mono ?_; rintro e w6 ⟨rfl, hb6⟩; have hb7 := bnext hb5 hb6))
            all_goals
              go_wp2_with fail
              clear x1
              exact ⟨⟨k + 1, Hlt.out, by push_cast; rfl, ⟨G, rfl, HFin.out⟩, (HbB.out _ hb7).1, (HbB.out _ hb7).2⟩, meas_z nv k Hlt.out⟩

    · obtain rfl : k = nv := by omega
      have hI : ¬ ((k : Int) < k) := by omega
      have HB := Lib.hid hB
      cases V with
      | true =>
        have Hyes := Lib.hid (show E = 0 by rw [← HE.out]; exact if_pos (hV.1 rfl))
        clear hV hB hk hlt hbs
        go_wp2_with fail
        go_ret
        rw [Hyes.out]
        exact ⟨rfl, by first | exact HB.out | (rw [Hb0.out]; exact HB.out)⟩
      | false =>
        have Hno := Lib.hid (show E = 100 by rw [← HE.out]; exact if_neg (fun h => by have := hV.2 h; cases this))
        clear hV hB hk hlt hbs
        go_wp2_with fail
        go_ret
        rw [Hno.out]
        exact ⟨rfl, by first | exact HB.out | (rw [Hb0.out]; exact HB.out)⟩

end Go.Proofs.YtgbkedjjgbhcmaaDoor
