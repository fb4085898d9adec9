/-
  Whether a calendar may be: days.Check, walked. Conditions stand at each theorem.
-/
import Derived.Test.YtgbkedjjgbhcmaaGreatDoorDays2
import Derived.Maps.Own
import Derived.Maps.OwnOps
import Derived.Maps.Views
import Derived.Deep.RegionWith
import Derived.Deep.DeepCutAuto
import Derived.Deep.CutRange
namespace Go.Proofs.YtgbkedjjgbhcmaaGreatDoor
open Go Go.RowKit Go.Kw Go.Kw.Cv Go.Shelf Go.Maps
set_option linter.unusedVariables false
set_option linter.unusedSimpArgs false

/-- The holiday i, the season i, one that was met before. -/
def holOk (g : Nat → Nat → Int) (i : Nat) : Prop := mayB (g i 0) (g i 1) (g i 2) (g i 3) (g i 4) (g i 5)
def seaOk (g : Nat → Nat → Int) (i : Nat) : Prop := 1 ≤ g i 0 ∧ g i 0 ≤ 99 ∧ okD 2001 (g i 1) (g i 2)
def seaDup (g : Nat → Nat → Int) (i : Nat) : Prop := ∃ j, j < i ∧ g j 1 = g i 1 ∧ g j 2 = g i 2
/-- May there be such a calendar? -/
def calOk (la : Nat) (gh : Nat → Nat → Int) (lb : Nat) (gs : Nat → Nat → Int) : Prop :=
  la ≤ 100 ∧ lb ≤ 12 ∧ (∀ i, i < la → holOk gh i) ∧ (∀ i, i < lb → seaOk gs i ∧ ¬ seaDup gs i)
noncomputable instance (la : Nat) (gh : Nat → Nat → Int) (lb : Nat) (gs : Nat → Nat → Int) : Decidable (calOk la gh lb gs) := Classical.propDecidable _
noncomputable def calE (la : Nat) (gh : Nat → Nat → Int) (lb : Nat) (gs : Nat → Nat → Int) : Int := if calOk la gh lb gs then 0 else 80
def kInt : Nat → IntKind := fun _ => .i64
/-- A calendar as a value, and what is read of it. -/
def calC (A : Option Addr) (la ca : Nat) (B : Option Addr) (lb cb : Nat) : Value := .agg #[.slice A la ca, .slice B lb cb]
def RdCal (w : World) (A : Option Addr) (la ca : Nat) (gh : Nat → Nat → Int) (B : Option Addr) (lb cb : Nat) (gs : Nat → Nat → Int) : Prop :=
  IRows 6 kInt w A la ca gh ∧ IRows 3 kInt w B lb cb gs
theorem RdCal.go {w w' : World} {A : Option Addr} {la ca : Nat} {gh : Nat → Nat → Int} {B : Option Addr} {lb cb : Nat} {gs : Nat → Nat → Int} (h : RdCal w A la ca gh B lb cb gs) (hb : Below w.heap.size w w') : RdCal w' A la ca gh B lb cb gs := ⟨h.1.go hb, h.2.go hb⟩
theorem lawI : Keyed Tryz.prog 3 := int_keyed Tryz.underlying3
theorem zeroI (w : World) : (zeroValue 3).run Tryz.prog w = .ok (.int .i64 0) w := by kernel_rfl
noncomputable abbrev pInt : Value → Option (DataW Unit × List MemPlace) := plainElem Tryz.prog 3
/-- What the map of beginnings says, of the first k seasons. -/
def MapSays (gs : Nat → Nat → Int) (k : Nat) (D : DataW Unit) : Prop :=
  ∀ m d, okD 2001 m d → ∃ c : Int, D.atKey (.int .i64 (100 * m + d)) (.lit (.int .i64 0)) = .lit (.int .i64 c) ∧ (c = 0 ↔ ¬ ∃ j, j < k ∧ gs j 1 = m ∧ gs j 2 = d)
theorem place_in {m d : Int} (h : okD 2001 m d) : wrap64 (wrap64 (100 * m) + d) = 100 * m + d := by
  have h1 := dim_month h
  have h2 := dim_lo 2001 m h1
  unfold okD at h
  rw [wrap64_in (100 * m) (by omega), wrap64_in _ (by omega)]
theorem place_inj {m d m' d' : Int} (h : okD 2001 m d) (h' : okD 2001 m' d') (e : 100 * m + d = 100 * m' + d') : m = m' ∧ d = d' := by
  have h1 := dim_lo 2001 m (dim_month h)
  have h2 := dim_lo 2001 m' (dim_month h')
  unfold okD at h h'
  omega
theorem mapSays_0 (gs : Nat → Nat → Int) : MapSays gs 0 (.map []) := fun m d h => ⟨0, rfl, by simp⟩
theorem mapSays_put (gs : Nat → Nat → Int) (k : Nat) (D : DataW Unit) (hD : IsMap D) (h : MapSays gs k D) (hn : 1 ≤ gs k 0) (hok : okD 2001 (gs k 1) (gs k 2)) : MapSays gs (k + 1) (D.put (.int .i64 (100 * gs k 1 + gs k 2)) (.lit (.int .i64 (gs k 0)))) := by
  intro m d hmd
  by_cases he : 100 * gs k 1 + gs k 2 = 100 * m + d
  · refine ⟨gs k 0, ?_, ?_⟩
    · rw [← he]; exact atKey_put_same hD (by trivial) _ _
    · obtain ⟨e1, e2⟩ := place_inj hok hmd he
      constructor
      · intro h0; omega
      · intro h0; exact absurd ⟨k, by omega, e1, e2⟩ h0
  · obtain ⟨c, hc, hi⟩ := h m d hmd
    refine ⟨c, ?_, ?_⟩
    · rw [atKey_put_other (fun e => he (by injection e with e1 e2; exact e2.symm))]; exact hc
    · rw [hi]
      constructor
      · rintro h0 ⟨j, hj, e1, e2⟩
        by_cases hjk : j = k
        · subst hjk; exact he (by rw [e1, e2])
        · exact h0 ⟨j, by omega, e1, e2⟩
      · rintro h0 ⟨j, hj, e1, e2⟩; exact h0 ⟨j, by omega, e1, e2⟩
/-- What stands at the head of the first loop, of the second. -/
def Chk1 (la : Nat) (gh : Nat → Nat → Int) (lb : Nat) (k : Nat) (F : Bool) : Prop := F = true ↔ (la ≤ 100 ∧ lb ≤ 12 ∧ ∀ i, i < k → holOk gh i)
def Chk2 (la : Nat) (gh : Nat → Nat → Int) (lb : Nat) (gs : Nat → Nat → Int) (k : Nat) (F : Bool) : Prop := F = true ↔ (la ≤ 100 ∧ lb ≤ 12 ∧ (∀ i, i < la → holOk gh i) ∧ (∀ i, i < k → seaOk gs i ∧ ¬ seaDup gs i))
theorem chk1_step {la : Nat} {gh : Nat → Nat → Int} {lb k : Nat} {F : Bool} (h : Chk1 la gh lb k F) (b : Bool) (hb : b = true ↔ holOk gh k) : Chk1 la gh lb (k + 1) (F && b) := by
  unfold Chk1 at *
  rw [Bool.and_eq_true, h, hb]
  constructor
  · rintro ⟨⟨h1, h2, h3⟩, h4⟩
    refine ⟨h1, h2, fun i hi => ?_⟩
    by_cases e : i = k
    · rw [e]; exact h4
    · exact h3 i (by omega)
  · rintro ⟨h1, h2, h3⟩
    exact ⟨⟨h1, h2, fun i hi => h3 i (by omega)⟩, h3 k (by omega)⟩
theorem chk2_step {la : Nat} {gh : Nat → Nat → Int} {lb : Nat} {gs : Nat → Nat → Int} {k : Nat} {F G : Bool} (h : Chk2 la gh lb gs k F) (hG : G = true ↔ (F = true ∧ seaOk gs k ∧ ¬ seaDup gs k)) : Chk2 la gh lb gs (k + 1) G := by
  unfold Chk2 at *
  rw [hG, h]
  constructor
  · rintro ⟨⟨h1, h2, h3, h4⟩, h5⟩
    refine ⟨h1, h2, h3, fun i hi => ?_⟩
    by_cases e : i = k
    · rw [e]; exact h5
    · exact h4 i (by omega)
  · rintro ⟨h1, h2, h3, h4⟩
    exact ⟨⟨h1, h2, h3, fun i hi => h4 i (by omega)⟩, h4 k (by omega)⟩
theorem meas_step (lb q : Nat) (h : q + 1 ≤ lb) : lb - (intOf (Value.int .i64 ((q : Int) + 1))).toNat < lb - (intOf (Value.int .i64 (q : Int))).toNat := by
  show lb - ((q : Int) + 1).toNat < lb - (q : Int).toNat
  omega
theorem own_map_below {P : Program} {k : TypeId} {R : Value → Option (DataW Unit × List MemPlace)} {b n : Nat} {D : DataW Unit} {w w' : World} (h : w.ownsMap P k R b n D) (hb : Below w.heap.size w w') : w'.ownsMap P k R b n D := by
  have hlt := h.lt
  obtain ⟨es, clock, hh, F, hs, hD⟩ := h
  exact ⟨es, clock, (hb.block b hlt).trans hh, F, hs, hD⟩
set_option maxRecDepth 100000 in
set_option maxHeartbeats 8000000 in
theorem daysCheck_calls (A : Option Addr) (la ca : Nat) (gh : Nat → Nat → Int) (B : Option Addr) (lb cb : Nat) (gs : Nat → Nat → Int) (w : World) (hR : RdCal w A la ca gh B lb cb gs) (hL : Lens w) :
    Calls Tryz.prog 14 #[calC A la ca B lb cb] w fun e w' => e = .returned (.int .i64 (calE la gh lb gs)) ∧ Below w.heap.size w w' := by
  obtain ⟨b0, hb0⟩ : ∃ b0, w.heap.size = b0 := ⟨_, rfl⟩
  have Hb0 := Lib.hid hb0
  have hrow := World.alloc_heap_new w (.cells #[.slice A la ca, .slice B lb cb] 28)
  have hB1 := bstep w (.cells #[.slice A la ca, .slice B lb cb] 28)
  have hs1 : (w.alloc (.cells #[.slice A la ca, .slice B lb cb] 28)).heap.size = b0 + 1 := by simp [hb0]
  have hL1 := hL.alloc (.cells #[.slice A la ca, .slice B lb cb] 28)
  rw [hb0] at hrow hB1
  have HR := Lib.hid hR
  have hla := hR.1.1
  have hca := hR.1.2.1
  have hlb := hR.2.1
  have hcb := hR.2.2.1
  have hmx : maxLen = 9223372036854775807 := rfl
  have Hlen := Lib.hid (show la ≤ 9223372036854775807 ∧ lb ≤ 9223372036854775807 by omega)
  have hmm := @run_makeMap Tryz.prog
  obtain ⟨F0, hF0⟩ : ∃ F : Bool, (decide ((la : Int) ≤ 100) && decide ((lb : Int) ≤ 12)) = F := ⟨_, rfl⟩
  have hC0 : Chk1 la gh lb 0 F0 := by
    unfold Chk1; rw [← hF0, Bool.and_eq_true, decide_eq_true_eq, decide_eq_true_eq]
    constructor
    · rintro ⟨h1, h2⟩; exact ⟨by omega, by omega, fun i hi => absurd hi (by omega)⟩
    · rintro ⟨h1, h2, _⟩; exact ⟨by omega, by omega⟩
  unfold calC
  clear hR hL hla hca hlb hcb hmx
  go_enter Tryz.func14, Tryz.ntmps14
  go_upto_region 1 with fail
  go_cut [3] from 9 (fun s3 wx => s3 = .bool F0 ∧ wx = w.alloc (.cells #[.slice A la ca, .slice B lb cb] 28))
  case first =>
    go_wp2_with fail
    all_goals (go_meet; exact ⟨by rw [← hF0]; by_cases h1 : (la : Int) ≤ 100 <;> first | (exfalso; omega) | simp [h1], rfl⟩)
  case rest =>
    obtain ⟨rfl, rfl⟩ := hcut
    clear hF0
    go_wp2_with fail
    go_loopw [3, 22] (fun f i wr => ∃ (k : Nat) (F : Bool), k ≤ la ∧ i = .int .i64 k ∧ f = .bool F ∧ Chk1 la gh lb k F ∧ Below b0 w wr ∧ b0 + 1 ≤ wr.heap.size ∧ wr.heap[b0]? = some (.cells #[.slice A la ca, .slice B lb cb] 28 (0, 0)) ∧ Lens wr) (fun _ i _ => la - (intOf i).toNat)
    case atStart => exact ⟨0, F0, by omega, rfl, rfl, hC0, hB1, by rw [hs1]; exact Nat.le_refl _, hrow, hL1⟩
    case round =>
      obtain ⟨k, F, hk, rfl, rfl, hC, hB, hs, hr, hLw⟩ := hrel
      by_cases hlt : k < la
      · have hI : (k : Int) < la := by omega
        obtain ⟨sb, off, rfl, hsb, hc⟩ := HR.out.1.at_ (by omega) hlt
        have hsb0 : sb < b0 := by have := Hb0.out; omega
        have hc' : ∀ j, j < 6 → wr.cell? ⟨sb, off + k * 6 + j, none⟩ = some (.int .i64 (gh k j)) := fun j hj => (hB.cell (p := ⟨sb, off + k * 6 + j, none⟩) hsb0).trans (hc j hj)
        have c0 : wr.cell? ⟨sb, off + k * 6, none⟩ = some (.int .i64 (gh k 0)) := hc' 0 (by omega)
        have c1 := hc' 1 (by omega)
        have c2 := hc' 2 (by omega)
        have c3 := hc' 3 (by omega)
        have c4 := hc' 4 (by omega)
        have c5 := hc' 5 (by omega)
        have w1 : IntKind.i64.wrap ((k : Int) + 1) = (k : Int) + 1 := i64_same _ (by have := Hlen.out; omega)
        have X1 := Lib.hid (wrap64_in ((k : Int) + 1) (by have := Hlen.out; omega))
        have hL2 := hLw.alloc (.cells #[.int .i64 (gh k 0), .int .i64 (gh k 1), .int .i64 (gh k 2), .int .i64 (gh k 3), .int .i64 (gh k 4), .int .i64 (gh k 5)] 93)
        have hM := mayBe_calls (gh k 0) (gh k 1) (gh k 2) (gh k 3) (gh k 4) (gh k 5) _ hL2
        obtain ⟨b, hb⟩ : ∃ b, decide (mayB (gh k 0) (gh k 1) (gh k 2) (gh k 3) (gh k 4) (gh k 5)) = b := ⟨_, rfl⟩
        rw [hb] at hM
        have hN := chk1_step hC b (by rw [← hb, decide_eq_true_eq]; rfl)
        have hst := bstep wr (.cells #[.int .i64 (gh k 0), .int .i64 (gh k 1), .int .i64 (gh k 2), .int .i64 (gh k 3), .int .i64 (gh k 4), .int .i64 (gh k 5)] 93)
        have HM := Lib.hid hM
        have Hk := Lib.hid (show k + 1 ≤ la from hlt)
        clear hc hc' hM hb
        cases F with
        | true =>
          rw [Bool.true_and] at hN
          have HN := Lib.hid hN
          clear hN hC hk hlt
          have x1 := X1.out
          go_wp2_with fail
          refine HM.out.mono ?_
          rintro e w2 ⟨rfl, hb2⟩
          have hbb := bnext hst hb2
          go_wp2_with fail
          refine ⟨⟨k + 1, b, Hk.out, by push_cast; rfl, rfl, HN.out, hB.trans (hbb.mono (by omega)), Nat.le_trans hs hbb.size, blk_below hr hbb, hLw.go hbb⟩, by simp [intOf]; have := Hk.out; omega⟩
        | false =>
          rw [Bool.false_and] at hN
          have HN := Lib.hid hN
          clear hN hC hk hlt
          have x1 := X1.out
          go_wp2_with fail
          refine ⟨⟨k + 1, false, Hk.out, by push_cast; rfl, rfl, HN.out, hB.trans (hst.mono (by omega)), Nat.le_trans hs hst.size, blk_below hr hst, hLw.go hst⟩, by simp [intOf]; have := Hk.out; omega⟩
      · obtain rfl : k = la := by omega
        have hC2 : Chk2 k gh lb gs 0 F := by
          unfold Chk1 at hC; unfold Chk2
          rw [hC]
          exact ⟨fun h => ⟨h.1, h.2.1, h.2.2, fun i hi => absurd hi (by omega)⟩, fun h => ⟨h.1, h.2.1, h.2.2.1⟩⟩
        obtain ⟨mb, hmb⟩ : ∃ mb, wr.heap.size = mb := ⟨_, rfl⟩
        have Hmb := Lib.hid hmb
        have hom : (wr.alloc (.map #[] 0)).ownsMap Tryz.prog 3 pInt mb 0 (.map []) := hmb ▸ World.ownsMap_made wr _ _ _
        have hst := bstep wr (.map #[] 0)
        have hr2 := blk_below hr hst
        have hL2 := hLw.go hst
        have hB2 := hB.trans (hst.mono (by omega))
        have hs2 : mb + 1 ≤ (wr.alloc (.map #[] 0)).heap.size := by simp [hmb]
        have Hmb0 := Lib.hid (show b0 + 1 ≤ mb by omega)
        have e1 := cell_of_row _ b0 1 _ _ _ hr2
        clear hC hk hlt hst hr hLw hB hs hC0
        go_wp2_with fail
        clear e1
        go_loopw [3, 36] (fun f i wq => ∃ (q : Nat) (G : Bool) (D : DataW Unit), q ≤ lb ∧ i = .int .i64 q ∧ f = .bool G ∧ Chk2 k gh lb gs q G ∧ Below b0 w wq ∧ mb + 1 ≤ wq.heap.size ∧ Lens wq ∧
          wq.ownsMap Tryz.prog 3 pInt mb q D ∧ IsMap D ∧ (G = true → MapSays gs q D)) (fun _ i _ => lb - (intOf i).toNat)
        case atStart => exact ⟨0, F, _, by omega, rfl, rfl, hC2, hB2, hs2, hL2, hom, ⟨_, rfl⟩, fun _ => mapSays_0 gs⟩
        case round =>
          obtain ⟨q, G, D, hq, rfl, rfl, hG, hBq, hsq, hLq, hoq, hD, hMs⟩ := hrel
          by_cases hlt : q < lb
          · have hI : (q : Int) < lb := by omega
            obtain ⟨sb, off, rfl, hsb, hc⟩ := HR.out.2.at_ (by omega) hlt
            have hsb0 : sb < b0 := by have := Hb0.out; omega
            have hwf := HR.out.2.2.2.2.2 q 0 hlt (by omega)
            have hc' : ∀ j, j < 3 → wr.cell? ⟨sb, off + q * 3 + j, none⟩ = some (.int .i64 (gs q j)) := fun j hj => (hBq.cell (p := ⟨sb, off + q * 3 + j, none⟩) hsb0).trans (hc j hj)
            have c0 : wr.cell? ⟨sb, off + q * 3, none⟩ = some (.int .i64 (gs q 0)) := hc' 0 (by omega)
            have c1 := hc' 1 (by omega)
            have c2 := hc' 2 (by omega)
            obtain ⟨W1, hW1⟩ : ∃ W1, wr.alloc (.cells #[.int .i64 (gs q 0), .int .i64 (gs q 1), .int .i64 (gs q 2)] 97) = W1 := ⟨_, rfl⟩
            have hst : Below wr.heap.size wr W1 := hW1 ▸ bstep wr _
            have hrS : W1.heap[wr.heap.size]? = some (.cells #[.int .i64 (gs q 0), .int .i64 (gs q 1), .int .i64 (gs q 2)] 97 (0, 0)) := hW1 ▸ World.alloc_heap_new wr _
            have hB1 : Below b0 w W1 := hBq.trans (hst.mono (by have := Hmb0.out; omega))
            have hs1' : mb + 1 ≤ W1.heap.size := Nat.le_trans hsq hst.size
            have hL1' : Lens W1 := hLq.go hst
            have ho1 : W1.ownsMap Tryz.prog 3 pInt mb q D := hW1 ▸ hoq.alloc _
            have w1 : IntKind.i64.wrap ((q : Int) + 1) = (q : Int) + 1 := i64_same _ (by have := Hlen.out; omega)
            have X1 := Lib.hid (wrap64_in ((q : Int) + 1) (by have := Hlen.out; omega))
            have Hq := Lib.hid (show q + 1 ≤ lb from hlt)
            have HG := Lib.hid hG
            have hmbW : mb < W1.heap.size := by omega
            clear hc hc' hG hBq hsq hLq hoq hq hlt hst
            go_upto_region 11 with fail
            try rw [hW1]
            clear hW1
            go_cut [3] from 40 to 71 (fun s3 wx => ∃ G' : Bool, s3 = .bool G' ∧ (G' = true ↔ (G = true ∧ seaOk gs q ∧ ¬ seaDup gs q)) ∧ Below W1.heap.size W1 wx)
            case first =>
              have d0 := cell_of_row W1 wr.heap.size 0 _ _ _ hrS
              have d1 := cell_of_row W1 wr.heap.size 1 _ _ _ hrS
              have d2 := cell_of_row W1 wr.heap.size 2 _ _ _ hrS
              cases G with
              | false =>
                go_wp2_with fail
                go_meet
                exact ⟨false, rfl, by simp, Below.refl _ _⟩
              | true =>
                obtain ⟨N1, hN1⟩ : ∃ N, (decide (1 ≤ gs q 0) && decide (gs q 0 ≤ 99)) = N := ⟨_, rfl⟩
                have H1 := in_calls (gs q 0) 1 99
                rw [hN1] at H1
                replace H1 := Lib.hid H1
                cases N1 with
                | false =>
                  have hno : ¬ seaOk gs q := fun h => by
                    have : (decide (1 ≤ gs q 0) && decide (gs q 0 ≤ 99)) = true := by rw [Bool.and_eq_true, decide_eq_true_eq, decide_eq_true_eq]; exact ⟨h.1, h.2.1⟩
                    rw [hN1] at this; cases this
                  have HNo := Lib.hid hno
                  clear hN1 hno
                  go_wp2_with fail
                  refine (H1.out _).mono ?_
                  rintro e w3 ⟨rfl, rfl⟩
                  go_wp2_with fail
                  go_meet
                  exact ⟨false, rfl, by simp [HNo.out], Below.refl _ _⟩
                | true =>
                  have hn1 : 1 ≤ gs q 0 ∧ gs q 0 ≤ 99 := by
                    rw [Bool.and_eq_true, decide_eq_true_eq, decide_eq_true_eq] at hN1; exact hN1
                  have Hn1 := Lib.hid hn1
                  have HI := is_calls 2001 (gs q 1) (gs q 2) W1 hL1'
                  by_cases hok : okD 2001 (gs q 1) (gs q 2)
                  · rw [decide_eq_true hok] at HI
                    replace HI := Lib.hid HI
                    have Hok := Lib.hid hok
                    have HP := place_calls (gs q 1) (gs q 2)
                    rw [place_in hok] at HP
                    replace HP := Lib.hid HP
                    obtain ⟨c, hc, hci⟩ := hMs rfl (gs q 1) (gs q 2) hok
                    have Hc := Lib.hid hc
                    have Hci := Lib.hid hci
                    clear hN1 hn1 hok hMs hc hci
                    go_wp2_with fail
                    refine (H1.out _).mono ?_
                    rintro e w3 ⟨rfl, rfl⟩
                    go_wp2_with fail
                    refine HI.out.mono ?_
                    rintro e w4 ⟨rfl, hb4⟩
                    have e1 := cell_of_row w4 wr.heap.size 1 _ _ _ (blk_below hrS hb4)
                    have e2 := cell_of_row w4 wr.heap.size 2 _ _ _ (blk_below hrS hb4)
                    have ho4 := own_map_below ho1 hb4
                    go_wp2_with fail
                    refine (HP.out _).mono ?_
                    rintro e w5 ⟨rfl, rfl⟩
                    have hkw : (Lit.int .i64 (100 * gs q 1 + gs q 2)).wf = true := by rw [← place_in Hok.out]; exact wrap64_wf _
                    obtain ⟨c', hrun, hat, -⟩ := ho4.lookup_int lawI Tryz.underlying95 Tryz.underlying3 (zeroI _) (keyOf_int_mk Tryz.underlying3 hkw)
                    rw [Hc.out] at hat
                    have hcc : c = c' := by injection hat with h1; injection h1
                    subst hcc
                    clear hat hkw ho4 hmm
                    by_cases hc0 : c = 0
                    · have Hdup := Lib.hid (show ¬ seaDup gs q from Hci.out.1 hc0)
                      have kc : (c == 0) = true := beq_iff_eq.2 hc0
                      clear hc0
                      go_wp2_with fail
                      go_meet
                      exact ⟨true, rfl, by simp only [true_iff]; exact ⟨trivial, ⟨Hn1.out.1, Hn1.out.2, Hok.out⟩, Hdup.out⟩, hb4⟩
                    · have Hdup := Lib.hid (show seaDup gs q from Classical.not_not.1 (fun h => hc0 (Hci.out.2 h)))
                      have kc : (c == 0) = false := beq_eq_false_iff_ne.2 hc0
                      clear hc0
                      go_wp2_with fail
                      go_meet
                      exact ⟨false, rfl, by simp [Hdup.out], hb4⟩
                  · rw [decide_eq_false hok] at HI
                    replace HI := Lib.hid HI
                    have HNo := Lib.hid (show ¬ seaOk gs q from fun h => hok h.2.2)
                    clear hN1 hn1 hok
                    go_wp2_with fail
                    refine (H1.out _).mono ?_
                    rintro e w3 ⟨rfl, rfl⟩
                    go_wp2_with fail
                    refine HI.out.mono ?_
                    rintro e w4 ⟨rfl, hb4⟩
                    go_wp2_with fail
                    go_meet
                    exact ⟨false, rfl, by simp [HNo.out], hb4⟩
            case rest =>
              obtain ⟨G', rfl, hG', hbx⟩ := hcut
              have hrx := blk_below hrS hbx
              have d0 := cell_of_row wc wr.heap.size 0 _ _ _ hrx
              have d1 := cell_of_row wc wr.heap.size 1 _ _ _ hrx
              have d2 := cell_of_row wc wr.heap.size 2 _ _ _ hrx
              have hox := own_map_below ho1 hbx
              obtain ⟨wu, hupd, hou, hgu⟩ := World.ownsMap.update (w := wc.drew) hox.drew lawI Tryz.underlying95 (by have := Hlen.out; have := Hq.out; unfold maxLen; omega) (keyOf_int_mk Tryz.underlying3 (wrap64_wf (wrap64 (100 * gs q 1) + gs q 2))) (plainElem_int Tryz.underlying3 hwf)
              have HP := Lib.hid (place_calls (gs q 1) (gs q 2))
              have hN := chk2_step HG.out hG'
              have hsz : wc.heap.size ≤ wu.heap.size := hgu.size
              have hDu : IsMap (D.put (.int .i64 (wrap64 (wrap64 (100 * gs q 1) + gs q 2))) (.lit (.int .i64 (gs q 0)))) := hD.put _ _
              have hMu : G' = true → MapSays gs (q + 1) (D.put (.int .i64 (wrap64 (wrap64 (100 * gs q 1) + gs q 2))) (.lit (.int .i64 (gs q 0)))) := fun h => by
                obtain ⟨h1, h2, -⟩ := hG'.1 h
                rw [place_in h2.2.2]
                exact mapSays_put gs q D hD (hMs h1) h2.1 h2.2.2
              have hm0 := Hmb0.out
              have hxs := hbx.size
              have hBc : Below b0 w wc.drew := (hB1.trans (hbx.mono (by omega))).drew
              have hBu : Below b0 w wu := hBc.grown hgu (by show b0 ≤ wc.heap.size; omega) (fun j e => by injection e with e; omega)
              have hLu : Lens wu := by
                have hLc : Lens wc := hL1'.go hbx
                refine Lens.own mb wc.drew wu (some mb) hLc hgu (fun r e => ?_)
                injection e with e
                subst e
                obtain ⟨es, clock, hh, -, -, -⟩ := hox
                exact ⟨Nat.le_refl _, _, hh, rfl⟩
              have HE := Lib.hid (show Chk2 k gh lb gs (q + 1) G' ∧ Below b0 w wu ∧ mb + 1 ≤ wu.heap.size ∧ Lens wu ∧ wu.ownsMap Tryz.prog 3 pInt mb (q + 1) (D.put (.int .i64 (wrap64 (wrap64 (100 * gs q 1) + gs q 2))) (.lit (.int .i64 (gs q 0)))) ∧ IsMap (D.put (.int .i64 (wrap64 (wrap64 (100 * gs q 1) + gs q 2))) (.lit (.int .i64 (gs q 0)))) ∧ (G' = true → MapSays gs (q + 1) (D.put (.int .i64 (wrap64 (wrap64 (100 * gs q 1) + gs q 2))) (.lit (.int .i64 (gs q 0))))) from
                ⟨hN, hBu, by have := hbx.size; omega, hLu, hou, hDu, hMu⟩)
              clear hN hsz hDu hMu hBu hLu hou hgu hox hmm hG' hMs HG hm0 hxs hBc
              have x1 := X1.out
              go_wp2_with fail
              go_region_with (go_at_call 43; refine (HP.out _).mono ?_; rintro e w3 ⟨rfl, rfl⟩)
              all_goals
                go_wp2_with fail
                clear x1
                have Hq2 := Hq.out
                exact ⟨⟨q + 1, G', (D.put (.int .i64 (wrap64 (wrap64 (100 * gs q 1) + gs q 2))) (.lit (.int .i64 (gs q 0)))), Hq.out, by push_cast; rfl, rfl, HE.out.1, HE.out.2.1, HE.out.2.2.1, HE.out.2.2.2.1, HE.out.2.2.2.2.1, HE.out.2.2.2.2.2.1, HE.out.2.2.2.2.2.2⟩, meas_step lb q Hq2⟩
          · obtain rfl : q = lb := by omega
            have hI : ¬ ((q : Int) < q) := by omega
            have hfin : (G = true → calE k gh q gs = 0) ∧ (G = false → calE k gh q gs = 80) := by
              unfold Chk2 at hG
              constructor
              · intro h; exact if_pos (hG.1 h)
              · intro h; exact if_neg (fun hh => by have := hG.2 hh; rw [h] at this; cases this)
            have Hfin := Lib.hid hfin
            have HBq := Lib.hid hBq
            clear hG hq hlt hBq hsq hLq hoq hD hMs hfin
            cases G with
            | true =>
              go_wp2_with fail
              go_ret
              rw [Hfin.out.1 trivial]
              exact ⟨rfl, by first | exact HBq.out | (rw [Hb0.out]; exact HBq.out)⟩
            | false =>
              go_wp2_with fail
              go_ret
              rw [Hfin.out.2 trivial]
              exact ⟨rfl, by first | exact HBq.out | (rw [Hb0.out]; exact HBq.out)⟩
end Go.Proofs.YtgbkedjjgbhcmaaGreatDoor
