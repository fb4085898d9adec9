/-
  The iterator of a calendar's holidays about a year: days.feasts, walked. Conditions stand at each theorem.
-/
import Derived.Test.YtgbkedjjgbhcmaaGreatDoorOn
import Derived.Test.YtgbkedjjgbhcmaaGreatDoorRangeT
import Derived.Shelf.Abstract
import Derived.OwnWalkIn
import Derived.TacticsInMore
import Derived.LoopNIn
import Derived.LoopIn
import Derived.Outline
namespace Go.Proofs.YtgbkedjjgbhcmaaGreatDoor
open Go Go.RowKit Go.Kw Go.Kw.Cv Go.Shelf
attribute [local go_sem] Oper.semAt_some
set_option linter.unusedVariables false
set_option linter.unusedSimpArgs false

theorem keepsB {W W' : World} (h : Below W.heap.size W W') : KeepsOthers W W' := ⟨h.size, fun k o hk _ => (h.block k (Array.getElem?_eq_some_iff.1 hk).1).trans hk⟩
/-- Holidays' cells in blocks below B. -/
def RdH (W : World) (B : Nat) (A : Option Addr) (la : Nat) (g : Nat → Nat → Int) : Prop := Rd W B A (la * 6) (fun i => .int (kInt (i % 6)) (g (i / 6) (i % 6)))
theorem RdH.at_ {W : World} {B : Nat} {A : Option Addr} {la : Nat} {g : Nat → Nat → Int} (h : RdH W B A la g) {r : Nat} (hr : r < la) :
    ∃ b off, A = some ⟨b, off, none⟩ ∧ b < B ∧ ∀ j, j < 6 → W.cell? ⟨b, off + r * 6 + j, none⟩ = some (.int .i64 (g r j)) := by
  rcases h with h0 | ⟨b, off, e, hb, hc⟩
  · omega
  · refine ⟨b, off, e, hb, fun j hj => ?_⟩
    have := hc (r * 6 + j) (by omega)
    rw [← Nat.add_assoc] at this
    rw [this]
    show some (Value.int .i64 (g ((r * 6 + j) / 6) ((r * 6 + j) % 6))) = _
    rw [show (r * 6 + j) / 6 = r by omega, show (r * 6 + j) % 6 = j by omega]
/-- What the iterator holds of memory: the calendar's box, the year's, the holidays, the table. -/
def HoldF (cB yB B : Nat) (A : Option Addr) (la ca : Nat) (gh : Nat → Nat → Int) (C : Value) (y : Int) (W : World) : Prop :=
  W.heap[cB]? = some (.cells #[.slice A la ca, C] 28 (0, 0)) ∧ Boxed W yB 3 (.int .i64 y) ∧ RdH W B A la gh ∧ B ≤ W.heap.size ∧ Lens W
theorem HoldF.go {cB yB B : Nat} {A : Option Addr} {la ca : Nat} {gh : Nat → Nat → Int} {C : Value} {y : Int} {W W' : World} (h : HoldF cB yB B A la ca gh C y W) (hb : Below W.heap.size W W') : HoldF cB yB B A la ca gh C y W' :=
  ⟨blk_below h.1 hb, blk_below h.2.1 hb, Rd.below h.2.2.1 (hb.mono h.2.2.2.1), Nat.le_trans h.2.2.2.1 hb.size, h.2.2.2.2.go hb⟩
theorem HoldF.own {B₀ cB yB B : Nat} {A : Option Addr} {la ca : Nat} {gh : Nat → Nat → Int} {C : Value} {y : Int} : OwnW B₀ (HoldF cB yB B A la ca gh C y) := by
  refine block_ownW.and ((boxed_ownW _ _ _ _).and ((Rd.own _ _ _ _ _).and (OwnW.and ?_ (Lens.own _))))
  intro W W' row h hg hr
  exact Nat.le_trans h hg.size
theorem feasts_calls (A : Option Addr) (la ca : Nat) (C : Value) (y : Int) (w : World) :
    Calls Tryz.prog 75 #[.agg #[.slice A la ca, C], .int .i64 y] w fun e w' => e = .returned (.func (.func 87) #[] #[.pointer (some ⟨w.heap.size, 0, none⟩), .pointer (some ⟨w.heap.size + 1, 0, none⟩)]) ∧ w' = (w.alloc (.cells #[.slice A la ca, C] 28)).alloc (.cells #[.int .i64 y] 3) := by
  go_enter Tryz.func75, Tryz.ntmps75
  go_wp2
  go_ret
  exact ⟨rfl, rfl⟩
/-- The box of holiday i, at a place behind B1. -/
def holO (gh : Nat → Nat → Int) (i : Nat) : Obj := .cells #[.int .i64 (gh i 0), .int .i64 (gh i 1), .int .i64 (gh i 2), .int .i64 (gh i 3), .int .i64 (gh i 4), .int .i64 (gh i 5)] 93
def HoldG (cB yB B B1 : Nat) (A : Option Addr) (la ca : Nat) (gh : Nat → Nat → Int) (C : Value) (y : Int) (t : Nat × Nat) (W : World) : Prop :=
  HoldF cB yB B A la ca gh C y W ∧ B1 ≤ t.1 ∧ W.heap[t.1]? = some (holO gh t.2)
theorem HoldG.own {B₀ cB yB B B1 : Nat} {A : Option Addr} {la ca : Nat} {gh : Nat → Nat → Int} {C : Value} {y : Int} {t : Nat × Nat} : OwnW B₀ (HoldG cB yB B B1 A la ca gh C y t) :=
  HoldF.own.and ((OwnW.const _).and block_ownW)
set_option maxRecDepth 100000 in
set_option maxHeartbeats 8000000 in
theorem feasts_seq (cB yB B B1 : Nat) (A : Option Addr) (la ca : Nat) (gh : Nat → Nat → Int) (C : Value) (y : Int) (hy : 1970 ≤ y ∧ y ≤ 9999) (hla : la ≤ 1000000) (hall : ∀ i, i < la → holOk gh i) :
    SeqTW Tryz.prog 87 #[.pointer (some ⟨cB, 0, none⟩), .pointer (some ⟨yB, 0, none⟩)] (fun x : Int => #[.int .i64 x]) (feastL gh la y) (fun A B => Below A.heap.size A B)
      (fun W => HoldF cB yB B A la ca gh C y W ∧ B1 ≤ W.heap.size) (fun _ => HoldG cB yB B B1 A la ca gh C y) (fun _ => True) (fun _ _ => True) := by
  intro lo J Jx hJ hJx hY W ⟨hH, hB1⟩ h0
  have hF := wide_fn
  have Hall := Lib.hid hall
  have Hla := Lib.hid hla
  have Hy := Lib.hid hy
  rw [← fePos_0 gh y] at h0
  have a1 := i64_same (y - 1) (by omega)
  have a2 := i64_same (y + 1) (by omega)
  have A1 := Lib.hid (wrap64_in (y - 1) (by omega))
  have A2 := Lib.hid (wrap64_in (y + 1) (by omega))
  clear hall hla hy
  refine callsIn_of_wp Tryz.func87 rfl (hF _) ?_ rfl
  simp only [Tryz.ntmps87, List.size_toArray, List.length_cons, List.length_nil, Nat.reduceAdd, Nat.reduceSub, Array.replicate_succ, Array.replicate_zero, List.push_toArray, List.append_toArray, List.nil_append, List.cons_append]
  have e0 := cell_of_row W cB 0 _ _ _ hH.1
  gi_wp2
  clear e0
  gi_loopw [11] (fun i wr => ∃ k : Nat, k ≤ la ∧ i = .int .i64 k ∧ J (fePos gh y (3 * k)) wr ∧ HoldF cB yB B A la ca gh C y wr ∧ B1 ≤ wr.heap.size) (fun i _ => la - (intOf i).toNat)
  case atStart => exact ⟨0, Nat.zero_le _, rfl, h0, hH, hB1⟩
  case round =>
    obtain ⟨k, hk, rfl, hJk, hHk, hBk⟩ := hrel
    by_cases hlt : k < la
    · have hI : (k : Int) < la := by omega
      obtain ⟨sb, off, rfl, hsb, hc⟩ := hHk.2.2.1.at_ hlt
      have c0 : wr.cell? ⟨sb, off + k * 6, none⟩ = some (.int .i64 (gh k 0)) := hc 0 (by omega)
      have c1 := hc 1 (by omega)
      have c2 := hc 2 (by omega)
      have c3 := hc 3 (by omega)
      have c4 := hc 4 (by omega)
      have c5 := hc 5 (by omega)
      obtain ⟨wa, hwa⟩ : ∃ wa, wr.alloc (.cells #[.int .i64 (gh k 0), .int .i64 (gh k 1), .int .i64 (gh k 2), .int .i64 (gh k 3), .int .i64 (gh k 4), .int .i64 (gh k 5)] 93) = wa := ⟨_, rfl⟩
      have hst : Below wr.heap.size wr wa := hwa ▸ bstep wr _
      have hrow : wa.heap[wr.heap.size]? = some (.cells #[.int .i64 (gh k 0), .int .i64 (gh k 1), .int .i64 (gh k 2), .int .i64 (gh k 3), .int .i64 (gh k 4), .int .i64 (gh k 5)] 93 (0, 0)) := hwa ▸ World.alloc_heap_new wr _
      have hJa := hJ _ _ _ hJk hst
      have hHa := hHk.go hst
      have cy := hHk.2.1.cell
      have cya := hHa.2.1.cell
      obtain ⟨hb, hhb⟩ : ∃ hb, wr.heap.size = hb := ⟨_, rfl⟩
      rw [hhb] at hrow hBk
      have HBk := Lib.hid hBk
      have Hk := Lib.hid (show k + 1 ≤ la from hlt)
      have Hhall := Lib.hid (Hall.out k hlt)
      have x1 := A1.out
      clear hc hst hJk
      gi_wp2
      gi_loopw [6] (fun v6 wr2 => ∃ j : Nat, j ≤ 3 ∧ v6 = .int .i64 (y - 1 + j) ∧ J (fePos gh y (3 * k + j)) wr2 ∧ HoldF cB yB B (some ⟨sb, off, none⟩) la ca gh C y wr2 ∧ wr2.heap[hb]? = some (.cells #[.int .i64 (gh k 0), .int .i64 (gh k 1), .int .i64 (gh k 2), .int .i64 (gh k 3), .int .i64 (gh k 4), .int .i64 (gh k 5)] 93 (0, 0))) (fun v6 _ => (y + 2 - intOf v6).toNat)
      case atStart => exact ⟨0, by omega, by simp, hJa, hHa, hrow⟩
      case round =>
        obtain ⟨j, hj, rfl, hJj, hHj, hrj⟩ := hrel
        clear hrow hJa hHa cy cya x1
        have cyj := hHj.2.1.cell
        have hyy := Hy.out
        have x2 := A2.out
        by_cases hj3 : j < 3
        · have kl : decide (y - 1 + (j : Int) ≤ y + 1) = true := decide_eq_true (by omega)
          have q0 := cell_of_row _ hb 0 _ _ _ hrj
          have q1 := cell_of_row _ hb 1 _ _ _ hrj
          have q2 := cell_of_row _ hb 2 _ _ _ hrj
          have q3 := cell_of_row _ hb 3 _ _ _ hrj
          have q4 := cell_of_row _ hb 4 _ _ _ hrj
          have q5 := cell_of_row _ hb 5 _ _ _ hrj
          have HO := on_calls (gh k 0) (gh k 1) (gh k 2) (gh k 3) (gh k 4) (gh k 5) (y - 1 + j) Hhall.out _ hHj.2.2.2.2
          have e1 : (3 * k + j) / 3 = k := by omega
          have e2 : (3 * k + j) % 3 = j := by omega
          have hhit := fe_hit gh la y (3 * k + j) (by have := Hk.out; omega)
          have hmiss := fe_miss gh y (3 * k + j)
          rw [e1, e2] at hhit hmiss
          change _ → _ = some (onV (gh k 0) (gh k 1) (gh k 2) (gh k 3) (gh k 4) (gh k 5) (y - 1 + j)) ∧ _ at hhit
          have a3 := i64_same (y - 1 + j + 1) (by omega)
          have A3 := Lib.hid (wrap64_in (y - 1 + j + 1) (by omega))
          have HM := Lib.hid (show (y + 2 - (y - 1 + (j : Int) + 1)).toNat < (y + 2 - (y - 1 + (j : Int))).toNat by omega)
          have Hj := Lib.hid (show j + 1 ≤ 3 from hj3)
          by_cases hN : 0 ≤ onH gh k (y - 1 + j)
          · obtain ⟨hx, hpos⟩ := hhit hN
            have hN' : 0 ≤ onV (gh k 0) (gh k 1) (gh k 2) (gh k 3) (gh k 4) (gh k 5) (y - 1 + j) := hN
            obtain ⟨N, hNe⟩ : ∃ N, onV (gh k 0) (gh k 1) (gh k 2) (gh k 3) (gh k 4) (gh k 5) (y - 1 + j) = N := ⟨_, rfl⟩
            rw [hNe] at HO hx hN'
            replace HO := Lib.hid HO
            have kN : decide (N ≥ 0) = true := decide_eq_true hN'
            have Hx := Lib.hid hx
            have Hpos := Lib.hid hpos
            clear hhit hmiss hN hN' hNe e1 e2 hyy hj hj3 hx hpos
            gi_wp2
            refine (callsIn_wide.2 HO.out).mono ?_
            rintro e w2 ⟨rfl, hb2⟩
            have hJ2 := hJ _ _ _ hJj hb2
            have hH2 := hHj.go hb2
            have hr2 := blk_below hrj hb2
            obtain ⟨fn, tmps, assign, body, hy, hYR⟩ := hY _ (hb, k) N w2 Hx.out hJ2 ⟨hH2, HBk.out, hr2⟩
            clear q0 q1 q2 q3 q4 q5 cyj
            gi_wp2
            refine hYR.mono ?_
            rintro e W3 ⟨hG3, (⟨rfl, hJ3⟩ | ⟨rfl, hJx3⟩)⟩
            · have x3 := A3.out
              rw [← Hpos.out] at hJ3
              clear x2 hy
              gi_wp2
              clear x3
              go_roundw
              case rel => exact ⟨j + 1, Hj.out, by push_cast; rw [Int.add_assoc], hJ3, hG3.1, hG3.2.2⟩
              case measure => simp only [intOf]; exact HM.out
            · clear x2 hy
              gi_wp2
              refine bodyPost_ret (results_none rfl _ _ _) rfl ?_
              exact ⟨⟨_, rfl⟩, .inr ⟨_, (List.getElem?_eq_some_iff.1 Hx.out).1, hJx3, trivial⟩⟩
          · have hpos := hmiss hN
            have hN' : ¬ 0 ≤ onV (gh k 0) (gh k 1) (gh k 2) (gh k 3) (gh k 4) (gh k 5) (y - 1 + j) := hN
            obtain ⟨N, hNe⟩ : ∃ N, onV (gh k 0) (gh k 1) (gh k 2) (gh k 3) (gh k 4) (gh k 5) (y - 1 + j) = N := ⟨_, rfl⟩
            rw [hNe] at HO hN'
            replace HO := Lib.hid HO
            have kN : decide (N ≥ 0) = false := decide_eq_false hN'
            have Hpos := Lib.hid hpos
            clear hhit hmiss hN hN' hNe e1 e2 hyy hj hj3 hpos
            gi_wp2
            refine (callsIn_wide.2 HO.out).mono ?_
            rintro e w2 ⟨rfl, hb2⟩
            have hJ2 := hJ _ _ _ hJj hb2
            have hH2 := hHj.go hb2
            have hr2 := blk_below hrj hb2
            rw [← Hpos.out] at hJ2
            have x3 := A3.out
            clear q0 q1 q2 q3 q4 q5 cyj x2
            gi_wp2
            clear x3
            go_roundw
            case rel => exact ⟨j + 1, Hj.out, by push_cast; rw [Int.add_assoc], hJ2, hH2, hr2⟩
            case measure => simp only [intOf]; exact HM.out
        · obtain rfl : j = 3 := by omega
          have kl : decide (y - 1 + ((3 : Nat) : Int) ≤ y + 1) = false := decide_eq_false (by omega)
          have hlow := hHj.2.2.2.1
          have hBb := (Array.getElem?_eq_some_iff.1 hrj).1
          have a4 : IntKind.i64.wrap ((k : Int) + 1) = (k : Int) + 1 := i64_same _ (by have := Hla.out; have := Hk.out; omega)
          have A4 := Lib.hid (wrap64_in ((k : Int) + 1) (by have := Hla.out; have := Hk.out; omega))
          have HBb := Lib.hid (show B1 ≤ wr.heap.size by have := HBk.out; omega)
          clear hyy hj hj3 hlow hBb
          have x4 := A4.out
          gi_wp2
          clear x4 x2
          go_roundw
          case rel => exact ⟨k + 1, Hk.out, by push_cast; rfl, by rw [show 3 * (k + 1) = 3 * k + 3 by omega]; exact hJj, hHj, HBb.out⟩
          case measure => exact meas_step la k Hk.out
    · obtain rfl : k = la := by omega
      gi_wp2
      go_end0
      exact ⟨⟨_, rfl⟩, .inl ⟨by rw [← fePos_end]; exact hJk, trivial⟩⟩
end Go.Proofs.YtgbkedjjgbhcmaaGreatDoor
