/-
  Texts that the proof leans on, merged by program, part 11. Conditions stand at each theorem.
-/
import Derived.Test.YtgbkedjjgbhcmaaDoorTarM7
import Derived.Test.YtgbkedjjgbhcmaaDoorTarM9
import Derived.Test.YtgbkedjjgbhcmaaDoorTarM10
import Derived.Shelf.Abstract
import Derived.OwnWalkIn
import Derived.TacticsInMore
import Derived.LoopNIn
import Derived.LoopIn
import Derived.Outline
/-
  The iterator of a calendar's holidays about a year: days.feasts, walked. Conditions stand at each theorem.
-/
namespace Go.Proofs.YtgbkedjjgbhcmaaDoor
open Go Go.RowKit Go.Kw Go.Kw.Cv Go.Shelf
attribute [local go_sem] Oper.semAt_some
set_option linter.unusedVariables false
set_option linter.unusedSimpArgs false

theorem keepsB {W W' : World} (h : Below W.heap.size W W') : KeepsOthers W W' := ⟨h.size, fun k o hk _ => (h.block k (Array.getElem?_eq_some_iff.1 hk).1).trans hk⟩
/-- Holidays' cells in blocks below B. -/
def RdH (W : World) (B : Nat) (A : Option Addr) (la : Nat) (g : Nat → Nat → Int) : Prop := Rd W B A (la * 6) (fun i => .int (kInt (i % 6)) (g (i / 6) (i % 6)))
theorem RdH.at_ {W : World} {B : Nat} {A : Option Addr} {la : Nat} {g : Nat → Nat → Int} (h : RdH W B A la g) {r : Nat} (hr : r < la) :
    ∃ b off, A = some ⟨b, off, none⟩ ∧ b < B ∧ ∀ j, j < 6 → W.cell? ⟨b, off + r * 6 + j, none⟩ = some (.int .i64 (g r j)) := by
  rcases h with h0 | ⟨b, off, e, hb, hc⟩
  · omega
  · refine ⟨b, off, e, hb, fun j hj => ?_⟩
    have := hc (r * 6 + j) (by omega)
    rw [← Nat.add_assoc] at this
    rw [this]
    show some (Value.int .i64 (g ((r * 6 + j) / 6) ((r * 6 + j) % 6))) = _
    rw [show (r * 6 + j) / 6 = r by omega, show (r * 6 + j) % 6 = j by omega]
/-- What the iterator holds of memory: the calendar's box, the year's, the holidays, the table. -/
def HoldF (cB yB B : Nat) (A : Option Addr) (la ca : Nat) (gh : Nat → Nat → Int) (C : Value) (y : Int) (W : World) : Prop :=
  W.heap[cB]? = some (.cells #[.slice A la ca, C] 47 (0, 0)) ∧ Boxed W yB 3 (.int .i64 y) ∧ RdH W B A la gh ∧ B ≤ W.heap.size ∧ Lens W
theorem HoldF.go {cB yB B : Nat} {A : Option Addr} {la ca : Nat} {gh : Nat → Nat → Int} {C : Value} {y : Int} {W W' : World} (h : HoldF cB yB B A la ca gh C y W) (hb : Below W.heap.size W W') : HoldF cB yB B A la ca gh C y W' :=
  ⟨blk_below h.1 hb, blk_below h.2.1 hb, Rd.below h.2.2.1 (hb.mono h.2.2.2.1), Nat.le_trans h.2.2.2.1 hb.size, h.2.2.2.2.go hb⟩
theorem HoldF.own {B₀ cB yB B : Nat} {A : Option Addr} {la ca : Nat} {gh : Nat → Nat → Int} {C : Value} {y : Int} : OwnW B₀ (HoldF cB yB B A la ca gh C y) := by
  refine block_ownW.and ((boxed_ownW _ _ _ _).and ((Rd.own _ _ _ _ _).and (OwnW.and ?_ (Lens.own _))))
  intro W W' row h hg hr
  exact Nat.le_trans h hg.size
theorem feasts_calls (A : Option Addr) (la ca : Nat) (C : Value) (y : Int) (w : World) :
    Calls Tryd.prog 74 #[.agg #[.slice A la ca, C], .int .i64 y] w fun e w' => e = .returned (.func (.func 83) #[] #[.pointer (some ⟨w.heap.size, 0, none⟩), .pointer (some ⟨w.heap.size + 1, 0, none⟩)]) ∧ w' = (w.alloc (.cells #[.slice A la ca, C] 47)).alloc (.cells #[.int .i64 y] 3) := by
  go_enter Tryd.func74, Tryd.ntmps74
  go_wp2
  go_ret
  exact ⟨rfl, rfl⟩
/-- The box of holiday i, at a place behind B1. -/
def holO (gh : Nat → Nat → Int) (i : Nat) : Obj := .cells #[.int .i64 (gh i 0), .int .i64 (gh i 1), .int .i64 (gh i 2), .int .i64 (gh i 3), .int .i64 (gh i 4), .int .i64 (gh i 5)] 137
def HoldG (cB yB B B1 : Nat) (A : Option Addr) (la ca : Nat) (gh : Nat → Nat → Int) (C : Value) (y : Int) (t : Nat × Nat) (W : World) : Prop :=
  HoldF cB yB B A la ca gh C y W ∧ B1 ≤ t.1 ∧ W.heap[t.1]? = some (holO gh t.2)
theorem HoldG.own {B₀ cB yB B B1 : Nat} {A : Option Addr} {la ca : Nat} {gh : Nat → Nat → Int} {C : Value} {y : Int} {t : Nat × Nat} : OwnW B₀ (HoldG cB yB B B1 A la ca gh C y t) :=
  HoldF.own.and ((OwnW.const _).and block_ownW)
set_option maxRecDepth 100000 in
set_option maxHeartbeats 8000000 in
theorem feasts_seq (cB yB B B1 : Nat) (A : Option Addr) (la ca : Nat) (gh : Nat → Nat → Int) (C : Value) (y : Int) (hy : 1970 ≤ y ∧ y ≤ 9999) (hla : la ≤ 1000000) (hall : ∀ i, i < la → holOk gh i) :
    SeqTW Tryd.prog 83 #[.pointer (some ⟨cB, 0, none⟩), .pointer (some ⟨yB, 0, none⟩)] (fun x : Int => #[.int .i64 x]) (feastL gh la y) (fun A B => Below A.heap.size A B)
      (fun W => HoldF cB yB B A la ca gh C y W ∧ B1 ≤ W.heap.size) (fun _ => HoldG cB yB B B1 A la ca gh C y) (fun _ => True) (fun _ _ => True) := by
  intro lo J Jx hJ hJx hY W ⟨hH, hB1⟩ h0
  have hF := wide_fn
  have Hall := Lib.hid hall
  have Hla := Lib.hid hla
  have Hy := Lib.hid hy
  rw [← fePos_0 gh y] at h0
  have a1 := i64_same (y - 1) (by omega)
  have a2 := i64_same (y + 1) (by omega)
  have A1 := Lib.hid (wrap64_in (y - 1) (by omega))
  have A2 := Lib.hid (wrap64_in (y + 1) (by omega))
  clear hall hla hy
  refine callsIn_of_wp Tryd.func83 rfl (hF _) ?_ rfl
  simp only [Tryd.ntmps83, List.size_toArray, List.length_cons, List.length_nil, Nat.reduceAdd, Nat.reduceSub, Array.replicate_succ, Array.replicate_zero, List.push_toArray, List.append_toArray, List.nil_append, List.cons_append]
  have e0 := cell_of_row W cB 0 _ _ _ hH.1
  gi_wp2
  clear e0
  gi_loopw [11] (fun i wr => ∃ k : Nat, k ≤ la ∧ i = .int .i64 k ∧ J (fePos gh y (3 * k)) wr ∧ HoldF cB yB B A la ca gh C y wr ∧ B1 ≤ wr.heap.size) (fun i _ => la - (intOf i).toNat)
  case atStart => exact ⟨0, Nat.zero_le _, rfl, h0, hH, hB1⟩
  case round =>
    obtain ⟨k, hk, rfl, hJk, hHk, hBk⟩ := hrel
    by_cases hlt : k < la
    · have hI : (k : Int) < la := by omega
      obtain ⟨sb, off, rfl, hsb, hc⟩ := hHk.2.2.1.at_ hlt
      have c0 : wr.cell? ⟨sb, off + k * 6, none⟩ = some (.int .i64 (gh k 0)) := hc 0 (by omega)
      have c1 := hc 1 (by omega)
      have c2 := hc 2 (by omega)
      have c3 := hc 3 (by omega)
      have c4 := hc 4 (by omega)
      have c5 := hc 5 (by omega)
      obtain ⟨wa, hwa⟩ : ∃ wa, wr.alloc (.cells #[.int .i64 (gh k 0), .int .i64 (gh k 1), .int .i64 (gh k 2), .int .i64 (gh k 3), .int .i64 (gh k 4), .int .i64 (gh k 5)] 137) = wa := ⟨_, rfl⟩
      have hst : Below wr.heap.size wr wa := hwa ▸ bstep wr _
      have hrow : wa.heap[wr.heap.size]? = some (.cells #[.int .i64 (gh k 0), .int .i64 (gh k 1), .int .i64 (gh k 2), .int .i64 (gh k 3), .int .i64 (gh k 4), .int .i64 (gh k 5)] 137 (0, 0)) := hwa ▸ World.alloc_heap_new wr _
      have hJa := hJ _ _ _ hJk hst
      have hHa := hHk.go hst
      have cy := hHk.2.1.cell
      have cya := hHa.2.1.cell
      obtain ⟨hb, hhb⟩ : ∃ hb, wr.heap.size = hb := ⟨_, rfl⟩
      rw [hhb] at hrow hBk
      have HBk := Lib.hid hBk
      have Hk := Lib.hid (show k + 1 ≤ la from hlt)
      have Hhall := Lib.hid (Hall.out k hlt)
      have x1 := A1.out
      clear hc hst hJk
      gi_wp2
      gi_loopw [6] (fun v6 wr2 => ∃ j : Nat, j ≤ 3 ∧ v6 = .int .i64 (y - 1 + j) ∧ J (fePos gh y (3 * k + j)) wr2 ∧ HoldF cB yB B (some ⟨sb, off, none⟩) la ca gh C y wr2 ∧ wr2.heap[hb]? = some (.cells #[.int .i64 (gh k 0), .int .i64 (gh k 1), .int .i64 (gh k 2), .int .i64 (gh k 3), .int .i64 (gh k 4), .int .i64 (gh k 5)] 137 (0, 0))) (fun v6 _ => (y + 2 - intOf v6).toNat)
      case atStart => exact ⟨0, by omega, by simp, hJa, hHa, hrow⟩
      case round =>
        obtain ⟨j, hj, rfl, hJj, hHj, hrj⟩ := hrel
        clear hrow hJa hHa cy cya x1
        have cyj := hHj.2.1.cell
        have hyy := Hy.out
        have x2 := A2.out
        by_cases hj3 : j < 3
        · have kl : decide (y - 1 + (j : Int) ≤ y + 1) = true := decide_eq_true (by omega)
          have q0 := cell_of_row _ hb 0 _ _ _ hrj
          have q1 := cell_of_row _ hb 1 _ _ _ hrj
          have q2 := cell_of_row _ hb 2 _ _ _ hrj
          have q3 := cell_of_row _ hb 3 _ _ _ hrj
          have q4 := cell_of_row _ hb 4 _ _ _ hrj
          have q5 := cell_of_row _ hb 5 _ _ _ hrj
          have HO := on_calls (gh k 0) (gh k 1) (gh k 2) (gh k 3) (gh k 4) (gh k 5) (y - 1 + j) Hhall.out _ hHj.2.2.2.2
          have e1 : (3 * k + j) / 3 = k := by omega
          have e2 : (3 * k + j) % 3 = j := by omega
          have hhit := fe_hit gh la y (3 * k + j) (by have := Hk.out; omega)
          have hmiss := fe_miss gh y (3 * k + j)
          rw [e1, e2] at hhit hmiss
          change _ → _ = some (onV (gh k 0) (gh k 1) (gh k 2) (gh k 3) (gh k 4) (gh k 5) (y - 1 + j)) ∧ _ at hhit
          have a3 := i64_same (y - 1 + j + 1) (by omega)
          have A3 := Lib.hid (wrap64_in (y - 1 + j + 1) (by omega))
          have HM := Lib.hid (show (y + 2 - (y - 1 + (j : Int) + 1)).toNat < (y + 2 - (y - 1 + (j : Int))).toNat by omega)
          have Hj := Lib.hid (show j + 1 ≤ 3 from hj3)
          by_cases hN : 0 ≤ onH gh k (y - 1 + j)
          · obtain ⟨hx, hpos⟩ := hhit hN
            have hN' : 0 ≤ onV (gh k 0) (gh k 1) (gh k 2) (gh k 3) (gh k 4) (gh k 5) (y - 1 + j) := hN
            obtain ⟨N, hNe⟩ : ∃ N, onV (gh k 0) (gh k 1) (gh k 2) (gh k 3) (gh k 4) (gh k 5) (y - 1 + j) = N := ⟨_, rfl⟩
            rw [hNe] at HO hx hN'
            replace HO := Lib.hid HO
            have kN : decide (N ≥ 0) = true := decide_eq_true hN'
            have Hx := Lib.hid hx
            have Hpos := Lib.hid hpos
            clear hhit hmiss hN hN' hNe e1 e2 hyy hj hj3 hx hpos
            gi_wp2
            refine (callsIn_wide.2 HO.out).mono ?_
            rintro e w2 ⟨rfl, hb2⟩
            have hJ2 := hJ _ _ _ hJj hb2
            have hH2 := hHj.go hb2
            have hr2 := blk_below hrj hb2
            obtain ⟨fn, tmps, assign, body, hy, hYR⟩ := hY _ (hb, k) N w2 Hx.out hJ2 ⟨hH2, HBk.out, hr2⟩
            clear q0 q1 q2 q3 q4 q5 cyj
            gi_wp2
            refine hYR.mono ?_
            rintro e W3 ⟨hG3, (⟨rfl, hJ3⟩ | ⟨rfl, hJx3⟩)⟩
            · have x3 := A3.out
              rw [← Hpos.out] at hJ3
              clear x2 hy
              gi_wp2
              clear x3
              go_roundw
              case rel => exact ⟨j + 1, Hj.out, by push_cast; rw [Int.add_assoc], hJ3, hG3.1, hG3.2.2⟩
              case measure => simp only [intOf]; exact HM.out
            · clear x2 hy
              gi_wp2
              refine bodyPost_ret (results_none rfl _ _ _) rfl ?_
              exact ⟨⟨_, rfl⟩, .inr ⟨_, (List.getElem?_eq_some_iff.1 Hx.out).1, hJx3, trivial⟩⟩
          · have hpos := hmiss hN
            have hN' : ¬ 0 ≤ onV (gh k 0) (gh k 1) (gh k 2) (gh k 3) (gh k 4) (gh k 5) (y - 1 + j) := hN
            obtain ⟨N, hNe⟩ : ∃ N, onV (gh k 0) (gh k 1) (gh k 2) (gh k 3) (gh k 4) (gh k 5) (y - 1 + j) = N := ⟨_, rfl⟩
            rw [hNe] at HO hN'
            replace HO := Lib.hid HO
            have kN : decide (N ≥ 0) = false := decide_eq_false hN'
            have Hpos := Lib.hid hpos
            clear hhit hmiss hN hN' hNe e1 e2 hyy hj hj3 hpos
            gi_wp2
            refine (callsIn_wide.2 HO.out).mono ?_
            rintro e w2 ⟨rfl, hb2⟩
            have hJ2 := hJ _ _ _ hJj hb2
            have hH2 := hHj.go hb2
            have hr2 := blk_below hrj hb2
            rw [← Hpos.out] at hJ2
            have x3 := A3.out
            clear q0 q1 q2 q3 q4 q5 cyj x2
            gi_wp2
            clear x3
            go_roundw
            case rel => exact ⟨j + 1, Hj.out, by push_cast; rw [Int.add_assoc], hJ2, hH2, hr2⟩
            case measure => simp only [intOf]; exact HM.out
        · obtain rfl : j = 3 := by omega
          have kl : decide (y - 1 + ((3 : Nat) : Int) ≤ y + 1) = false := decide_eq_false (by omega)
          have hlow := hHj.2.2.2.1
          have hBb := (Array.getElem?_eq_some_iff.1 hrj).1
          have a4 : IntKind.i64.wrap ((k : Int) + 1) = (k : Int) + 1 := i64_same _ (by have := Hla.out; have := Hk.out; omega)
          have A4 := Lib.hid (wrap64_in ((k : Int) + 1) (by have := Hla.out; have := Hk.out; omega))
          have HBb := Lib.hid (show B1 ≤ wr.heap.size by have := HBk.out; omega)
          clear hyy hj hj3 hlow hBb
          have x4 := A4.out
          gi_wp2
          clear x4 x2
          go_roundw
          case rel => exact ⟨k + 1, Hk.out, by push_cast; rfl, by rw [show 3 * (k + 1) = 3 * k + 3 by omega]; exact hJj, hHj, HBb.out⟩
          case measure => exact meas_step la k Hk.out
    · obtain rfl : k = la := by omega
      gi_wp2
      go_end0
      exact ⟨⟨_, rfl⟩, .inl ⟨by rw [← fePos_end]; exact hJk, trivial⟩⟩
end Go.Proofs.YtgbkedjjgbhcmaaDoor

/-
  Whether a day is a holiday: days.Is, walked. Conditions stand at each theorem.
-/
namespace Go.Proofs.YtgbkedjjgbhcmaaDoor
open Go Go.RowKit Go.Kw Go.Kw.Cv Go.Shelf
attribute [local go_sem] Oper.semAt_some
set_option linter.unusedVariables false
set_option linter.unusedSimpArgs false

theorem HoldF.set {cB yB B fb : Nat} {A : Option Addr} {la ca : Nat} {gh : Nat → Nat → Int} {C : Value} {y : Int} {W : World} (h : HoldF cB yB B A la ca gh C y W) (h1 : cB ≠ fb) (h2 : yB ≠ fb) (h3 : B ≤ fb) (h4 : 2 < fb) (v : Value) : HoldF cB yB B A la ca gh C y (W.setCell ⟨fb, 0, none⟩ v) :=
  ⟨(heap_setCell_other W ⟨fb, 0, none⟩ cB v h1).trans h.1, (heap_setCell_other W ⟨fb, 0, none⟩ yB v h2).trans h.2.1, Rd.setCell h.2.2.1 (p := ⟨fb, 0, none⟩) h3 v, by simpa using h.2.2.2.1, h.2.2.2.2.below ((Below.refl fb W).setCell (p := ⟨fb, 0, none⟩) (Nat.le_refl _) v) h4⟩
theorem RdCal.rdH {w : World} {A : Option Addr} {la ca : Nat} {gh : Nat → Nat → Int} {B : Option Addr} {lb cb : Nat} {gs : Nat → Nat → Int} (h : RdCal w A la ca gh B lb cb gs) : RdH w w.heap.size A la gh := h.1.2.2.2.1
/-- What is known in the range over the feasts: the box of what was found, the day's box. -/
def IsI (b0 fb : Nat) (w : World) (n : Int) (L : List Int) (k : Nat) (W : World) : Prop :=
  (∀ j, j < k → L[j]? ≠ some n) ∧ Boxed W fb 4 (.bool false) ∧ Boxed W (b0 + 1) 3 (.int .i64 n) ∧ (Below b0 w W ∧ b0 ≤ W.heap.size)
def IsX (b0 fb : Nat) (w : World) (n : Int) (L : List Int) (c : Code) (k : Nat) (W : World) : Prop :=
  c = .exit 0 ∧ n ∈ L ∧ Boxed W fb 4 (.bool true) ∧ (Below b0 w W ∧ b0 ≤ W.heap.size)
set_option maxRecDepth 100000 in
set_option maxHeartbeats 8000000 in
theorem daysIs_ok (A : Option Addr) (la ca : Nat) (gh : Nat → Nat → Int) (B : Option Addr) (lb cb : Nat) (gs : Nat → Nat → Int) (n : Int) (hcal : calOk la gh lb gs) (hn : 0 ≤ n ∧ n ≤ 2932896) (w : World) (hR : RdCal w A la ca gh B lb cb gs) (hL : Lens w) :
    Calls Tryd.prog 54 #[calC A la ca B lb cb, .int .i64 n] w fun e w' => e = .returned (.tuple #[.bool (isF gh la n), .int .i64 0]) ∧ Below w.heap.size w w' := by
  have hF := wide_fn
  obtain ⟨b0, hb0⟩ : ∃ b0, w.heap.size = b0 := ⟨_, rfl⟩
  have Hb0 := Lib.hid hb0
  have hE := errA_ok hcal hn
  obtain ⟨hok, hday⟩ := dOf_spec n hn
  have hF1 := isF_day gh la hok
  rw [hday] at hF1
  rw [hF1]
  have hst1 := bstep w (.cells #[.slice A la ca, .slice B lb cb] 47)
  have hst2 := bstep (w.alloc (.cells #[.slice A la ca, .slice B lb cb] 47)) (.cells #[.int .i64 n] 3)
  have hst := bnext hst1 hst2
  have hr0 := World.alloc_heap_new w (.cells #[.slice A la ca, .slice B lb cb] 47)
  have hr1 := World.alloc_heap_new (w.alloc (.cells #[.slice A la ca, .slice B lb cb] 47)) (.cells #[.int .i64 n] 3)
  have hs1 : (w.alloc (.cells #[.slice A la ca, .slice B lb cb] 47)).heap.size = b0 + 1 := by simp [hb0]
  have hr0' := blk_below hr0 hst2
  rw [hb0] at hr0'
  rw [hs1] at hr1
  have hs2 : ((w.alloc (.cells #[.slice A la ca, .slice B lb cb] 47)).alloc (.cells #[.int .i64 n] 3)).heap.size = b0 + 2 := by simp [hb0]
  have hM := may_calls A la ca gh B lb cb gs n _ (hR.go hst) (hL.go hst)
  rw [mayV_ok hE, hE] at hM
  obtain ⟨T, hT⟩ : ∃ T, dOf n = T := ⟨_, rfl⟩
  rw [hT] at hM hok hday ⊢
  obtain ⟨y, m, d⟩ := T
  unfold dateV at hM
  unfold calC at hM ⊢
  have hyy : 1970 ≤ y ∧ y ≤ 9999 := ⟨hok.1, hok.2.1⟩
  have Hyy := Lib.hid hyy
  have HM := Lib.hid hM
  have HX := Lib.hid (And.intro hst (And.intro hs2 (And.intro hr0' (And.intro hr1 (And.intro (hL.go hst) hL.low)))))
  have HRd := Lib.hid hR.rdH
  have Hcal := Lib.hid hcal
  clear hM hF1 hT hE hst1 hst2 hst hr0 hr1 hs1 hr0' hs2 hR hL hcal hok hday hyy hn
  refine calls_of_marks Tryd.func54 rfl ?_
  simp only [Tryd.ntmps54, List.size_toArray, List.length_cons, List.length_nil, Nat.reduceAdd, Nat.reduceSub, Array.replicate_succ, Array.replicate_zero, List.push_toArray, List.append_toArray, List.nil_append, List.cons_append]
  gi_wp2_with (first | (refine wpIn_scope ?_) | (refine wpIn_label ?_))
  refine (callsIn_wide.2 HM.out).mono ?_
  rintro e w3 ⟨rfl, hb3⟩
  have hr0 := blk_below HX.out.2.2.1 hb3
  have hr1 := blk_below HX.out.2.2.2.1 hb3
  have hL3 := HX.out.2.2.2.2.1.go hb3
  have hbw := bnext HX.out.1 hb3
  have hs3 : b0 + 2 ≤ w3.heap.size := by have := hb3.size; have := HX.out.2.1; omega
  clear hb3
  obtain ⟨s3, hs3e⟩ : ∃ s3, w3.heap.size = s3 := ⟨_, rfl⟩
  have t1 := bstep w3 (.cells #[.int .i64 y, .int .i64 m, .int .i64 d] 121)
  have t2 := bstep (w3.alloc (.cells #[.int .i64 y, .int .i64 m, .int .i64 d] 121)) (.cells #[.bool false] 4)
  have h4 := bnext t1 t2
  have rD := World.alloc_heap_new w3 (.cells #[.int .i64 y, .int .i64 m, .int .i64 d] 121)
  have sD : (w3.alloc (.cells #[.int .i64 y, .int .i64 m, .int .i64 d] 121)).heap.size = s3 + 1 := by simp [hs3e]
  have rF : Boxed ((w3.alloc (.cells #[.int .i64 y, .int .i64 m, .int .i64 d] 121)).alloc (.cells #[.bool false] 4)) _ 4 (.bool false) := Boxed.new (w3.alloc (.cells #[.int .i64 y, .int .i64 m, .int .i64 d] 121)) _ _
  have rD' := blk_below rD t2
  rw [hs3e] at rD'
  rw [sD] at rF
  have s4 : ((w3.alloc (.cells #[.int .i64 y, .int .i64 m, .int .i64 d] 121)).alloc (.cells #[.bool false] 4)).heap.size = s3 + 2 := by simp [hs3e]
  have c0 := cell_of_row _ b0 0 _ _ _ (blk_below hr0 h4)
  have c1 := cell_of_row _ b0 1 _ _ _ (blk_below hr0 h4)
  have d0 := cell_of_row _ s3 0 _ _ _ rD'
  have r1 : Boxed _ (b0 + 1) 3 (.int .i64 n) := blk_below hr1 h4
  have hL4 := hL3.go h4
  have hb4 := bnext hbw h4
  clear t1 t2 h4 rD sD hL3 hbw hr0 hr1 rD' s4
  gi_wp2_with (first | (refine wpIn_scope ?_) | (refine wpIn_label ?_))
  clear c0 c1 d0
  refine (callsIn_wide.2 (feasts_calls A la ca (.slice B lb cb) y _)).mono ?_
  obtain ⟨W4, hW4⟩ : ∃ W4, ((w3.alloc (.cells #[.int .i64 y, .int .i64 m, .int .i64 d] 121)).alloc (.cells #[.bool false] 4)) = W4 := ⟨_, rfl⟩
  have s4 : W4.heap.size = s3 + 2 := by rw [← hW4]; simp [hs3e]
  rw [hW4] at rF r1 hL4 hb4
  rw [hW4, s4]
  obtain ⟨W6, hW6⟩ : ∃ W6, (W4.alloc (.cells #[.slice A la ca, .slice B lb cb] 47)).alloc (.cells #[.int .i64 y] 3) = W6 := ⟨_, rfl⟩
  have u1 := bstep W4 (.cells #[.slice A la ca, .slice B lb cb] 47)
  have u2 := bstep (W4.alloc (.cells #[.slice A la ca, .slice B lb cb] 47)) (.cells #[.int .i64 y] 3)
  have s5 : (W4.alloc (.cells #[.slice A la ca, .slice B lb cb] 47)).heap.size = s3 + 3 := by simp [s4]
  have rC := World.alloc_heap_new W4 (.cells #[.slice A la ca, .slice B lb cb] 47)
  rw [s4] at rC
  have rC' := blk_below rC u2
  have rY : Boxed ((W4.alloc (.cells #[.slice A la ca, .slice B lb cb] 47)).alloc (.cells #[.int .i64 y] 3)) (s3 + 3) 3 (.int .i64 y) := by
    have h : Boxed ((W4.alloc (.cells #[.slice A la ca, .slice B lb cb] 47)).alloc (.cells #[.int .i64 y] 3)) _ 3 (.int .i64 y) := Boxed.new (W4.alloc (.cells #[.slice A la ca, .slice B lb cb] 47)) _ _
    rw [s5] at h; exact h
  have s6 : W6.heap.size = s3 + 4 := by rw [← hW6]; simp [s4]
  have u := bnext u1 u2
  rw [hW6] at u rC' rY
  have rF6 : Boxed W6 (s3 + 1) 4 (.bool false) := blk_below rF u
  have r16 : Boxed W6 (b0 + 1) 3 (.int .i64 n) := blk_below r1 u
  have hL6 := hL4.go u
  have hb6 := bnext hb4 u
  have hRd6 : RdH W6 b0 A la gh := by have := HRd.out; rw [Hb0.out] at this; exact Rd.below this (Hb0.out ▸ hb6)
  have hlow := HX.out.2.2.2.2.2
  rw [Hb0.out] at hlow hb6
  rintro e w6 ⟨rfl, e6⟩
  rw [hW6] at e6
  rw [e6]
  clear e6 w6 u1 u2 s5 rC u hW6 hW4 rF r1 hL4 hb4 s4
  gi_wp2_with (first | (refine wpIn_scope ?_) | (refine wpIn_label ?_))
  have Hs3 := Lib.hid hs3
  have Hlow := Lib.hid hlow
  have HS6 := Lib.hid s6
  refine wpIn_rangeT rfl (by decide) (gf := 83) (lb := #[.pointer (some ⟨s3 + 2, 0, none⟩), .pointer (some ⟨s3 + 3, 0, none⟩)]) rfl trivial (enters_of Tryd.func83 (by kernel_rfl) rfl)
    (feasts_seq (s3 + 2) (s3 + 3) b0 (s3 + 4) A la ca gh (.slice B lb cb) y Hyy.out (by have := Hcal.out.1; omega) Hcal.out.2.2.1) (fun A B h => keepsB h) (fun _ => rfl)
    (HoldF.own.and (fun W W' row h hg hr => Nat.le_trans h hg.size)) (fun _ _ => HoldG.own) (OwnW.const _) (fun _ => OwnW.const _) ⟨⟨rC', rY, hRd6, by omega, hL6⟩, by omega⟩
    (IsI b0 (s3 + 1) w n (feastL gh la y)) (IsX b0 (s3 + 1) w n (feastL gh la y))
    ?ownI ?ownX ?abI ?abX ⟨fun j hj => absurd hj (by omega), rF6, r16, hb6, by omega⟩ ?round ?done ?stop
  case ownI => exact fun k => (OwnW.const _).and ((boxed_ownW _ _ _ _).and ((boxed_ownW _ _ _ _).and (below_own (by omega))))
  case ownX => exact fun c k => (OwnW.const _).and ((OwnW.const _).and ((boxed_ownW _ _ _ _).and (below_own (by omega))))
  case abI => exact fun k A B h hb => ⟨h.1, blk_below h.2.1 hb, blk_below h.2.2.1 hb, h.2.2.2.1.trans (hb.mono h.2.2.2.2), Nat.le_trans h.2.2.2.2 hb.size⟩
  case abX => exact fun c k A B h hb => ⟨h.1, h.2.1, blk_below h.2.2.1 hb, h.2.2.2.1.trans (hb.mono h.2.2.2.2), Nat.le_trans h.2.2.2.2 hb.size⟩
  case round =>
    rintro lo k t x W hx _ _
    clear rC' rY rF6 r16 hL6 hb6 hRd6 s6 hs3 hlow
    gi_wp2
    refine ⟨trivial, ?_⟩
    rintro W1 ⟨hall, hb1, hd1, hBl⟩ ⟨hHF, hBt, hrt⟩ hsz
    have cd := hd1.cell
    by_cases hxn : x = n
    · subst hxn
      have fb := hb1.frozen
      have cf := hb1.cell
      have HE := Lib.hid (show KeepsOthers W1 (W1.setCell ⟨s3 + 1, 0, none⟩ (.bool true)) ∧ HoldG (s3 + 2) (s3 + 3) b0 (s3 + 4) A la ca gh (.slice B lb cb) y t (W1.setCell ⟨s3 + 1, 0, none⟩ (.bool true)) ∧ IsX b0 (s3 + 1) w x (feastL gh la y) (.exit 0) (k + 1) (W1.setCell ⟨s3 + 1, 0, none⟩ (.bool true)) from
        ⟨KeepsOthers.setCell _ _ _, ⟨hHF.set (by omega) (by omega) (by have := Hs3.out; omega) (by have := Hlow.out; have := Hs3.out; omega) _, hBt, (heap_setCell_other W1 ⟨s3 + 1, 0, none⟩ t.1 _ (by show t.1 ≠ s3 + 1; omega)).trans hrt⟩,
          rfl, List.mem_of_getElem? hx, hb1.set _, hBl.1.setCell (p := ⟨s3 + 1, 0, none⟩) (by have := Hs3.out; show b0 ≤ s3 + 1; omega) _, by simpa using hBl.2⟩)
      clear hall hb1 hd1 hBl hHF hBt hrt hsz
      gi_wp2
      exact HE.out
    · have kb : (x == n) = false := beq_eq_false_iff_ne.2 hxn
      have HE := Lib.hid (show KeepsOthers W1 W1 ∧ HoldG (s3 + 2) (s3 + 3) b0 (s3 + 4) A la ca gh (.slice B lb cb) y t W1 ∧ IsI b0 (s3 + 1) w n (feastL gh la y) (k + 1) W1 from
        ⟨KeepsOthers.refl _, ⟨hHF, hBt, hrt⟩, fun j hj => by
          by_cases e : j = k
          · rw [e, hx]; exact fun h => hxn (by injection h)
          · exact hall j (by omega), hb1, hd1, hBl⟩)
      clear hall hb1 hd1 hBl hHF hBt hrt hsz hxn
      gi_wp2
      exact HE.out
  case done =>
    rintro D W hD ⟨hall, hb1, hd1, hBl⟩ _ hK
    have hno : decide (n ∈ feastL gh la y) = false := decide_eq_false (fun h => by
      obtain ⟨j, hj⟩ := List.mem_iff_getElem?.1 h
      exact hall j (List.getElem?_eq_some_iff.1 hj).1 hj)
    have HNo := Lib.hid hno
    have cb := hb1.cell
    clear hno hall rC' rY rF6 r16 hL6 hb6 hRd6 s6 hs3 hlow
    gi_wp2
    refine ⟨by simp, .inl ⟨_, _, rfl, run_takeDeferred hK, ?_⟩⟩
    refine ⟨_, results_tmp2 rfl _ _ _, by rw [HNo.out]; rfl, ?_⟩
    first | exact hBl.1.putObj (by have := Hs3.out; have := HS6.out; omega) hBl.2 _ | (rw [Hb0.out]; exact hBl.1.putObj (by have := Hs3.out; have := HS6.out; omega) hBl.2 _)
  case stop =>
    rintro D c k W hD hk ⟨rfl, hmem, hb1, hBl⟩ _ hK
    have HNo := Lib.hid (decide_eq_true hmem)
    have cb := hb1.cell
    clear hmem rC' rY rF6 r16 hL6 hb6 hRd6 s6 hs3 hlow
    gi_wp2
    refine ⟨by simp, .inl ⟨_, _, rfl, run_takeDeferred hK, ?_⟩⟩
    refine ⟨_, results_tmp2 rfl _ _ _, by rw [HNo.out]; rfl, ?_⟩
    first | exact hBl.1.putObj (by have := Hs3.out; have := HS6.out; omega) hBl.2 _ | (rw [Hb0.out]; exact hBl.1.putObj (by have := Hs3.out; have := HS6.out; omega) hBl.2 _)
set_option maxRecDepth 100000 in
set_option maxHeartbeats 8000000 in
theorem daysIs_no (A : Option Addr) (la ca : Nat) (gh : Nat → Nat → Int) (B : Option Addr) (lb cb : Nat) (gs : Nat → Nat → Int) (n : Int) (hE : errA la gh lb gs n ≠ 0) (w : World) (hR : RdCal w A la ca gh B lb cb gs) (hL : Lens w) :
    Calls Tryd.prog 54 #[calC A la ca B lb cb, .int .i64 n] w fun e w' => e = .returned (.tuple #[.bool false, .int .i64 (errA la gh lb gs n)]) ∧ Below w.heap.size w w' := by
  have hF := wide_fn
  obtain ⟨b0, hb0⟩ : ∃ b0, w.heap.size = b0 := ⟨_, rfl⟩
  have Hb0 := Lib.hid hb0
  have hst1 := bstep w (.cells #[.slice A la ca, .slice B lb cb] 47)
  have hst2 := bstep (w.alloc (.cells #[.slice A la ca, .slice B lb cb] 47)) (.cells #[.int .i64 n] 3)
  have hst := bnext hst1 hst2
  have hM := may_calls A la ca gh B lb cb gs n _ (hR.go hst) (hL.go hst)
  rw [mayV_no hE] at hM
  obtain ⟨E, hEe⟩ : ∃ E, errA la gh lb gs n = E := ⟨_, rfl⟩
  rw [hEe] at hM hE ⊢
  unfold dateV at hM
  unfold calC at hM ⊢
  have HM := Lib.hid hM
  have HX := Lib.hid hst
  have k0 : (E == 0) = false := beq_eq_false_iff_ne.2 hE
  have k1 : (E != 0) = true := bne_iff_ne.2 hE
  clear hM hst1 hst2 hst hR hL hE hEe
  refine calls_of_marks Tryd.func54 rfl ?_
  simp only [Tryd.ntmps54, List.size_toArray, List.length_cons, List.length_nil, Nat.reduceAdd, Nat.reduceSub, Array.replicate_succ, Array.replicate_zero, List.push_toArray, List.append_toArray, List.nil_append, List.cons_append]
  gi_wp2_with (first | (refine wpIn_scope ?_) | (refine wpIn_label ?_))
  refine (callsIn_wide.2 HM.out).mono ?_
  rintro e w3 ⟨rfl, hb3⟩
  have hbw := bnext (bnext HX.out hb3) (bstep w3 (.cells #[.int .i64 0, .int .i64 0, .int .i64 0] 121))
  clear hb3
  gi_wp2
  try rw [Exit.noGoto_ret]
  refine ⟨_, results_tmp2 rfl _ _ _, rfl, ?_⟩
  exact hbw
end Go.Proofs.YtgbkedjjgbhcmaaDoor

/-
  The document's question, is a day that holiday: behind, one, walked. Conditions stand at each theorem. (Printed by gen_refone.py.)
-/
namespace Go.Proofs.YtgbkedjjgbhcmaaDoor
open Go Go.RowKit Go.Kw Go.Kw.Cv Go.Shelf
set_option linter.unusedVariables false
set_option linter.unusedSimpArgs false

/-- Of kind 4. -/
def easP (n y0 D : Int) : Prop := ∃ j, y0 - 1 ≤ j ∧ j ≤ y0 + 1 ∧ 1970 ≤ j ∧ j ≤ 9999 ∧ behD D j = n
noncomputable instance (n y0 D : Int) : Decidable (easP n y0 D) := Classical.propDecidable _
end Go.Proofs.YtgbkedjjgbhcmaaDoor

/-
  The document's word on whether a day is a holiday, its kind: walked. Conditions stand at each theorem.
-/
namespace Go.Proofs.YtgbkedjjgbhcmaaDoor
open Go Go.RowKit Go.Kw Go.Kw.Cv Go.Shelf
set_option linter.unusedVariables false
set_option linter.unusedSimpArgs false

theorem kindB_t (w : Int) : kindB true w = 4 := rfl
theorem kindB_7 : kindB false 7 = 3 := rfl
theorem kindB_6 : kindB false 6 = 2 := rfl
theorem kindB_no (w : Int) (h7 : w ≠ 7) (h6 : w ≠ 6) : kindB false w = 1 := by unfold kindB; rw [if_neg (by decide), if_neg h7, if_neg h6]
end Go.Proofs.YtgbkedjjgbhcmaaDoor

/-
  A day's kind: days.Kind, walked. Conditions stand at each theorem.
-/
namespace Go.Proofs.YtgbkedjjgbhcmaaDoor
open Go Go.RowKit Go.Kw Go.Kw.Cv Go.Shelf
set_option linter.unusedVariables false
set_option linter.unusedSimpArgs false

set_option maxRecDepth 100000 in
set_option maxHeartbeats 8000000 in
theorem daysKind_ok (A : Option Addr) (la ca : Nat) (gh : Nat → Nat → Int) (B : Option Addr) (lb cb : Nat) (gs : Nat → Nat → Int) (n : Int) (hcal : calOk la gh lb gs) (hn : 0 ≤ n ∧ n ≤ 2932896) (w : World) (hR : RdCal w A la ca gh B lb cb gs) (hL : Lens w) :
    Calls Tryd.prog 29 #[calC A la ca B lb cb, .int .i64 n] w fun e w' => e = .returned (.tuple #[.int .i64 (kindD gh la n), .int .i64 0]) ∧ Below w.heap.size w w' := by
  have hst := bstep w (.cells #[.slice A la ca, .slice B lb cb] 47)
  have HI := daysIs_ok A la ca gh B lb cb gs n hcal hn _ (hR.go hst) (hL.go hst)
  have HW := weekday_calls n
  unfold kindD
  obtain ⟨b, hb⟩ : ∃ b, isF gh la n = b := ⟨_, rfl⟩
  obtain ⟨W, hW⟩ : ∃ W, wdN n = W := ⟨_, rfl⟩
  rw [hb] at HI ⊢
  rw [hW] at HW ⊢
  clear hb hW
  unfold calC at HI ⊢
  replace HW := Lib.hid HW
  replace HI := Lib.hid HI
  clear hR hL hcal hn
  cases b with
  | true =>
    rw [kindB_t]
    go_enter Tryd.func29, Tryd.ntmps29
    go_wp2_with fail
    refine HI.out.mono ?_
    rintro e w2 ⟨rfl, hb2⟩
    go_wp2_with fail
    refine (HW.out _).mono ?_
    rintro e w1 ⟨rfl, rfl⟩
    go_wp2_with fail
    go_ret2
    exact ⟨rfl, bnext hst hb2⟩
  | false =>
    by_cases h7 : W = 7
    · subst h7
      rw [kindB_7]
      go_enter Tryd.func29, Tryd.ntmps29
      go_wp2_with fail
      refine HI.out.mono ?_
      rintro e w2 ⟨rfl, hb2⟩
      go_wp2_with fail
      refine (HW.out _).mono ?_
      rintro e w1 ⟨rfl, rfl⟩
      go_wp2_with fail
      go_ret2
      exact ⟨rfl, bnext hst hb2⟩
    · by_cases h6 : W = 6
      · subst h6
        rw [kindB_6]
        clear h7
        go_enter Tryd.func29, Tryd.ntmps29
        go_wp2_with fail
        refine HI.out.mono ?_
        rintro e w2 ⟨rfl, hb2⟩
        go_wp2_with fail
        refine (HW.out _).mono ?_
        rintro e w1 ⟨rfl, rfl⟩
        go_wp2_with fail
        go_ret2
        exact ⟨rfl, bnext hst hb2⟩
      · rw [kindB_no W h7 h6]
        have k7 : (W == 7) = false := beq_eq_false_iff_ne.2 h7
        have k6 : (W == 6) = false := beq_eq_false_iff_ne.2 h6
        clear h7 h6
        go_enter Tryd.func29, Tryd.ntmps29
        go_wp2_with fail
        refine HI.out.mono ?_
        rintro e w2 ⟨rfl, hb2⟩
        go_wp2_with fail
        refine (HW.out _).mono ?_
        rintro e w1 ⟨rfl, rfl⟩
        go_wp2_with fail
        go_ret2
        exact ⟨rfl, bnext hst hb2⟩
set_option maxRecDepth 100000 in
set_option maxHeartbeats 8000000 in
theorem daysKind_no (A : Option Addr) (la ca : Nat) (gh : Nat → Nat → Int) (B : Option Addr) (lb cb : Nat) (gs : Nat → Nat → Int) (n : Int) (hE : errA la gh lb gs n ≠ 0) (w : World) (hR : RdCal w A la ca gh B lb cb gs) (hL : Lens w) :
    Calls Tryd.prog 29 #[calC A la ca B lb cb, .int .i64 n] w fun e w' => e = .returned (.tuple #[.int .i64 0, .int .i64 (errA la gh lb gs n)]) ∧ Below w.heap.size w w' := by
  have hst := bstep w (.cells #[.slice A la ca, .slice B lb cb] 47)
  have HI := daysIs_no A la ca gh B lb cb gs n hE _ (hR.go hst) (hL.go hst)
  obtain ⟨E, hEe⟩ : ∃ E, errA la gh lb gs n = E := ⟨_, rfl⟩
  rw [hEe] at HI hE ⊢
  have k0 : (E == 0) = false := beq_eq_false_iff_ne.2 hE
  have k1 : (E != 0) = true := bne_iff_ne.2 hE
  unfold calC at HI ⊢
  replace HI := Lib.hid HI
  clear hR hL hE hEe
  go_enter Tryd.func29, Tryd.ntmps29
  go_wp2_with fail
  refine HI.out.mono ?_
  rintro e w2 ⟨rfl, hb2⟩
  go_wp2_with fail
  go_ret2
  exact ⟨rfl, bnext hst hb2⟩
end Go.Proofs.YtgbkedjjgbhcmaaDoor

/-
  An instant's season, kind of day, minute, band and price: tariff.Local, tariff.At, walked. Conditions stand at each theorem.
-/
namespace Go.Proofs.YtgbkedjjgbhcmaaDoor
open Go Go.RowKit Go.Kw Go.Kw.Cv Go.Shelf
set_option linter.unusedVariables false
set_option linter.unusedSimpArgs false

theorem mxS_in {gs : Nat → Nat → Int} {lb : Nat} (h : seasAll gs lb) (p : Int) : ∀ k, k ≤ lb → 0 ≤ (mxS gs p k).2 ∧ (mxS gs p k).2 ≤ 99
  | 0, _ => by show (0 : Int) ≤ 0 ∧ (0 : Int) ≤ 99; omega
  | k + 1, hk => by
    have ih := mxS_in h p k (by omega)
    have h1 := (h k (by omega)).1
    unfold seaOk at h1
    rw [mxS]
    split
    · exact ⟨by show 0 ≤ gs k 0; omega, by show gs k 0 ≤ 99; omega⟩
    · exact ih
theorem seasD_in {gs : Nat → Nat → Int} {lb : Nat} (h : seasAll gs lb) (n : Int) : 0 ≤ seasD gs lb n ∧ seasD gs lb n ≤ 99 := by
  unfold seasD seasN seasB
  split
  · exact mxS_in h _ _ (Nat.le_refl _)
  · exact mxS_in h _ _ (Nat.le_refl _)
theorem kindD_in (g : Nat → Nat → Int) (la : Nat) (n : Int) : 1 ≤ kindD g la n ∧ kindD g la n ≤ 4 := by
  unfold kindD kindB
  split
  · omega
  · split
    · omega
    · split <;> omega
/-- What an instant is told: the error, the day, season, kind, minute. -/
noncomputable def tlE (x : Tar) (t : Int) : Int := if tarE x = 0 then offE x.o x.lr x.zg t else tarE x
noncomputable def tlD (x : Tar) (t : Int) : Int := (t + offV x.o x.lr x.zg t) / 86400
noncomputable def tlS (x : Tar) (t : Int) : Int := if tlE x t = 0 then seasD x.gs x.lb (tlD x t) else 0
noncomputable def tlK (x : Tar) (t : Int) : Int := if tlE x t = 0 then kindD x.gh x.la (tlD x t) else 0
noncomputable def tlM (x : Tar) (t : Int) : Int := if tlE x t = 0 then (t + offV x.o x.lr x.zg t) % 86400 / 60 else 0
theorem tlE_ok {x : Tar} {t : Int} (h : tlE x t = 0) : TarOk x ∧ offE x.o x.lr x.zg t = 0 ∧ 0 ≤ tlD x t ∧ tlD x t ≤ 2932896 := by
  unfold tlE at h
  split at h
  · rename_i h1
    have hok := (tarE_ok x).1 h1
    refine ⟨hok, h, ?_⟩
    have hz := hok.1
    unfold tlD
    have hv : offV x.o x.lr x.zg t = x.o + extV x.zg x.lr (t + x.o) := if_pos h
    unfold offE at h
    rw [if_pos hz] at h
    split at h
    · rename_i h2
      have h3 := h2.2
      unfold secOk at h3
      rw [hv]
      omega
    · cases h
  · contradiction
theorem tlM_in (x : Tar) (t : Int) : 0 ≤ tlM x t ∧ tlM x t < 1440 := by
  unfold tlM
  split
  · omega
  · omega
set_option maxRecDepth 100000 in
set_option maxHeartbeats 16000000 in
theorem local_calls (x : Tar) (t : Int) (w : World) (hT : RdTar w x) (hL : Lens w) :
    Calls Tryd.prog 14 #[tarV x, .int .i64 t] w fun e w' => e = .returned (.tuple #[.int .i64 (tlS x t), .int .i64 (tlK x t), .int .i64 (tlM x t), .int .i64 (tlE x t)]) ∧ Below w.heap.size w w' := by
  obtain ⟨b0, hb0⟩ : ∃ b0, w.heap.size = b0 := ⟨_, rfl⟩
  have Hb0 := Lib.hid hb0
  obtain ⟨W1, hW1⟩ : ∃ W1, w.alloc (.cells (tarRow x) 54) = W1 := ⟨_, rfl⟩
  have hst : Below w.heap.size w W1 := hW1 ▸ bstep w _
  have hr : W1.heap[b0]? = some (.cells (tarRow x) 54 (0, 0)) := by rw [← hb0, ← hW1]; exact World.alloc_heap_new w _
  have hC := tarCheck_calls x W1 (hT.go hst) (hL.go hst)
  obtain ⟨E, hE⟩ : ∃ E, tarE x = E := ⟨_, rfl⟩
  rw [hE] at hC
  unfold tarV at hC
  have HX := Lib.hid (And.intro (hT.go hst) (And.intro (hL.go hst) (And.intro hr hst)))
  unfold tarRow at hW1 hC hr
  have c0 := cell_of_row W1 b0 0 _ _ _ hr
  have c1 := cell_of_row W1 b0 1 _ _ _ hr
  have c2 := cell_of_row W1 b0 2 _ _ _ hr
  have c3 := cell_of_row W1 b0 3 _ _ _ hr
  have c4 := cell_of_row W1 b0 4 _ _ _ hr
  have c5 := cell_of_row W1 b0 5 _ _ _ hr
  have c6 := cell_of_row W1 b0 6 _ _ _ hr
  have HC := Lib.hid hC
  unfold tarV tarRow
  clear hst hr hC hT hL
  by_cases h0 : E = 0
  case neg =>
    have hl : tlE x t = E := by unfold tlE; rw [hE, if_neg h0]
    have k0 : (E != 0) = true := by simp [h0]
    rw [show tlS x t = 0 from if_neg (by rw [hl]; exact h0), show tlK x t = 0 from if_neg (by rw [hl]; exact h0), show tlM x t = 0 from if_neg (by rw [hl]; exact h0), hl]
    clear h0 hl hE
    go_enter Tryd.func14, Tryd.ntmps14
    go_wp2_with fail
    refine HC.out.mono ?_
    rintro e w2 ⟨rfl, hb2⟩
    have HB := Lib.hid (bnext HX.out.2.2.2 hb2)
    clear hb2
    go_wp2_with fail
    refine bodyPost_ret (v := .tuple #[.int .i64 0, .int .i64 0, .int .i64 0, .int .i64 E]) (by simp [results, Tryd.results14, go_sem]) rfl ?_
    exact ⟨rfl, by first | exact HB.out | (rw [Hb0.out]; exact HB.out)⟩
  subst h0
  have hO : tlE x t = offE x.o x.lr x.zg t := if_pos hE
  by_cases h1 : tlE x t = 0
  case neg =>
    obtain ⟨F, hF⟩ : ∃ F, tlE x t = F := ⟨_, rfl⟩
    have hD := fun (W : World) (hb : Below W1.heap.size W1 W) => zDay_calls x.o x.zA x.lr x.cr x.zg t W (HX.out.1.1.go hb) (HX.out.2.1.go hb)
    rw [show tlS x t = 0 from if_neg h1, show tlK x t = 0 from if_neg h1, show tlM x t = 0 from if_neg h1]
    rw [hF] at h1 hO ⊢
    have k0 : (F != 0) = true := by simp [h1]
    have hz1 : dayQ x.o x.lr x.zg t = 0 := if_neg (by rw [← hO]; exact h1)
    have hz2 : minQ x.o x.lr x.zg t = 0 := if_neg (by rw [← hO]; exact h1)
    rw [hz1, hz2, ← hO] at hD
    unfold zonC at hD
    have HD := Lib.hid hD
    clear hz1 hz2 hD h1 hF hE hO
    go_enter Tryd.func14, Tryd.ntmps14
    go_wp2_with fail
    refine HC.out.mono ?_
    rintro e w2 ⟨rfl, hb2⟩
    have hr2 := blk_below HX.out.2.2.1 hb2
    unfold tarRow at hr2
    replace c0 := cell_of_row w2 b0 0 _ _ _ hr2
    replace c1 := cell_of_row w2 b0 1 _ _ _ hr2
    have HY := Lib.hid (HD.out w2 hb2)
    have HB := Lib.hid (bnext HX.out.2.2.2 hb2)
    clear hb2 hr2 c2 c3 c4 c5 c6
    go_wp2_with fail
    refine HY.out.mono ?_
    rintro e w3 ⟨rfl, hb3⟩
    have HB3 := Lib.hid (bnext HB.out hb3)
    clear hb3
    go_wp2_with fail
    refine bodyPost_ret (v := .tuple #[.int .i64 0, .int .i64 0, .int .i64 0, .int .i64 F]) (by simp [results, Tryd.results14, go_sem]) rfl ?_
    exact ⟨rfl, by first | exact HB3.out | (rw [Hb0.out]; exact HB3.out)⟩
  obtain ⟨hok, hoff, hd⟩ := tlE_ok h1
  rw [show tlS x t = seasD x.gs x.lb (tlD x t) from if_pos h1, show tlK x t = kindD x.gh x.la (tlD x t) from if_pos h1, show tlM x t = (t + offV x.o x.lr x.zg t) % 86400 / 60 from if_pos h1, h1]
  have hD := fun (W : World) (hb : Below W1.heap.size W1 W) => zDay_calls x.o x.zA x.lr x.cr x.zg t W (HX.out.1.1.go hb) (HX.out.2.1.go hb)
  have hS := fun (W : World) (hb : Below W1.heap.size W1 W) => season_ok x.hA x.la x.ca x.gh x.sA x.lb x.cb x.gs (tlD x t) hok.2.1 hd W (HX.out.1.2.1.go hb) (HX.out.2.1.go hb)
  have hK := fun (W : World) (hb : Below W1.heap.size W1 W) => daysKind_ok x.hA x.la x.ca x.gh x.sA x.lb x.cb x.gs (tlD x t) hok.2.1 hd W (HX.out.1.2.1.go hb) (HX.out.2.1.go hb)
  rw [show dayQ x.o x.lr x.zg t = tlD x t from if_pos hoff, show minQ x.o x.lr x.zg t = (t + offV x.o x.lr x.zg t) % 86400 / 60 from if_pos hoff, hoff] at hD
  unfold zonC at hD
  unfold calC at hS hK
  obtain ⟨D, hDe⟩ : ∃ D, tlD x t = D := ⟨_, rfl⟩
  obtain ⟨M, hM⟩ : ∃ M, (t + offV x.o x.lr x.zg t) % 86400 / 60 = M := ⟨_, rfl⟩
  rw [hDe, hM] at hD
  rw [hDe] at hS hK ⊢
  rw [hM]
  obtain ⟨S, hSe⟩ : ∃ S, seasD x.gs x.lb D = S := ⟨_, rfl⟩
  obtain ⟨K, hKe⟩ : ∃ K, kindD x.gh x.la D = K := ⟨_, rfl⟩
  rw [hSe] at hS ⊢
  rw [hKe] at hK ⊢
  have HD := Lib.hid hD
  have HS := Lib.hid hS
  have HK := Lib.hid hK
  clear hok hoff hd hD hS hK hDe hM hSe hKe h1 hO hE
  go_enter Tryd.func14, Tryd.ntmps14
  go_wp2_with fail
  refine HC.out.mono ?_
  rintro e w2 ⟨rfl, hb2⟩
  have hr2 := blk_below HX.out.2.2.1 hb2
  unfold tarRow at hr2
  replace c0 := cell_of_row w2 b0 0 _ _ _ hr2
  replace c1 := cell_of_row w2 b0 1 _ _ _ hr2
  have HY := Lib.hid (HD.out w2 hb2)
  have HB := Lib.hid hb2
  clear hb2 hr2 c2 c3 c4 c5 c6
  go_wp2_with fail
  refine HY.out.mono ?_
  rintro e w3 ⟨rfl, hb3⟩
  have HB3 := Lib.hid (bnext HB.out hb3)
  have hr3 := blk_below HX.out.2.2.1 HB3.out
  unfold tarRow at hr3
  have c2 := cell_of_row w3 b0 2 _ _ _ hr3
  have c3 := cell_of_row w3 b0 3 _ _ _ hr3
  have HY3 := Lib.hid (HS.out w3 HB3.out)
  clear hb3 hr3 c0 c1
  go_wp2_with fail
  refine HY3.out.mono ?_
  rintro e w4 ⟨rfl, hb4⟩
  have HB4 := Lib.hid (bnext HB3.out hb4)
  have hr4 := blk_below HX.out.2.2.1 HB4.out
  unfold tarRow at hr4
  replace c2 := cell_of_row w4 b0 2 _ _ _ hr4
  replace c3 := cell_of_row w4 b0 3 _ _ _ hr4
  have HY4 := Lib.hid (HK.out w4 HB4.out)
  clear hb4 hr4
  go_wp2_with fail
  refine HY4.out.mono ?_
  rintro e w5 ⟨rfl, hb5⟩
  have HB5 := Lib.hid (bnext HX.out.2.2.2 (bnext HB4.out hb5))
  clear hb5
  go_wp2_with fail
  refine bodyPost_ret (v := .tuple #[.int .i64 S, .int .i64 K, .int .i64 M, .int .i64 0]) (by simp [results, Tryd.results14, go_sem]) rfl ?_
  exact ⟨rfl, by first | exact HB5.out | (rw [Hb0.out]; exact HB5.out)⟩
/-- An instant's plan, band, price, error. -/
noncomputable def atP (x : Tar) (t : Int) : Nat := (planV x.rr x.nr (tlS x t) (tlK x t)).toNat
noncomputable def atBd (x : Tar) (t : Int) : Int := bandV (x.pF (atP x t)).2.1 (x.gp (atP x t)) (tlM x t)
noncomputable def tatE (x : Tar) (t : Int) : Int := if tlE x t = 0 then (if atB x.vf t x.nv = true then 0 else 110) else tlE x t
noncomputable def tatB (x : Tar) (t : Int) : Int := if tatE x t = 0 then atBd x t else 0
noncomputable def tatP (x : Tar) (t : Int) : Int := if tatE x t = 0 then priV x.vf x.vp t x.nv (atBd x t) else 0
theorem band_in {n : Nat} {g : Nat → Nat → Int} (h : planOk n g) (m : Int) (hm : 0 ≤ m) : 0 ≤ bandV n g m ∧ bandV n g m ≤ 7 := by
  unfold bandV
  have hl := (swAt_spec g m n ⟨0, by have := h.1.1; omega, by rw [h.1.2.2]; exact hm⟩).1
  have := h.2 _ hl
  unfold swOk at this
  omega
set_option maxRecDepth 100000 in
set_option maxHeartbeats 16000000 in
theorem tarAt_calls (x : Tar) (t : Int) (w : World) (hT : RdTar w x) (hL : Lens w) :
    Calls Tryd.prog 13 #[tarV x, .int .i64 t] w fun e w' => e = .returned (.tuple #[.int .i64 (tatB x t), .int .i64 (tatP x t), .int .i64 (tatE x t)]) ∧ Below w.heap.size w w' := by
  obtain ⟨b0, hb0⟩ : ∃ b0, w.heap.size = b0 := ⟨_, rfl⟩
  have Hb0 := Lib.hid hb0
  obtain ⟨W1, hW1⟩ : ∃ W1, w.alloc (.cells (tarRow x) 54) = W1 := ⟨_, rfl⟩
  have hst : Below w.heap.size w W1 := hW1 ▸ bstep w _
  have hr : W1.heap[b0]? = some (.cells (tarRow x) 54 (0, 0)) := by rw [← hb0, ← hW1]; exact World.alloc_heap_new w _
  have hC := local_calls x t W1 (hT.go hst) (hL.go hst)
  obtain ⟨S, hS⟩ : ∃ S, tlS x t = S := ⟨_, rfl⟩
  obtain ⟨K, hK⟩ : ∃ K, tlK x t = K := ⟨_, rfl⟩
  obtain ⟨M, hM⟩ : ∃ M, tlM x t = M := ⟨_, rfl⟩
  obtain ⟨E, hE⟩ : ∃ E, tlE x t = E := ⟨_, rfl⟩
  rw [hS, hK, hM, hE] at hC
  unfold tarV at hC
  have HX := Lib.hid (And.intro (hT.go hst) (And.intro (hL.go hst) (And.intro hr hst)))
  unfold tarRow at hW1 hC hr
  have c0 := cell_of_row W1 b0 0 _ _ _ hr
  have c1 := cell_of_row W1 b0 1 _ _ _ hr
  have c2 := cell_of_row W1 b0 2 _ _ _ hr
  have c3 := cell_of_row W1 b0 3 _ _ _ hr
  have c4 := cell_of_row W1 b0 4 _ _ _ hr
  have c5 := cell_of_row W1 b0 5 _ _ _ hr
  have c6 := cell_of_row W1 b0 6 _ _ _ hr
  have HC := Lib.hid hC
  unfold tarV tarRow
  clear hst hr hC hT hL
  by_cases h0 : E = 0
  case neg =>
    have hl : tatE x t = E := by unfold tatE; rw [hE, if_neg h0]
    have k0 : (E != 0) = true := by simp [h0]
    rw [show tatB x t = 0 from if_neg (by rw [hl]; exact h0), show tatP x t = 0 from if_neg (by rw [hl]; exact h0), hl]
    clear h0 hl hE hS hK hM
    go_enter Tryd.func13, Tryd.ntmps13
    go_wp2_with fail
    refine HC.out.mono ?_
    rintro e w2 ⟨rfl, hb2⟩
    have HB := Lib.hid (bnext HX.out.2.2.2 hb2)
    clear hb2
    go_wp2_with fail
    go_ret3
    exact ⟨rfl, by first | exact HB.out | (rw [Hb0.out]; exact HB.out)⟩
  subst h0
  obtain ⟨hok, hoff, hd⟩ := tlE_ok hE
  have hSv : tlS x t = seasD x.gs x.lb (tlD x t) := if_pos hE
  have hKv : tlK x t = kindD x.gh x.la (tlD x t) := if_pos hE
  have hSi : 0 ≤ S ∧ S ≤ 99 := by rw [← hS, hSv]; exact seasD_in hok.2.1.2.2.2 _
  have hKi : 1 ≤ K ∧ K ≤ 4 := by rw [← hK, hKv]; exact kindD_in _ _ _
  have hMi : 0 ≤ M ∧ M < 1440 := by rw [← hM]; exact tlM_in x t
  have hpi := planV_in hok.2.2.1 S K
  obtain ⟨q, hq⟩ : ∃ q : Nat, planV x.rr x.nr S K = (q : Int) := ⟨(planV x.rr x.nr S K).toNat, by omega⟩
  have hqn : q < x.np := by omega
  have hpq : planOk (x.pF q).2.1 (x.gp q) := hok.2.2.1.2.2 q hqn
  have hbi := band_in hpq M hMi.1
  have hatP : atP x t = q := by unfold atP; rw [hS, hK, hq]; rfl
  have hatB : atBd x t = bandV (x.pF q).2.1 (x.gp q) M := by unfold atBd; rw [hatP, hM]
  obtain ⟨B, hB⟩ : ∃ B, bandV (x.pF q).2.1 (x.gp q) M = B := ⟨_, rfl⟩
  rw [hB] at hbi hatB
  have hPl := fun (W : World) (hb : Below W1.heap.size W1 W) => plan_calls x.pA x.np x.cp x.pF x.gp x.rA x.nr x.rc x.rr S K hok.2.2.1 hSi hKi W (HX.out.1.2.2.1.go hb) (HX.out.1.2.2.2.1.go hb)
  have hBd := fun (W : World) (hb : Below W1.heap.size W1 W) => band_calls (x.pF q).1 (x.pF q).2.1 (x.pF q).2.2 (x.gp q) M hpq hMi W ((HX.out.1.2.2.1.go hb).2.2.2.2 q hqn)
  have hPr := fun (W : World) (hb : Below W1.heap.size W1 W) => price_calls x.vA x.nv x.cv x.vf x.vF x.vp t B hok.2.2.2.1 hok.2.2.2.2.2 hbi W (HX.out.1.2.2.2.2.go hb)
  rw [hq] at hPl
  rw [hB] at hBd
  obtain ⟨b, off, hpa, hpl, hpc⟩ := HX.out.1.2.2.1.2.2.2.1.at_ hqn
  unfold slV at hpc
  obtain ⟨P1, hP1⟩ : ∃ z, (x.pF q).1 = z := ⟨_, rfl⟩
  obtain ⟨P2, hP2⟩ : ∃ z, (x.pF q).2.1 = z := ⟨_, rfl⟩
  obtain ⟨P3, hP3⟩ : ∃ z, (x.pF q).2.2 = z := ⟨_, rfl⟩
  rw [hP1, hP2, hP3] at hpc hBd
  have hpA : Value.slice x.pA x.np x.cp = .slice (some ⟨b, off, none⟩) x.np x.cp := by rw [hpa]
  have hte : tatE x t = if atB x.vf t x.nv = true then 0 else 110 := if_pos hE
  have htb : tatB x t = if tatE x t = 0 then B else 0 := by unfold tatB; rw [hatB]
  have htp : tatP x t = if tatE x t = 0 then priV x.vf x.vp t x.nv B else 0 := by unfold tatP; rw [hatB]
  obtain ⟨V, hV⟩ : ∃ V, atB x.vf t x.nv = V := ⟨_, rfl⟩
  obtain ⟨R, hR⟩ : ∃ R, priV x.vf x.vp t x.nv B = R := ⟨_, rfl⟩
  rw [hV] at hte hPr
  rw [hR] at hPr htp
  have HPl := Lib.hid hPl
  have HBd := Lib.hid hBd
  have HPr := Lib.hid hPr
  have HHpc := Lib.hid hpc
  have HpA := Lib.hid hpA
  clear hpa hpA
  have hq0 : (0 : Int) ≤ (q : Int) := by omega
  have hq1 : (q : Int) < (x.np : Int) := by omega
  rw [htb, htp, hte]
  clear hok hoff hd hSv hKv hSi hKi hMi hpi hq hqn hpq hbi hatP hatB hB hPl hBd hPr hpl hP1 hP2 hP3 htb htp hte hV hR hS hK hM hE
  cases V
  all_goals
    first
    | rw [if_pos rfl, if_pos rfl, if_pos rfl]
    | rw [show (if (if false = true then (0 : Int) else 110) = 0 then B else 0) = 0 from rfl, show (if (if false = true then (0 : Int) else 110) = 0 then R else 0) = 0 from rfl, show (if false = true then (0 : Int) else 110) = 110 from rfl]
    go_enter Tryd.func13, Tryd.ntmps13
    go_wp2_with fail
    refine HC.out.mono ?_
    rintro e w2 ⟨rfl, hb2⟩
    have hr2 := blk_below HX.out.2.2.1 hb2
    unfold tarRow at hr2
    replace c4 := cell_of_row w2 b0 4 _ _ _ hr2
    replace c5 := cell_of_row w2 b0 5 _ _ _ hr2
    have HY := Lib.hid (HPl.out w2 hb2)
    have HB := Lib.hid hb2
    clear hb2 hr2 c0 c1 c2 c3 c6
    go_wp2_with fail
    refine HY.out.mono ?_
    rintro e w3 ⟨rfl, hb3⟩
    have HB3 := Lib.hid (bnext HB.out hb3)
    have hr3 := blk_below HX.out.2.2.1 HB3.out
    unfold tarRow at hr3
    rw [HpA.out] at hr3
    replace c4 := cell_of_row w3 b0 4 _ _ _ hr3
    have cp := cell_go HHpc.out HB3.out
    have HY3 := Lib.hid (HBd.out w3 HB3.out)
    clear hb3 hr3 c5 hpc
    go_wp2_with fail
    refine HY3.out.mono ?_
    rintro e w4 ⟨rfl, hb4⟩
    have HB4 := Lib.hid (bnext HB3.out hb4)
    have hr4 := blk_below HX.out.2.2.1 HB4.out
    unfold tarRow at hr4
    have c6 := cell_of_row w4 b0 6 _ _ _ hr4
    have HY4 := Lib.hid (HPr.out w4 HB4.out)
    clear hb4 hr4 c4 cp
    go_wp2_with fail
    refine HY4.out.mono ?_
    rintro e w5 ⟨rfl, hb5⟩
    have HB5 := Lib.hid (bnext HX.out.2.2.2 (bnext HB4.out hb5))
    clear hb5
    go_wp2_with fail
    go_ret3
    exact ⟨rfl, by first | exact HB5.out | (rw [Hb0.out]; exact HB5.out)⟩
end Go.Proofs.YtgbkedjjgbhcmaaDoor

/-
  The chapter's tariff: some, is, walked. Conditions stand at each theorem.
-/
namespace Go.Proofs.YtgbkedjjgbhcmaaDoor
open Go Go.RowKit Go.Kw Go.Kw.Cv Go.Shelf
set_option linter.unusedVariables false
set_option linter.unusedSimpArgs false

/-- The chapter's tariff, its parts in the blocks behind b; the first version's From, and how many of its prices. -/
def someX (b : Nat) (f : Int) (k : Nat) : Tar :=
  { o := 3600, zA := none, lr := 0, cr := 0, zg := fun _ _ => 0, hA := none, la := 0, ca := 0, gh := fun _ _ => 0, sA := none, lb := 0, cb := 0, gs := fun _ _ => 0,
    pA := some ⟨b + 3, 0, none⟩, np := 2, cp := 2, pF := fun i => if i = 0 then (some ⟨b + 1, 0, none⟩, 2, 2) else (some ⟨b + 2, 0, none⟩, 1, 1),
    gp := fun i k j => if i = 0 ∧ k = 1 then (if j = 0 then 360 else 1) else 0, rA := some ⟨b + 4, 0, none⟩, nr := 1, rc := 1, rr := fun _ j => if j = 1 then 3 else if j = 2 then 1 else 0,
    vA := some ⟨b + 6, 0, none⟩, nv := 1, cv := 1, vf := fun _ => f, vF := fun _ => (some ⟨b + 5, 0, none⟩, k, 8), vp := fun _ j => if j = 0 then 100 else if j = 1 then 250 else 0 }
def SomeRows (W : World) (b : Nat) (f : Int) (k : Nat) : Prop :=
  W.heap[b + 1]? = some (.cells #[.int .i64 0, .int .i64 0, .int .i64 360, .int .i64 1] 82 (0, 0)) ∧ W.heap[b + 2]? = some (.cells #[.int .i64 0, .int .i64 0] 82 (0, 0)) ∧
  W.heap[b + 3]? = some (.cells #[.slice (some ⟨b + 1, 0, none⟩) 2 2, .slice (some ⟨b + 2, 0, none⟩) 1 1] 83 (0, 0)) ∧ W.heap[b + 4]? = some (.cells #[.int .i64 0, .int .i64 3, .int .i64 1] 85 (0, 0)) ∧
  W.heap[b + 5]? = some (.cells #[.int .i64 100, .int .i64 250, .int .i64 0, .int .i64 0, .int .i64 0, .int .i64 0, .int .i64 0, .int .i64 0] 2 (0, 0)) ∧ W.heap[b + 6]? = some (.cells #[.int .i64 f, .slice (some ⟨b + 5, 0, none⟩) k 8] 58 (0, 0))
theorem SomeRows.go {W W' : World} {b : Nat} {f : Int} {k : Nat} (h : SomeRows W b f k) (hb : Below W.heap.size W W') : SomeRows W' b f k :=
  ⟨blk_below h.1 hb, blk_below h.2.1 hb, blk_below h.2.2.1 hb, blk_below h.2.2.2.1 hb, blk_below h.2.2.2.2.1 hb, blk_below h.2.2.2.2.2 hb⟩
theorem irows_none (n : Nat) (w : World) (g : Nat → Nat → Int) : IRows n kI w none 0 0 g := ⟨Nat.le_refl _, Nat.zero_le _, fun _ => rfl, .inl (by omega), fun r j h => absurd h (Nat.not_lt_zero _)⟩
theorem irows_of {n : Nat} {w : World} {b : Nat} {cs : Array Value} {t : TypeId} {len cap : Nat} {g : Nat → Nat → Int} (h : w.heap[b]? = some (.cells cs t (0, 0))) (hl : len ≤ cap) (hc : cap ≤ maxLen)
    (hcs : ∀ i, i < len * n → cs[i]? = some (.int .i64 (g (i / n) (i % n)))) (hw : ∀ r j, r < len → j < n → (Lit.int .i64 (g r j)).wf = true) : IRows n kI w (some ⟨b, 0, none⟩) len cap g := by
  refine ⟨hl, hc, ?_, ?_, hw⟩
  · intro h; cases h
  · refine Or.inr ⟨b, 0, rfl, blk_lt h, fun i hi => ?_⟩
    rw [Nat.zero_add]
    exact blk_cell h i (hcs i hi)
theorem SomeRows.rd {W : World} {b : Nat} {f : Int} {k : Nat} (h : SomeRows W b f k) (hk : k ≤ 8) (hf : (Lit.int .i64 f).wf = true) : RdTar W (someX b f k) := by
  obtain ⟨h1, h2, h3, h4, h5, h6⟩ := h
  refine ⟨irows_none _ _ _, ⟨irows_none _ _ _, irows_none _ _ _⟩, ⟨Nat.le_refl _, by show 2 ≤ maxLen; unfold maxLen; omega, (fun h => by cases h), ?_, ?_⟩, ?_, ⟨Nat.le_refl _, by show 1 ≤ maxLen; unfold maxLen; omega, (fun h => by cases h), ?_, ?_⟩⟩
  · refine .inr ⟨b + 3, 0, rfl, blk_lt h3, fun i hi => ?_⟩
    have hi2 : i < 2 := hi
    rcases (by omega : i = 0 ∨ i = 1) with rfl | rfl
    · exact blk_cell h3 0 rfl
    · exact blk_cell h3 1 rfl
  · intro i hi
    have hi2 : i < 2 := hi
    rcases (by omega : i = 0 ∨ i = 1) with rfl | rfl
    · refine irows_of h1 (by show 2 ≤ 2; omega) (by show 2 ≤ maxLen; unfold maxLen; omega) (fun i hi => ?_) (fun r j hr hj => ?_)
      · have hi2 : i < 4 := hi
        rcases (by omega : i = 0 ∨ i = 1 ∨ i = 2 ∨ i = 3) with rfl | rfl | rfl | rfl <;> rfl
      · have hr2 : r < 2 := hr
        rcases (by omega : r = 0 ∨ r = 1) with rfl | rfl <;> rcases (by omega : j = 0 ∨ j = 1) with rfl | rfl <;> rfl
    · refine irows_of h2 (by show 1 ≤ 1; omega) (by show 1 ≤ maxLen; unfold maxLen; omega) (fun i hi => ?_) (fun r j hr hj => ?_)
      · have hi2 : i < 2 := hi
        rcases (by omega : i = 0 ∨ i = 1) with rfl | rfl <;> rfl
      · have hr2 : r < 1 := hr
        obtain rfl : r = 0 := by omega
        rcases (by omega : j = 0 ∨ j = 1) with rfl | rfl <;> rfl
  · refine irows_of h4 (by show 1 ≤ 1; omega) (by show 1 ≤ maxLen; unfold maxLen; omega) (fun i hi => ?_) (fun r j hr hj => ?_)
    · have hi2 : i < 3 := hi
      rcases (by omega : i = 0 ∨ i = 1 ∨ i = 2) with rfl | rfl | rfl <;> rfl
    · have hr2 : r < 1 := hr
      obtain rfl : r = 0 := by omega
      rcases (by omega : j = 0 ∨ j = 1 ∨ j = 2) with rfl | rfl | rfl <;> rfl
  · refine .inr ⟨b + 6, 0, rfl, blk_lt h6, fun i hi => ?_⟩
    have hi2 : i < 2 := hi
    rcases (by omega : i = 0 ∨ i = 1) with rfl | rfl
    · exact blk_cell h6 0 rfl
    · exact blk_cell h6 1 rfl
  · intro i hi
    refine irows_of h5 (by show k ≤ 8; exact hk) (by show 8 ≤ maxLen; unfold maxLen; omega) (fun i hi => ?_) (fun r j hr hj => ?_)
    · have hi2 : i < 8 := by have : i < k * 1 := hi; omega
      rcases (by omega : i = 0 ∨ i = 1 ∨ i = 2 ∨ i = 3 ∨ i = 4 ∨ i = 5 ∨ i = 6 ∨ i = 7) with rfl | rfl | rfl | rfl | rfl | rfl | rfl | rfl <;> rfl
    · have hr2 : r < 8 := by have : r < k := hr; omega
      rcases (by omega : r = 0 ∨ r = 1 ∨ r = 2 ∨ r = 3 ∨ r = 4 ∨ r = 5 ∨ r = 6 ∨ r = 7) with rfl | rfl | rfl | rfl | rfl | rfl | rfl | rfl <;> rfl
theorem some_world (w W : World) (b0 : Nat) (hb0 : w.heap.size = b0) (hW : (((((((w.alloc (.cells #[.int .i64 3600, .slice none 0 0, .slice none 0 0, .slice none 0 0, .slice (some ⟨b0 + 1 + 1 + 1, 0, none⟩) 2 2, .slice (some ⟨b0 + 1 + 1 + 1 + 1, 0, none⟩) 1 1, .slice (some ⟨b0 + 1 + 1 + 1 + 1 + 1 + 1, 0, none⟩) 1 1] 54)).alloc (.cells #[.int .i64 0, .int .i64 0, .int .i64 360, .int .i64 1] 82)).alloc (.cells #[.int .i64 0, .int .i64 0] 82)).alloc (.cells #[.slice (some ⟨b0 + 1, 0, none⟩) 2 2, .slice (some ⟨b0 + 1 + 1, 0, none⟩) 1 1] 83)).alloc (.cells #[.int .i64 0, .int .i64 3, .int .i64 1] 85)).alloc (.cells #[.int .i64 100, .int .i64 250, .int .i64 0, .int .i64 0, .int .i64 0, .int .i64 0, .int .i64 0, .int .i64 0] 2)).alloc (.cells #[.int .i64 0, .slice (some ⟨b0 + 1 + 1 + 1 + 1 + 1, 0, none⟩) 8 8] 58)) = W) :
    SomeRows W b0 0 8 ∧ Below w.heap.size w W ∧ W.heap[b0]? = some (.cells #[.int .i64 3600, .slice none 0 0, .slice none 0 0, .slice none 0 0, .slice (some ⟨b0 + 1 + 1 + 1, 0, none⟩) 2 2, .slice (some ⟨b0 + 1 + 1 + 1 + 1, 0, none⟩) 1 1, .slice (some ⟨b0 + 1 + 1 + 1 + 1 + 1 + 1, 0, none⟩) 1 1] 54 (0, 0)) := by
  obtain ⟨w1, h1⟩ : ∃ x, w.alloc (.cells #[.int .i64 3600, .slice none 0 0, .slice none 0 0, .slice none 0 0, .slice (some ⟨b0 + 1 + 1 + 1, 0, none⟩) 2 2, .slice (some ⟨b0 + 1 + 1 + 1 + 1, 0, none⟩) 1 1, .slice (some ⟨b0 + 1 + 1 + 1 + 1 + 1 + 1, 0, none⟩) 1 1] 54) = x := ⟨_, rfl⟩
  rw [h1] at hW
  have s1 : w1.heap.size = b0 + 1 := by rw [← h1, World.size_alloc, hb0]
  have t1 : Below w.heap.size w w1 := h1 ▸ bstep w _
  have r1 : w1.heap[b0]? = some (.cells #[.int .i64 3600, .slice none 0 0, .slice none 0 0, .slice none 0 0, .slice (some ⟨b0 + 1 + 1 + 1, 0, none⟩) 2 2, .slice (some ⟨b0 + 1 + 1 + 1 + 1, 0, none⟩) 1 1, .slice (some ⟨b0 + 1 + 1 + 1 + 1 + 1 + 1, 0, none⟩) 1 1] 54 (0, 0)) := by have h := World.alloc_heap_new w (.cells #[.int .i64 3600, .slice none 0 0, .slice none 0 0, .slice none 0 0, .slice (some ⟨b0 + 1 + 1 + 1, 0, none⟩) 2 2, .slice (some ⟨b0 + 1 + 1 + 1 + 1, 0, none⟩) 1 1, .slice (some ⟨b0 + 1 + 1 + 1 + 1 + 1 + 1, 0, none⟩) 1 1] 54); rw [h1, hb0] at h; exact h
  obtain ⟨w2, h2⟩ : ∃ x, w1.alloc (.cells #[.int .i64 0, .int .i64 0, .int .i64 360, .int .i64 1] 82) = x := ⟨_, rfl⟩
  rw [h2] at hW
  have s2 : w2.heap.size = b0 + 1 + 1 := by rw [← h2, World.size_alloc, s1]
  have t2 : Below w1.heap.size w1 w2 := h2 ▸ bstep w1 _
  have r2 : w2.heap[b0 + 1]? = some (.cells #[.int .i64 0, .int .i64 0, .int .i64 360, .int .i64 1] 82 (0, 0)) := by have h := World.alloc_heap_new w1 (.cells #[.int .i64 0, .int .i64 0, .int .i64 360, .int .i64 1] 82); rw [h2, s1] at h; exact h
  obtain ⟨w3, h3⟩ : ∃ x, w2.alloc (.cells #[.int .i64 0, .int .i64 0] 82) = x := ⟨_, rfl⟩
  rw [h3] at hW
  have s3 : w3.heap.size = b0 + 1 + 1 + 1 := by rw [← h3, World.size_alloc, s2]
  have t3 : Below w2.heap.size w2 w3 := h3 ▸ bstep w2 _
  have r3 : w3.heap[b0 + 1 + 1]? = some (.cells #[.int .i64 0, .int .i64 0] 82 (0, 0)) := by have h := World.alloc_heap_new w2 (.cells #[.int .i64 0, .int .i64 0] 82); rw [h3, s2] at h; exact h
  obtain ⟨w4, h4⟩ : ∃ x, w3.alloc (.cells #[.slice (some ⟨b0 + 1, 0, none⟩) 2 2, .slice (some ⟨b0 + 1 + 1, 0, none⟩) 1 1] 83) = x := ⟨_, rfl⟩
  rw [h4] at hW
  have s4 : w4.heap.size = b0 + 1 + 1 + 1 + 1 := by rw [← h4, World.size_alloc, s3]
  have t4 : Below w3.heap.size w3 w4 := h4 ▸ bstep w3 _
  have r4 : w4.heap[b0 + 1 + 1 + 1]? = some (.cells #[.slice (some ⟨b0 + 1, 0, none⟩) 2 2, .slice (some ⟨b0 + 1 + 1, 0, none⟩) 1 1] 83 (0, 0)) := by have h := World.alloc_heap_new w3 (.cells #[.slice (some ⟨b0 + 1, 0, none⟩) 2 2, .slice (some ⟨b0 + 1 + 1, 0, none⟩) 1 1] 83); rw [h4, s3] at h; exact h
  obtain ⟨w5, h5⟩ : ∃ x, w4.alloc (.cells #[.int .i64 0, .int .i64 3, .int .i64 1] 85) = x := ⟨_, rfl⟩
  rw [h5] at hW
  have s5 : w5.heap.size = b0 + 1 + 1 + 1 + 1 + 1 := by rw [← h5, World.size_alloc, s4]
  have t5 : Below w4.heap.size w4 w5 := h5 ▸ bstep w4 _
  have r5 : w5.heap[b0 + 1 + 1 + 1 + 1]? = some (.cells #[.int .i64 0, .int .i64 3, .int .i64 1] 85 (0, 0)) := by have h := World.alloc_heap_new w4 (.cells #[.int .i64 0, .int .i64 3, .int .i64 1] 85); rw [h5, s4] at h; exact h
  obtain ⟨w6, h6⟩ : ∃ x, w5.alloc (.cells #[.int .i64 100, .int .i64 250, .int .i64 0, .int .i64 0, .int .i64 0, .int .i64 0, .int .i64 0, .int .i64 0] 2) = x := ⟨_, rfl⟩
  rw [h6] at hW
  have s6 : w6.heap.size = b0 + 1 + 1 + 1 + 1 + 1 + 1 := by rw [← h6, World.size_alloc, s5]
  have t6 : Below w5.heap.size w5 w6 := h6 ▸ bstep w5 _
  have r6 : w6.heap[b0 + 1 + 1 + 1 + 1 + 1]? = some (.cells #[.int .i64 100, .int .i64 250, .int .i64 0, .int .i64 0, .int .i64 0, .int .i64 0, .int .i64 0, .int .i64 0] 2 (0, 0)) := by have h := World.alloc_heap_new w5 (.cells #[.int .i64 100, .int .i64 250, .int .i64 0, .int .i64 0, .int .i64 0, .int .i64 0, .int .i64 0, .int .i64 0] 2); rw [h6, s5] at h; exact h
  have s7 : W.heap.size = b0 + 1 + 1 + 1 + 1 + 1 + 1 + 1 := by rw [← hW, World.size_alloc, s6]
  have t7 : Below w6.heap.size w6 W := hW ▸ bstep w6 _
  have r7 : W.heap[b0 + 1 + 1 + 1 + 1 + 1 + 1]? = some (.cells #[.int .i64 0, .slice (some ⟨b0 + 1 + 1 + 1 + 1 + 1, 0, none⟩) 8 8] 58 (0, 0)) := by have h := World.alloc_heap_new w6 (.cells #[.int .i64 0, .slice (some ⟨b0 + 1 + 1 + 1 + 1 + 1, 0, none⟩) 8 8] 58); rw [hW, s6] at h; exact h
  have u6 := t7
  have u5 := bnext t6 u6
  have u4 := bnext t5 u5
  have u3 := bnext t4 u4
  have u2 := bnext t3 u3
  have u1 := bnext t2 u2
  exact ⟨⟨blk_below r2 u2, blk_below r3 u3, blk_below r4 u4, blk_below r5 u5, blk_below r6 u6, r7⟩, bnext t1 u1, blk_below r1 u1⟩
/-- The tariff that 'some' makes. -/
def SomeOut (w : World) (e : Ending) (w' : World) : Prop := ∃ b, w.heap.size ≤ b ∧ e = .returned (tarV (someX b 0 8)) ∧ SomeRows w' b 0 8 ∧ Below w.heap.size w w'
set_option maxRecDepth 100000 in
set_option maxHeartbeats 16000000 in
theorem some_calls (w : World) : Calls Tryd.prog 12 #[] w (SomeOut w) := by
  obtain ⟨b0, hb0⟩ : ∃ b0, w.heap.size = b0 := ⟨_, rfl⟩
  have Hb0 := Lib.hid hb0
  go_enter Tryd.func12, Tryd.ntmps12
  go_wp2_with fail
  obtain ⟨W7, hW7⟩ : ∃ W, (((((((w.alloc (.cells #[.int .i64 3600, .slice none 0 0, .slice none 0 0, .slice none 0 0, .slice (some ⟨b0 + 1 + 1 + 1, 0, none⟩) 2 2, .slice (some ⟨b0 + 1 + 1 + 1 + 1, 0, none⟩) 1 1, .slice (some ⟨b0 + 1 + 1 + 1 + 1 + 1 + 1, 0, none⟩) 1 1] 54)).alloc (.cells #[.int .i64 0, .int .i64 0, .int .i64 360, .int .i64 1] 82)).alloc (.cells #[.int .i64 0, .int .i64 0] 82)).alloc (.cells #[.slice (some ⟨b0 + 1, 0, none⟩) 2 2, .slice (some ⟨b0 + 1 + 1, 0, none⟩) 1 1] 83)).alloc (.cells #[.int .i64 0, .int .i64 3, .int .i64 1] 85)).alloc (.cells #[.int .i64 100, .int .i64 250, .int .i64 0, .int .i64 0, .int .i64 0, .int .i64 0, .int .i64 0, .int .i64 0] 2)).alloc (.cells #[.int .i64 0, .slice (some ⟨b0 + 1 + 1 + 1 + 1 + 1, 0, none⟩) 8 8] 58)) = W := ⟨_, rfl⟩
  obtain ⟨hS, hB, hr⟩ := some_world w W7 b0 hb0 hW7
  rw [hW7]
  have d0 := cell_of_row W7 b0 0 _ _ _ hr
  have d1 := cell_of_row W7 b0 1 _ _ _ hr
  have d2 := cell_of_row W7 b0 2 _ _ _ hr
  have d3 := cell_of_row W7 b0 3 _ _ _ hr
  have d4 := cell_of_row W7 b0 4 _ _ _ hr
  have d5 := cell_of_row W7 b0 5 _ _ _ hr
  have d6 := cell_of_row W7 b0 6 _ _ _ hr
  refine bodyPost_ret (v := tarV (someX b0 0 8)) ?_ rfl ⟨b0, by omega, rfl, hS, hB⟩
  unfold tarV tarRow someX
  simp [results, Tryd.results12, go_sem, d0, d1, d2, d3, d4, d5, d6]
end Go.Proofs.YtgbkedjjgbhcmaaDoor
