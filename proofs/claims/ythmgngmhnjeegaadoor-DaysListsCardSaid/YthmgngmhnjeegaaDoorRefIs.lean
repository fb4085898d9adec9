/-
  The document's word on whether a day is a holiday, its kind: walked. Conditions stand at each theorem.
-/
import Derived.Test.YthmgngmhnjeegaaDoorRefOne
namespace Go.Proofs.YthmgngmhnjeegaaDoor
open Go Go.RowKit Go.Kw Go.Kw.Cv Go.Shelf
set_option linter.unusedVariables false
set_option linter.unusedSimpArgs false

set_option maxRecDepth 100000 in
set_option maxHeartbeats 8000000 in
theorem refIs_calls (A : Option Addr) (la ca : Nat) (gh : Nat → Nat → Int) (B : Option Addr) (lb cb : Nat) (gs : Nat → Nat → Int) (hall0 : ∀ i, i < la → holOk gh i) (n : Int) (hn : 0 ≤ n ∧ n ≤ 2932896) (w : World) (hR : RdCal w A la ca gh B lb cb gs) :
    Calls Tryd.prog 21 #[calC A la ca B lb cb, .int .i64 n] w fun e w' => e = .returned (.bool (isF gh la n)) ∧ Below w.heap.size w w' := by
  obtain ⟨hok, hday⟩ := dOf_spec n hn
  have hF1 := isF_day gh la hok
  have hF2 := fe_one gh la hall0 _ _ _ hok
  obtain ⟨y, hy⟩ : ∃ y, (dOf n).1 = y := ⟨_, rfl⟩
  obtain ⟨m, hm⟩ : ∃ m, (dOf n).2.1 = m := ⟨_, rfl⟩
  obtain ⟨d, hd⟩ : ∃ d, (dOf n).2.2 = d := ⟨_, rfl⟩
  rw [hy, hm, hd] at hok hday hF1 hF2
  rw [hday] at hF1 hF2
  rw [hF1]
  have Hall0 := Lib.hid hall0
  have HF2 := Lib.hid hF2
  have Hok := Lib.hid hok
  have Hday := Lib.hid hday
  clear hF1 hF2 hy hm hd hall0 hok hday
  obtain ⟨b0, hb0⟩ : ∃ b0, w.heap.size = b0 := ⟨_, rfl⟩
  have Hb0 := Lib.hid hb0
  have hrow := World.alloc_heap_new w (.cells #[.slice A la ca, .slice B lb cb] 35)
  have hB1 := bstep w (.cells #[.slice A la ca, .slice B lb cb] 35)
  have hs1 : b0 + 1 ≤ (w.alloc (.cells #[.slice A la ca, .slice B lb cb] 35)).heap.size := by simp [hb0]
  rw [hb0] at hrow hB1
  have HR := Lib.hid hR
  have Hlen := Lib.hid (show la ≤ 9223372036854775807 by have h1 := hR.1.1; have h2 := hR.1.2.1; have h3 : maxLen = 9223372036854775807 := rfl; omega)
  unfold calC
  clear hR
  go_enter Tryd.func21, Tryd.ntmps21
  go_wp2_with fail
  go_loopw [5] (fun i wr => ∃ k : Nat, k ≤ la ∧ i = .int .i64 k ∧ (∀ j, j < k → ¬ oneH gh j y m d) ∧ Below b0 w wr ∧ b0 + 1 ≤ wr.heap.size ∧ wr.heap[b0]? = some (.cells #[.slice A la ca, .slice B lb cb] 35 (0, 0))) (fun i _ => la - (intOf i).toNat)
  case atStart => exact ⟨0, by omega, rfl, fun j hj => absurd hj (by omega), hB1, hs1, hrow⟩
  case round =>
    obtain ⟨k, hk, rfl, hall, hB, hs, hr⟩ := hrel
    have e0 := cell_of_row wr b0 0 _ _ _ hr
    by_cases hlt : k < la
    · have hI : (k : Int) < la := by omega
      obtain ⟨sb, off, rfl, hsb, hc⟩ := HR.out.1.at_ (by omega) hlt
      have hsb0 : sb < b0 := by have := Hb0.out; omega
      have hc' : ∀ j, j < 6 → wr.cell? ⟨sb, off + k * 6 + j, none⟩ = some (.int .i64 (gh k j)) := fun j hj => (hB.cell (p := ⟨sb, off + k * 6 + j, none⟩) hsb0).trans (hc j hj)
      have c0 : wr.cell? ⟨sb, off + k * 6, none⟩ = some (.int .i64 (gh k 0)) := hc' 0 (by omega)
      have c1 := hc' 1 (by omega)
      have c2 := hc' 2 (by omega)
      have c3 := hc' 3 (by omega)
      have c4 := hc' 4 (by omega)
      have c5 := hc' 5 (by omega)
      have w1 : IntKind.i64.wrap ((k : Int) + 1) = (k : Int) + 1 := i64_same _ (by have := Hlen.out; omega)
      have X1 := Lib.hid (wrap64_in ((k : Int) + 1) (by have := Hlen.out; omega))
      have hM := one_calls (gh k 0) (gh k 1) (gh k 2) (gh k 3) (gh k 4) (gh k 5) y m d (Hall0.out k hlt) Hok.out
      rw [Hday.out] at hM
      have Hk := Lib.hid (show k + 1 ≤ la from hlt)
      by_cases hone : oneH gh k y m d
      · have HM := Lib.hid (hM true ⟨fun _ => hone, fun _ => rfl⟩)
        have HY := Lib.hid (show decide (n ∈ feastL gh la y) = true from decide_eq_true (HF2.out.2 ⟨k, hlt, hone⟩))
        clear hc hc' hM hone hall hk hlt
        go_wp2_with fail
        refine (HM.out _).mono ?_
        rintro e w2 ⟨rfl, hb2⟩
        have hB2 := hB.trans (hb2.mono (by omega))
        go_wp2_with fail
        go_ret
        rw [HY.out]
        exact ⟨rfl, by first | exact hB2 | (rw [Hb0.out]; exact hB2)⟩
      · have HM := Lib.hid (hM false ⟨fun h => absurd h Bool.false_ne_true, fun h => absurd h hone⟩)
        have HN := Lib.hid (show ∀ j, j < k + 1 → ¬ oneH gh j y m d from fun j hj => by
          by_cases e : j = k
          · rw [e]; exact hone
          · exact hall j (by omega))
        clear hc hc' hM hone hall hk hlt
        have x1 := X1.out
        go_wp2_with fail
        refine (HM.out _).mono ?_
        rintro e w2 ⟨rfl, hb2⟩
        have hB2 := hB.trans (hb2.mono (by omega))
        have hs2 := Nat.le_trans hs hb2.size
        have hr2 := blk_below hr hb2
        go_wp2_with fail
        clear x1
        exact ⟨⟨k + 1, Hk.out, by push_cast; rfl, HN.out, hB2, hs2, hr2⟩, meas_step la k Hk.out⟩
    · obtain rfl : k = la := by omega
      have hI : ¬ ((k : Int) < k) := by omega
      have HNo := Lib.hid (show decide (n ∈ feastL gh k y) = false from decide_eq_false (fun h => (HF2.out.1 h).elim fun i hi => hall i hi.1 hi.2))
      clear hall hk hlt
      go_wp2_with fail
      go_ret
      rw [HNo.out]
      exact ⟨rfl, by first | exact hB | (rw [Hb0.out]; exact hB)⟩
theorem kindB_t (w : Int) : kindB true w = 4 := rfl
theorem kindB_7 : kindB false 7 = 3 := rfl
theorem kindB_6 : kindB false 6 = 2 := rfl
theorem kindB_no (w : Int) (h7 : w ≠ 7) (h6 : w ≠ 6) : kindB false w = 1 := by unfold kindB; rw [if_neg (by decide), if_neg h7, if_neg h6]
set_option maxRecDepth 100000 in
set_option maxHeartbeats 8000000 in
theorem refKind_calls (A : Option Addr) (la ca : Nat) (gh : Nat → Nat → Int) (B : Option Addr) (lb cb : Nat) (gs : Nat → Nat → Int) (hall0 : ∀ i, i < la → holOk gh i) (n : Int) (hn : 0 ≤ n ∧ n ≤ 2932896) (w : World) (hR : RdCal w A la ca gh B lb cb gs) :
    Calls Tryd.prog 22 #[calC A la ca B lb cb, .int .i64 n] w fun e w' => e = .returned (.int .i64 (kindD gh la n)) ∧ Below w.heap.size w w' := by
  have HW := refWeekday_calls n
  have hst := bstep w (.cells #[.slice A la ca, .slice B lb cb] 35)
  have HI := refIs_calls A la ca gh B lb cb gs hall0 n hn _ (hR.go hst)
  unfold kindD
  obtain ⟨b, hb⟩ : ∃ b, isF gh la n = b := ⟨_, rfl⟩
  obtain ⟨W, hW⟩ : ∃ W, wdN n = W := ⟨_, rfl⟩
  rw [hb] at HI ⊢
  rw [hW] at HW ⊢
  clear hb hW
  unfold calC at HI ⊢
  replace HW := Lib.hid HW
  replace HI := Lib.hid HI
  clear hR
  cases b with
  | true =>
    rw [kindB_t]
    go_enter Tryd.func22, Tryd.ntmps22
    go_wp2_with fail
    refine (HW.out _).mono ?_
    rintro e w1 ⟨rfl, rfl⟩
    go_wp2_with fail
    refine HI.out.mono ?_
    rintro e w2 ⟨rfl, hb2⟩
    go_wp2_with fail
    go_ret
    exact ⟨rfl, bnext hst hb2⟩
  | false =>
    by_cases h7 : W = 7
    · subst h7
      rw [kindB_7]
      go_enter Tryd.func22, Tryd.ntmps22
      go_wp2_with fail
      refine (HW.out _).mono ?_
      rintro e w1 ⟨rfl, rfl⟩
      go_wp2_with fail
      refine HI.out.mono ?_
      rintro e w2 ⟨rfl, hb2⟩
      go_wp2_with fail
      go_ret
      exact ⟨rfl, bnext hst hb2⟩
    · by_cases h6 : W = 6
      · subst h6
        rw [kindB_6]
        clear h7
        go_enter Tryd.func22, Tryd.ntmps22
        go_wp2_with fail
        refine (HW.out _).mono ?_
        rintro e w1 ⟨rfl, rfl⟩
        go_wp2_with fail
        refine HI.out.mono ?_
        rintro e w2 ⟨rfl, hb2⟩
        go_wp2_with fail
        go_ret
        exact ⟨rfl, bnext hst hb2⟩
      · rw [kindB_no W h7 h6]
        have k7 : (W == 7) = false := beq_eq_false_iff_ne.2 h7
        have k6 : (W == 6) = false := beq_eq_false_iff_ne.2 h6
        clear h7 h6
        go_enter Tryd.func22, Tryd.ntmps22
        go_wp2_with fail
        refine (HW.out _).mono ?_
        rintro e w1 ⟨rfl, rfl⟩
        go_wp2_with fail
        refine HI.out.mono ?_
        rintro e w2 ⟨rfl, hb2⟩
        go_wp2_with fail
        go_ret
        exact ⟨rfl, bnext hst hb2⟩
end Go.Proofs.YthmgngmhnjeegaaDoor
