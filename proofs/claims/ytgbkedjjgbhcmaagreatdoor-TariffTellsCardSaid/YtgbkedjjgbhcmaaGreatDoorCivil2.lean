/-
  A date's day, walked: the days ahead of a year, the months' iterator, Day, Weekday. Conditions stand at each theorem.
-/
import Derived.Test.YtgbkedjjgbhcmaaGreatDoorCivil1
import Derived.Shelf.RegionOpen
import Derived.TacticsInMore
import Derived.LoopNIn
import Derived.LoopIn
import Derived.BigRegionIn
import Derived.Stop.RegionWithIn
namespace Go.Proofs.YtgbkedjjgbhcmaaGreatDoor
open Go Go.RowKit Go.Kw Go.Kw.Cv Go.Shelf
attribute [local go_sem] Oper.semAt_some
set_option linter.unusedVariables false
set_option linter.unusedSimpArgs false

set_option maxHeartbeats 4000000 in
theorem leaps_calls (n : Int) (hn : 0 ≤ n ∧ n ≤ 1000000) (w : World) : Calls Tryz.prog 100 #[.int .i64 n] w fun e w' => e = .returned (.int .i64 (n / 4 - n / 100 + n / 400)) ∧ w' = w := by
  have e4 : n.tdiv 4 = n / 4 := Int.tdiv_eq_ediv_of_nonneg hn.1
  have e1 : n.tdiv 100 = n / 100 := Int.tdiv_eq_ediv_of_nonneg hn.1
  have e0 : n.tdiv 400 = n / 400 := Int.tdiv_eq_ediv_of_nonneg hn.1
  have w4 := i64_same (n / 4) (by omega)
  have w1 := i64_same (n / 100) (by omega)
  have w0 := i64_same (n / 400) (by omega)
  have w5 := i64_same (n / 4 - n / 100) (by omega)
  have w6 := i64_same (n / 4 - n / 100 + n / 400) (by omega)
  have W5 := Lib.hid (wrap64_in (n / 4 - n / 100) (by omega))
  have W6 := Lib.hid (wrap64_in (n / 4 - n / 100 + n / 400) (by omega))
  have x5 := W5.out
  have x6 := W6.out
  go_enter Tryz.func100, Tryz.ntmps100
  go_wp2_with fail
  go_ret
  exact ⟨rfl, rfl⟩
set_option maxHeartbeats 4000000 in
theorem ahead_calls (y : Int) (hy : 1 ≤ y ∧ y ≤ 1000000) (w : World) : Calls Tryz.prog 85 #[.int .i64 y] w fun e w' => e = .returned (.int .i64 (ahd y)) ∧ w' = w := by
  have H1 := Lib.hid (leaps_calls (y - 1) (by omega))
  have H2 := Lib.hid (leaps_calls 1969 (by omega))
  have hA : ahd y = 365 * (y - 1970) + ((y - 1) / 4 - (y - 1) / 100 + (y - 1) / 400) - 477 := rfl
  obtain ⟨L, hL⟩ : ∃ L, (y - 1) / 4 - (y - 1) / 100 + (y - 1) / 400 = L := ⟨_, rfl⟩
  have hLb : 0 ≤ L ∧ L ≤ 1000000 := by omega
  rw [hL] at H1 hA
  rw [show (1969 : Int) / 4 - 1969 / 100 + 1969 / 400 = 477 by decide] at H2
  rw [hA]
  have w1 := i64_same (y - 1) (by omega)
  have w2 := i64_same (y - 1970) (by omega)
  have w3 := i64_same (365 * (y - 1970)) (by omega)
  have w4 := i64_same (365 * (y - 1970) + L) (by omega)
  have w5 := i64_same (365 * (y - 1970) + L - 477) (by omega)
  have X1 := Lib.hid (wrap64_in (y - 1) (by omega))
  have X2 := Lib.hid (wrap64_in (y - 1970) (by omega))
  have X3 := Lib.hid (wrap64_in (365 * (y - 1970)) (by omega))
  have X4 := Lib.hid (wrap64_in (365 * (y - 1970) + L) (by omega))
  have X5 := Lib.hid (wrap64_in (365 * (y - 1970) + L - 477) (by omega))
  clear hA hL hLb
  have x1 := X1.out
  have x2 := X2.out
  have x3 := X3.out
  have x4 := X4.out
  have x5 := X5.out
  go_enter Tryz.func85, Tryz.ntmps85
  go_wp2_with fail
  refine (H1.out _).mono ?_
  rintro e w1 ⟨rfl, rfl⟩
  go_wp2_with fail
  refine (H2.out _).mono ?_
  rintro e w1 ⟨rfl, rfl⟩
  go_wp2_with fail
  go_ret
  exact ⟨rfl, rfl⟩
/-- The days ahead of month k + 1; of all twelve. -/
def msx (y : Int) (k : Nat) : Int := if k < 12 then mst y ((k : Int) + 1) else 365 + lp y
theorem msx_step (y : Int) (k : Nat) (h : k < 12) : msx y k + dim y ((k : Int) + 1) = msx y (k + 1) := by
  unfold msx
  rw [if_pos h]
  by_cases h2 : k + 1 < 12
  · rw [if_pos h2]
    have := mst_step y ((k : Int) + 1) (by omega)
    push_cast; omega
  · rw [if_neg h2]
    obtain rfl : k = 11 := by omega
    exact mst_12 y
theorem msx_range (y : Int) (k : Nat) (h : k ≤ 12) : 0 ≤ msx y k ∧ msx y k ≤ 366 := by
  have h1 := lp_01 y
  unfold msx
  by_cases h2 : k < 12
  · rw [if_pos h2]
    have := mst_lo y ((k : Int) + 1) (by omega)
    have := dim_lo y ((k : Int) + 1) (by omega)
    omega
  · rw [if_neg h2]; omega
def moL (y : Int) : List (Int × Int) := (List.range 12).map fun k : Nat => ((k : Int) + 1, msx y k)
theorem moL_at (y : Int) (k : Nat) (h : k < 12) : (moL y)[k]? = some ((k : Int) + 1, msx y k) := by simp [moL, h]
theorem moL_len (y : Int) : (moL y).length = 12 := by simp [moL]
theorem months_calls (y : Int) (w : World) :
    Calls Tryz.prog 86 #[.int .i64 y] w fun e w' => e = .returned (.func (.func 101) #[] #[.pointer (some ⟨w.heap.size, 0, none⟩)]) ∧ w' = w.alloc (.cells #[.int .i64 y] 3) := by
  go_enter Tryz.func86, Tryz.ntmps86
  go_wp2
  go_ret
  exact ⟨rfl, rfl⟩
set_option maxRecDepth 100000 in
set_option maxHeartbeats 4000000 in
theorem months_seq (B : Nat) (y : Int) (hy : 0 ≤ y ∧ y ≤ 1000000) :
    SeqW Tryz.prog 101 #[.pointer (some ⟨B, 0, none⟩)] (fun x : Int × Int => #[.int .i64 x.1, .int .i64 x.2]) (moL y) (fun A B => A = B)
      (fun W => Boxed W B 3 (.int .i64 y) ∧ Lens W) (fun _ W => Boxed W B 3 (.int .i64 y) ∧ Lens W) (fun _ => True) (fun _ _ => True) := by
  intro lo J Jx hJ hJx hY W ⟨hB, hL⟩ h0
  have hF := wide_fn
  rw [moL_len]
  refine callsIn_of_wp Tryz.func101 rfl (hF _) ?_ rfl
  simp only [Tryz.ntmps101, List.size_toArray, List.length_cons, List.length_nil, Nat.reduceAdd, Nat.reduceSub, Array.replicate_succ, Array.replicate_zero, List.push_toArray, List.append_toArray, List.nil_append, List.cons_append]
  gi_wp2
  gi_loopw [3, 4] (fun n i wr => ∃ k : Nat, k ≤ 12 ∧ i = .int .i64 ((k : Int) + 1) ∧ n = .int .i64 (msx y k) ∧ J k wr ∧ Boxed wr B 3 (.int .i64 y) ∧ Lens wr)
    (fun _ i _ => 20 - (intOf i).toNat)
  case atStart => exact ⟨0, by omega, rfl, rfl, h0, hB, hL⟩
  case round =>
    obtain ⟨k, hk, rfl, rfl, hJs, hBs, hLs⟩ := hrel
    by_cases hlt : k < 12
    · have hI : (k : Int) + 1 ≤ 12 := by omega
      obtain ⟨fn, tmps, assign, body, hy2, hYR⟩ := hY k _ wr (moL_at y k hlt) hJs ⟨hBs, hLs⟩
      obtain ⟨S, hS⟩ : ∃ S, msx y k = S := ⟨_, rfl⟩
      have hst := msx_step y k hlt
      have hr1 := msx_range y (k + 1) (by omega)
      have hr0 := msx_range y k (by omega)
      rw [hS] at hst hy2 hr0 ⊢
      have HD := Lib.hid (fun W h => days_calls y ((k : Int) + 1) hy W h)
      obtain ⟨D, hD⟩ : ∃ D, dim y ((k : Int) + 1) = D := ⟨_, rfl⟩
      rw [hD] at hst HD
      have w1 := i64_same (S + D) (by omega)
      have w2 := i64_same ((k : Int) + 1 + 1) (by omega)
      have X1 := Lib.hid (wrap64_in (S + D) (by omega))
      have X2 := Lib.hid (wrap64_in ((k : Int) + 1 + 1) (by omega))
      have Hst := Lib.hid hst
      clear hY hS hst hr1 hr0 hD hy
      have x1 := X1.out
      have x2 := X2.out
      gi_wp2
      refine hYR.mono ?_
      rintro e W3 ⟨hR3, (⟨rfl, hJ3⟩ | ⟨rfl, hJx3⟩)⟩
      · have cB := hR3.1.cell
        have HD3 := Lib.hid (HD.out _ hR3.2)
        gi_wp2
        refine (callsIn_wide.2 HD3.out).mono ?_
        rintro e w4 ⟨rfl, rfl⟩
        gi_wp2
        go_roundw
        case rel => exact ⟨k + 1, by omega, by push_cast; rfl, by rw [Hst.out], hJ3, hR3.1, hR3.2⟩
        case measure => simp [intOf]; omega
      · gi_wp2
        refine bodyPost_ret (results_none rfl _ _ _) rfl ?_
        exact ⟨⟨_, rfl⟩, .inr ⟨k, hlt, hJx3, trivial⟩⟩
    · obtain rfl : k = 12 := by omega
      gi_wp2
      go_end0
      exact ⟨⟨_, rfl⟩, .inl ⟨hJs, trivial⟩⟩
end Go.Proofs.YtgbkedjjgbhcmaaGreatDoor
