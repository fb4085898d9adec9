/-
  The document's calendar, walked: Day, Weekday, Of. Conditions stand at each theorem.
-/
import Derived.Test.YtgbkedjjgbhcmaaGreatDoorRefCiv1
namespace Go.Proofs.YtgbkedjjgbhcmaaGreatDoor
open Go Go.RowKit Go.Kw Go.Kw.Cv Go.Shelf
set_option linter.unusedVariables false
set_option linter.unusedSimpArgs false

set_option maxRecDepth 100000 in
set_option maxHeartbeats 8000000 in
theorem refDay_calls (y m d : Int) (w : World) : Calls Tryz.prog 92 #[.int .i64 y, .int .i64 m, .int .i64 d] w fun e w' => e = .returned (.tuple #[.int .i64 (dayE y m d), .int .i64 (chkV y m d)]) ∧ w' = w := by
  have HM := Lib.hid (refMay_calls y m d)
  by_cases hok : okD y m d
  · rw [show dayE y m d = dayN y m d from if_pos hok, chk_ok hok]
    rw [decide_eq_true hok] at HM
    have Hok := Lib.hid hok
    have hdm := dim_month hok
    have hdl := dim_lo y m hdm
    have hok2 := hok
    unfold okD at hok2
    have a1 := i64_same (d - 1) (by omega)
    have B1 := Lib.hid (wrap64_in (d - 1) (by omega))
    have Hy := Lib.hid (show 1970 ≤ y ∧ y ≤ 9999 by omega)
    have Hd := Lib.hid (show 1 ≤ d ∧ d ≤ 31 by omega)
    have Hm := Lib.hid hdm
    have HLp := Lib.hid refLeap_calls
    have HDs := Lib.hid refDays_calls
    clear hok hdm hdl hok2
    have b1 := B1.out
    go_enter Tryz.func92, Tryz.ntmps92
    go_wp2_with fail
    refine (HM.out _).mono ?_
    rintro e w1 ⟨rfl, rfl⟩
    go_wp2_with fail
    clear a1 b1
    go_loopw [9, 10] (fun n i wr => wr = w1 ∧ ∃ j : Int, 1970 ≤ j ∧ j ≤ y ∧ i = .int .i64 j ∧ n = .int .i64 (d - 1 + ahd j)) (fun _ i _ => (y - intOf i).toNat)
    case atStart => exact ⟨rfl, 1970, by omega, Hy.out.1, rfl, by rw [ahd_1970]; simp⟩
    case round =>
      obtain ⟨rfl, j, hj1, hj2, rfl, rfl⟩ := hrel
      have hyy := Hy.out
      have hdd := Hd.out
      by_cases hlt : j < y
      · have k1 : decide (j < y) = true := decide_eq_true hlt
        have hst := ahd_step j
        have hl01 := lp_01 j
        have hab : 0 ≤ ahd j ∧ ahd j ≤ 3000000 := by
          have h1 := ahd_mono (show (1970 : Int) ≤ j from hj1)
          have h2 := ahd_mono (show j ≤ 10000 by omega)
          rw [ahd_1970] at h1; rw [ahd_10000] at h2; omega
        have HL := Lib.hid (HLp.out j (by omega))
        obtain ⟨S, hS⟩ : ∃ S, ahd j = S := ⟨_, rfl⟩
        rw [hS] at hst hab ⊢
        have a2 := i64_same (d - 1 + S + 365) (by omega)
        have a3 := i64_same (d - 1 + S + 365 + 1) (by omega)
        have a4 := i64_same (j + 1) (by omega)
        have B2 := Lib.hid (wrap64_in (d - 1 + S + 365) (by omega))
        have B3 := Lib.hid (wrap64_in (d - 1 + S + 365 + 1) (by omega))
        have B4 := Lib.hid (wrap64_in (j + 1) (by omega))
        have Hst := Lib.hid hst
        have hbl : (leapB j = true ∧ lp j = 1) ∨ (leapB j = false ∧ lp j = 0) := by
          unfold lp
          cases leapB j with
          | true => exact .inl ⟨rfl, rfl⟩
          | false => exact .inr ⟨rfl, rfl⟩
        have Hj := Lib.hid (show 1970 ≤ j ∧ j + 1 ≤ y by omega)
        clear hst hl01 hab hS hyy hdd hj1 hj2 hlt
        have b2 := B2.out
        have b3 := B3.out
        have b4 := B4.out
        rcases hbl with ⟨hb, hl⟩ | ⟨hb, hl⟩
        · rw [hb] at HL
          have Hl := Lib.hid hl
          clear hb hl
          go_wp2_with fail
          refine (HL.out _).mono ?_
          rintro e w3 ⟨rfl, rfl⟩
          go_wp2_with fail
          go_round
          case rel => exact ⟨trivial, j + 1, by have := Hj.out; omega, Hj.out.2, rfl, by rw [Hst.out, Hl.out]; congr 1; omega⟩
          case measure => simp [intOf]; have := Hj.out; omega
        · rw [hb] at HL
          have Hl := Lib.hid hl
          clear hb hl
          go_wp2_with fail
          refine (HL.out _).mono ?_
          rintro e w3 ⟨rfl, rfl⟩
          go_wp2_with fail
          go_round
          case rel => exact ⟨trivial, j + 1, by have := Hj.out; omega, Hj.out.2, rfl, by rw [Hst.out, Hl.out]; congr 1; omega⟩
          case measure => simp [intOf]; have := Hj.out; omega
      · obtain rfl : j = y := by omega
        have k1 : decide (j < j) = false := decide_eq_false (by omega)
        have hab : 0 ≤ ahd j ∧ ahd j ≤ 3000000 := by
          have h1 := ahd_mono (show (1970 : Int) ≤ j from hj1)
          have h2 := ahd_mono (show j ≤ 10000 by omega)
          rw [ahd_1970] at h1; rw [ahd_10000] at h2; omega
        obtain ⟨S, hS⟩ : ∃ S, ahd j = S := ⟨_, rfl⟩
        rw [hS] at hab ⊢
        have HS := Lib.hid hS
        have Hab := Lib.hid hab
        clear hab hS hj1 hj2 hyy hdd hlt
        go_wp2_with fail
        go_loopw [9, 11] (fun n i wq => wq = wr ∧ ∃ q : Int, 1 ≤ q ∧ q ≤ m ∧ i = .int .i64 q ∧ n = .int .i64 (d - 1 + S + mst j q)) (fun _ i _ => (m - intOf i).toNat)
        case atStart => exact ⟨rfl, 1, by omega, Hm.out.1, rfl, by rw [mst_1]; simp⟩
        case round =>
          obtain ⟨rfl, q, hq1, hq2, rfl, rfl⟩ := hrel
          have hmm := Hm.out
          have hdd := Hd.out
          have hss := Hab.out
          by_cases hlt : q < m
          · have k2 : decide (q < m) = true := decide_eq_true hlt
            have hst := mst_step j q (by omega)
            have hml := mst_lo j q (by omega)
            have hdl := dim_lo j q (by omega)
            have hl01 := lp_01 j
            have HD := Lib.hid (HDs.out j q (by have := Hy.out; omega))
            obtain ⟨M, hM⟩ : ∃ M, mst j q = M := ⟨_, rfl⟩
            obtain ⟨D, hD⟩ : ∃ D, dim j q = D := ⟨_, rfl⟩
            rw [hM, hD] at hst hml
            rw [hM] at ⊢
            rw [hD] at HD hdl
            have a2 := i64_same (d - 1 + S + M + D) (by omega)
            have a4 := i64_same (q + 1) (by omega)
            have B2 := Lib.hid (wrap64_in (d - 1 + S + M + D) (by omega))
            have B4 := Lib.hid (wrap64_in (q + 1) (by omega))
            have Hst := Lib.hid hst
            have Hq := Lib.hid (show 1 ≤ q ∧ q + 1 ≤ m by omega)
            clear hst hml hdl hl01 hM hD hmm hdd hss hq1 hq2 hlt
            have b2 := B2.out
            have b4 := B4.out
            go_wp2_with fail
            refine (HD.out _).mono ?_
            rintro e w3 ⟨rfl, rfl⟩
            go_wp2_with fail
            go_round
            case rel => exact ⟨trivial, q + 1, by have := Hq.out; omega, Hq.out.2, rfl, by rw [Hst.out]; congr 1; omega⟩
            case measure => simp [intOf]; have := Hq.out; omega
          · obtain rfl : q = m := by omega
            have k2 : decide (q < q) = false := decide_eq_false (by omega)
            have he : d - 1 + S + mst j q = dayN j q d := by unfold dayN; rw [HS.out]; omega
            rw [he]
            clear he hmm hdd hss hq1 hq2 hlt
            go_wp2_with fail
            go_ret2
            exact ⟨rfl, rfl⟩
  · rw [show dayE y m d = 0 from if_neg hok, chk_no hok]
    rw [decide_eq_false hok] at HM
    clear hok
    go_enter Tryz.func92, Tryz.ntmps92
    go_wp2_with fail
    refine (HM.out _).mono ?_
    rintro e w1 ⟨rfl, rfl⟩
    go_wp2_with fail
    go_ret2
    exact ⟨rfl, rfl⟩
set_option maxHeartbeats 8000000 in
theorem refWeekday_calls (n : Int) (w : World) : Calls Tryz.prog 67 #[.int .i64 n] w fun e w' => e = .returned (.int .i64 (wdN n)) ∧ w' = w := by
  by_cases h : 0 ≤ n ∧ n ≤ 2932896
  · rw [show wdN n = (n + 3) % 7 + 1 from if_pos h]
    have k1 : decide (n < 0) = false := decide_eq_false (by omega)
    have k2 : decide (n > 2932896) = false := decide_eq_false (by omega)
    have e7 : n.tmod 7 = n % 7 := Int.tmod_eq_emod_of_nonneg h.1
    obtain ⟨r, hr⟩ : ∃ r, n % 7 = r := ⟨_, rfl⟩
    have hrb : 0 ≤ r ∧ r < 7 := by omega
    have hfin : (n + 3) % 7 + 1 = (3 + r) % 7 + 1 := by omega
    rw [hfin]
    rw [hr] at e7
    have a0 := i64_same r (by omega)
    have Hrb := Lib.hid hrb
    clear h hr hrb hfin
    go_enter Tryz.func67, Tryz.ntmps67
    go_wp2_with fail
    go_loopw [3, 4] (fun x i wr => wr = w ∧ ∃ j : Int, 0 ≤ j ∧ j ≤ r ∧ i = .int .i64 j ∧ x = .int .i64 ((3 + j) % 7 + 1)) (fun _ i _ => (r - intOf i).toNat)
    case atStart => exact ⟨rfl, 0, by omega, Hrb.out.1, rfl, rfl⟩
    case round =>
      obtain ⟨rfl, j, hj1, hj2, rfl, rfl⟩ := hrel
      have hrb := Hrb.out
      by_cases hlt : j < r
      · have k3 : decide (j < r) = true := decide_eq_true hlt
        have hc : ((3 + j) % 7 + 1 + 1 = 8 ∧ (3 + (j + 1)) % 7 + 1 = 1) ∨ ((3 + j) % 7 + 1 + 1 ≠ 8 ∧ (3 + (j + 1)) % 7 + 1 = (3 + j) % 7 + 1 + 1) := by omega
        obtain ⟨X, hX⟩ : ∃ X, (3 + j) % 7 + 1 = X := ⟨_, rfl⟩
        have hXb : 1 ≤ X ∧ X ≤ 7 := by omega
        rw [hX] at hc ⊢
        have a2 := i64_same (X + 1) (by omega)
        have a4 := i64_same (j + 1) (by omega)
        have B2 := Lib.hid (wrap64_in (X + 1) (by omega))
        have B4 := Lib.hid (wrap64_in (j + 1) (by omega))
        have Hj := Lib.hid (show 0 ≤ j ∧ j + 1 ≤ r by omega)
        rcases hc with ⟨h8, hn⟩ | ⟨h8, hn⟩
        · have Hn := Lib.hid hn
          have k8 : (X + 1 == 8) = true := beq_iff_eq.2 h8
          clear hn h8 hX hXb hrb hj1 hj2 hlt
          have b2 := B2.out
          have b4 := B4.out
          go_wp2_with fail
          go_round
          case rel => exact ⟨trivial, j + 1, by have := Hj.out; omega, Hj.out.2, rfl, by rw [Hn.out]⟩
          case measure => simp [intOf]; have := Hj.out; omega
        · have Hn := Lib.hid hn
          have k8 : (X + 1 == 8) = false := beq_eq_false_iff_ne.2 h8
          clear hn h8 hX hXb hrb hj1 hj2 hlt
          have b2 := B2.out
          have b4 := B4.out
          go_wp2_with fail
          go_round
          case rel => exact ⟨trivial, j + 1, by have := Hj.out; omega, Hj.out.2, rfl, by rw [Hn.out]⟩
          case measure => simp [intOf]; have := Hj.out; omega
      · obtain rfl : j = r := by omega
        have k3 : decide (j < j) = false := decide_eq_false (by omega)
        clear hrb hj1 hj2 hlt
        go_wp2_with fail
        go_ret
        exact ⟨rfl, rfl⟩
  · rw [show wdN n = 0 from if_neg h]
    have H := Lib.hid h
    clear h
    go_enter Tryz.func67, Tryz.ntmps67
    go_wp2_with fail
    all_goals first | (go_ret; exact ⟨rfl, rfl⟩) | (exfalso; have := H.out; omega)
end Go.Proofs.YtgbkedjjgbhcmaaGreatDoor
