/-
  The document's calendar, walked: Of, Nth. Conditions stand at each theorem.
-/
import Derived.Test.YtgbkedjjgbhcmaaGreatDoorRefCiv2
namespace Go.Proofs.YtgbkedjjgbhcmaaGreatDoor
open Go Go.RowKit Go.Kw Go.Kw.Cv Go.Shelf
set_option linter.unusedVariables false
set_option linter.unusedSimpArgs false

set_option maxRecDepth 100000 in
set_option maxHeartbeats 8000000 in
theorem refOf_calls (y m d : Int) (hok : okD y m d) (w : World) : Calls Tryz.prog 63 #[.int .i64 (dayN y m d)] w fun e w' => e = .returned (.tuple #[.int .i64 y, .int .i64 m, .int .i64 d, .int .i64 0]) ∧ w' = w := by
  have Hok := Lib.hid hok
  have hdm := dim_month hok
  have hdi := day_in hok
  have hdr := day_range hok
  obtain ⟨N, hN⟩ : ∃ n, dayN y m d = n := ⟨_, rfl⟩
  rw [hN] at hdi hdr ⊢
  have hL : N = ahd y + mst y m + d - 1 := by rw [← hN]; rfl
  have k1 : decide (N < 0) = false := decide_eq_false (by omega)
  have k2 : decide (N > 2932896) = false := decide_eq_false (by omega)
  have HL := Lib.hid hL
  have Hdi := Lib.hid hdi
  have Hdr := Lib.hid hdr
  have Hm := Lib.hid hdm
  unfold okD at hok
  have Hy := Lib.hid (show 1970 ≤ y ∧ y ≤ 9999 by omega)
  have Hd := Lib.hid (show 1 ≤ d ∧ d ≤ dim y m by omega)
  have HLp := Lib.hid refLeap_calls
  have HDs := Lib.hid refDays_calls
  clear hok hdm hdi hdr hN hL
  go_enter Tryz.func63, Tryz.ntmps63
  go_wp2_with fail
  go_loopw [0, 6] (fun n i wr => wr = w ∧ ∃ j : Int, 1970 ≤ j ∧ j ≤ y ∧ i = .int .i64 j ∧ n = .int .i64 (N - ahd j)) (fun _ i _ => (y - intOf i).toNat)
  case atStart => exact ⟨rfl, 1970, by omega, Hy.out.1, rfl, by rw [ahd_1970]; simp⟩
  case round =>
    obtain ⟨rfl, j, hj1, hj2, rfl, rfl⟩ := hrel
    have hyy := Hy.out
    have hst := ahd_step j
    have hl01 := lp_01 j
    have hdi := Hdi.out
    have hdr := Hdr.out
    have hab : 0 ≤ ahd j ∧ ahd j ≤ N := by
      have h1 := ahd_mono (show (1970 : Int) ≤ j from hj1)
      have h2 := ahd_mono hj2
      rw [ahd_1970] at h1; omega
    have HLj := Lib.hid (HLp.out j (by omega))
    have hbl : (leapB j = true ∧ lp j = 1) ∨ (leapB j = false ∧ lp j = 0) := by
      unfold lp
      cases leapB j with
      | true => exact .inl ⟨rfl, rfl⟩
      | false => exact .inr ⟨rfl, rfl⟩
    by_cases hlt : j < y
    · have hup := ahd_mono (show j + 1 ≤ y by omega)
      have q1 : decide (j < 9999) = true := decide_eq_true (by omega)
      obtain ⟨S, hS⟩ : ∃ S, ahd j = S := ⟨_, rfl⟩
      rw [hS] at hst hab ⊢
      have a4 := i64_same (j + 1) (by omega)
      have B4 := Lib.hid (wrap64_in (j + 1) (by omega))
      have Hst := Lib.hid hst
      have Hj := Lib.hid (show 1970 ≤ j ∧ j + 1 ≤ y by omega)
      rcases hbl with ⟨hb, hl⟩ | ⟨hb, hl⟩
      · rw [hb] at HLj
        have q2 : decide (N - S < 366) = false := decide_eq_false (by omega)
        have a5 := i64_same (N - S - 366) (by omega)
        have B5 := Lib.hid (wrap64_in (N - S - 366) (by omega))
        have Hl := Lib.hid hl
        clear hst hl01 hab hS hyy hdi hdr hj1 hj2 hlt hup hb hl
        have b4 := B4.out
        have b5 := B5.out
        go_wp2_with fail
        refine (HLj.out _).mono ?_
        rintro e w3 ⟨rfl, rfl⟩
        go_wp2_with fail
        go_round
        case rel => exact ⟨trivial, j + 1, by have := Hj.out; omega, Hj.out.2, rfl, by rw [Hst.out, Hl.out]; congr 1; omega⟩
        case measure => simp [intOf]; have := Hj.out; omega
      · rw [hb] at HLj
        have q2 : decide (N - S < 365) = false := decide_eq_false (by omega)
        have a5 := i64_same (N - S - 365) (by omega)
        have B5 := Lib.hid (wrap64_in (N - S - 365) (by omega))
        have Hl := Lib.hid hl
        clear hst hl01 hab hS hyy hdi hdr hj1 hj2 hlt hup hb hl
        have b4 := B4.out
        have b5 := B5.out
        go_wp2_with fail
        refine (HLj.out _).mono ?_
        rintro e w3 ⟨rfl, rfl⟩
        go_wp2_with fail
        go_round
        case rel => exact ⟨trivial, j + 1, by have := Hj.out; omega, Hj.out.2, rfl, by rw [Hst.out, Hl.out]; congr 1; omega⟩
        case measure => simp [intOf]; have := Hj.out; omega
    · obtain rfl : j = y := by omega
      obtain ⟨S, hS⟩ : ∃ S, ahd j = S := ⟨_, rfl⟩
      rw [hS] at hst hab ⊢
      have HS := Lib.hid hS
      obtain ⟨L, hLe⟩ : ∃ L, N - S = L := ⟨_, rfl⟩
      have hLm : L = mst j m + d - 1 := by have := HL.out; omega
      have HLm := Lib.hid hLm
      rw [hLe]
      by_cases h99 : j < 9999
      · have q1 : decide (j < 9999) = true := decide_eq_true h99
        rcases hbl with ⟨hb, hl⟩ | ⟨hb, hl⟩
        · rw [hb] at HLj
          have q2 : decide (L < 366) = true := decide_eq_true (by omega)
          clear hst hl01 hab hS hyy hdi hdr hj1 hj2 hlt hb hl hLe hLm h99
          go_wp2_with fail
          refine (HLj.out _).mono ?_
          rintro e w3 ⟨rfl, rfl⟩
          go_wp2_with fail
          go_loopw [0, 8] (fun n i wq => wq = w3 ∧ ∃ q : Int, 1 ≤ q ∧ q ≤ m ∧ i = .int .i64 q ∧ n = .int .i64 (L - mst j q)) (fun _ i _ => (m - intOf i).toNat)
          case atStart => exact ⟨rfl, 1, by omega, Hm.out.1, rfl, by rw [mst_1]; simp⟩
          case round =>
            obtain ⟨rfl, q, hq1, hq2, rfl, rfl⟩ := hrel
            have hmm := Hm.out
            have hdd := Hd.out
            have hll := HLm.out
            have hml := mst_lo j m hmm
            have hmq := mst_lo j q (by omega)
            have hdq := dim_lo j q (by omega)
            have hl01 := lp_01 j
            have HD := Lib.hid (HDs.out j q (by have := Hy.out; omega))
            by_cases hlt2 : q < m
            · have hst := mst_step j q (by omega)
              have hup := mst_mono (y := j) hq1 hlt2 hmm.2
              have c1 : decide (q < 12) = true := decide_eq_true (by omega)
              obtain ⟨M, hM⟩ : ∃ M, mst j q = M := ⟨_, rfl⟩
              obtain ⟨D, hD⟩ : ∃ D, dim j q = D := ⟨_, rfl⟩
              rw [hM, hD] at hst hmq hup
              rw [hM] at ⊢
              rw [hD] at HD hdq
              have c2 : decide (L - M ≥ D) = true := decide_eq_true (by omega)
              have a5 := i64_same (L - M - D) (by omega)
              have a6 := i64_same (q + 1) (by omega)
              have B5 := Lib.hid (wrap64_in (L - M - D) (by omega))
              have B6 := Lib.hid (wrap64_in (q + 1) (by omega))
              have Hst := Lib.hid hst
              have Hq := Lib.hid (show 1 ≤ q ∧ q + 1 ≤ m by omega)
              clear hst hup hml hmq hdq hl01 hM hD hmm hdd hll hq1 hq2 hlt2
              have b5 := B5.out
              have b6 := B6.out
              go_wp2_with fail
              refine (HD.out _).mono ?_
              rintro e w3 ⟨rfl, rfl⟩
              go_wp2_with fail
              refine (HD.out _).mono ?_
              rintro e w3 ⟨rfl, rfl⟩
              go_wp2_with fail
              go_round
              case rel => exact ⟨trivial, q + 1, by have := Hq.out; omega, Hq.out.2, rfl, by rw [Hst.out]; congr 1; omega⟩
              case measure => simp [intOf]; have := Hq.out; omega
            · obtain rfl : q = m := by omega
              have he : L - mst j q = d - 1 := by omega
              rw [he]
              have a7 := i64_same d (by omega)
              have B7 := Lib.hid (wrap64_in d (by omega))
              by_cases h12 : q < 12
              · have c1 : decide (q < 12) = true := decide_eq_true h12
                obtain ⟨D, hD⟩ : ∃ D, dim j q = D := ⟨_, rfl⟩
                rw [hD] at HD hdd
                have c2 : decide (d - 1 ≥ D) = false := decide_eq_false (by omega)
                clear he hml hmq hdq hl01 hD hmm hdd hll hq1 hq2 hlt2 h12
                have b7 := B7.out
                go_wp2_with fail
                refine (HD.out _).mono ?_
                rintro e w3 ⟨rfl, rfl⟩
                go_wp2_with fail
                refine bodyPost_ret (v := .tuple #[.int .i64 j, .int .i64 q, .int .i64 d, .int .i64 0]) (by simp [results]) rfl ?_
                exact ⟨rfl, rfl⟩
              · have c1 : decide (q < 12) = false := decide_eq_false h12
                clear he hml hmq hdq hl01 hmm hdd hll hq1 hq2 hlt2 h12
                have b7 := B7.out
                go_wp2_with fail
                refine bodyPost_ret (v := .tuple #[.int .i64 j, .int .i64 q, .int .i64 d, .int .i64 0]) (by simp [results]) rfl ?_
                exact ⟨rfl, rfl⟩
        · rw [hb] at HLj
          have q2 : decide (L < 365) = true := decide_eq_true (by omega)
          clear hst hl01 hab hS hyy hdi hdr hj1 hj2 hlt hb hl hLe hLm h99
          go_wp2_with fail
          refine (HLj.out _).mono ?_
          rintro e w3 ⟨rfl, rfl⟩
          go_wp2_with fail
          go_loopw [0, 8] (fun n i wq => wq = w3 ∧ ∃ q : Int, 1 ≤ q ∧ q ≤ m ∧ i = .int .i64 q ∧ n = .int .i64 (L - mst j q)) (fun _ i _ => (m - intOf i).toNat)
          case atStart => exact ⟨rfl, 1, by omega, Hm.out.1, rfl, by rw [mst_1]; simp⟩
          case round =>
            obtain ⟨rfl, q, hq1, hq2, rfl, rfl⟩ := hrel
            have hmm := Hm.out
            have hdd := Hd.out
            have hll := HLm.out
            have hml := mst_lo j m hmm
            have hmq := mst_lo j q (by omega)
            have hdq := dim_lo j q (by omega)
            have hl01 := lp_01 j
            have HD := Lib.hid (HDs.out j q (by have := Hy.out; omega))
            by_cases hlt2 : q < m
            · have hst := mst_step j q (by omega)
              have hup := mst_mono (y := j) hq1 hlt2 hmm.2
              have c1 : decide (q < 12) = true := decide_eq_true (by omega)
              obtain ⟨M, hM⟩ : ∃ M, mst j q = M := ⟨_, rfl⟩
              obtain ⟨D, hD⟩ : ∃ D, dim j q = D := ⟨_, rfl⟩
              rw [hM, hD] at hst hmq hup
              rw [hM] at ⊢
              rw [hD] at HD hdq
              have c2 : decide (L - M ≥ D) = true := decide_eq_true (by omega)
              have a5 := i64_same (L - M - D) (by omega)
              have a6 := i64_same (q + 1) (by omega)
              have B5 := Lib.hid (wrap64_in (L - M - D) (by omega))
              have B6 := Lib.hid (wrap64_in (q + 1) (by omega))
              have Hst := Lib.hid hst
              have Hq := Lib.hid (show 1 ≤ q ∧ q + 1 ≤ m by omega)
              clear hst hup hml hmq hdq hl01 hM hD hmm hdd hll hq1 hq2 hlt2
              have b5 := B5.out
              have b6 := B6.out
              go_wp2_with fail
              refine (HD.out _).mono ?_
              rintro e w3 ⟨rfl, rfl⟩
              go_wp2_with fail
              refine (HD.out _).mono ?_
              rintro e w3 ⟨rfl, rfl⟩
              go_wp2_with fail
              go_round
              case rel => exact ⟨trivial, q + 1, by have := Hq.out; omega, Hq.out.2, rfl, by rw [Hst.out]; congr 1; omega⟩
              case measure => simp [intOf]; have := Hq.out; omega
            · obtain rfl : q = m := by omega
              have he : L - mst j q = d - 1 := by omega
              rw [he]
              have a7 := i64_same d (by omega)
              have B7 := Lib.hid (wrap64_in d (by omega))
              by_cases h12 : q < 12
              · have c1 : decide (q < 12) = true := decide_eq_true h12
                obtain ⟨D, hD⟩ : ∃ D, dim j q = D := ⟨_, rfl⟩
                rw [hD] at HD hdd
                have c2 : decide (d - 1 ≥ D) = false := decide_eq_false (by omega)
                clear he hml hmq hdq hl01 hD hmm hdd hll hq1 hq2 hlt2 h12
                have b7 := B7.out
                go_wp2_with fail
                refine (HD.out _).mono ?_
                rintro e w3 ⟨rfl, rfl⟩
                go_wp2_with fail
                refine bodyPost_ret (v := .tuple #[.int .i64 j, .int .i64 q, .int .i64 d, .int .i64 0]) (by simp [results]) rfl ?_
                exact ⟨rfl, rfl⟩
              · have c1 : decide (q < 12) = false := decide_eq_false h12
                clear he hml hmq hdq hl01 hmm hdd hll hq1 hq2 hlt2 h12
                have b7 := B7.out
                go_wp2_with fail
                refine bodyPost_ret (v := .tuple #[.int .i64 j, .int .i64 q, .int .i64 d, .int .i64 0]) (by simp [results]) rfl ?_
                exact ⟨rfl, rfl⟩
      · have q1 : decide (j < 9999) = false := decide_eq_false h99
        clear hst hl01 hab hS hyy hdi hdr hj1 hj2 hlt hbl hLe hLm h99
        go_wp2_with fail
        go_loopw [0, 8] (fun n i wq => wq = wr ∧ ∃ q : Int, 1 ≤ q ∧ q ≤ m ∧ i = .int .i64 q ∧ n = .int .i64 (L - mst j q)) (fun _ i _ => (m - intOf i).toNat)
        case atStart => exact ⟨rfl, 1, by omega, Hm.out.1, rfl, by rw [mst_1]; simp⟩
        case round =>
          obtain ⟨rfl, q, hq1, hq2, rfl, rfl⟩ := hrel
          have hmm := Hm.out
          have hdd := Hd.out
          have hll := HLm.out
          have hml := mst_lo j m hmm
          have hmq := mst_lo j q (by omega)
          have hdq := dim_lo j q (by omega)
          have hl01 := lp_01 j
          have HD := Lib.hid (HDs.out j q (by have := Hy.out; omega))
          by_cases hlt2 : q < m
          · have hst := mst_step j q (by omega)
            have hup := mst_mono (y := j) hq1 hlt2 hmm.2
            have c1 : decide (q < 12) = true := decide_eq_true (by omega)
            obtain ⟨M, hM⟩ : ∃ M, mst j q = M := ⟨_, rfl⟩
            obtain ⟨D, hD⟩ : ∃ D, dim j q = D := ⟨_, rfl⟩
            rw [hM, hD] at hst hmq hup
            rw [hM] at ⊢
            rw [hD] at HD hdq
            have c2 : decide (L - M ≥ D) = true := decide_eq_true (by omega)
            have a5 := i64_same (L - M - D) (by omega)
            have a6 := i64_same (q + 1) (by omega)
            have B5 := Lib.hid (wrap64_in (L - M - D) (by omega))
            have B6 := Lib.hid (wrap64_in (q + 1) (by omega))
            have Hst := Lib.hid hst
            have Hq := Lib.hid (show 1 ≤ q ∧ q + 1 ≤ m by omega)
            clear hst hup hml hmq hdq hl01 hM hD hmm hdd hll hq1 hq2 hlt2
            have b5 := B5.out
            have b6 := B6.out
            go_wp2_with fail
            refine (HD.out _).mono ?_
            rintro e w3 ⟨rfl, rfl⟩
            go_wp2_with fail
            refine (HD.out _).mono ?_
            rintro e w3 ⟨rfl, rfl⟩
            go_wp2_with fail
            go_round
            case rel => exact ⟨trivial, q + 1, by have := Hq.out; omega, Hq.out.2, rfl, by rw [Hst.out]; congr 1; omega⟩
            case measure => simp [intOf]; have := Hq.out; omega
          · obtain rfl : q = m := by omega
            have he : L - mst j q = d - 1 := by omega
            rw [he]
            have a7 := i64_same d (by omega)
            have B7 := Lib.hid (wrap64_in d (by omega))
            by_cases h12 : q < 12
            · have c1 : decide (q < 12) = true := decide_eq_true h12
              obtain ⟨D, hD⟩ : ∃ D, dim j q = D := ⟨_, rfl⟩
              rw [hD] at HD hdd
              have c2 : decide (d - 1 ≥ D) = false := decide_eq_false (by omega)
              clear he hml hmq hdq hl01 hD hmm hdd hll hq1 hq2 hlt2 h12
              have b7 := B7.out
              go_wp2_with fail
              refine (HD.out _).mono ?_
              rintro e w3 ⟨rfl, rfl⟩
              go_wp2_with fail
              refine bodyPost_ret (v := .tuple #[.int .i64 j, .int .i64 q, .int .i64 d, .int .i64 0]) (by simp [results]) rfl ?_
              exact ⟨rfl, rfl⟩
            · have c1 : decide (q < 12) = false := decide_eq_false h12
              clear he hml hmq hdq hl01 hmm hdd hll hq1 hq2 hlt2 h12
              have b7 := B7.out
              go_wp2_with fail
              refine bodyPost_ret (v := .tuple #[.int .i64 j, .int .i64 q, .int .i64 d, .int .i64 0]) (by simp [results]) rfl ?_
              exact ⟨rfl, rfl⟩
theorem refOf_bad (n : Int) (h : ¬ (0 ≤ n ∧ n ≤ 2932896)) (w : World) : Calls Tryz.prog 63 #[.int .i64 n] w fun e w' => e = .returned (.tuple #[.int .i64 0, .int .i64 0, .int .i64 0, .int .i64 60]) ∧ w' = w := by
  have H := Lib.hid h
  clear h
  go_enter Tryz.func63, Tryz.ntmps63
  go_wp2_with fail
  all_goals first
    | (exfalso; have := H.out; omega)
    | (refine bodyPost_ret (v := .tuple #[.int .i64 0, .int .i64 0, .int .i64 0, .int .i64 60]) (by simp [results]) rfl ?_; exact ⟨rfl, rfl⟩)
end Go.Proofs.YtgbkedjjgbhcmaaGreatDoor
