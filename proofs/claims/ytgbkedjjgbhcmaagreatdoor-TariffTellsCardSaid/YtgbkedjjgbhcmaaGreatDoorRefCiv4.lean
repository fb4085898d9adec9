/-
  The document's calendar, walked: Nth. Conditions stand at each theorem.
-/
import Derived.Test.YtgbkedjjgbhcmaaGreatDoorRefCiv3
namespace Go.Proofs.YtgbkedjjgbhcmaaGreatDoor
open Go Go.RowKit Go.Kw Go.Kw.Cv Go.Shelf
set_option linter.unusedVariables false
set_option linter.unusedSimpArgs false

/-- What Nth answers of the document: the day, the error. -/
def nthV (y m k n : Int) : Int × Int := if nthOk y m k n ∧ nthN y m k n ≤ dim y m then (nthN y m k n, 0) else (0, 60)
/-- How many were met ahead of day j; the last of them. -/
def cntN (a j : Int) : Int := (j + 6 - a) / 7
def lstN (a j : Int) : Int := if cntN a j = 0 then 0 else a + 7 * (cntN a j - 1)
theorem wd_day (y m k j : Int) (h : 1970 ≤ y ∧ y ≤ 9999 ∧ 1 ≤ m ∧ m ≤ 12) (hk : 1 ≤ k ∧ k ≤ 7) (hj : 1 ≤ j ∧ j ≤ dim y m) : wdN (dayN y m j) = k ↔ (j - d1N y m k) % 7 = 0 := by
  have hok : okD y m j := ⟨h.1, h.2.1, hj.1, hj.2⟩
  have hok1 := ok_one h
  have e1 := wd_in hok
  have e2 := wd_in hok1
  have e3 : dayN y m j = dayN y m 1 + (j - 1) := by unfold dayN; omega
  rw [e1, e3]
  unfold d1N
  rw [e2]
  omega
theorem cnt_hit (a j : Int) (ha : 1 ≤ a ∧ a ≤ 7) (hj : 1 ≤ j) (h : (j - a) % 7 = 0) : cntN a (j + 1) = cntN a j + 1 ∧ lstN a (j + 1) = j ∧ 0 ≤ cntN a j ∧ j = a + 7 * cntN a j := by
  unfold lstN cntN
  refine ⟨by omega, ?_, by omega, by omega⟩
  rw [if_neg (by omega)]; omega
theorem cnt_miss (a j : Int) (ha : 1 ≤ a ∧ a ≤ 7) (hj : 1 ≤ j) (h : (j - a) % 7 ≠ 0) : cntN a (j + 1) = cntN a j ∧ lstN a (j + 1) = lstN a j := by
  have : cntN a (j + 1) = cntN a j := by unfold cntN; omega
  exact ⟨this, by unfold lstN; rw [this]⟩
set_option maxRecDepth 100000 in
set_option maxHeartbeats 8000000 in
theorem refNth_calls (y m k n : Int) (w : World) : Calls Tryz.prog 91 #[.int .i64 y, .int .i64 m, .int .i64 k, .int .i64 n] w fun e w' => e = .returned (.tuple #[.int .i64 (nthV y m k n).1, .int .i64 (nthV y m k n).2]) ∧ w' = w := by
  have HM := Lib.hid (refMay_calls y m 1)
  by_cases hok : okD y m 1
  · rw [decide_eq_true hok] at HM
    have hdm := dim_month hok
    have hym : 1970 ≤ y ∧ y ≤ 9999 ∧ 1 ≤ m ∧ m ≤ 12 := ⟨hok.1, hok.2.1, hdm.1, hdm.2⟩
    by_cases hkn : 1 ≤ k ∧ k ≤ 7 ∧ (n = -1 ∨ (1 ≤ n ∧ n ≤ 5))
    · have hnok : nthOk y m k n := ⟨hym.1, hym.2.1, hym.2.2.1, hym.2.2.2, hkn.1, hkn.2.1, hkn.2.2⟩
      have hd1 := d1_in y m k hym
      have hdl := dim_lo y m hdm
      obtain ⟨A, hA⟩ : ∃ A, d1N y m k = A := ⟨_, rfl⟩
      obtain ⟨D, hD⟩ : ∃ D, dim y m = D := ⟨_, rfl⟩
      have hWD : ∀ j, 1 ≤ j → j ≤ D → (wdN (dayN y m j) = k ↔ (j - A) % 7 = 0) := fun j h1 h2 => by rw [← hA]; exact wd_day y m k j hym ⟨hkn.1, hkn.2.1⟩ ⟨h1, by rw [hD]; exact h2⟩
      have hfin : nthV y m k n = if n = -1 then (A + 7 * ((D - A) / 7), 0) else if A + 7 * (n - 1) ≤ D then (A + 7 * (n - 1), 0) else (0, 60) := by
        unfold nthV nthN
        rw [hA, hD]
        by_cases h1 : n = -1
        · rw [if_pos h1, if_pos h1, if_pos ⟨hnok, by omega⟩]
        · rw [if_neg h1, if_neg h1]
          by_cases h2 : A + 7 * (n - 1) ≤ D
          · rw [if_pos ⟨hnok, h2⟩, if_pos h2]
          · rw [if_neg (fun h => h2 h.2), if_neg h2]
      have Hfin := Lib.hid hfin
      have HWD := Lib.hid hWD
      rw [hA] at hd1
      rw [hD] at hdl
      have HAD := Lib.hid (show 1 ≤ A ∧ A ≤ 7 ∧ 28 ≤ D ∧ D ≤ 31 by omega)
      have HDs := Lib.hid (refDays_calls y m (by omega))
      rw [hD] at HDs
      have HDay := Lib.hid (fun j => refDay_calls y m j)
      have HWk := Lib.hid refWeekday_calls
      have HokJ : Hid (∀ j, 1 ≤ j → j ≤ D → dayE y m j = dayN y m j ∧ chkV y m j = 0) := Lib.hid fun j h1 h2 =>
        have hj : okD y m j := ⟨hym.1, hym.2.1, h1, by rw [hD]; exact h2⟩
        ⟨if_pos hj, chk_ok hj⟩
      have Hn := Lib.hid hkn.2.2
      have c1 : decide (k < 1) = false := decide_eq_false (by omega)
      have c2 : decide (k > 7) = false := decide_eq_false (by omega)
      by_cases hm1 : n = -1
      · subst hm1
        rw [if_pos rfl] at Hfin
        clear hok hdm hym hkn hnok hd1 hdl hA hD hWD hfin
        go_enter Tryz.func91, Tryz.ntmps91
        go_wp2_with fail
        refine (HM.out _).mono ?_
        rintro e w1 ⟨rfl, rfl⟩
        go_wp2_with fail
        go_loopw [10, 11, 12] (fun x l i wr => wr = w1 ∧ ∃ j : Int, 1 ≤ j ∧ j ≤ D + 1 ∧ i = .int .i64 j ∧ x = .int .i64 (cntN A j) ∧ l = .int .i64 (lstN A j)) (fun _ _ i _ => (D + 1 - intOf i).toNat)
        case atStart =>
          have had := HAD.out
          refine ⟨rfl, 1, by omega, by omega, rfl, ?_, ?_⟩
          · rw [show cntN A 1 = 0 by unfold cntN; omega]
          · unfold lstN; rw [if_pos (show cntN A 1 = 0 by unfold cntN; omega)]
        case round =>
          obtain ⟨rfl, j, hj1, hj2, rfl, rfl, rfl⟩ := hrel
          have had := HAD.out
          have hcb : 0 ≤ cntN A j ∧ cntN A j ≤ 6 := by unfold cntN; omega
          by_cases hlt : j ≤ D
          · have q1 : decide (j ≤ D) = true := decide_eq_true hlt
            have HDj := Lib.hid (HDay.out j)
            rw [(HokJ.out j hj1 hlt).1, (HokJ.out j hj1 hlt).2] at HDj
            have hwd := HWD.out j hj1 hlt
            have HWj := Lib.hid (HWk.out (dayN y m j))
            obtain ⟨X, hX⟩ : ∃ X, wdN (dayN y m j) = X := ⟨_, rfl⟩
            rw [hX] at hwd HWj
            have a4 := i64_same (j + 1) (by omega)
            have B4 := Lib.hid (wrap64_in (j + 1) (by omega))
            have Hj := Lib.hid (show 1 ≤ j ∧ j ≤ D from ⟨hj1, hlt⟩)
            by_cases hit : (j - A) % 7 = 0
            · obtain ⟨hc1, hc2, hc3, hc4⟩ := cnt_hit A j ⟨had.1, had.2.1⟩ hj1 hit
              have q2 : (X != k) = false := by simpa using hwd.2 hit
              have q2' : (X == k) = true := by simpa using hwd.2 hit
              obtain ⟨C, hC⟩ : ∃ C, cntN A j = C := ⟨_, rfl⟩
              rw [hC] at hc1 hc4 hcb ⊢
              have a5 := i64_same (C + 1) (by omega)
              have B5 := Lib.hid (wrap64_in (C + 1) (by omega))
              replace hc1 := Lib.hid hc1
              replace hc2 := Lib.hid hc2
              have q3 : (C + 1 == -1) = false := beq_eq_false_iff_ne.2 (by omega)
              clear hwd hX hit had hcb hlt hj1 hj2 hC hc3 hc4
              have b4 := B4.out
              have b5 := B5.out
              go_wp2_with fail
              refine (HDs.out _).mono ?_
              rintro e w3 ⟨rfl, rfl⟩
              go_wp2_with fail
              refine (HDj.out _).mono ?_
              rintro e w3 ⟨rfl, rfl⟩
              go_wp2_with fail
              refine (HWj.out _).mono ?_
              rintro e w3 ⟨rfl, rfl⟩
              go_wp2_with fail
              go_round
              case rel => exact ⟨trivial, j + 1, by have := Hj.out; omega, by have := Hj.out; omega, rfl, by rw [hc1.out], by rw [hc2.out]⟩
              case measure => simp [intOf]; have := Hj.out; omega
            · obtain ⟨hc1, hc2⟩ := cnt_miss A j ⟨had.1, had.2.1⟩ hj1 hit
              have hne : X ≠ k := fun h => hit (hwd.1 h)
              have q2 : (X != k) = true := by simpa using hne
              have q2' : (X == k) = false := by simpa using hne
              replace hc1 := Lib.hid hc1
              replace hc2 := Lib.hid hc2
              clear hwd hX hit hne had hcb hlt hj1 hj2
              have b4 := B4.out
              go_wp2_with fail
              refine (HDs.out _).mono ?_
              rintro e w3 ⟨rfl, rfl⟩
              go_wp2_with fail
              refine (HDj.out _).mono ?_
              rintro e w3 ⟨rfl, rfl⟩
              go_wp2_with fail
              refine (HWj.out _).mono ?_
              rintro e w3 ⟨rfl, rfl⟩
              go_wp2_with fail
              go_round
              case rel => exact ⟨trivial, j + 1, by have := Hj.out; omega, by have := Hj.out; omega, rfl, by rw [hc1.out], by rw [hc2.out]⟩
              case measure => simp [intOf]; have := Hj.out; omega
          · obtain rfl : j = D + 1 := by omega
            have q1 : decide (D + 1 ≤ D) = false := decide_eq_false (by omega)
            have a6 := i64_same (D + 1) (by omega)
            have hl : lstN A (D + 1) = A + 7 * ((D - A) / 7) := by
              unfold lstN cntN
              rw [if_neg (by omega)]; omega
            rw [hl]
            clear had hcb hlt hj1 hj2 hl
            go_wp2_with fail
            refine (HDs.out _).mono ?_
            rintro e w3 ⟨rfl, rfl⟩
            go_wp2_with fail
            go_ret2
            rw [Hfin.out]
            exact ⟨rfl, rfl⟩
      · have k3 : (n == -1) = false := beq_eq_false_iff_ne.2 hm1
        have k4 : (n != -1) = true := by simpa using hm1
        have k5 : decide (n < 1) = false := decide_eq_false (by omega)
        have k6 : decide (n > 5) = false := decide_eq_false (by omega)
        rw [if_neg hm1] at Hfin
        have Hm1 := Lib.hid hm1
        clear hok hdm hym hkn hnok hd1 hdl hA hD hWD hfin hm1
        go_enter Tryz.func91, Tryz.ntmps91
        go_wp2_with fail
        refine (HM.out _).mono ?_
        rintro e w1 ⟨rfl, rfl⟩
        go_wp2_with fail
        go_loopw [10, 11, 12] (fun x l i wr => wr = w1 ∧ ∃ j : Int, 1 ≤ j ∧ j ≤ D + 1 ∧ i = .int .i64 j ∧ x = .int .i64 (cntN A j) ∧ l = .int .i64 (lstN A j) ∧ cntN A j < n) (fun _ _ i _ => (D + 1 - intOf i).toNat)
        case atStart =>
          have had := HAD.out
          refine ⟨rfl, 1, by omega, by omega, rfl, ?_, ?_, ?_⟩
          · rw [show cntN A 1 = 0 by unfold cntN; omega]
          · unfold lstN; rw [if_pos (show cntN A 1 = 0 by unfold cntN; omega)]
          · have := Hn.out; have := Hm1.out; rw [show cntN A 1 = 0 by unfold cntN; omega]; omega
        case round =>
          obtain ⟨rfl, j, hj1, hj2, rfl, rfl, rfl, hlc⟩ := hrel
          have had := HAD.out
          have hcb : 0 ≤ cntN A j ∧ cntN A j ≤ 6 := by unfold cntN; omega
          by_cases hlt : j ≤ D
          · have q1 : decide (j ≤ D) = true := decide_eq_true hlt
            have HDj := Lib.hid (HDay.out j)
            rw [(HokJ.out j hj1 hlt).1, (HokJ.out j hj1 hlt).2] at HDj
            have hwd := HWD.out j hj1 hlt
            have HWj := Lib.hid (HWk.out (dayN y m j))
            obtain ⟨X, hX⟩ : ∃ X, wdN (dayN y m j) = X := ⟨_, rfl⟩
            rw [hX] at hwd HWj
            have a4 := i64_same (j + 1) (by omega)
            have B4 := Lib.hid (wrap64_in (j + 1) (by omega))
            have Hj := Lib.hid (show 1 ≤ j ∧ j ≤ D from ⟨hj1, hlt⟩)
            by_cases hit : (j - A) % 7 = 0
            · obtain ⟨hc1, hc2, hc3, hc4⟩ := cnt_hit A j ⟨had.1, had.2.1⟩ hj1 hit
              have q2 : (X != k) = false := by simpa using hwd.2 hit
              have q2' : (X == k) = true := by simpa using hwd.2 hit
              obtain ⟨C, hC⟩ : ∃ C, cntN A j = C := ⟨_, rfl⟩
              rw [hC] at hc1 hc4 hcb hlc ⊢
              have a5 := i64_same (C + 1) (by omega)
              have B5 := Lib.hid (wrap64_in (C + 1) (by omega))
              replace hc1 := Lib.hid hc1
              replace hc2 := Lib.hid hc2
              by_cases heq : C + 1 = n
              · have q3 : (C + 1 == n) = true := beq_iff_eq.2 heq
                have hv : (if A + 7 * (n - 1) ≤ D then ((A + 7 * (n - 1), 0) : Int × Int) else (0, 60)) = (j, 0) := by
                  rw [if_pos (by omega)]
                  exact Prod.ext_iff.2 ⟨by show A + 7 * (n - 1) = j; omega, rfl⟩
                have Hv := Lib.hid hv
                clear hwd hX hit had hcb hlt hj1 hj2 hC hc3 hc4 hlc heq hv
                have b4 := B4.out
                have b5 := B5.out
                go_wp2_with fail
                refine (HDs.out _).mono ?_
                rintro e w3 ⟨rfl, rfl⟩
                go_wp2_with fail
                refine (HDj.out _).mono ?_
                rintro e w3 ⟨rfl, rfl⟩
                go_wp2_with fail
                refine (HWj.out _).mono ?_
                rintro e w3 ⟨rfl, rfl⟩
                go_wp2_with fail
                go_ret2
                rw [Hfin.out, Hv.out]
                exact ⟨rfl, rfl⟩
              · have q3 : (C + 1 == n) = false := beq_eq_false_iff_ne.2 heq
                have Hlt := Lib.hid (show C + 1 < n by omega)
                clear hwd hX hit had hcb hlt hj1 hj2 hC hc3 hc4 hlc heq
                have b4 := B4.out
                have b5 := B5.out
                go_wp2_with fail
                refine (HDs.out _).mono ?_
                rintro e w3 ⟨rfl, rfl⟩
                go_wp2_with fail
                refine (HDj.out _).mono ?_
                rintro e w3 ⟨rfl, rfl⟩
                go_wp2_with fail
                refine (HWj.out _).mono ?_
                rintro e w3 ⟨rfl, rfl⟩
                go_wp2_with fail
                go_round
                case rel => exact ⟨trivial, j + 1, by have := Hj.out; omega, by have := Hj.out; omega, rfl, by rw [hc1.out], by rw [hc2.out], by rw [hc1.out]; exact Hlt.out⟩
                case measure => simp [intOf]; have := Hj.out; omega
            · obtain ⟨hc1, hc2⟩ := cnt_miss A j ⟨had.1, had.2.1⟩ hj1 hit
              have hne : X ≠ k := fun h => hit (hwd.1 h)
              have q2 : (X != k) = true := by simpa using hne
              have q2' : (X == k) = false := by simpa using hne
              replace hc1 := Lib.hid hc1
              replace hc2 := Lib.hid hc2
              clear hwd hX hit hne had hcb hlt hj1 hj2
              have b4 := B4.out
              go_wp2_with fail
              refine (HDs.out _).mono ?_
              rintro e w3 ⟨rfl, rfl⟩
              go_wp2_with fail
              refine (HDj.out _).mono ?_
              rintro e w3 ⟨rfl, rfl⟩
              go_wp2_with fail
              refine (HWj.out _).mono ?_
              rintro e w3 ⟨rfl, rfl⟩
              go_wp2_with fail
              go_round
              case rel => exact ⟨trivial, j + 1, by have := Hj.out; omega, by have := Hj.out; omega, rfl, by rw [hc1.out], by rw [hc2.out], by rw [hc1.out]; exact hlc⟩
              case measure => simp [intOf]; have := Hj.out; omega
          · obtain rfl : j = D + 1 := by omega
            have q1 : decide (D + 1 ≤ D) = false := decide_eq_false (by omega)
            have a6 := i64_same (D + 1) (by omega)
            have hv : (if A + 7 * (n - 1) ≤ D then ((A + 7 * (n - 1), 0) : Int × Int) else (0, 60)) = (0, 60) := if_neg (by unfold cntN at hlc; omega)
            have Hv := Lib.hid hv
            clear had hcb hlt hj1 hj2 hlc hv
            go_wp2_with fail
            refine (HDs.out _).mono ?_
            rintro e w3 ⟨rfl, rfl⟩
            go_wp2_with fail
            go_ret2
            rw [Hfin.out, Hv.out]
            exact ⟨rfl, rfl⟩
    · have hv : nthV y m k n = (0, 60) := if_neg fun h => hkn ⟨h.1.2.2.2.2.1, h.1.2.2.2.2.2.1, h.1.2.2.2.2.2.2⟩
      have Hv := Lib.hid hv
      have H := Lib.hid hkn
      clear hv hkn hym hdm hok
      by_cases hn1 : n = -1
      · subst hn1
        by_cases hk1 : k < 1
        · have c1 : decide (k < 1) = true := decide_eq_true hk1
          clear hk1
          go_enter Tryz.func91, Tryz.ntmps91
          go_wp2_with fail
          refine (HM.out _).mono ?_
          rintro e w1 ⟨rfl, rfl⟩
          go_wp2_with fail
          go_ret2
          rw [Hv.out]
          exact ⟨rfl, rfl⟩
        · have c1 : decide (k < 1) = false := decide_eq_false hk1
          have c2 : decide (k > 7) = true := decide_eq_true (by have := H.out; omega)
          clear hk1
          go_enter Tryz.func91, Tryz.ntmps91
          go_wp2_with fail
          refine (HM.out _).mono ?_
          rintro e w1 ⟨rfl, rfl⟩
          go_wp2_with fail
          go_ret2
          rw [Hv.out]
          exact ⟨rfl, rfl⟩
      · have k3 : (n == -1) = false := beq_eq_false_iff_ne.2 hn1
        have k4 : (n != -1) = true := by simpa using hn1
        go_enter Tryz.func91, Tryz.ntmps91
        go_wp2_with fail
        refine (HM.out _).mono ?_
        rintro e w1 ⟨rfl, rfl⟩
        go_wp2_with fail
        all_goals first
          | (exfalso; have := H.out; omega)
          | (go_ret2; rw [Hv.out]; exact ⟨rfl, rfl⟩)
  · rw [decide_eq_false hok] at HM
    have hv : nthV y m k n = (0, 60) := if_neg fun h => hok (ok_one ⟨h.1.1, h.1.2.1, h.1.2.2.1, h.1.2.2.2.1⟩)
    have Hv := Lib.hid hv
    clear hv hok
    go_enter Tryz.func91, Tryz.ntmps91
    go_wp2_with fail
    refine (HM.out _).mono ?_
    rintro e w1 ⟨rfl, rfl⟩
    go_wp2_with fail
    go_ret2
    rw [Hv.out]
    exact ⟨rfl, rfl⟩
end Go.Proofs.YtgbkedjjgbhcmaaGreatDoor
