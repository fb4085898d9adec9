/-
  Texts that the proof leans on, merged by program, part 9. Conditions stand at each theorem.
-/
import Derived.Test.YtgbkedjjgbhcmaaGreatDoorFeastPlain
import Derived.Test.YtgbkedjjgbhcmaaGreatDoorIs
/-
  The document's question, is a day that holiday: behind, one, walked. Conditions stand at each theorem. (Printed by gen_refone.py.)
-/
namespace Go.Proofs.YtgbkedjjgbhcmaaGreatDoor
open Go Go.RowKit Go.Kw Go.Kw.Cv Go.Shelf
set_option linter.unusedVariables false
set_option linter.unusedSimpArgs false

set_option maxHeartbeats 4000000 in
theorem behind_calls (D y : Int) (hy : 1970 ≤ y ∧ y ≤ 9999) (hD : 0 ≤ D ∧ D ≤ 2932896) (w : World) : Calls Tryz.prog 93 #[.int .i64 D, .int .i64 y] w fun e w' => e = .returned (.int .i64 (behD D y)) ∧ w' = w := by
  have HE := refEaster_calls y hy
  have ho := eas_ok hy
  have HD := refDay_calls y (easM y) (easD y)
  rw [show dayE y (easM y) (easD y) = dayN y (easM y) (easD y) from if_pos ho, chk_ok ho] at HD
  have hr := day_range ho
  unfold behD
  obtain ⟨N, hN⟩ : ∃ N, dayN y (easM y) (easD y) = N := ⟨_, rfl⟩
  rw [hN] at HD hr ⊢
  obtain ⟨m, hm⟩ : ∃ m, easM y = m := ⟨_, rfl⟩
  obtain ⟨d, hd⟩ : ∃ d, easD y = d := ⟨_, rfl⟩
  rw [hm, hd] at HE HD
  replace HE := Lib.hid HE
  replace HD := Lib.hid HD
  have a1 := i64_same (D - N) (by omega)
  have B1 := Lib.hid (wrap64_in (D - N) (by omega))
  clear ho hr hN hm hd hy hD
  have b1 := B1.out
  go_enter Tryz.func93, Tryz.ntmps93
  go_wp2_with fail
  refine (HE.out _).mono ?_
  rintro e w1 ⟨rfl, rfl⟩
  go_wp2_with fail
  refine (HD.out _).mono ?_
  rintro e w2 ⟨rfl, rfl⟩
  go_wp2_with fail
  go_ret
  exact ⟨rfl, rfl⟩
set_option maxRecDepth 100000 in
set_option maxHeartbeats 8000000 in
theorem one1 (hy m d wd n y0 m0 d0 : Int) (hok : okD y0 m0 d0) (w : World) : Calls Tryz.prog 80 #[.agg #[.int .i64 1, .int .i64 hy, .int .i64 m, .int .i64 d, .int .i64 wd, .int .i64 n], .int .i64 (dayN y0 m0 d0)] w fun e w' => e = .returned (.bool (decide (m0 = m ∧ d0 = d))) ∧ Below w.heap.size w w' := by
  have HO := refOf_calls y0 m0 d0 hok
  obtain ⟨D, hD⟩ : ∃ D, dayN y0 m0 d0 = D := ⟨_, rfl⟩
  rw [hD] at HO ⊢
  replace HO := Lib.hid HO
  clear hok hD
  by_cases h0 : m0 = m
  · have k0 : (m0 == m) = true := beq_iff_eq.2 h0
    by_cases h1 : d0 = d
    · have k1 : (d0 == d) = true := beq_iff_eq.2 h1
      rw [show decide (m0 = m ∧ d0 = d) = true from decide_eq_true ⟨h0, h1⟩]
      clear h0 h1
      go_enter Tryz.func80, Tryz.ntmps80
      go_wp2_with fail
      refine (HO.out _).mono ?_
      rintro e w3 ⟨rfl, rfl⟩
      go_wp2_with fail
      go_ret
      exact ⟨rfl, bstep w _⟩
    · have k1 : (d0 == d) = false := beq_eq_false_iff_ne.2 h1
      rw [show decide (m0 = m ∧ d0 = d) = false from decide_eq_false (fun h => h1 h.2)]
      clear h0 h1
      go_enter Tryz.func80, Tryz.ntmps80
      go_wp2_with fail
      refine (HO.out _).mono ?_
      rintro e w3 ⟨rfl, rfl⟩
      go_wp2_with fail
      go_ret
      exact ⟨rfl, bstep w _⟩
  · have k0 : (m0 == m) = false := beq_eq_false_iff_ne.2 h0
    rw [show decide (m0 = m ∧ d0 = d) = false from decide_eq_false (fun h => h0 h.1)]
    clear h0
    go_enter Tryz.func80, Tryz.ntmps80
    go_wp2_with fail
    refine (HO.out _).mono ?_
    rintro e w3 ⟨rfl, rfl⟩
    go_wp2_with fail
    go_ret
    exact ⟨rfl, bstep w _⟩
set_option maxRecDepth 100000 in
set_option maxHeartbeats 8000000 in
theorem one2 (hy m d wd n y0 m0 d0 : Int) (hok : okD y0 m0 d0) (w : World) : Calls Tryz.prog 80 #[.agg #[.int .i64 2, .int .i64 hy, .int .i64 m, .int .i64 d, .int .i64 wd, .int .i64 n], .int .i64 (dayN y0 m0 d0)] w fun e w' => e = .returned (.bool (decide (y0 = hy ∧ m0 = m ∧ d0 = d))) ∧ Below w.heap.size w w' := by
  have HO := refOf_calls y0 m0 d0 hok
  obtain ⟨D, hD⟩ : ∃ D, dayN y0 m0 d0 = D := ⟨_, rfl⟩
  rw [hD] at HO ⊢
  replace HO := Lib.hid HO
  clear hok hD
  by_cases h0 : y0 = hy
  · have k0 : (y0 == hy) = true := beq_iff_eq.2 h0
    by_cases h1 : m0 = m
    · have k1 : (m0 == m) = true := beq_iff_eq.2 h1
      by_cases h2 : d0 = d
      · have k2 : (d0 == d) = true := beq_iff_eq.2 h2
        rw [show decide (y0 = hy ∧ m0 = m ∧ d0 = d) = true from decide_eq_true ⟨h0, h1, h2⟩]
        clear h0 h1 h2
        go_enter Tryz.func80, Tryz.ntmps80
        go_wp2_with fail
        refine (HO.out _).mono ?_
        rintro e w3 ⟨rfl, rfl⟩
        go_wp2_with fail
        go_ret
        exact ⟨rfl, bstep w _⟩
      · have k2 : (d0 == d) = false := beq_eq_false_iff_ne.2 h2
        rw [show decide (y0 = hy ∧ m0 = m ∧ d0 = d) = false from decide_eq_false (fun h => h2 h.2.2)]
        clear h0 h1 h2
        go_enter Tryz.func80, Tryz.ntmps80
        go_wp2_with fail
        refine (HO.out _).mono ?_
        rintro e w3 ⟨rfl, rfl⟩
        go_wp2_with fail
        go_ret
        exact ⟨rfl, bstep w _⟩
    · have k1 : (m0 == m) = false := beq_eq_false_iff_ne.2 h1
      rw [show decide (y0 = hy ∧ m0 = m ∧ d0 = d) = false from decide_eq_false (fun h => h1 h.2.1)]
      clear h0 h1
      go_enter Tryz.func80, Tryz.ntmps80
      go_wp2_with fail
      refine (HO.out _).mono ?_
      rintro e w3 ⟨rfl, rfl⟩
      go_wp2_with fail
      go_ret
      exact ⟨rfl, bstep w _⟩
  · have k0 : (y0 == hy) = false := beq_eq_false_iff_ne.2 h0
    rw [show decide (y0 = hy ∧ m0 = m ∧ d0 = d) = false from decide_eq_false (fun h => h0 h.1)]
    clear h0
    go_enter Tryz.func80, Tryz.ntmps80
    go_wp2_with fail
    refine (HO.out _).mono ?_
    rintro e w3 ⟨rfl, rfl⟩
    go_wp2_with fail
    go_ret
    exact ⟨rfl, bstep w _⟩
set_option maxRecDepth 100000 in
set_option maxHeartbeats 8000000 in
theorem one3 (hy m d wd n y0 m0 d0 : Int) (hok : okD y0 m0 d0) (w : World) : Calls Tryz.prog 80 #[.agg #[.int .i64 3, .int .i64 hy, .int .i64 m, .int .i64 d, .int .i64 wd, .int .i64 n], .int .i64 (dayN y0 m0 d0)] w fun e w' => e = .returned (.bool (decide (m0 = m ∧ nthV y0 m0 wd n = (d0, 0)))) ∧ Below w.heap.size w w' := by
  have HO := refOf_calls y0 m0 d0 hok
  have HN := refNth_calls y0 m0 wd n
  obtain ⟨v, hv⟩ : ∃ v, nthV y0 m0 wd n = v := ⟨_, rfl⟩
  rw [hv] at HN ⊢
  obtain ⟨v1, v2⟩ := v
  replace HN := Lib.hid HN
  obtain ⟨D, hD⟩ : ∃ D, dayN y0 m0 d0 = D := ⟨_, rfl⟩
  rw [hD] at HO ⊢
  replace HO := Lib.hid HO
  clear hok hD
  clear hv
  by_cases h0 : m0 = m
  · have k0 : (m0 == m) = true := beq_iff_eq.2 h0
    by_cases h1 : v2 = 0
    · have k1 : (v2 == 0) = true := beq_iff_eq.2 h1
      by_cases h2 : v1 = d0
      · have k2 : (v1 == d0) = true := beq_iff_eq.2 h2
        rw [show decide (m0 = m ∧ (v1, v2) = (d0, (0 : Int))) = true from decide_eq_true ⟨h0, by rw [h1, h2]⟩]
        clear h0 h1 h2
        go_enter Tryz.func80, Tryz.ntmps80
        go_wp2_with fail
        refine (HO.out _).mono ?_
        rintro e w3 ⟨rfl, rfl⟩
        go_wp2_with fail
        refine (HN.out _).mono ?_
        rintro e w4 ⟨rfl, rfl⟩
        go_wp2_with fail
        go_ret
        exact ⟨rfl, bstep w _⟩
      · have k2 : (v1 == d0) = false := beq_eq_false_iff_ne.2 h2
        rw [show decide (m0 = m ∧ (v1, v2) = (d0, (0 : Int))) = false from decide_eq_false (fun h => h2 (by have := h.2; injection this))]
        clear h0 h1 h2
        go_enter Tryz.func80, Tryz.ntmps80
        go_wp2_with fail
        refine (HO.out _).mono ?_
        rintro e w3 ⟨rfl, rfl⟩
        go_wp2_with fail
        refine (HN.out _).mono ?_
        rintro e w4 ⟨rfl, rfl⟩
        go_wp2_with fail
        go_ret
        exact ⟨rfl, bstep w _⟩
    · have k1 : (v2 == 0) = false := beq_eq_false_iff_ne.2 h1
      rw [show decide (m0 = m ∧ (v1, v2) = (d0, (0 : Int))) = false from decide_eq_false (fun h => h1 (by have := h.2; injection this))]
      clear h0 h1
      go_enter Tryz.func80, Tryz.ntmps80
      go_wp2_with fail
      refine (HO.out _).mono ?_
      rintro e w3 ⟨rfl, rfl⟩
      go_wp2_with fail
      refine (HN.out _).mono ?_
      rintro e w4 ⟨rfl, rfl⟩
      go_wp2_with fail
      go_ret
      exact ⟨rfl, bstep w _⟩
  · have k0 : (m0 == m) = false := beq_eq_false_iff_ne.2 h0
    rw [show decide (m0 = m ∧ (v1, v2) = (d0, (0 : Int))) = false from decide_eq_false (fun h => h0 h.1)]
    clear h0
    go_enter Tryz.func80, Tryz.ntmps80
    go_wp2_with fail
    refine (HO.out _).mono ?_
    rintro e w3 ⟨rfl, rfl⟩
    go_wp2_with fail
    refine (HN.out _).mono ?_
    rintro e w4 ⟨rfl, rfl⟩
    go_wp2_with fail
    go_ret
    exact ⟨rfl, bstep w _⟩
/-- Of kind 4. -/
def easP (n y0 D : Int) : Prop := ∃ j, y0 - 1 ≤ j ∧ j ≤ y0 + 1 ∧ 1970 ≤ j ∧ j ≤ 9999 ∧ behD D j = n
noncomputable instance (n y0 D : Int) : Decidable (easP n y0 D) := Classical.propDecidable _
set_option maxRecDepth 100000 in
set_option maxHeartbeats 8000000 in
theorem one4 (hy m d wd n y0 m0 d0 : Int) (hok : okD y0 m0 d0) (w : World) : Calls Tryz.prog 80 #[.agg #[.int .i64 4, .int .i64 hy, .int .i64 m, .int .i64 d, .int .i64 wd, .int .i64 n], .int .i64 (dayN y0 m0 d0)] w fun e w' => e = .returned (.bool (decide (easP n y0 (dayN y0 m0 d0)))) ∧ Below w.heap.size w w' := by
  obtain ⟨b0, hb0⟩ : ∃ b0, w.heap.size = b0 := ⟨_, rfl⟩
  have Hb0 := Lib.hid hb0
  have HO := refOf_calls y0 m0 d0 hok
  have hr := day_range hok
  obtain ⟨D, hD⟩ : ∃ D, dayN y0 m0 d0 = D := ⟨_, rfl⟩
  rw [hD] at HO hr ⊢
  replace HO := Lib.hid HO
  have Hr := Lib.hid hr
  have Hy := Lib.hid (show 1970 ≤ y0 ∧ y0 ≤ 9999 from ⟨hok.1, hok.2.1⟩)
  have a1 := i64_same (y0 - 1) (by have := hok.1; have := hok.2.1; omega)
  have a2 := i64_same (y0 + 1) (by have := hok.1; have := hok.2.1; omega)
  have B1 := Lib.hid (wrap64_in (y0 - 1) (by have := hok.1; have := hok.2.1; omega))
  have B2 := Lib.hid (wrap64_in (y0 + 1) (by have := hok.1; have := hok.2.1; omega))
  have hrow := World.alloc_heap_new w (.cells #[.int .i64 4, .int .i64 hy, .int .i64 m, .int .i64 d, .int .i64 wd, .int .i64 n] 93)
  have hB1 := bstep w (.cells #[.int .i64 4, .int .i64 hy, .int .i64 m, .int .i64 d, .int .i64 wd, .int .i64 n] 93)
  rw [hb0] at hrow hB1
  clear hok hD hr
  have b1 := B1.out
  have b2 := B2.out
  go_enter Tryz.func80, Tryz.ntmps80
  go_wp2_with fail
  refine (HO.out _).mono ?_
  rintro e w3 ⟨rfl, rfl⟩
  go_wp2_with fail
  go_loopw [11] (fun i wr => ∃ j : Int, i = .int .i64 j ∧ y0 - 1 ≤ j ∧ j ≤ y0 + 2 ∧ (∀ t, y0 - 1 ≤ t → t < j → ¬ (1970 ≤ t ∧ t ≤ 9999 ∧ behD D t = n)) ∧ wr.heap[b0]? = some (.cells #[.int .i64 4, .int .i64 hy, .int .i64 m, .int .i64 d, .int .i64 wd, .int .i64 n] 93 (0, 0)) ∧ Below b0 w wr) (fun i _ => (y0 + 2 - intOf i).toNat)
  case atStart => exact ⟨y0 - 1, rfl, by omega, by omega, fun t h1 h2 => absurd h2 (by omega), hrow, hB1⟩
  case round =>
    obtain ⟨j, rfl, hj1, hj2, hall, hrw, hBw⟩ := hrel
    have c5 := cell_of_row wr b0 5 _ _ _ hrw
    have hyy := Hy.out
    have a3 := i64_same (j + 1) (by omega)
    have B3 := Lib.hid (wrap64_in (j + 1) (by omega))
    have HM := Lib.hid (show (y0 + 2 - (j + 1)).toNat < (y0 + 2 - j).toNat ∨ ¬ j ≤ y0 + 1 by omega)
    have Hall := Lib.hid hall
    have Hj := Lib.hid (And.intro hj1 hj2)
    have step : ¬ (1970 ≤ j ∧ j ≤ 9999 ∧ behD D j = n) → ∀ t, y0 - 1 ≤ t → t < j + 1 → ¬ (1970 ≤ t ∧ t ≤ 9999 ∧ behD D t = n) := fun h t h1 h2 => by
      by_cases e : t = j
      · rw [e]; exact h
      · exact hall t h1 (by omega)
    by_cases hlt : j ≤ y0 + 1
    · have kl : decide (j ≤ y0 + 1) = true := decide_eq_true hlt
      by_cases h1 : 1970 ≤ j
      · have k1 : decide (j ≥ 1970) = true := decide_eq_true h1
        by_cases h2 : j ≤ 9999
        · have k2 : decide (j ≤ 9999) = true := decide_eq_true h2
          have HB := Lib.hid (behind_calls D j ⟨h1, h2⟩ Hr.out)
          by_cases h3 : behD D j = n
          · have k3 : (behD D j == n) = true := beq_iff_eq.2 h3
            have HY := Lib.hid (show decide (easP n y0 D) = true from decide_eq_true ⟨j, hj1, hlt, h1, h2, h3⟩)
            clear hall hj1 hj2 hlt h1 h2 h3 hyy step
            go_wp2_with fail
            go_quiet ((go_at_call 93; exact Calls.quiet_of_same (HB.out _)))
            go_wp2_with fail
            go_ret
            rw [HY.out]
            exact ⟨rfl, by first | exact hBw.drewN _ | (rw [Hb0.out]; exact hBw.drewN _)⟩
          · have k3 : (behD D j == n) = false := beq_eq_false_iff_ne.2 h3
            have HS := Lib.hid (step (fun h => h3 h.2.2))
            have Hlt := Lib.hid hlt
            clear hall hj1 hj2 hlt h1 h2 h3 hyy step
            have b3 := B3.out
            go_wp2_with fail
            go_quiet ((go_at_call 93; exact Calls.quiet_of_same (HB.out _)))
            go_wp2_with fail
            clear b3
            exact ⟨⟨j + 1, rfl, by have := Hj.out; omega, by have := Hlt.out; omega, HS.out, hrw, hBw.drewN _⟩, by have := HM.out; have := Hlt.out; simp [intOf]; omega⟩
        · have k2 : decide (j ≤ 9999) = false := decide_eq_false h2
          have HS := Lib.hid (step (fun h => h2 h.2.1))
          have Hlt := Lib.hid hlt
          clear hall hj1 hj2 hlt h1 h2 hyy step
          have b3 := B3.out
          go_wp2_with fail
          go_quiet (fail)
          go_wp2_with fail
          clear b3
          exact ⟨⟨j + 1, rfl, by have := Hj.out; omega, by have := Hlt.out; omega, HS.out, hrw, hBw.drewN _⟩, by have := HM.out; have := Hlt.out; simp [intOf]; omega⟩
      · have k1 : decide (j ≥ 1970) = false := decide_eq_false h1
        have HS := Lib.hid (step (fun h => h1 h.1))
        have Hlt := Lib.hid hlt
        clear hall hj1 hj2 hlt h1 hyy step
        have b3 := B3.out
        go_wp2_with fail
        go_quiet (fail)
        go_wp2_with fail
        clear b3
        exact ⟨⟨j + 1, rfl, by have := Hj.out; omega, by have := Hlt.out; omega, HS.out, hrw, hBw.drewN _⟩, by have := HM.out; have := Hlt.out; simp [intOf]; omega⟩
    · have kl : decide (j ≤ y0 + 1) = false := decide_eq_false hlt
      have HNo := Lib.hid (show decide (easP n y0 D) = false from decide_eq_false (fun ⟨t, h1, h2, h3, h4, h5⟩ => hall t h1 (by omega) ⟨h3, h4, h5⟩))
      clear hall hj1 hj2 hlt hyy step
      go_wp2_with fail
      go_ret
      rw [HNo.out]
      exact ⟨rfl, by first | exact hBw | (rw [Hb0.out]; exact hBw)⟩
/-- Is a day that holiday? -/
theorem one_calls (k hy m d wd n y0 m0 d0 : Int) (hM : mayB k hy m d wd n) (hok : okD y0 m0 d0) (b : Bool) (hb : b = true ↔ oneP k hy m d wd n y0 m0 d0) (w : World) :
    Calls Tryz.prog 80 #[.agg #[.int .i64 k, .int .i64 hy, .int .i64 m, .int .i64 d, .int .i64 wd, .int .i64 n], .int .i64 (dayN y0 m0 d0)] w fun e w' => e = .returned (.bool b) ∧ Below w.heap.size w w' := by
  have hx : ∀ (p : Prop) [Decidable p], (p ↔ oneP k hy m d wd n y0 m0 d0) → decide p = b := fun p _ h => by
    rw [Bool.eq_iff_iff, decide_eq_true_eq, h, hb]
  rcases hM with ⟨rfl, _⟩ | ⟨rfl, _⟩ | ⟨rfl, _⟩ | ⟨rfl, _⟩
  · have h := one2 hy m d wd n y0 m0 d0 hok w
    rwa [hx _ ⟨fun h => .inr (.inl ⟨rfl, h⟩), fun h => by rcases h with h | h | h | h <;> first | exact h.2 | omega⟩] at h
  · have h := one1 hy m d wd n y0 m0 d0 hok w
    rwa [hx _ ⟨fun h => .inl ⟨rfl, h⟩, fun h => by rcases h with h | h | h | h <;> first | exact h.2 | omega⟩] at h
  · have h := one3 hy m d wd n y0 m0 d0 hok w
    rwa [hx _ ⟨fun h => .inr (.inr (.inl ⟨rfl, h⟩)), fun h => by rcases h with h | h | h | h <;> first | exact h.2 | omega⟩] at h
  · have h := one4 hy m d wd n y0 m0 d0 hok w
    rwa [hx (easP n y0 (dayN y0 m0 d0)) ⟨fun h => .inr (.inr (.inr ⟨rfl, h⟩)), fun h => by rcases h with h | h | h | h <;> first | exact h.2 | omega⟩] at h
end Go.Proofs.YtgbkedjjgbhcmaaGreatDoor

/-
  The document's word on whether a day is a holiday, its kind: walked. Conditions stand at each theorem.
-/
namespace Go.Proofs.YtgbkedjjgbhcmaaGreatDoor
open Go Go.RowKit Go.Kw Go.Kw.Cv Go.Shelf
set_option linter.unusedVariables false
set_option linter.unusedSimpArgs false

set_option maxRecDepth 100000 in
set_option maxHeartbeats 8000000 in
theorem refIs_calls (A : Option Addr) (la ca : Nat) (gh : Nat → Nat → Int) (B : Option Addr) (lb cb : Nat) (gs : Nat → Nat → Int) (hall0 : ∀ i, i < la → holOk gh i) (n : Int) (hn : 0 ≤ n ∧ n ≤ 2932896) (w : World) (hR : RdCal w A la ca gh B lb cb gs) :
    Calls Tryz.prog 68 #[calC A la ca B lb cb, .int .i64 n] w fun e w' => e = .returned (.bool (isF gh la n)) ∧ Below w.heap.size w w' := by
  obtain ⟨hok, hday⟩ := dOf_spec n hn
  have hF1 := isF_day gh la hok
  have hF2 := fe_one gh la hall0 _ _ _ hok
  obtain ⟨y, hy⟩ : ∃ y, (dOf n).1 = y := ⟨_, rfl⟩
  obtain ⟨m, hm⟩ : ∃ m, (dOf n).2.1 = m := ⟨_, rfl⟩
  obtain ⟨d, hd⟩ : ∃ d, (dOf n).2.2 = d := ⟨_, rfl⟩
  rw [hy, hm, hd] at hok hday hF1 hF2
  rw [hday] at hF1 hF2
  rw [hF1]
  have Hall0 := Lib.hid hall0
  have HF2 := Lib.hid hF2
  have Hok := Lib.hid hok
  have Hday := Lib.hid hday
  clear hF1 hF2 hy hm hd hall0 hok hday
  obtain ⟨b0, hb0⟩ : ∃ b0, w.heap.size = b0 := ⟨_, rfl⟩
  have Hb0 := Lib.hid hb0
  have hrow := World.alloc_heap_new w (.cells #[.slice A la ca, .slice B lb cb] 28)
  have hB1 := bstep w (.cells #[.slice A la ca, .slice B lb cb] 28)
  have hs1 : b0 + 1 ≤ (w.alloc (.cells #[.slice A la ca, .slice B lb cb] 28)).heap.size := by simp [hb0]
  rw [hb0] at hrow hB1
  have HR := Lib.hid hR
  have Hlen := Lib.hid (show la ≤ 9223372036854775807 by have h1 := hR.1.1; have h2 := hR.1.2.1; have h3 : maxLen = 9223372036854775807 := rfl; omega)
  unfold calC
  clear hR
  go_enter Tryz.func68, Tryz.ntmps68
  go_wp2_with fail
  go_loopw [5] (fun i wr => ∃ k : Nat, k ≤ la ∧ i = .int .i64 k ∧ (∀ j, j < k → ¬ oneH gh j y m d) ∧ Below b0 w wr ∧ b0 + 1 ≤ wr.heap.size ∧ wr.heap[b0]? = some (.cells #[.slice A la ca, .slice B lb cb] 28 (0, 0))) (fun i _ => la - (intOf i).toNat)
  case atStart => exact ⟨0, by omega, rfl, fun j hj => absurd hj (by omega), hB1, hs1, hrow⟩
  case round =>
    obtain ⟨k, hk, rfl, hall, hB, hs, hr⟩ := hrel
    have e0 := cell_of_row wr b0 0 _ _ _ hr
    by_cases hlt : k < la
    · have hI : (k : Int) < la := by omega
      obtain ⟨sb, off, rfl, hsb, hc⟩ := HR.out.1.at_ (by omega) hlt
      have hsb0 : sb < b0 := by have := Hb0.out; omega
      have hc' : ∀ j, j < 6 → wr.cell? ⟨sb, off + k * 6 + j, none⟩ = some (.int .i64 (gh k j)) := fun j hj => (hB.cell (p := ⟨sb, off + k * 6 + j, none⟩) hsb0).trans (hc j hj)
      have c0 : wr.cell? ⟨sb, off + k * 6, none⟩ = some (.int .i64 (gh k 0)) := hc' 0 (by omega)
      have c1 := hc' 1 (by omega)
      have c2 := hc' 2 (by omega)
      have c3 := hc' 3 (by omega)
      have c4 := hc' 4 (by omega)
      have c5 := hc' 5 (by omega)
      have w1 : IntKind.i64.wrap ((k : Int) + 1) = (k : Int) + 1 := i64_same _ (by have := Hlen.out; omega)
      have X1 := Lib.hid (wrap64_in ((k : Int) + 1) (by have := Hlen.out; omega))
      have hM := one_calls (gh k 0) (gh k 1) (gh k 2) (gh k 3) (gh k 4) (gh k 5) y m d (Hall0.out k hlt) Hok.out
      rw [Hday.out] at hM
      have Hk := Lib.hid (show k + 1 ≤ la from hlt)
      by_cases hone : oneH gh k y m d
      · have HM := Lib.hid (hM true ⟨fun _ => hone, fun _ => rfl⟩)
        have HY := Lib.hid (show decide (n ∈ feastL gh la y) = true from decide_eq_true (HF2.out.2 ⟨k, hlt, hone⟩))
        clear hc hc' hM hone hall hk hlt
        go_wp2_with fail
        refine (HM.out _).mono ?_
        rintro e w2 ⟨rfl, hb2⟩
        have hB2 := hB.trans (hb2.mono (by omega))
        go_wp2_with fail
        go_ret
        rw [HY.out]
        exact ⟨rfl, by first | exact hB2 | (rw [Hb0.out]; exact hB2)⟩
      · have HM := Lib.hid (hM false ⟨fun h => absurd h Bool.false_ne_true, fun h => absurd h hone⟩)
        have HN := Lib.hid (show ∀ j, j < k + 1 → ¬ oneH gh j y m d from fun j hj => by
          by_cases e : j = k
          · rw [e]; exact hone
          · exact hall j (by omega))
        clear hc hc' hM hone hall hk hlt
        have x1 := X1.out
        go_wp2_with fail
        refine (HM.out _).mono ?_
        rintro e w2 ⟨rfl, hb2⟩
        have hB2 := hB.trans (hb2.mono (by omega))
        have hs2 := Nat.le_trans hs hb2.size
        have hr2 := blk_below hr hb2
        go_wp2_with fail
        clear x1
        exact ⟨⟨k + 1, Hk.out, by push_cast; rfl, HN.out, hB2, hs2, hr2⟩, meas_step la k Hk.out⟩
    · obtain rfl : k = la := by omega
      have hI : ¬ ((k : Int) < k) := by omega
      have HNo := Lib.hid (show decide (n ∈ feastL gh k y) = false from decide_eq_false (fun h => (HF2.out.1 h).elim fun i hi => hall i hi.1 hi.2))
      clear hall hk hlt
      go_wp2_with fail
      go_ret
      rw [HNo.out]
      exact ⟨rfl, by first | exact hB | (rw [Hb0.out]; exact hB)⟩
theorem kindB_t (w : Int) : kindB true w = 4 := rfl
theorem kindB_7 : kindB false 7 = 3 := rfl
theorem kindB_6 : kindB false 6 = 2 := rfl
theorem kindB_no (w : Int) (h7 : w ≠ 7) (h6 : w ≠ 6) : kindB false w = 1 := by unfold kindB; rw [if_neg (by decide), if_neg h7, if_neg h6]
set_option maxRecDepth 100000 in
set_option maxHeartbeats 8000000 in
theorem refKind_calls (A : Option Addr) (la ca : Nat) (gh : Nat → Nat → Int) (B : Option Addr) (lb cb : Nat) (gs : Nat → Nat → Int) (hall0 : ∀ i, i < la → holOk gh i) (n : Int) (hn : 0 ≤ n ∧ n ≤ 2932896) (w : World) (hR : RdCal w A la ca gh B lb cb gs) :
    Calls Tryz.prog 34 #[calC A la ca B lb cb, .int .i64 n] w fun e w' => e = .returned (.int .i64 (kindD gh la n)) ∧ Below w.heap.size w w' := by
  have HW := refWeekday_calls n
  have hst := bstep w (.cells #[.slice A la ca, .slice B lb cb] 28)
  have HI := refIs_calls A la ca gh B lb cb gs hall0 n hn _ (hR.go hst)
  unfold kindD
  obtain ⟨b, hb⟩ : ∃ b, isF gh la n = b := ⟨_, rfl⟩
  obtain ⟨W, hW⟩ : ∃ W, wdN n = W := ⟨_, rfl⟩
  rw [hb] at HI ⊢
  rw [hW] at HW ⊢
  clear hb hW
  unfold calC at HI ⊢
  replace HW := Lib.hid HW
  replace HI := Lib.hid HI
  clear hR
  cases b with
  | true =>
    rw [kindB_t]
    go_enter Tryz.func34, Tryz.ntmps34
    go_wp2_with fail
    refine (HW.out _).mono ?_
    rintro e w1 ⟨rfl, rfl⟩
    go_wp2_with fail
    refine HI.out.mono ?_
    rintro e w2 ⟨rfl, hb2⟩
    go_wp2_with fail
    go_ret
    exact ⟨rfl, bnext hst hb2⟩
  | false =>
    by_cases h7 : W = 7
    · subst h7
      rw [kindB_7]
      go_enter Tryz.func34, Tryz.ntmps34
      go_wp2_with fail
      refine (HW.out _).mono ?_
      rintro e w1 ⟨rfl, rfl⟩
      go_wp2_with fail
      refine HI.out.mono ?_
      rintro e w2 ⟨rfl, hb2⟩
      go_wp2_with fail
      go_ret
      exact ⟨rfl, bnext hst hb2⟩
    · by_cases h6 : W = 6
      · subst h6
        rw [kindB_6]
        clear h7
        go_enter Tryz.func34, Tryz.ntmps34
        go_wp2_with fail
        refine (HW.out _).mono ?_
        rintro e w1 ⟨rfl, rfl⟩
        go_wp2_with fail
        refine HI.out.mono ?_
        rintro e w2 ⟨rfl, hb2⟩
        go_wp2_with fail
        go_ret
        exact ⟨rfl, bnext hst hb2⟩
      · rw [kindB_no W h7 h6]
        have k7 : (W == 7) = false := beq_eq_false_iff_ne.2 h7
        have k6 : (W == 6) = false := beq_eq_false_iff_ne.2 h6
        clear h7 h6
        go_enter Tryz.func34, Tryz.ntmps34
        go_wp2_with fail
        refine (HW.out _).mono ?_
        rintro e w1 ⟨rfl, rfl⟩
        go_wp2_with fail
        refine HI.out.mono ?_
        rintro e w2 ⟨rfl, hb2⟩
        go_wp2_with fail
        go_ret
        exact ⟨rfl, bnext hst hb2⟩
end Go.Proofs.YtgbkedjjgbhcmaaGreatDoor

/-
  A day's kind: days.Kind, walked. Conditions stand at each theorem.
-/
namespace Go.Proofs.YtgbkedjjgbhcmaaGreatDoor
open Go Go.RowKit Go.Kw Go.Kw.Cv Go.Shelf
set_option linter.unusedVariables false
set_option linter.unusedSimpArgs false

set_option maxRecDepth 100000 in
set_option maxHeartbeats 8000000 in
theorem daysKind_ok (A : Option Addr) (la ca : Nat) (gh : Nat → Nat → Int) (B : Option Addr) (lb cb : Nat) (gs : Nat → Nat → Int) (n : Int) (hcal : calOk la gh lb gs) (hn : 0 ≤ n ∧ n ≤ 2932896) (w : World) (hR : RdCal w A la ca gh B lb cb gs) (hL : Lens w) :
    Calls Tryz.prog 28 #[calC A la ca B lb cb, .int .i64 n] w fun e w' => e = .returned (.tuple #[.int .i64 (kindD gh la n), .int .i64 0]) ∧ Below w.heap.size w w' := by
  have hst := bstep w (.cells #[.slice A la ca, .slice B lb cb] 28)
  have HI := daysIs_ok A la ca gh B lb cb gs n hcal hn _ (hR.go hst) (hL.go hst)
  have HW := weekday_calls n
  unfold kindD
  obtain ⟨b, hb⟩ : ∃ b, isF gh la n = b := ⟨_, rfl⟩
  obtain ⟨W, hW⟩ : ∃ W, wdN n = W := ⟨_, rfl⟩
  rw [hb] at HI ⊢
  rw [hW] at HW ⊢
  clear hb hW
  unfold calC at HI ⊢
  replace HW := Lib.hid HW
  replace HI := Lib.hid HI
  clear hR hL hcal hn
  cases b with
  | true =>
    rw [kindB_t]
    go_enter Tryz.func28, Tryz.ntmps28
    go_wp2_with fail
    refine HI.out.mono ?_
    rintro e w2 ⟨rfl, hb2⟩
    go_wp2_with fail
    refine (HW.out _).mono ?_
    rintro e w1 ⟨rfl, rfl⟩
    go_wp2_with fail
    go_ret2
    exact ⟨rfl, bnext hst hb2⟩
  | false =>
    by_cases h7 : W = 7
    · subst h7
      rw [kindB_7]
      go_enter Tryz.func28, Tryz.ntmps28
      go_wp2_with fail
      refine HI.out.mono ?_
      rintro e w2 ⟨rfl, hb2⟩
      go_wp2_with fail
      refine (HW.out _).mono ?_
      rintro e w1 ⟨rfl, rfl⟩
      go_wp2_with fail
      go_ret2
      exact ⟨rfl, bnext hst hb2⟩
    · by_cases h6 : W = 6
      · subst h6
        rw [kindB_6]
        clear h7
        go_enter Tryz.func28, Tryz.ntmps28
        go_wp2_with fail
        refine HI.out.mono ?_
        rintro e w2 ⟨rfl, hb2⟩
        go_wp2_with fail
        refine (HW.out _).mono ?_
        rintro e w1 ⟨rfl, rfl⟩
        go_wp2_with fail
        go_ret2
        exact ⟨rfl, bnext hst hb2⟩
      · rw [kindB_no W h7 h6]
        have k7 : (W == 7) = false := beq_eq_false_iff_ne.2 h7
        have k6 : (W == 6) = false := beq_eq_false_iff_ne.2 h6
        clear h7 h6
        go_enter Tryz.func28, Tryz.ntmps28
        go_wp2_with fail
        refine HI.out.mono ?_
        rintro e w2 ⟨rfl, hb2⟩
        go_wp2_with fail
        refine (HW.out _).mono ?_
        rintro e w1 ⟨rfl, rfl⟩
        go_wp2_with fail
        go_ret2
        exact ⟨rfl, bnext hst hb2⟩
set_option maxRecDepth 100000 in
set_option maxHeartbeats 8000000 in
theorem daysKind_no (A : Option Addr) (la ca : Nat) (gh : Nat → Nat → Int) (B : Option Addr) (lb cb : Nat) (gs : Nat → Nat → Int) (n : Int) (hE : errA la gh lb gs n ≠ 0) (w : World) (hR : RdCal w A la ca gh B lb cb gs) (hL : Lens w) :
    Calls Tryz.prog 28 #[calC A la ca B lb cb, .int .i64 n] w fun e w' => e = .returned (.tuple #[.int .i64 0, .int .i64 (errA la gh lb gs n)]) ∧ Below w.heap.size w w' := by
  have hst := bstep w (.cells #[.slice A la ca, .slice B lb cb] 28)
  have HI := daysIs_no A la ca gh B lb cb gs n hE _ (hR.go hst) (hL.go hst)
  obtain ⟨E, hEe⟩ : ∃ E, errA la gh lb gs n = E := ⟨_, rfl⟩
  rw [hEe] at HI hE ⊢
  have k0 : (E == 0) = false := beq_eq_false_iff_ne.2 hE
  have k1 : (E != 0) = true := bne_iff_ne.2 hE
  unfold calC at HI ⊢
  replace HI := Lib.hid HI
  clear hR hL hE hEe
  go_enter Tryz.func28, Tryz.ntmps28
  go_wp2_with fail
  refine HI.out.mono ?_
  rintro e w2 ⟨rfl, hb2⟩
  go_wp2_with fail
  go_ret2
  exact ⟨rfl, bnext hst hb2⟩
end Go.Proofs.YtgbkedjjgbhcmaaGreatDoor
