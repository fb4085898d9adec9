/-
  The document's question, is a day that holiday: behind, one, walked. Conditions stand at each theorem. (Printed by gen_refone.py.)
-/
import Derived.Test.YthmgngmhnjeegaaDoorFeastPlain
namespace Go.Proofs.YthmgngmhnjeegaaDoor
open Go Go.RowKit Go.Kw Go.Kw.Cv Go.Shelf
set_option linter.unusedVariables false
set_option linter.unusedSimpArgs false

set_option maxHeartbeats 4000000 in
theorem behind_calls (D y : Int) (hy : 1970 ≤ y ∧ y ≤ 9999) (hD : 0 ≤ D ∧ D ≤ 2932896) (w : World) : Calls Tryd.prog 56 #[.int .i64 D, .int .i64 y] w fun e w' => e = .returned (.int .i64 (behD D y)) ∧ w' = w := by
  have HE := refEaster_calls y hy
  have ho := eas_ok hy
  have HD := refDay_calls y (easM y) (easD y)
  rw [show dayE y (easM y) (easD y) = dayN y (easM y) (easD y) from if_pos ho, chk_ok ho] at HD
  have hr := day_range ho
  unfold behD
  obtain ⟨N, hN⟩ : ∃ N, dayN y (easM y) (easD y) = N := ⟨_, rfl⟩
  rw [hN] at HD hr ⊢
  obtain ⟨m, hm⟩ : ∃ m, easM y = m := ⟨_, rfl⟩
  obtain ⟨d, hd⟩ : ∃ d, easD y = d := ⟨_, rfl⟩
  rw [hm, hd] at HE HD
  replace HE := Lib.hid HE
  replace HD := Lib.hid HD
  have a1 := i64_same (D - N) (by omega)
  have B1 := Lib.hid (wrap64_in (D - N) (by omega))
  clear ho hr hN hm hd hy hD
  have b1 := B1.out
  go_enter Tryd.func56, Tryd.ntmps56
  go_wp2_with fail
  refine (HE.out _).mono ?_
  rintro e w1 ⟨rfl, rfl⟩
  go_wp2_with fail
  refine (HD.out _).mono ?_
  rintro e w2 ⟨rfl, rfl⟩
  go_wp2_with fail
  go_ret
  exact ⟨rfl, rfl⟩
set_option maxRecDepth 100000 in
set_option maxHeartbeats 8000000 in
theorem one1 (hy m d wd n y0 m0 d0 : Int) (hok : okD y0 m0 d0) (w : World) : Calls Tryd.prog 42 #[.agg #[.int .i64 1, .int .i64 hy, .int .i64 m, .int .i64 d, .int .i64 wd, .int .i64 n], .int .i64 (dayN y0 m0 d0)] w fun e w' => e = .returned (.bool (decide (m0 = m ∧ d0 = d))) ∧ Below w.heap.size w w' := by
  have HO := refOf_calls y0 m0 d0 hok
  obtain ⟨D, hD⟩ : ∃ D, dayN y0 m0 d0 = D := ⟨_, rfl⟩
  rw [hD] at HO ⊢
  replace HO := Lib.hid HO
  clear hok hD
  by_cases h0 : m0 = m
  · have k0 : (m0 == m) = true := beq_iff_eq.2 h0
    by_cases h1 : d0 = d
    · have k1 : (d0 == d) = true := beq_iff_eq.2 h1
      rw [show decide (m0 = m ∧ d0 = d) = true from decide_eq_true ⟨h0, h1⟩]
      clear h0 h1
      go_enter Tryd.func42, Tryd.ntmps42
      go_wp2_with fail
      refine (HO.out _).mono ?_
      rintro e w3 ⟨rfl, rfl⟩
      go_wp2_with fail
      go_ret
      exact ⟨rfl, bstep w _⟩
    · have k1 : (d0 == d) = false := beq_eq_false_iff_ne.2 h1
      rw [show decide (m0 = m ∧ d0 = d) = false from decide_eq_false (fun h => h1 h.2)]
      clear h0 h1
      go_enter Tryd.func42, Tryd.ntmps42
      go_wp2_with fail
      refine (HO.out _).mono ?_
      rintro e w3 ⟨rfl, rfl⟩
      go_wp2_with fail
      go_ret
      exact ⟨rfl, bstep w _⟩
  · have k0 : (m0 == m) = false := beq_eq_false_iff_ne.2 h0
    rw [show decide (m0 = m ∧ d0 = d) = false from decide_eq_false (fun h => h0 h.1)]
    clear h0
    go_enter Tryd.func42, Tryd.ntmps42
    go_wp2_with fail
    refine (HO.out _).mono ?_
    rintro e w3 ⟨rfl, rfl⟩
    go_wp2_with fail
    go_ret
    exact ⟨rfl, bstep w _⟩
set_option maxRecDepth 100000 in
set_option maxHeartbeats 8000000 in
theorem one2 (hy m d wd n y0 m0 d0 : Int) (hok : okD y0 m0 d0) (w : World) : Calls Tryd.prog 42 #[.agg #[.int .i64 2, .int .i64 hy, .int .i64 m, .int .i64 d, .int .i64 wd, .int .i64 n], .int .i64 (dayN y0 m0 d0)] w fun e w' => e = .returned (.bool (decide (y0 = hy ∧ m0 = m ∧ d0 = d))) ∧ Below w.heap.size w w' := by
  have HO := refOf_calls y0 m0 d0 hok
  obtain ⟨D, hD⟩ : ∃ D, dayN y0 m0 d0 = D := ⟨_, rfl⟩
  rw [hD] at HO ⊢
  replace HO := Lib.hid HO
  clear hok hD
  by_cases h0 : y0 = hy
  · have k0 : (y0 == hy) = true := beq_iff_eq.2 h0
    by_cases h1 : m0 = m
    · have k1 : (m0 == m) = true := beq_iff_eq.2 h1
      by_cases h2 : d0 = d
      · have k2 : (d0 == d) = true := beq_iff_eq.2 h2
        rw [show decide (y0 = hy ∧ m0 = m ∧ d0 = d) = true from decide_eq_true ⟨h0, h1, h2⟩]
        clear h0 h1 h2
        go_enter Tryd.func42, Tryd.ntmps42
        go_wp2_with fail
        refine (HO.out _).mono ?_
        rintro e w3 ⟨rfl, rfl⟩
        go_wp2_with fail
        go_ret
        exact ⟨rfl, bstep w _⟩
      · have k2 : (d0 == d) = false := beq_eq_false_iff_ne.2 h2
        rw [show decide (y0 = hy ∧ m0 = m ∧ d0 = d) = false from decide_eq_false (fun h => h2 h.2.2)]
        clear h0 h1 h2
        go_enter Tryd.func42, Tryd.ntmps42
        go_wp2_with fail
        refine (HO.out _).mono ?_
        rintro e w3 ⟨rfl, rfl⟩
        go_wp2_with fail
        go_ret
        exact ⟨rfl, bstep w _⟩
    · have k1 : (m0 == m) = false := beq_eq_false_iff_ne.2 h1
      rw [show decide (y0 = hy ∧ m0 = m ∧ d0 = d) = false from decide_eq_false (fun h => h1 h.2.1)]
      clear h0 h1
      go_enter Tryd.func42, Tryd.ntmps42
      go_wp2_with fail
      refine (HO.out _).mono ?_
      rintro e w3 ⟨rfl, rfl⟩
      go_wp2_with fail
      go_ret
      exact ⟨rfl, bstep w _⟩
  · have k0 : (y0 == hy) = false := beq_eq_false_iff_ne.2 h0
    rw [show decide (y0 = hy ∧ m0 = m ∧ d0 = d) = false from decide_eq_false (fun h => h0 h.1)]
    clear h0
    go_enter Tryd.func42, Tryd.ntmps42
    go_wp2_with fail
    refine (HO.out _).mono ?_
    rintro e w3 ⟨rfl, rfl⟩
    go_wp2_with fail
    go_ret
    exact ⟨rfl, bstep w _⟩
set_option maxRecDepth 100000 in
set_option maxHeartbeats 8000000 in
theorem one3 (hy m d wd n y0 m0 d0 : Int) (hok : okD y0 m0 d0) (w : World) : Calls Tryd.prog 42 #[.agg #[.int .i64 3, .int .i64 hy, .int .i64 m, .int .i64 d, .int .i64 wd, .int .i64 n], .int .i64 (dayN y0 m0 d0)] w fun e w' => e = .returned (.bool (decide (m0 = m ∧ nthV y0 m0 wd n = (d0, 0)))) ∧ Below w.heap.size w w' := by
  have HO := refOf_calls y0 m0 d0 hok
  have HN := refNth_calls y0 m0 wd n
  obtain ⟨v, hv⟩ : ∃ v, nthV y0 m0 wd n = v := ⟨_, rfl⟩
  rw [hv] at HN ⊢
  obtain ⟨v1, v2⟩ := v
  replace HN := Lib.hid HN
  obtain ⟨D, hD⟩ : ∃ D, dayN y0 m0 d0 = D := ⟨_, rfl⟩
  rw [hD] at HO ⊢
  replace HO := Lib.hid HO
  clear hok hD
  clear hv
  by_cases h0 : m0 = m
  · have k0 : (m0 == m) = true := beq_iff_eq.2 h0
    by_cases h1 : v2 = 0
    · have k1 : (v2 == 0) = true := beq_iff_eq.2 h1
      by_cases h2 : v1 = d0
      · have k2 : (v1 == d0) = true := beq_iff_eq.2 h2
        rw [show decide (m0 = m ∧ (v1, v2) = (d0, (0 : Int))) = true from decide_eq_true ⟨h0, by rw [h1, h2]⟩]
        clear h0 h1 h2
        go_enter Tryd.func42, Tryd.ntmps42
        go_wp2_with fail
        refine (HO.out _).mono ?_
        rintro e w3 ⟨rfl, rfl⟩
        go_wp2_with fail
        refine (HN.out _).mono ?_
        rintro e w4 ⟨rfl, rfl⟩
        go_wp2_with fail
        go_ret
        exact ⟨rfl, bstep w _⟩
      · have k2 : (v1 == d0) = false := beq_eq_false_iff_ne.2 h2
        rw [show decide (m0 = m ∧ (v1, v2) = (d0, (0 : Int))) = false from decide_eq_false (fun h => h2 (by have := h.2; injection this))]
        clear h0 h1 h2
        go_enter Tryd.func42, Tryd.ntmps42
        go_wp2_with fail
        refine (HO.out _).mono ?_
        rintro e w3 ⟨rfl, rfl⟩
        go_wp2_with fail
        refine (HN.out _).mono ?_
        rintro e w4 ⟨rfl, rfl⟩
        go_wp2_with fail
        go_ret
        exact ⟨rfl, bstep w _⟩
    · have k1 : (v2 == 0) = false := beq_eq_false_iff_ne.2 h1
      rw [show decide (m0 = m ∧ (v1, v2) = (d0, (0 : Int))) = false from decide_eq_false (fun h => h1 (by have := h.2; injection this))]
      clear h0 h1
      go_enter Tryd.func42, Tryd.ntmps42
      go_wp2_with fail
      refine (HO.out _).mono ?_
      rintro e w3 ⟨rfl, rfl⟩
      go_wp2_with fail
      refine (HN.out _).mono ?_
      rintro e w4 ⟨rfl, rfl⟩
      go_wp2_with fail
      go_ret
      exact ⟨rfl, bstep w _⟩
  · have k0 : (m0 == m) = false := beq_eq_false_iff_ne.2 h0
    rw [show decide (m0 = m ∧ (v1, v2) = (d0, (0 : Int))) = false from decide_eq_false (fun h => h0 h.1)]
    clear h0
    go_enter Tryd.func42, Tryd.ntmps42
    go_wp2_with fail
    refine (HO.out _).mono ?_
    rintro e w3 ⟨rfl, rfl⟩
    go_wp2_with fail
    refine (HN.out _).mono ?_
    rintro e w4 ⟨rfl, rfl⟩
    go_wp2_with fail
    go_ret
    exact ⟨rfl, bstep w _⟩
/-- Of kind 4. -/
def easP (n y0 D : Int) : Prop := ∃ j, y0 - 1 ≤ j ∧ j ≤ y0 + 1 ∧ 1970 ≤ j ∧ j ≤ 9999 ∧ behD D j = n
noncomputable instance (n y0 D : Int) : Decidable (easP n y0 D) := Classical.propDecidable _
set_option maxRecDepth 100000 in
set_option maxHeartbeats 8000000 in
theorem one4 (hy m d wd n y0 m0 d0 : Int) (hok : okD y0 m0 d0) (w : World) : Calls Tryd.prog 42 #[.agg #[.int .i64 4, .int .i64 hy, .int .i64 m, .int .i64 d, .int .i64 wd, .int .i64 n], .int .i64 (dayN y0 m0 d0)] w fun e w' => e = .returned (.bool (decide (easP n y0 (dayN y0 m0 d0)))) ∧ Below w.heap.size w w' := by
  obtain ⟨b0, hb0⟩ : ∃ b0, w.heap.size = b0 := ⟨_, rfl⟩
  have Hb0 := Lib.hid hb0
  have HO := refOf_calls y0 m0 d0 hok
  have hr := day_range hok
  obtain ⟨D, hD⟩ : ∃ D, dayN y0 m0 d0 = D := ⟨_, rfl⟩
  rw [hD] at HO hr ⊢
  replace HO := Lib.hid HO
  have Hr := Lib.hid hr
  have Hy := Lib.hid (show 1970 ≤ y0 ∧ y0 ≤ 9999 from ⟨hok.1, hok.2.1⟩)
  have a1 := i64_same (y0 - 1) (by have := hok.1; have := hok.2.1; omega)
  have a2 := i64_same (y0 + 1) (by have := hok.1; have := hok.2.1; omega)
  have B1 := Lib.hid (wrap64_in (y0 - 1) (by have := hok.1; have := hok.2.1; omega))
  have B2 := Lib.hid (wrap64_in (y0 + 1) (by have := hok.1; have := hok.2.1; omega))
  have hrow := World.alloc_heap_new w (.cells #[.int .i64 4, .int .i64 hy, .int .i64 m, .int .i64 d, .int .i64 wd, .int .i64 n] 47)
  have hB1 := bstep w (.cells #[.int .i64 4, .int .i64 hy, .int .i64 m, .int .i64 d, .int .i64 wd, .int .i64 n] 47)
  rw [hb0] at hrow hB1
  clear hok hD hr
  have b1 := B1.out
  have b2 := B2.out
  go_enter Tryd.func42, Tryd.ntmps42
  go_wp2_with fail
  refine (HO.out _).mono ?_
  rintro e w3 ⟨rfl, rfl⟩
  go_wp2_with fail
  go_loopw [11] (fun i wr => ∃ j : Int, i = .int .i64 j ∧ y0 - 1 ≤ j ∧ j ≤ y0 + 2 ∧ (∀ t, y0 - 1 ≤ t → t < j → ¬ (1970 ≤ t ∧ t ≤ 9999 ∧ behD D t = n)) ∧ wr.heap[b0]? = some (.cells #[.int .i64 4, .int .i64 hy, .int .i64 m, .int .i64 d, .int .i64 wd, .int .i64 n] 47 (0, 0)) ∧ Below b0 w wr) (fun i _ => (y0 + 2 - intOf i).toNat)
  case atStart => exact ⟨y0 - 1, rfl, by omega, by omega, fun t h1 h2 => absurd h2 (by omega), hrow, hB1⟩
  case round =>
    obtain ⟨j, rfl, hj1, hj2, hall, hrw, hBw⟩ := hrel
    have c5 := cell_of_row wr b0 5 _ _ _ hrw
    have hyy := Hy.out
    have a3 := i64_same (j + 1) (by omega)
    have B3 := Lib.hid (wrap64_in (j + 1) (by omega))
    have HM := Lib.hid (show (y0 + 2 - (j + 1)).toNat < (y0 + 2 - j).toNat ∨ ¬ j ≤ y0 + 1 by omega)
    have Hall := Lib.hid hall
    have Hj := Lib.hid (And.intro hj1 hj2)
    have step : ¬ (1970 ≤ j ∧ j ≤ 9999 ∧ behD D j = n) → ∀ t, y0 - 1 ≤ t → t < j + 1 → ¬ (1970 ≤ t ∧ t ≤ 9999 ∧ behD D t = n) := fun h t h1 h2 => by
      by_cases e : t = j
      · rw [e]; exact h
      · exact hall t h1 (by omega)
    by_cases hlt : j ≤ y0 + 1
    · have kl : decide (j ≤ y0 + 1) = true := decide_eq_true hlt
      by_cases h1 : 1970 ≤ j
      · have k1 : decide (j ≥ 1970) = true := decide_eq_true h1
        by_cases h2 : j ≤ 9999
        · have k2 : decide (j ≤ 9999) = true := decide_eq_true h2
          have HB := Lib.hid (behind_calls D j ⟨h1, h2⟩ Hr.out)
          by_cases h3 : behD D j = n
          · have k3 : (behD D j == n) = true := beq_iff_eq.2 h3
            have HY := Lib.hid (show decide (easP n y0 D) = true from decide_eq_true ⟨j, hj1, hlt, h1, h2, h3⟩)
            clear hall hj1 hj2 hlt h1 h2 h3 hyy step
            go_wp2_with fail
            go_quiet ((go_at_call 56; exact Calls.quiet_of_same (HB.out _)))
            go_wp2_with fail
            go_ret
            rw [HY.out]
            exact ⟨rfl, by first | exact hBw.drewN _ | (rw [Hb0.out]; exact hBw.drewN _)⟩
          · have k3 : (behD D j == n) = false := beq_eq_false_iff_ne.2 h3
            have HS := Lib.hid (step (fun h => h3 h.2.2))
            have Hlt := Lib.hid hlt
            clear hall hj1 hj2 hlt h1 h2 h3 hyy step
            have b3 := B3.out
            go_wp2_with fail
            go_quiet ((go_at_call 56; exact Calls.quiet_of_same (HB.out _)))
            go_wp2_with fail
            clear b3
            exact ⟨⟨j + 1, rfl, by have := Hj.out; omega, by have := Hlt.out; omega, HS.out, hrw, hBw.drewN _⟩, by have := HM.out; have := Hlt.out; simp [intOf]; omega⟩
        · have k2 : decide (j ≤ 9999) = false := decide_eq_false h2
          have HS := Lib.hid (step (fun h => h2 h.2.1))
          have Hlt := Lib.hid hlt
          clear hall hj1 hj2 hlt h1 h2 hyy step
          have b3 := B3.out
          go_wp2_with fail
          go_quiet (fail)
          go_wp2_with fail
          clear b3
          exact ⟨⟨j + 1, rfl, by have := Hj.out; omega, by have := Hlt.out; omega, HS.out, hrw, hBw.drewN _⟩, by have := HM.out; have := Hlt.out; simp [intOf]; omega⟩
      · have k1 : decide (j ≥ 1970) = false := decide_eq_false h1
        have HS := Lib.hid (step (fun h => h1 h.1))
        have Hlt := Lib.hid hlt
        clear hall hj1 hj2 hlt h1 hyy step
        have b3 := B3.out
        go_wp2_with fail
        go_quiet (fail)
        go_wp2_with fail
        clear b3
        exact ⟨⟨j + 1, rfl, by have := Hj.out; omega, by have := Hlt.out; omega, HS.out, hrw, hBw.drewN _⟩, by have := HM.out; have := Hlt.out; simp [intOf]; omega⟩
    · have kl : decide (j ≤ y0 + 1) = false := decide_eq_false hlt
      have HNo := Lib.hid (show decide (easP n y0 D) = false from decide_eq_false (fun ⟨t, h1, h2, h3, h4, h5⟩ => hall t h1 (by omega) ⟨h3, h4, h5⟩))
      clear hall hj1 hj2 hlt hyy step
      go_wp2_with fail
      go_ret
      rw [HNo.out]
      exact ⟨rfl, by first | exact hBw | (rw [Hb0.out]; exact hBw)⟩
/-- Is a day that holiday? -/
theorem one_calls (k hy m d wd n y0 m0 d0 : Int) (hM : mayB k hy m d wd n) (hok : okD y0 m0 d0) (b : Bool) (hb : b = true ↔ oneP k hy m d wd n y0 m0 d0) (w : World) :
    Calls Tryd.prog 42 #[.agg #[.int .i64 k, .int .i64 hy, .int .i64 m, .int .i64 d, .int .i64 wd, .int .i64 n], .int .i64 (dayN y0 m0 d0)] w fun e w' => e = .returned (.bool b) ∧ Below w.heap.size w w' := by
  have hx : ∀ (p : Prop) [Decidable p], (p ↔ oneP k hy m d wd n y0 m0 d0) → decide p = b := fun p _ h => by
    rw [Bool.eq_iff_iff, decide_eq_true_eq, h, hb]
  rcases hM with ⟨rfl, _⟩ | ⟨rfl, _⟩ | ⟨rfl, _⟩ | ⟨rfl, _⟩
  · have h := one2 hy m d wd n y0 m0 d0 hok w
    rwa [hx _ ⟨fun h => .inr (.inl ⟨rfl, h⟩), fun h => by rcases h with h | h | h | h <;> first | exact h.2 | omega⟩] at h
  · have h := one1 hy m d wd n y0 m0 d0 hok w
    rwa [hx _ ⟨fun h => .inl ⟨rfl, h⟩, fun h => by rcases h with h | h | h | h <;> first | exact h.2 | omega⟩] at h
  · have h := one3 hy m d wd n y0 m0 d0 hok w
    rwa [hx _ ⟨fun h => .inr (.inr (.inl ⟨rfl, h⟩)), fun h => by rcases h with h | h | h | h <;> first | exact h.2 | omega⟩] at h
  · have h := one4 hy m d wd n y0 m0 d0 hok w
    rwa [hx (easP n y0 (dayN y0 m0 d0)) ⟨fun h => .inr (.inr (.inr ⟨rfl, h⟩)), fun h => by rcases h with h | h | h | h <;> first | exact h.2 | omega⟩] at h
end Go.Proofs.YthmgngmhnjeegaaDoor
