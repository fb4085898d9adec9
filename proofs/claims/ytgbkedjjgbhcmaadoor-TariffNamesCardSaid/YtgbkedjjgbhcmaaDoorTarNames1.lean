/-
  TariffNames: what the closed tariffs and energies say; purses that are none. Conditions stand at each theorem.
-/
import Derived.Test.YtgbkedjjgbhcmaaDoorTarM13
import Derived.Test.YtgbkedjjgbhcmaaDoorCost
namespace Go.Proofs.YtgbkedjjgbhcmaaDoor
open Go Go.RowKit Go.Kw Go.Kw.Cv Go.Shelf
set_option linter.unusedVariables false
set_option linter.unusedSimpArgs false

/-! the chapter's tariff, turned -/
section
variable {b : Nat}
theorem some_zero_e {f : Int} {k : Nat} (hf : 0 ≤ f ∧ f < 253402300800) (hk : 1 ≤ k ∧ k ≤ 8) : tE1 (someX b f k) = 0 ∧ tE2 (someX b f k) = 0 ∧ tE3 (someX b f k) = 0 ∧ tE4 (someX b f k) = 0 :=
  ⟨if_pos some_zon, if_pos some_cal, if_pos some_tab, if_pos (some_rat hf hk)⟩
theorem tarE_x : tarE (someX b 0 7) = 110 := by
  obtain ⟨h1, h2, h3, h4⟩ := some_zero_e (b := b) (f := 0) (k := 7) (by omega) (by omega)
  unfold tarE
  rw [h1, h2, h3, h4]
  simp only [ne_eq, not_true_eq_false, if_false]
  unfold tE5
  rw [if_neg (by show ¬ (1 : Nat) = 0; omega), if_pos]
  rw [← Bool.not_eq_false]
  intro h
  have := (noEight_iff _).1 h 0 (by show 0 < 1; omega)
  have h7 : (7 : Nat) = 8 := this
  omega
def someY (b : Nat) : Tar := { someX b 0 8 with vA := none, nv := 0, cv := 0 }
def someZ (b : Nat) : Tar := { someX b 0 8 with pA := none, np := 0, cp := 0 }
theorem tarE_y : tarE (someY b) = 110 := by
  have h1 : tE1 (someY b) = 0 := if_pos (some_zon (b := b) (f := 0) (k := 8))
  have h2 : tE2 (someY b) = 0 := if_pos (some_cal (b := b) (f := 0) (k := 8))
  have h3 : tE3 (someY b) = 0 := if_pos (some_tab (b := b) (f := 0) (k := 8))
  have h4 : tE4 (someY b) = 0 := if_pos ⟨by show 0 ≤ 200; omega, fun i hi => absurd hi (Nat.not_lt_zero _)⟩
  unfold tarE
  rw [h1, h2, h3, h4]
  simp only [ne_eq, not_true_eq_false, if_false]
  rfl
theorem tarE_z : tarE (someZ b) = 90 := by
  have h1 : tE1 (someZ b) = 0 := if_pos (some_zon (b := b) (f := 0) (k := 8))
  have h2 : tE2 (someZ b) = 0 := if_pos (some_cal (b := b) (f := 0) (k := 8))
  have h3 : tE3 (someZ b) = 90 := if_neg (fun h => by have : 1 ≤ 0 := h.1.1; omega)
  unfold tarE
  rw [h1, h2, h3]
  simp
theorem tarE_s : tarE (someX b 0 8) = 0 := (tarE_ok _).2 (some_ok (by omega))
theorem SomeRows.rdY {W : World} (h : SomeRows W b 0 8) : RdTar W (someY b) := by
  obtain ⟨h1, h2, h3, h4, -⟩ := h.rd (by omega) (by decide)
  exact ⟨h1, h2, h3, h4, ⟨Nat.le_refl _, Nat.zero_le _, fun _ => rfl, .inl rfl, fun i hi => absurd hi (Nat.not_lt_zero _)⟩⟩
theorem SomeRows.rdZ {W : World} (h : SomeRows W b 0 8) : RdTar W (someZ b) := by
  obtain ⟨h1, h2, h3, h4, h5⟩ := h.rd (by omega) (by decide)
  exact ⟨h1, h2, ⟨Nat.le_refl _, Nat.zero_le _, fun _ => rfl, .inl rfl, fun i hi => absurd hi (Nat.not_lt_zero _)⟩, h4, h5⟩
theorem SomeRows.setK {W : World} {f : Int} (h : SomeRows W b f 8) : SomeRows (W.setCell ⟨b + 6, 1, none⟩ (.slice (some ⟨b + 5, 0, none⟩) 7 8)) b f 7 := by
  obtain ⟨h1, h2, h3, h4, h5, h6⟩ := h
  have o : ∀ j, j ≠ b + 6 → (W.setCell ⟨b + 6, 1, none⟩ (.slice (some ⟨b + 5, 0, none⟩) 7 8)).heap[j]? = W.heap[j]? := fun j hj => heap_setCell_other W ⟨b + 6, 1, none⟩ j _ hj
  refine ⟨(o _ (by omega)).trans h1, (o _ (by omega)).trans h2, (o _ (by omega)).trans h3, (o _ (by omega)).trans h4, (o _ (by omega)).trans h5, ?_⟩
  exact heap_setCell_same W (b + 6) 1 _ _ (.slice (some ⟨b + 5, 0, none⟩) 7 8) h6
theorem SomeRows.setF {W : World} {k : Nat} (h : SomeRows W b 0 k) (f : Int) : SomeRows (W.setCell ⟨b + 6, 0, none⟩ (.int .i64 f)) b f k := by
  obtain ⟨h1, h2, h3, h4, h5, h6⟩ := h
  have o : ∀ j, j ≠ b + 6 → (W.setCell ⟨b + 6, 0, none⟩ (.int .i64 f)).heap[j]? = W.heap[j]? := fun j hj => heap_setCell_other W ⟨b + 6, 0, none⟩ j _ hj
  refine ⟨(o _ (by omega)).trans h1, (o _ (by omega)).trans h2, (o _ (by omega)).trans h3, (o _ (by omega)).trans h4, (o _ (by omega)).trans h5, ?_⟩
  exact heap_setCell_same W (b + 6) 0 _ _ (.int .i64 f) h6
theorem at_w : tatE (someX b 100 8) 99 = 110 := by rw [some_tatE (by omega)]; rfl
theorem at_v : tatE (someX b 0 8) (-3601) = 60 := by rw [some_tatE (by omega)]; rfl
theorem tl_u : tlS (someX b 0 8) 259200 = 0 ∧ tlK (someX b 0 8) 259200 = 3 ∧ tlM (someX b 0 8) 259200 = 60 ∧ tlE (someX b 0 8) 259200 = 0 := by
  have h : secOk (259200 + 3600) := by unfold secOk; omega
  exact ⟨some_tlS (by omega) _ h, (some_tlK (by omega) _ h).trans rfl, (some_tlM (by omega) _ h).trans rfl, (some_tlE (by omega) _).trans rfl⟩
end
/-! energies' costs -/
def g1 (r j : Nat) : Int := if r = 0 then (if j = 0 then 3999 else 250) else if r = 1 then (if j = 0 then 1 else 250) else (if j = 0 then 10 else 100)
def g2 (r j : Nat) : Int := if j = 0 then 4611686018427387904 else 1073741824
def g3 (r j : Nat) : Int := if r = 0 then (if j = 0 then 4611686018427387904 else 1000000) else (if j = 0 then 1 else 1000000)
def g4 (r j : Nat) : Int := if j = 0 then -1 else 0
theorem cost_g1 : costOut g1 3 = (1, 1000, 0) := by kernel_rfl
theorem cost_g2 : costOut g2 1 = (0, 0, 10) := by kernel_rfl
theorem cost_g3 : costOut g3 2 = (0, 0, 10) := by kernel_rfl
theorem cost_g4 : costOut g4 1 = (0, 0, 2) := by kernel_rfl
theorem rdP_row {W : World} {b : Nat} {cs : Array Value} {t : TypeId} {len : Nat} {g : Nat → Nat → Int} (h : W.heap[b]? = some (.cells cs t (0, 0))) (hc : ∀ i, i < len * 2 → cs[i]? = some (.int (kPair (i % 2)) (g (i / 2) (i % 2)))) : RdP W W.heap.size (some ⟨b, 0, none⟩) len g :=
  .inr ⟨b, 0, rfl, blk_lt h, fun i hi => by rw [Nat.zero_add]; exact blk_cell h i (hc i hi)⟩
/-! purses that are none -/
section
variable (w : World)
set_option maxHeartbeats 4000000 in
theorem nmay_calls (m k : Int) : Calls Tryd.prog 20 #[.pointer none, .int .i64 m, .int .i64 k] w fun e w' => e = .returned (.int .i64 1) ∧ w' = w := by
  go_enter Tryd.func20, Tryd.ntmps20
  go_wp2_with fail
  go_ret
  exact ⟨rfl, rfl⟩
set_option maxHeartbeats 4000000 in
theorem npay_calls (m k n p : Int) : Calls Tryd.prog 9 #[.pointer none, .int .i64 m, .int .i64 k, .int .i64 n, .int .i64 p] w fun e w' => e = .returned (.tuple #[.int .i64 0, .int .i64 1]) ∧ w' = w := by
  go_enter Tryd.func9, Tryd.ntmps9
  go_wp2_with fail
  refine (nmay_calls w m k).mono ?_
  rintro e w2 ⟨rfl, rfl⟩
  go_wp2_with fail
  go_ret2
  exact ⟨rfl, rfl⟩
set_option maxHeartbeats 4000000 in
theorem nback_calls (m k r : Int) : Calls Tryd.prog 10 #[.pointer none, .int .i64 m, .int .i64 k, .int .i64 r] w fun e w' => e = .returned (.int .i64 1) ∧ w' = w := by
  go_enter Tryd.func10, Tryd.ntmps10
  go_wp2_with fail
  refine (nmay_calls w m k).mono ?_
  rintro e w2 ⟨rfl, rfl⟩
  go_wp2_with fail
  go_ret
  exact ⟨rfl, rfl⟩
set_option maxHeartbeats 4000000 in
theorem nrest_calls (m k : Int) : Calls Tryd.prog 8 #[.pointer none, .int .i64 m, .int .i64 k] w fun e w' => e = .returned (.int .i64 0) ∧ w' = w := by
  go_enter Tryd.func8, Tryd.ntmps8
  go_wp2_with fail
  refine (nmay_calls w m k).mono ?_
  rintro e w2 ⟨rfl, rfl⟩
  go_wp2_with fail
  go_ret
  exact ⟨rfl, rfl⟩
set_option maxHeartbeats 4000000 in
theorem ncopy_calls : Calls Tryd.prog 16 #[.pointer none] w fun e w' => e = .returned (.pointer none) ∧ w' = w := by
  go_enter Tryd.func16, Tryd.ntmps16
  go_wp2_with fail
  go_ret
  exact ⟨rfl, rfl⟩
end
end Go.Proofs.YtgbkedjjgbhcmaaDoor
