/-
  DaysNames: the walk of the law, a closed one. Conditions stand at each theorem.
-/
import Derived.Test.YthmgngmhnjeegaaDoorAlive
namespace Go.Proofs.YthmgngmhnjeegaaDoor
open Go Go.RowKit Go.Kw Go.Kw.Cv
set_option linter.unusedVariables false
set_option linter.unusedSimpArgs false

theorem irows_nil (n : Nat) (W : World) (g : Nat → Nat → Int) : IRows n kInt W none 0 0 g := ⟨Nat.le_refl _, Nat.zero_le _, fun _ => rfl, .inl (by omega), fun r j hr => by omega⟩
theorem wf_small (x : Int) (h : -1000 ≤ x ∧ x ≤ 1000) : (Lit.int .i64 x).wf = true := by
  rw [show x = wrap64 x from (wrap64_in x (by omega)).symm]; exact wrap64_wf x
def six (a b c d e f : Int) : Nat → Nat → Int := fun _ j => if j = 0 then a else if j = 1 then b else if j = 2 then c else if j = 3 then d else if j = 4 then e else f
theorem irows_hol (W : World) (s : Nat) (a b c d e f : Int) (hb : ∀ x ∈ [a, b, c, d, e, f], -1000 ≤ x ∧ x ≤ 1000) (hH : W.heap[s]? = some (.cells #[.int .i64 a, .int .i64 b, .int .i64 c, .int .i64 d, .int .i64 e, .int .i64 f] 47 (0, 0))) :
    IRows 6 kInt W (some ⟨s, 0, none⟩) 1 1 (six a b c d e f) := by
  have h1 := (Array.getElem?_eq_some_iff.1 hH).1
  refine ⟨by omega, by decide, (fun h => by cases h), .inr ⟨s, 0, rfl, h1, fun i hi => ?_⟩, fun r j hr hj => ?_⟩
  · have hc := cell_of_row W s i _ _ _ hH
    rw [Nat.zero_add]
    rcases (by omega : i = 0 ∨ i = 1 ∨ i = 2 ∨ i = 3 ∨ i = 4 ∨ i = 5) with rfl | rfl | rfl | rfl | rfl | rfl
    all_goals exact hc
  · rcases (by omega : j = 0 ∨ j = 1 ∨ j = 2 ∨ j = 3 ∨ j = 4 ∨ j = 5) with rfl | rfl | rfl | rfl | rfl | rfl
    all_goals exact wf_small _ (hb _ (by simp [six]))
def thr (a b c d e f : Int) : Nat → Nat → Int := fun i j => if i = 0 then (if j = 0 then a else if j = 1 then b else c) else (if j = 0 then d else if j = 1 then e else f)
theorem irows_sea1 (W : World) (s : Nat) (a b c d e f : Int) (hb : ∀ x ∈ [a, b, c], -1000 ≤ x ∧ x ≤ 1000) (hH : W.heap[s]? = some (.cells #[.int .i64 a, .int .i64 b, .int .i64 c] 49 (0, 0))) :
    IRows 3 kInt W (some ⟨s, 0, none⟩) 1 1 (thr a b c d e f) := by
  have h1 := (Array.getElem?_eq_some_iff.1 hH).1
  refine ⟨by omega, by decide, (fun h => by cases h), .inr ⟨s, 0, rfl, h1, fun i hi => ?_⟩, fun r j hr hj => ?_⟩
  · have hc := cell_of_row W s i _ _ _ hH
    rw [Nat.zero_add]
    rcases (by omega : i = 0 ∨ i = 1 ∨ i = 2) with rfl | rfl | rfl
    all_goals exact hc
  · obtain rfl : r = 0 := by omega
    rcases (by omega : j = 0 ∨ j = 1 ∨ j = 2) with rfl | rfl | rfl
    all_goals exact wf_small _ (hb _ (by simp [thr]))
theorem irows_sea2 (W : World) (s : Nat) (a b c d e f : Int) (hb : ∀ x ∈ [a, b, c, d, e, f], -1000 ≤ x ∧ x ≤ 1000) (hH : W.heap[s]? = some (.cells #[.int .i64 a, .int .i64 b, .int .i64 c, .int .i64 d, .int .i64 e, .int .i64 f] 49 (0, 0))) :
    IRows 3 kInt W (some ⟨s, 0, none⟩) 2 2 (thr a b c d e f) := by
  have h1 := (Array.getElem?_eq_some_iff.1 hH).1
  refine ⟨by omega, by decide, (fun h => by cases h), .inr ⟨s, 0, rfl, h1, fun i hi => ?_⟩, fun r j hr hj => ?_⟩
  · have hc := cell_of_row W s i _ _ _ hH
    rw [Nat.zero_add]
    rcases (by omega : i = 0 ∨ i = 1 ∨ i = 2 ∨ i = 3 ∨ i = 4 ∨ i = 5) with rfl | rfl | rfl | rfl | rfl | rfl
    all_goals exact hc
  · rcases (by omega : r = 0 ∨ r = 1) with rfl | rfl <;> rcases (by omega : j = 0 ∨ j = 1 ∨ j = 2) with rfl | rfl | rfl
    all_goals exact wf_small _ (hb _ (by simp [thr]))
theorem chk_hol (a b c d e f E : Int) (hb : ∀ x ∈ [a, b, c, d, e, f], -1000 ≤ x ∧ x ≤ 1000) (hE : (mayB a b c d e f ∧ E = 0) ∨ (¬ mayB a b c d e f ∧ E = 80)) (w : World) (hL : Lens w) :
    Calls Tryd.prog 13 #[.agg #[.slice (some ⟨w.heap.size, 0, none⟩) 1 1, .slice none 0 0]] (w.alloc (.cells #[.int .i64 a, .int .i64 b, .int .i64 c, .int .i64 d, .int .i64 e, .int .i64 f] 47)) fun e w' => e = .returned (.int .i64 E) ∧ Below w.heap.size w w' := by
  have t := bstep w (.cells #[.int .i64 a, .int .i64 b, .int .i64 c, .int .i64 d, .int .i64 e, .int .i64 f] 47)
  have r := World.alloc_heap_new w (.cells #[.int .i64 a, .int .i64 b, .int .i64 c, .int .i64 d, .int .i64 e, .int .i64 f] 47)
  have h := daysCheck_calls _ 1 1 (six a b c d e f) none 0 0 (fun _ _ => 0) _ ⟨irows_hol _ _ a b c d e f hb r, irows_nil _ _ _⟩ (hL.go t)
  have hv : calE 1 (six a b c d e f) 0 (fun _ _ => 0) = E := by
    rcases hE with ⟨h1, rfl⟩ | ⟨h1, rfl⟩
    · exact if_pos ⟨by omega, by omega, fun i hi => h1, fun i hi => absurd hi (by omega)⟩
    · exact if_neg (fun h2 => h1 (h2.2.2.1 0 (by omega)))
  rw [hv] at h
  exact h.mono fun e w' ⟨h1, h2⟩ => ⟨h1, bnext t h2⟩
theorem chk_sea1 (a b c : Int) (hb : ∀ x ∈ [a, b, c], -1000 ≤ x ∧ x ≤ 1000) (hE : ¬ okD 2001 b c) (w : World) (hL : Lens w) :
    Calls Tryd.prog 13 #[.agg #[.slice none 0 0, .slice (some ⟨w.heap.size, 0, none⟩) 1 1]] (w.alloc (.cells #[.int .i64 a, .int .i64 b, .int .i64 c] 49)) fun e w' => e = .returned (.int .i64 80) ∧ Below w.heap.size w w' := by
  have t := bstep w (.cells #[.int .i64 a, .int .i64 b, .int .i64 c] 49)
  have r := World.alloc_heap_new w (.cells #[.int .i64 a, .int .i64 b, .int .i64 c] 49)
  have h := daysCheck_calls none 0 0 (fun _ _ => 0) _ 1 1 (thr a b c 0 0 0) _ ⟨irows_nil _ _ _, irows_sea1 _ _ a b c 0 0 0 hb r⟩ (hL.go t)
  rw [show calE 0 (fun _ _ => 0) 1 (thr a b c 0 0 0) = 80 from if_neg (fun h2 => hE (h2.2.2.2 0 (by omega)).1.2.2)] at h
  exact h.mono fun e w' ⟨h1, h2⟩ => ⟨h1, bnext t h2⟩
theorem chk_sea2 (a d b c : Int) (hb : ∀ x ∈ [a, b, c, d, b, c], -1000 ≤ x ∧ x ≤ 1000) (w : World) (hL : Lens w) :
    Calls Tryd.prog 13 #[.agg #[.slice none 0 0, .slice (some ⟨w.heap.size, 0, none⟩) 2 2]] (w.alloc (.cells #[.int .i64 a, .int .i64 b, .int .i64 c, .int .i64 d, .int .i64 b, .int .i64 c] 49)) fun e w' => e = .returned (.int .i64 80) ∧ Below w.heap.size w w' := by
  have t := bstep w (.cells #[.int .i64 a, .int .i64 b, .int .i64 c, .int .i64 d, .int .i64 b, .int .i64 c] 49)
  have r := World.alloc_heap_new w (.cells #[.int .i64 a, .int .i64 b, .int .i64 c, .int .i64 d, .int .i64 b, .int .i64 c] 49)
  have h := daysCheck_calls none 0 0 (fun _ _ => 0) _ 2 2 (thr a b c d b c) _ ⟨irows_nil _ _ _, irows_sea2 _ _ a b c d b c hb r⟩ (hL.go t)
  rw [show calE 0 (fun _ _ => 0) 2 (thr a b c d b c) = 80 from if_neg (fun h2 => (h2.2.2.2 1 (by omega)).2 ⟨0, by omega, rfl, rfl⟩)] at h
  exact h.mono fun e w' ⟨h1, h2⟩ => ⟨h1, bnext t h2⟩
theorem kind_lt (g : Nat → Nat → Int) (la : Nat) (n : Int) : kindD g la n ≠ 9 := by
  unfold kindD kindB
  split
  · omega
  · split
    · omega
    · split <;> omega
/-- The table, and the walk's world. -/
def Sn (w W : World) : Prop := Lens W ∧ Below w.heap.size w W
theorem Sn.go {w W W' : World} (h : Sn w W) (hb : Below W.heap.size W W') : Sn w W' := ⟨h.1.go hb, bnext h.2 hb⟩
set_option maxRecDepth 100000 in
set_option maxHeartbeats 8000000 in
theorem daysNames_walk (w : World) (hL : Lens w) : Calls Tryd.prog 7 #[] w fun e w' => e = .returned (.bool true) ∧ Below w.heap.size w w' := by
  have hS : Sn w w := ⟨hL, Below.refl _ w⟩
  have ok25 : okD 2026 5 25 := by decide
  have ok24 : okD 2026 5 24 := by decide
  have ok31 : okD 2026 3 31 := by decide
  have ok41 : okD 2026 4 1 := by decide
  have ok10 : okD 2026 10 1 := by decide
  have K25 := Lib.hid (kind_calls 2026 5 25 4 ok25 ((kind_few ok25 (b := true) (by decide +kernel)).trans (by decide +kernel)))
  have K24 := Lib.hid (kind_calls 2026 5 24 3 ok24 ((kind_few ok24 (b := false) (by decide +kernel)).trans (by decide +kernel)))
  have S31 := Lib.hid (lawSeason_calls 2026 3 31 2 ok31 ((season_few ok31).trans (by decide +kernel)))
  have S41 := Lib.hid (lawSeason_calls 2026 4 1 1 ok41 ((season_few ok41).trans (by decide +kernel)))
  have S10 := Lib.hid (lawSeason_calls 2026 10 1 2 ok10 ((season_few ok10).trans (by decide +kernel)))
  have H1 := Lib.hid (chk_hol 0 0 0 0 0 0 80 (by decide) (.inr ⟨by decide, rfl⟩))
  have H2 := Lib.hid (chk_hol 1 0 2 30 0 0 80 (by decide) (.inr ⟨by decide, rfl⟩))
  have H3 := Lib.hid (chk_hol 1 0 2 29 0 0 0 (by decide) (.inl ⟨by decide, rfl⟩))
  have H4 := Lib.hid (chk_sea1 1 2 29 (by decide) (by decide))
  have H5 := Lib.hid (chk_sea2 1 2 2 2 (by decide))
  have H7 := Lib.hid (easter_bad 1969 (by omega))
  have HA := Lib.hid alive_calls
  clear hL ok25 ok24 ok31 ok41 ok10
  have HS := Lib.hid hS
  clear hS
  go_enter Tryd.func7, Tryd.ntmps7
  go_wp2_with fail
  refine (H1.out _ HS.out.1).mono ?_
  rintro e w1 ⟨rfl, hb⟩
  have hS := HS.out.go hb
  clear HS hb
  have HS := Lib.hid hS
  clear hS
  go_wp2_with fail
  refine (H2.out _ HS.out.1).mono ?_
  rintro e w2 ⟨rfl, hb⟩
  have hS := HS.out.go hb
  clear HS hb
  have HS := Lib.hid hS
  clear hS
  go_wp2_with fail
  refine (H3.out _ HS.out.1).mono ?_
  rintro e w3 ⟨rfl, hb⟩
  have hS := HS.out.go hb
  clear HS hb
  have HS := Lib.hid hS
  clear hS
  go_wp2_with fail
  refine (H4.out _ HS.out.1).mono ?_
  rintro e w4 ⟨rfl, hb⟩
  have hS := HS.out.go hb
  clear HS hb
  have HS := Lib.hid hS
  clear hS
  go_wp2_with fail
  refine (H5.out _ HS.out.1).mono ?_
  rintro e w5 ⟨rfl, hb⟩
  have hS := HS.out.go hb
  clear HS hb
  have HS := Lib.hid hS
  clear hS
  go_wp2_with fail
  refine (few_calls _).mono ?_
  rintro e w6 ⟨s, rfl, hR, hb⟩
  have hS := HS.out.go hb
  clear HS hb
  have HS := Lib.hid hS
  have HX := (by have h := daysKind_no _ 3 3 fewH _ 2 2 fewS (-1) (by rw [errA_out few_ok (by omega)]; decide) w6 hR hS.1; rw [errA_out few_ok (by omega)] at h; exact h)
  unfold calC at HX ⊢
  replace HX := Lib.hid HX
  clear hS hR
  go_wp2_with fail
  refine HX.out.mono ?_
  rintro e w7 ⟨rfl, hb⟩
  have hS := HS.out.go hb
  clear HS hb HX
  have HS := Lib.hid hS
  clear hS
  go_wp2_with fail
  refine (H7.out _).mono ?_
  rintro e w8 ⟨rfl, hb⟩
  have hS := (HS.out.go hb).go (bstep w8 (.cells #[.int .i64 0, .int .i64 0, .int .i64 0] 24))
  clear HS hb
  have HS := Lib.hid hS
  clear hS
  go_wp2_with fail
  refine (few_calls _).mono ?_
  rintro e w9 ⟨s, rfl, hR, hb⟩
  have hS := HS.out.go hb
  clear HS hb
  have HS := Lib.hid hS
  have HX := next_ok _ 3 3 fewH _ 2 2 fewS 0 9 few_ok (by omega) w9 hR hS.1
  unfold calC at HX ⊢
  replace HX := Lib.hid HX
  clear hS hR
  go_wp2_with fail
  refine HX.out.mono ?_
  rintro e w10 ⟨⟨r, b, rfl, hP⟩, hb⟩
  obtain ⟨rfl, rfl⟩ : b = false ∧ r = 0 := by
    rcases hP with ⟨-, -, -, h, -⟩ | ⟨h1, h2, -⟩
    · exact absurd h (kind_lt _ _ _)
    · exact ⟨h1, h2⟩
  clear hP
  have hS := HS.out.go hb
  clear HS hb HX
  have HS := Lib.hid hS
  clear hS
  go_wp2_with fail
  refine (HA.out _ HS.out.1).mono ?_
  rintro e w11 ⟨rfl, hb⟩
  have hS := HS.out.go hb
  clear HS hb
  have HS := Lib.hid hS
  clear hS
  go_wp2_with fail
  refine (K25.out _ HS.out.1).mono ?_
  rintro e w12 ⟨rfl, hb⟩
  have hS := HS.out.go hb
  clear HS hb
  have HS := Lib.hid hS
  clear hS
  go_wp2_with fail
  refine (K24.out _ HS.out.1).mono ?_
  rintro e w13 ⟨rfl, hb⟩
  have hS := HS.out.go hb
  clear HS hb
  have HS := Lib.hid hS
  clear hS
  go_wp2_with fail
  refine (S31.out _ HS.out.1).mono ?_
  rintro e w14 ⟨rfl, hb⟩
  have hS := HS.out.go hb
  clear HS hb
  have HS := Lib.hid hS
  clear hS
  go_wp2_with fail
  refine (S41.out _ HS.out.1).mono ?_
  rintro e w15 ⟨rfl, hb⟩
  have hS := HS.out.go hb
  clear HS hb
  have HS := Lib.hid hS
  clear hS
  go_wp2_with fail
  refine (S10.out _ HS.out.1).mono ?_
  rintro e w16 ⟨rfl, hb⟩
  have hS := HS.out.go hb
  clear HS hb
  have HS := Lib.hid hS
  clear hS
  go_wp2_with fail
  refine (few_calls _).mono ?_
  rintro e w17 ⟨s, rfl, hR, hb⟩
  have hS := HS.out.go hb
  clear HS hb
  have HS := Lib.hid hS
  have HX := (by have h := daysCheck_calls _ 3 3 fewH _ 2 2 fewS w17 hR hS.1; rw [show calE 3 fewH 2 fewS = 0 from if_pos few_ok] at h; exact h)
  unfold calC at HX ⊢
  replace HX := Lib.hid HX
  clear hS hR
  go_wp2_with fail
  refine HX.out.mono ?_
  rintro e w18 ⟨rfl, hb⟩
  have hS := HS.out.go hb
  clear HS hb HX
  have HS := Lib.hid hS
  clear hS
  go_wp2_with fail
  go_ret
  exact ⟨rfl, HS.out.2⟩
end Go.Proofs.YthmgngmhnjeegaaDoor
