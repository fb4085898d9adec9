/-
  Texts that the proof leans on, merged by program, part 10. Conditions stand at each theorem.
-/
import Derived.Test.YtgbkedjjgbhcmaaGreatDoorZoneOf
import Derived.Deep.RegionHeld3
import Derived.Deep.DrawnRows
import Derived.BigRegion
/-
  A rule's edges in a year, walked: zone.edges, Edges. Conditions stand at each theorem.
-/
namespace Go.Proofs.YtgbkedjjgbhcmaaGreatDoor
open Go Go.RowKit Go.Kw Go.Kw.Cv Go.Shelf
set_option linter.unusedVariables false
set_option linter.unusedSimpArgs false

set_option maxRecDepth 100000 in
set_option maxHeartbeats 8000000 in
theorem edge1_calls (m wd n mi y : Int) (h : chgOk m wd n mi) (hy : 1970 ≤ y ∧ y ≤ 9999) (p : Nat) (w : World) (hp : w.heap[p]? = some (.cells #[.int .i64 y] 3 (0, 0))) (hL : Lens w) :
    Calls Tryz.prog 97 #[chgC m wd n mi, .pointer (some ⟨p, 0, none⟩)] w fun e w' => e = .returned (.int .i64 (chgT y m wd n mi)) ∧ Below w.heap.size w w' := by
  obtain ⟨b0, hb0⟩ : ∃ b0, w.heap.size = b0 := ⟨_, rfl⟩
  obtain ⟨W1, hW1⟩ : ∃ W1, w.alloc (.cells #[.int .i64 m, .int .i64 wd, .int .i64 n, .int .i64 mi] 88) = W1 := ⟨_, rfl⟩
  have hst : Below w.heap.size w W1 := hW1 ▸ bstep w _
  have hr := blk_below hp hst
  have c0 := cell_of_row W1 p 0 _ _ _ hr
  have hrn : W1.heap[b0]? = some (.cells #[.int .i64 m, .int .i64 wd, .int .i64 n, .int .i64 mi] 88 (0, 0)) := by rw [← hb0, ← hW1]; exact World.alloc_heap_new w _
  have d0 := cell_of_row W1 b0 0 _ _ _ hrn
  have d1 := cell_of_row W1 b0 1 _ _ _ hrn
  have d2 := cell_of_row W1 b0 2 _ _ _ hrn
  obtain ⟨h1, h2⟩ := chg_nth h hy
  have hT := chgT_range h hy
  have hL1 := hL.go hst
  have HN := nth_calls y m wd n h1 h2 W1 hL1
  have hk : okD y m (nthN y m wd n) := ⟨hy.1, hy.2, (nth_lo y m wd n h1).1, h2⟩
  have HD := fun W hL => day_calls y m (nthN y m wd n) W hL
  rw [show dayE y m (nthN y m wd n) = dayN y m (nthN y m wd n) from if_pos hk, chk_ok hk] at HD
  have hdr := day_range hk
  have hmi := h.2.2.2.2.2
  unfold chgT at hT ⊢
  obtain ⟨D, hD⟩ : ∃ D, nthN y m wd n = D := ⟨_, rfl⟩
  rw [hD] at HN HD hdr hT ⊢
  obtain ⟨V, hV⟩ : ∃ V, dayN y m D = V := ⟨_, rfl⟩
  rw [hV] at HD hdr hT ⊢
  have X1 := Lib.hid (And.intro (wrap64_in (V * 86400) (by omega)) (And.intro (wrap64_in (mi * 60) (by omega)) (wrap64_in (V * 86400 + mi * 60) (by omega))))
  have w1 := i64_same (V * 86400) (by omega)
  have w2 := i64_same (mi * 60) (by omega)
  have w3 := i64_same (V * 86400 + mi * 60) (by omega)
  replace HN := Lib.hid HN
  replace HD := Lib.hid HD
  have HL1 := Lib.hid hL1
  unfold chgC
  clear h hy hp hr h1 h2 hT hk hdr hmi hD hV hL hL1
  go_enter Tryz.func97, Tryz.ntmps97
  go_wp2_with fail
  refine HN.out.mono ?_
  rintro e w3 ⟨rfl, hb3⟩
  have hr3 := blk_below hrn hb3
  have hL3 := HL1.out.go hb3
  obtain ⟨b1, hb1⟩ : ∃ b1, w3.heap.size = b1 := ⟨_, rfl⟩
  obtain ⟨W4, hW4⟩ : ∃ W4, w3.alloc (.cells #[.int .i64 y, .int .i64 m, .int .i64 D] 113) = W4 := ⟨_, rfl⟩
  have hst4 : Below w3.heap.size w3 W4 := hW4 ▸ bstep w3 _
  have hrd : W4.heap[b1]? = some (.cells #[.int .i64 y, .int .i64 m, .int .i64 D] 113 (0, 0)) := by rw [← hb1, ← hW4]; exact World.alloc_heap_new w3 _
  have hr4 := blk_below hr3 hst4
  have g0 := cell_of_row W4 b1 0 _ _ _ hrd
  have g1 := cell_of_row W4 b1 1 _ _ _ hrd
  have g2 := cell_of_row W4 b1 2 _ _ _ hrd
  have hL4 := hL3.go hst4
  have hbb := bnext hst (bnext hb3 hst4)
  clear hst hrn hb3 hr3 hL3 hst4 hrd hW1 c0 d0 d1 d2
  go_wp2_with fail
  refine (HD.out W4 hL4).mono ?_
  rintro e w5 ⟨rfl, hb5⟩
  have k3 := cell_of_row w5 b0 3 _ _ _ (blk_below hr4 hb5)
  have hb6 := bnext hbb hb5
  have x1 := X1.out.1
  have x2 := X1.out.2.1
  have x3 := X1.out.2.2
  clear hW4 hbb hb5 g0 g1 g2
  go_wp2_with fail
  clear x1 x2 x3
  go_ret
  exact ⟨rfl, hb6⟩
set_option maxRecDepth 100000 in
set_option maxHeartbeats 16000000 in
theorem edges_calls (a0 a1 m1 d1 n1 i1 m2 d2 n2 i2 x y : Int) (h1 : chgOk m1 d1 n1 i1) (h2 : chgOk m2 d2 n2 i2) (hy : 1970 ≤ y ∧ y ≤ 9999) (w : World) (hL : Lens w) :
    Calls Tryz.prog 84 #[.agg #[.int .i64 a0, .int .i64 a1, .int .i64 m1, .int .i64 d1, .int .i64 n1, .int .i64 i1, .int .i64 m2, .int .i64 d2, .int .i64 n2, .int .i64 i2, .int .i64 x], .int .i64 y] w fun e w' => e = .returned (.tuple #[.int .i64 (chgT y m1 d1 n1 i1), .int .i64 (chgT y m2 d2 n2 i2)]) ∧ Below w.heap.size w w' := by
  obtain ⟨b0, hb0⟩ : ∃ b0, w.heap.size = b0 := ⟨_, rfl⟩
  have Hb0 := Lib.hid hb0
  obtain ⟨W1, hW1⟩ : ∃ W1, w.alloc (.cells #[.int .i64 a0, .int .i64 a1, .int .i64 m1, .int .i64 d1, .int .i64 n1, .int .i64 i1, .int .i64 m2, .int .i64 d2, .int .i64 n2, .int .i64 i2, .int .i64 x] 90) = W1 := ⟨_, rfl⟩
  have hst1 : Below w.heap.size w W1 := hW1 ▸ bstep w _
  have hs1 : W1.heap.size = b0 + 1 := by rw [← hW1, World.size_alloc, hb0]
  have hr1 : W1.heap[b0]? = some (.cells #[.int .i64 a0, .int .i64 a1, .int .i64 m1, .int .i64 d1, .int .i64 n1, .int .i64 i1, .int .i64 m2, .int .i64 d2, .int .i64 n2, .int .i64 i2, .int .i64 x] 90 (0, 0)) := by rw [← hb0, ← hW1]; exact World.alloc_heap_new w _
  obtain ⟨W2, hW2⟩ : ∃ W2, W1.alloc (.cells #[.int .i64 y] 3) = W2 := ⟨_, rfl⟩
  have hst2 : Below W1.heap.size W1 W2 := hW2 ▸ bstep W1 _
  have hr2 : W2.heap[b0 + 1]? = some (.cells #[.int .i64 y] 3 (0, 0)) := by rw [← hs1, ← hW2]; exact World.alloc_heap_new W1 _
  have hB2 := bnext hst1 hst2
  have hz2 := blk_below hr1 hst2
  have hL2 := hL.go hB2
  have HF : Hid (∀ W, Below W2.heap.size W2 W → W.cell? ⟨b0, 2, none⟩ = some (.int .i64 m1) ∧ W.cell? ⟨b0, 3, none⟩ = some (.int .i64 d1) ∧ W.cell? ⟨b0, 4, none⟩ = some (.int .i64 n1) ∧ W.cell? ⟨b0, 5, none⟩ = some (.int .i64 i1) ∧ W.cell? ⟨b0, 6, none⟩ = some (.int .i64 m2) ∧ W.cell? ⟨b0, 7, none⟩ = some (.int .i64 d2) ∧ W.cell? ⟨b0, 8, none⟩ = some (.int .i64 n2) ∧ W.cell? ⟨b0, 9, none⟩ = some (.int .i64 i2)) := fun W hW => by
    have hz := blk_below hz2 hW
    exact ⟨cell_of_row W b0 2 _ _ _ hz, cell_of_row W b0 3 _ _ _ hz, cell_of_row W b0 4 _ _ _ hz, cell_of_row W b0 5 _ _ _ hz, cell_of_row W b0 6 _ _ _ hz, cell_of_row W b0 7 _ _ _ hz, cell_of_row W b0 8 _ _ _ hz, cell_of_row W b0 9 _ _ _ hz⟩
  have HC1 : Hid (∀ W, Below W2.heap.size W2 W → Calls Tryz.prog 97 #[chgC m1 d1 n1 i1, .pointer (some ⟨b0 + 1, 0, none⟩)] W fun e w' => e = .returned (.int .i64 (chgT y m1 d1 n1 i1)) ∧ Below W.heap.size W w') := fun W hW => edge1_calls m1 d1 n1 i1 y h1 hy (b0 + 1) W (blk_below hr2 hW) (hL2.go hW)
  have HC2 : Hid (∀ W, Below W2.heap.size W2 W → Calls Tryz.prog 97 #[chgC m2 d2 n2 i2, .pointer (some ⟨b0 + 1, 0, none⟩)] W fun e w' => e = .returned (.int .i64 (chgT y m2 d2 n2 i2)) ∧ Below W.heap.size W w') := fun W hW => edge1_calls m2 d2 n2 i2 y h2 hy (b0 + 1) W (blk_below hr2 hW) (hL2.go hW)
  unfold chgC at HC1 HC2
  obtain ⟨T1, hT1⟩ : ∃ T, chgT y m1 d1 n1 i1 = T := ⟨_, rfl⟩
  obtain ⟨T2, hT2⟩ : ∃ T, chgT y m2 d2 n2 i2 = T := ⟨_, rfl⟩
  rw [hT1] at HC1 ⊢
  rw [hT2] at HC2 ⊢
  clear h1 h2 hy hL hst1 hst2 hr1 hr2 hz2 hL2 hT1 hT2
  go_enter Tryz.func84, Tryz.ntmps84
  go_wp2_with fail
  go_region_held3 (fun W => W.cell? ⟨b0, 2, none⟩ = some (.int .i64 m1) ∧ W.cell? ⟨b0, 3, none⟩ = some (.int .i64 d1) ∧ W.cell? ⟨b0, 4, none⟩ = some (.int .i64 n1) ∧ W.cell? ⟨b0, 5, none⟩ = some (.int .i64 i1) ∧ W.cell? ⟨b0, 6, none⟩ = some (.int .i64 m2) ∧ W.cell? ⟨b0, 7, none⟩ = some (.int .i64 d2) ∧ W.cell? ⟨b0, 8, none⟩ = some (.int .i64 n2) ∧ W.cell? ⟨b0, 9, none⟩ = some (.int .i64 i2))
    (first | exact HF.out _ ((Below.refl _ _).drew) | exact HF.out _ hb4 | exact HF.out _ hb6)
    (first
      | (go_at_call_of 97 (Value.int .i64 m1); first | (refine (HC1.out _ ((Below.refl _ _).drew)).mono ?_; rintro e w4 ⟨rfl, hb3⟩; have hb4 := bnext ((Below.refl _ _).drew) hb3) | (refine (HC1.out _ hb4).mono ?_; rintro e w6 ⟨rfl, hb5⟩; have hb6 := bnext hb4 hb5))
      | (go_at_call_of 97 (Value.int .i64 m2); first | (refine (HC2.out _ ((Below.refl _ _).drew)).mono ?_; rintro e w4 ⟨rfl, hb3⟩; have hb4 := bnext ((Below.refl _ _).drew) hb3) | (refine (HC2.out _ hb4).mono ?_; rintro e w6 ⟨rfl, hb5⟩; have hb6 := bnext hb4 hb5)))
  all_goals
    go_wp2_with fail
    go_ret2
    exact ⟨rfl, bnext hB2 hb6⟩
end Go.Proofs.YtgbkedjjgbhcmaaGreatDoor

/-
  A year's edges as instants, and what summer adds at a standard time, walked: zone.Edges, extra. Conditions stand at each theorem.
-/
namespace Go.Proofs.YtgbkedjjgbhcmaaGreatDoor
open Go Go.RowKit Go.Kw Go.Kw.Cv Go.Shelf
set_option linter.unusedVariables false
set_option linter.unusedSimpArgs false

theorem of_year {o : Int} {lr : Nat} {g : Nat → Nat → Int} {y : Int} (h : OfIs o lr g y) : rulOk g (rulF g y lr) ∧ 1970 ≤ y ∧ y ≤ 9999 := by
  have h1 := h.1.2.2.2 _ h.2
  have h2 := (rulF_spec g y lr).1 h.2
  unfold inYearZ at h2
  rw [Bool.and_eq_true, decide_eq_true_eq, decide_eq_true_eq] at h2
  refine ⟨h1, ?_⟩
  unfold rulOk at h1
  omega
noncomputable def edA (o : Int) (lr : Nat) (g : Nat → Nat → Int) (y : Int) : Int := if OfIs o lr g y then onT g (rulF g y lr) y - o else 0
noncomputable def edB (o : Int) (lr : Nat) (g : Nat → Nat → Int) (y : Int) : Int := if OfIs o lr g y then offT g (rulF g y lr) y - o else 0
theorem sumB_iff (a b s : Int) : sumB a b s = true ↔ (a < b ∧ a ≤ s ∧ s < b) ∨ (b < a ∧ (s < b ∨ a ≤ s)) := by
  unfold sumB
  simp only [Bool.or_eq_true, Bool.and_eq_true, decide_eq_true_eq]
set_option maxRecDepth 100000 in
set_option maxHeartbeats 16000000 in
theorem extra_no (o : Int) (A : Option Addr) (lr cr : Nat) (g : Nat → Nat → Int) (s : Int) (hs : secOk s) (hi : ¬ OfIs o lr g (zD (s / 86400)).1) (w : World) (hR : RdZ w A lr cr g) (hL : Lens w) :
    Calls Tryz.prog 73 #[zonC o A lr cr, .int .i64 s] w fun e w' => e = .returned (.int .i64 0) ∧ Below w.heap.size w w' := by
  obtain ⟨b0, hb0⟩ : ∃ b0, w.heap.size = b0 := ⟨_, rfl⟩
  obtain ⟨W1, hW1⟩ : ∃ W1, w.alloc (.cells #[.int .i64 o, .slice A lr cr] 24) = W1 := ⟨_, rfl⟩
  have hst1 : Below w.heap.size w W1 := hW1 ▸ bstep w _
  have hr1 : W1.heap[b0]? = some (.cells #[.int .i64 o, .slice A lr cr] 24 (0, 0)) := by rw [← hb0, ← hW1]; exact World.alloc_heap_new w _
  have HA := at_ok s hs W1 (hL.go hst1)
  unfold momV at HA
  have hO := fun W hR => zOf_calls o A lr cr g (zD (s / 86400)).1 W hR
  obtain ⟨q1, q2⟩ := of_not hi
  rw [q1, q2] at hO
  obtain ⟨y, hy⟩ : ∃ y, (zD (s / 86400)).1 = y := ⟨_, rfl⟩
  obtain ⟨mm, hmm⟩ : ∃ y, (zD (s / 86400)).2.1 = y := ⟨_, rfl⟩
  obtain ⟨dd, hdd⟩ : ∃ y, (zD (s / 86400)).2.2 = y := ⟨_, rfl⟩
  obtain ⟨k1, hk1⟩ : ∃ y, s % 86400 / 3600 = y := ⟨_, rfl⟩
  obtain ⟨k2, hk2⟩ : ∃ y, s % 86400 / 60 % 60 = y := ⟨_, rfl⟩
  obtain ⟨k3, hk3⟩ : ∃ y, s % 86400 % 60 = y := ⟨_, rfl⟩
  rw [hy, hmm, hdd, hk1, hk2, hk3] at HA
  rw [hy] at hO
  unfold zonC at hO ⊢
  unfold rulV at hO
  have HO := Lib.hid hO
  replace HA := Lib.hid HA
  have HR := Lib.hid hR
  clear hO hi q1 q2 hs hR hL hy hmm hdd hk1 hk2 hk3
  go_enter Tryz.func73, Tryz.ntmps73
  go_wp2_with fail
  refine HA.out.mono ?_
  rintro e w3 ⟨rfl, hb3⟩
  obtain ⟨b1, hb1⟩ : ∃ b1, w3.heap.size = b1 := ⟨_, rfl⟩
  obtain ⟨W4, hW4⟩ : ∃ W4, w3.alloc (.cells #[.int .i64 y, .int .i64 mm, .int .i64 dd, .int .i64 k1, .int .i64 k2, .int .i64 k3] 134) = W4 := ⟨_, rfl⟩
  have hst4 : Below w3.heap.size w3 W4 := hW4 ▸ bstep w3 _
  have hrd : W4.heap[b1]? = some (.cells #[.int .i64 y, .int .i64 mm, .int .i64 dd, .int .i64 k1, .int .i64 k2, .int .i64 k3] 134 (0, 0)) := by rw [← hb1, ← hW4]; exact World.alloc_heap_new w3 _
  have m0 := cell_of_row W4 b1 0 _ _ _ hrd
  have hb4 := bnext hb3 hst4
  have hr4 := blk_below hr1 hb4
  have e0 := cell_of_row W4 b0 0 _ _ _ hr4
  have e1 := cell_of_row W4 b0 1 _ _ _ hr4
  have hbb := bnext hst1 hb4
  have hR4 := HR.out.go hbb
  clear hst4 hrd hb3 hb4 hst1 hr1 hW1
  go_wp2_with fail
  refine (HO.out W4 hR4).mono ?_
  rintro e w5 ⟨rfl, hb5⟩
  have hb6 := bnext hbb hb5
  go_wp2_with fail
  go_ret
  exact ⟨rfl, bnext hb6 (bstep w5 _)⟩
set_option maxRecDepth 100000 in
set_option maxHeartbeats 32000000 in
theorem extra_yes (o : Int) (A : Option Addr) (lr cr : Nat) (g : Nat → Nat → Int) (s : Int) (hs : secOk s) (hi : OfIs o lr g (zD (s / 86400)).1) (w : World) (hR : RdZ w A lr cr g) (hL : Lens w) :
    Calls Tryz.prog 73 #[zonC o A lr cr, .int .i64 s] w fun e w' => e = .returned (.int .i64 (extV g lr s)) ∧ Below w.heap.size w w' := by
  obtain ⟨b0, hb0⟩ : ∃ b0, w.heap.size = b0 := ⟨_, rfl⟩
  obtain ⟨W1, hW1⟩ : ∃ W1, w.alloc (.cells #[.int .i64 o, .slice A lr cr] 24) = W1 := ⟨_, rfl⟩
  have hst1 : Below w.heap.size w W1 := hW1 ▸ bstep w _
  have hr1 : W1.heap[b0]? = some (.cells #[.int .i64 o, .slice A lr cr] 24 (0, 0)) := by rw [← hb0, ← hW1]; exact World.alloc_heap_new w _
  have HA := at_ok s hs W1 (hL.go hst1)
  have HL := Lib.hid (hL.go hst1)
  unfold momV at HA
  have hO := fun W hR => zOf_calls o A lr cr g (zD (s / 86400)).1 W hR
  obtain ⟨q1, q2⟩ := of_yes hi
  obtain ⟨hk, hy⟩ := of_year hi
  rw [q1, q2] at hO
  have hv : extV g lr s = if sumB (onT g (rulF g (zD (s / 86400)).1 lr) (zD (s / 86400)).1) (offT g (rulF g (zD (s / 86400)).1 lr) (zD (s / 86400)).1) s = true then g (rulF g (zD (s / 86400)).1 lr) 10 else 0 := if_pos hi.2
  obtain ⟨y, hye⟩ : ∃ y, (zD (s / 86400)).1 = y := ⟨_, rfl⟩
  obtain ⟨mm, hmm⟩ : ∃ y, (zD (s / 86400)).2.1 = y := ⟨_, rfl⟩
  obtain ⟨dd, hdd⟩ : ∃ y, (zD (s / 86400)).2.2 = y := ⟨_, rfl⟩
  obtain ⟨k1, hk1⟩ : ∃ y, s % 86400 / 3600 = y := ⟨_, rfl⟩
  obtain ⟨k2, hk2⟩ : ∃ y, s % 86400 / 60 % 60 = y := ⟨_, rfl⟩
  obtain ⟨k3, hk3⟩ : ∃ y, s % 86400 % 60 = y := ⟨_, rfl⟩
  rw [hye, hmm, hdd, hk1, hk2, hk3] at HA
  rw [hye] at hO hk hy hv
  obtain ⟨F, hF⟩ : ∃ F, rulF g y lr = F := ⟨_, rfl⟩
  rw [hF] at hO hk hv
  have hk2' := hk
  unfold rulOk at hk2'
  have hE := fun W hL => edges_calls (g F 0) (g F 1) (g F 2) (g F 3) (g F 4) (g F 5) (g F 6) (g F 7) (g F 8) (g F 9) (g F 10) y hk2'.2.2.2.2.2.1 hk2'.2.2.2.2.2.2 hy W hL
  unfold onT offT at hv
  obtain ⟨T1, hT1⟩ : ∃ T, chgT y (g F 2) (g F 3) (g F 4) (g F 5) = T := ⟨_, rfl⟩
  obtain ⟨T2, hT2⟩ : ∃ T, chgT y (g F 6) (g F 7) (g F 8) (g F 9) = T := ⟨_, rfl⟩
  rw [hT1] at hE hv
  rw [hT2] at hE hv
  obtain ⟨X, hX⟩ : ∃ X, extV g lr s = X := ⟨_, rfl⟩
  rw [hX] at hv ⊢
  have HV := Lib.hid hv
  unfold zonC at hO ⊢
  unfold rulV at hO
  have HO := Lib.hid hO
  have HE := Lib.hid hE
  replace HA := Lib.hid HA
  have HR := Lib.hid hR
  clear hO hE hv hX hi q1 q2 hs hR hL hy hye hmm hdd hk1 hk2 hk3 hk hk2' hF hT1 hT2

  rcases (by omega : (T1 < T2 ∧ s < T1) ∨ (T1 < T2 ∧ ¬ s < T1 ∧ T2 ≤ s) ∨ (T1 < T2 ∧ ¬ s < T1 ∧ s < T2) ∨ (T2 < T1 ∧ T2 ≤ s ∧ s < T1) ∨ (T2 < T1 ∧ T2 ≤ s ∧ T1 ≤ s) ∨ (T2 < T1 ∧ s < T2) ∨ T1 = T2) with hp | hp | hp | hp | hp | hp | hp
  · skip
    have c1 : decide (T1 < T2) = true := decide_eq_true (by omega)
    have c2 : decide (s < T1) = true := decide_eq_true (by omega)
    have hX : X = 0 := by rw [HV.out, if_neg (fun h => by have := (sumB_iff T1 T2 s).1 h; omega)]
    rw [hX]
    clear hX HV
    clear hp
    go_enter Tryz.func73, Tryz.ntmps73
    go_wp2_with fail
    refine HA.out.mono ?_
    rintro e w3 ⟨rfl, hb3⟩
    obtain ⟨b1, hb1⟩ : ∃ b1, w3.heap.size = b1 := ⟨_, rfl⟩
    obtain ⟨W4, hW4⟩ : ∃ W4, w3.alloc (.cells #[.int .i64 y, .int .i64 mm, .int .i64 dd, .int .i64 k1, .int .i64 k2, .int .i64 k3] 134) = W4 := ⟨_, rfl⟩
    have hst4 : Below w3.heap.size w3 W4 := hW4 ▸ bstep w3 _
    have hrd : W4.heap[b1]? = some (.cells #[.int .i64 y, .int .i64 mm, .int .i64 dd, .int .i64 k1, .int .i64 k2, .int .i64 k3] 134 (0, 0)) := by rw [← hb1, ← hW4]; exact World.alloc_heap_new w3 _
    have m0 := cell_of_row W4 b1 0 _ _ _ hrd
    have hb4 := bnext hb3 hst4
    have hr4 := blk_below hr1 hb4
    have e0 := cell_of_row W4 b0 0 _ _ _ hr4
    have e1 := cell_of_row W4 b0 1 _ _ _ hr4
    have hbb := bnext hst1 hb4
    have hR4 := HR.out.go hbb
    have hL4 := HL.out.go hb4
    clear hst4 hb3 hb4 hst1 hr1 hW1
    go_wp2_with fail
    refine (HO.out W4 hR4).mono ?_
    rintro e w5 ⟨rfl, hb5⟩
    obtain ⟨b2, hb2⟩ : ∃ b2, w5.heap.size = b2 := ⟨_, rfl⟩
    obtain ⟨W6, hW6⟩ : ∃ W6, w5.alloc (.cells #[.int .i64 (g F 0), .int .i64 (g F 1), .int .i64 (g F 2), .int .i64 (g F 3), .int .i64 (g F 4), .int .i64 (g F 5), .int .i64 (g F 6), .int .i64 (g F 7), .int .i64 (g F 8), .int .i64 (g F 9), .int .i64 (g F 10)] 90) = W6 := ⟨_, rfl⟩
    have hst6 : Below w5.heap.size w5 W6 := hW6 ▸ bstep w5 _
    have hrr : W6.heap[b2]? = some (.cells #[.int .i64 (g F 0), .int .i64 (g F 1), .int .i64 (g F 2), .int .i64 (g F 3), .int .i64 (g F 4), .int .i64 (g F 5), .int .i64 (g F 6), .int .i64 (g F 7), .int .i64 (g F 8), .int .i64 (g F 9), .int .i64 (g F 10)] 90 (0, 0)) := by rw [← hb2, ← hW6]; exact World.alloc_heap_new w5 _
    have d0 := cell_of_row W6 b2 0 _ _ _ hrr
    have d1 := cell_of_row W6 b2 1 _ _ _ hrr
    have d2 := cell_of_row W6 b2 2 _ _ _ hrr
    have d3 := cell_of_row W6 b2 3 _ _ _ hrr
    have d4 := cell_of_row W6 b2 4 _ _ _ hrr
    have d5 := cell_of_row W6 b2 5 _ _ _ hrr
    have d6 := cell_of_row W6 b2 6 _ _ _ hrr
    have d7 := cell_of_row W6 b2 7 _ _ _ hrr
    have d8 := cell_of_row W6 b2 8 _ _ _ hrr
    have d9 := cell_of_row W6 b2 9 _ _ _ hrr
    have d10 := cell_of_row W6 b2 10 _ _ _ hrr
    have hb6 := bnext hb5 hst6
    have m0 := cell_of_row W6 b1 0 _ _ _ (blk_below hrd hb6)
    have hL6 := hL4.go hb6
    have hb7 := bnext hbb hb6
    clear hst6 hb5 hb6 hbb hL4 hW4 e0 e1 hrd
    go_wp2_with fail
    refine (HE.out W6 hL6).mono ?_
    rintro e w7 ⟨rfl, hb8⟩
    have p10 := cell_of_row w7 b2 10 _ _ _ (blk_below hrr hb8)
    have hb9 := bnext hb7 hb8
    clear hb8 hb7 hrr hW6 hL6 m0
    clear d0
    clear d1
    clear d2
    clear d3
    clear d4
    clear d5
    clear d6
    clear d7
    clear d8
    clear d9
    clear d10
    go_wp2_with fail
    go_ret
    exact ⟨rfl, hb9⟩
  · skip
    have c1 : decide (T1 < T2) = true := decide_eq_true (by omega)
    have c2 : decide (s < T1) = false := decide_eq_false (by omega)
    have c3 : decide (s ≥ T2) = true := decide_eq_true (by omega)
    have hX : X = 0 := by rw [HV.out, if_neg (fun h => by have := (sumB_iff T1 T2 s).1 h; omega)]
    rw [hX]
    clear hX HV
    clear hp
    go_enter Tryz.func73, Tryz.ntmps73
    go_wp2_with fail
    refine HA.out.mono ?_
    rintro e w3 ⟨rfl, hb3⟩
    obtain ⟨b1, hb1⟩ : ∃ b1, w3.heap.size = b1 := ⟨_, rfl⟩
    obtain ⟨W4, hW4⟩ : ∃ W4, w3.alloc (.cells #[.int .i64 y, .int .i64 mm, .int .i64 dd, .int .i64 k1, .int .i64 k2, .int .i64 k3] 134) = W4 := ⟨_, rfl⟩
    have hst4 : Below w3.heap.size w3 W4 := hW4 ▸ bstep w3 _
    have hrd : W4.heap[b1]? = some (.cells #[.int .i64 y, .int .i64 mm, .int .i64 dd, .int .i64 k1, .int .i64 k2, .int .i64 k3] 134 (0, 0)) := by rw [← hb1, ← hW4]; exact World.alloc_heap_new w3 _
    have m0 := cell_of_row W4 b1 0 _ _ _ hrd
    have hb4 := bnext hb3 hst4
    have hr4 := blk_below hr1 hb4
    have e0 := cell_of_row W4 b0 0 _ _ _ hr4
    have e1 := cell_of_row W4 b0 1 _ _ _ hr4
    have hbb := bnext hst1 hb4
    have hR4 := HR.out.go hbb
    have hL4 := HL.out.go hb4
    clear hst4 hb3 hb4 hst1 hr1 hW1
    go_wp2_with fail
    refine (HO.out W4 hR4).mono ?_
    rintro e w5 ⟨rfl, hb5⟩
    obtain ⟨b2, hb2⟩ : ∃ b2, w5.heap.size = b2 := ⟨_, rfl⟩
    obtain ⟨W6, hW6⟩ : ∃ W6, w5.alloc (.cells #[.int .i64 (g F 0), .int .i64 (g F 1), .int .i64 (g F 2), .int .i64 (g F 3), .int .i64 (g F 4), .int .i64 (g F 5), .int .i64 (g F 6), .int .i64 (g F 7), .int .i64 (g F 8), .int .i64 (g F 9), .int .i64 (g F 10)] 90) = W6 := ⟨_, rfl⟩
    have hst6 : Below w5.heap.size w5 W6 := hW6 ▸ bstep w5 _
    have hrr : W6.heap[b2]? = some (.cells #[.int .i64 (g F 0), .int .i64 (g F 1), .int .i64 (g F 2), .int .i64 (g F 3), .int .i64 (g F 4), .int .i64 (g F 5), .int .i64 (g F 6), .int .i64 (g F 7), .int .i64 (g F 8), .int .i64 (g F 9), .int .i64 (g F 10)] 90 (0, 0)) := by rw [← hb2, ← hW6]; exact World.alloc_heap_new w5 _
    have d0 := cell_of_row W6 b2 0 _ _ _ hrr
    have d1 := cell_of_row W6 b2 1 _ _ _ hrr
    have d2 := cell_of_row W6 b2 2 _ _ _ hrr
    have d3 := cell_of_row W6 b2 3 _ _ _ hrr
    have d4 := cell_of_row W6 b2 4 _ _ _ hrr
    have d5 := cell_of_row W6 b2 5 _ _ _ hrr
    have d6 := cell_of_row W6 b2 6 _ _ _ hrr
    have d7 := cell_of_row W6 b2 7 _ _ _ hrr
    have d8 := cell_of_row W6 b2 8 _ _ _ hrr
    have d9 := cell_of_row W6 b2 9 _ _ _ hrr
    have d10 := cell_of_row W6 b2 10 _ _ _ hrr
    have hb6 := bnext hb5 hst6
    have m0 := cell_of_row W6 b1 0 _ _ _ (blk_below hrd hb6)
    have hL6 := hL4.go hb6
    have hb7 := bnext hbb hb6
    clear hst6 hb5 hb6 hbb hL4 hW4 e0 e1 hrd
    go_wp2_with fail
    refine (HE.out W6 hL6).mono ?_
    rintro e w7 ⟨rfl, hb8⟩
    have p10 := cell_of_row w7 b2 10 _ _ _ (blk_below hrr hb8)
    have hb9 := bnext hb7 hb8
    clear hb8 hb7 hrr hW6 hL6 m0
    clear d0
    clear d1
    clear d2
    clear d3
    clear d4
    clear d5
    clear d6
    clear d7
    clear d8
    clear d9
    clear d10
    go_wp2_with fail
    go_ret
    exact ⟨rfl, hb9⟩
  · skip
    have c1 : decide (T1 < T2) = true := decide_eq_true (by omega)
    have c2 : decide (s < T1) = false := decide_eq_false (by omega)
    have c3 : decide (s ≥ T2) = false := decide_eq_false (by omega)
    have c4 : decide (T1 > T2) = false := decide_eq_false (by omega)
    have c9 : (T1 == T2) = false := beq_eq_false_iff_ne.2 (by omega)
    have hX : X = g F 10 := by rw [HV.out, if_pos ((sumB_iff T1 T2 s).2 (by omega))]
    rw [hX]
    clear hX HV
    clear hp
    go_enter Tryz.func73, Tryz.ntmps73
    go_wp2_with fail
    refine HA.out.mono ?_
    rintro e w3 ⟨rfl, hb3⟩
    obtain ⟨b1, hb1⟩ : ∃ b1, w3.heap.size = b1 := ⟨_, rfl⟩
    obtain ⟨W4, hW4⟩ : ∃ W4, w3.alloc (.cells #[.int .i64 y, .int .i64 mm, .int .i64 dd, .int .i64 k1, .int .i64 k2, .int .i64 k3] 134) = W4 := ⟨_, rfl⟩
    have hst4 : Below w3.heap.size w3 W4 := hW4 ▸ bstep w3 _
    have hrd : W4.heap[b1]? = some (.cells #[.int .i64 y, .int .i64 mm, .int .i64 dd, .int .i64 k1, .int .i64 k2, .int .i64 k3] 134 (0, 0)) := by rw [← hb1, ← hW4]; exact World.alloc_heap_new w3 _
    have m0 := cell_of_row W4 b1 0 _ _ _ hrd
    have hb4 := bnext hb3 hst4
    have hr4 := blk_below hr1 hb4
    have e0 := cell_of_row W4 b0 0 _ _ _ hr4
    have e1 := cell_of_row W4 b0 1 _ _ _ hr4
    have hbb := bnext hst1 hb4
    have hR4 := HR.out.go hbb
    have hL4 := HL.out.go hb4
    clear hst4 hb3 hb4 hst1 hr1 hW1
    go_wp2_with fail
    refine (HO.out W4 hR4).mono ?_
    rintro e w5 ⟨rfl, hb5⟩
    obtain ⟨b2, hb2⟩ : ∃ b2, w5.heap.size = b2 := ⟨_, rfl⟩
    obtain ⟨W6, hW6⟩ : ∃ W6, w5.alloc (.cells #[.int .i64 (g F 0), .int .i64 (g F 1), .int .i64 (g F 2), .int .i64 (g F 3), .int .i64 (g F 4), .int .i64 (g F 5), .int .i64 (g F 6), .int .i64 (g F 7), .int .i64 (g F 8), .int .i64 (g F 9), .int .i64 (g F 10)] 90) = W6 := ⟨_, rfl⟩
    have hst6 : Below w5.heap.size w5 W6 := hW6 ▸ bstep w5 _
    have hrr : W6.heap[b2]? = some (.cells #[.int .i64 (g F 0), .int .i64 (g F 1), .int .i64 (g F 2), .int .i64 (g F 3), .int .i64 (g F 4), .int .i64 (g F 5), .int .i64 (g F 6), .int .i64 (g F 7), .int .i64 (g F 8), .int .i64 (g F 9), .int .i64 (g F 10)] 90 (0, 0)) := by rw [← hb2, ← hW6]; exact World.alloc_heap_new w5 _
    have d0 := cell_of_row W6 b2 0 _ _ _ hrr
    have d1 := cell_of_row W6 b2 1 _ _ _ hrr
    have d2 := cell_of_row W6 b2 2 _ _ _ hrr
    have d3 := cell_of_row W6 b2 3 _ _ _ hrr
    have d4 := cell_of_row W6 b2 4 _ _ _ hrr
    have d5 := cell_of_row W6 b2 5 _ _ _ hrr
    have d6 := cell_of_row W6 b2 6 _ _ _ hrr
    have d7 := cell_of_row W6 b2 7 _ _ _ hrr
    have d8 := cell_of_row W6 b2 8 _ _ _ hrr
    have d9 := cell_of_row W6 b2 9 _ _ _ hrr
    have d10 := cell_of_row W6 b2 10 _ _ _ hrr
    have hb6 := bnext hb5 hst6
    have m0 := cell_of_row W6 b1 0 _ _ _ (blk_below hrd hb6)
    have hL6 := hL4.go hb6
    have hb7 := bnext hbb hb6
    clear hst6 hb5 hb6 hbb hL4 hW4 e0 e1 hrd
    go_wp2_with fail
    refine (HE.out W6 hL6).mono ?_
    rintro e w7 ⟨rfl, hb8⟩
    have p10 := cell_of_row w7 b2 10 _ _ _ (blk_below hrr hb8)
    have hb9 := bnext hb7 hb8
    clear hb8 hb7 hrr hW6 hL6 m0
    clear d0
    clear d1
    clear d2
    clear d3
    clear d4
    clear d5
    clear d6
    clear d7
    clear d8
    clear d9
    clear d10
    go_wp2_with fail
    go_ret
    exact ⟨rfl, hb9⟩
  · skip
    have c1 : decide (T1 < T2) = false := decide_eq_false (by omega)
    have c4 : decide (T1 > T2) = true := decide_eq_true (by omega)
    have c3 : decide (s ≥ T2) = true := decide_eq_true (by omega)
    have c2 : decide (s < T1) = true := decide_eq_true (by omega)
    have hX : X = 0 := by rw [HV.out, if_neg (fun h => by have := (sumB_iff T1 T2 s).1 h; omega)]
    rw [hX]
    clear hX HV
    clear hp
    go_enter Tryz.func73, Tryz.ntmps73
    go_wp2_with fail
    refine HA.out.mono ?_
    rintro e w3 ⟨rfl, hb3⟩
    obtain ⟨b1, hb1⟩ : ∃ b1, w3.heap.size = b1 := ⟨_, rfl⟩
    obtain ⟨W4, hW4⟩ : ∃ W4, w3.alloc (.cells #[.int .i64 y, .int .i64 mm, .int .i64 dd, .int .i64 k1, .int .i64 k2, .int .i64 k3] 134) = W4 := ⟨_, rfl⟩
    have hst4 : Below w3.heap.size w3 W4 := hW4 ▸ bstep w3 _
    have hrd : W4.heap[b1]? = some (.cells #[.int .i64 y, .int .i64 mm, .int .i64 dd, .int .i64 k1, .int .i64 k2, .int .i64 k3] 134 (0, 0)) := by rw [← hb1, ← hW4]; exact World.alloc_heap_new w3 _
    have m0 := cell_of_row W4 b1 0 _ _ _ hrd
    have hb4 := bnext hb3 hst4
    have hr4 := blk_below hr1 hb4
    have e0 := cell_of_row W4 b0 0 _ _ _ hr4
    have e1 := cell_of_row W4 b0 1 _ _ _ hr4
    have hbb := bnext hst1 hb4
    have hR4 := HR.out.go hbb
    have hL4 := HL.out.go hb4
    clear hst4 hb3 hb4 hst1 hr1 hW1
    go_wp2_with fail
    refine (HO.out W4 hR4).mono ?_
    rintro e w5 ⟨rfl, hb5⟩
    obtain ⟨b2, hb2⟩ : ∃ b2, w5.heap.size = b2 := ⟨_, rfl⟩
    obtain ⟨W6, hW6⟩ : ∃ W6, w5.alloc (.cells #[.int .i64 (g F 0), .int .i64 (g F 1), .int .i64 (g F 2), .int .i64 (g F 3), .int .i64 (g F 4), .int .i64 (g F 5), .int .i64 (g F 6), .int .i64 (g F 7), .int .i64 (g F 8), .int .i64 (g F 9), .int .i64 (g F 10)] 90) = W6 := ⟨_, rfl⟩
    have hst6 : Below w5.heap.size w5 W6 := hW6 ▸ bstep w5 _
    have hrr : W6.heap[b2]? = some (.cells #[.int .i64 (g F 0), .int .i64 (g F 1), .int .i64 (g F 2), .int .i64 (g F 3), .int .i64 (g F 4), .int .i64 (g F 5), .int .i64 (g F 6), .int .i64 (g F 7), .int .i64 (g F 8), .int .i64 (g F 9), .int .i64 (g F 10)] 90 (0, 0)) := by rw [← hb2, ← hW6]; exact World.alloc_heap_new w5 _
    have d0 := cell_of_row W6 b2 0 _ _ _ hrr
    have d1 := cell_of_row W6 b2 1 _ _ _ hrr
    have d2 := cell_of_row W6 b2 2 _ _ _ hrr
    have d3 := cell_of_row W6 b2 3 _ _ _ hrr
    have d4 := cell_of_row W6 b2 4 _ _ _ hrr
    have d5 := cell_of_row W6 b2 5 _ _ _ hrr
    have d6 := cell_of_row W6 b2 6 _ _ _ hrr
    have d7 := cell_of_row W6 b2 7 _ _ _ hrr
    have d8 := cell_of_row W6 b2 8 _ _ _ hrr
    have d9 := cell_of_row W6 b2 9 _ _ _ hrr
    have d10 := cell_of_row W6 b2 10 _ _ _ hrr
    have hb6 := bnext hb5 hst6
    have m0 := cell_of_row W6 b1 0 _ _ _ (blk_below hrd hb6)
    have hL6 := hL4.go hb6
    have hb7 := bnext hbb hb6
    clear hst6 hb5 hb6 hbb hL4 hW4 e0 e1 hrd
    go_wp2_with fail
    refine (HE.out W6 hL6).mono ?_
    rintro e w7 ⟨rfl, hb8⟩
    have p10 := cell_of_row w7 b2 10 _ _ _ (blk_below hrr hb8)
    have hb9 := bnext hb7 hb8
    clear hb8 hb7 hrr hW6 hL6 m0
    clear d0
    clear d1
    clear d2
    clear d3
    clear d4
    clear d5
    clear d6
    clear d7
    clear d8
    clear d9
    clear d10
    go_wp2_with fail
    go_ret
    exact ⟨rfl, hb9⟩
  · skip
    have c1 : decide (T1 < T2) = false := decide_eq_false (by omega)
    have c4 : decide (T1 > T2) = true := decide_eq_true (by omega)
    have c3 : decide (s ≥ T2) = true := decide_eq_true (by omega)
    have c2 : decide (s < T1) = false := decide_eq_false (by omega)
    have c9 : (T1 == T2) = false := beq_eq_false_iff_ne.2 (by omega)
    have hX : X = g F 10 := by rw [HV.out, if_pos ((sumB_iff T1 T2 s).2 (by omega))]
    rw [hX]
    clear hX HV
    clear hp
    go_enter Tryz.func73, Tryz.ntmps73
    go_wp2_with fail
    refine HA.out.mono ?_
    rintro e w3 ⟨rfl, hb3⟩
    obtain ⟨b1, hb1⟩ : ∃ b1, w3.heap.size = b1 := ⟨_, rfl⟩
    obtain ⟨W4, hW4⟩ : ∃ W4, w3.alloc (.cells #[.int .i64 y, .int .i64 mm, .int .i64 dd, .int .i64 k1, .int .i64 k2, .int .i64 k3] 134) = W4 := ⟨_, rfl⟩
    have hst4 : Below w3.heap.size w3 W4 := hW4 ▸ bstep w3 _
    have hrd : W4.heap[b1]? = some (.cells #[.int .i64 y, .int .i64 mm, .int .i64 dd, .int .i64 k1, .int .i64 k2, .int .i64 k3] 134 (0, 0)) := by rw [← hb1, ← hW4]; exact World.alloc_heap_new w3 _
    have m0 := cell_of_row W4 b1 0 _ _ _ hrd
    have hb4 := bnext hb3 hst4
    have hr4 := blk_below hr1 hb4
    have e0 := cell_of_row W4 b0 0 _ _ _ hr4
    have e1 := cell_of_row W4 b0 1 _ _ _ hr4
    have hbb := bnext hst1 hb4
    have hR4 := HR.out.go hbb
    have hL4 := HL.out.go hb4
    clear hst4 hb3 hb4 hst1 hr1 hW1
    go_wp2_with fail
    refine (HO.out W4 hR4).mono ?_
    rintro e w5 ⟨rfl, hb5⟩
    obtain ⟨b2, hb2⟩ : ∃ b2, w5.heap.size = b2 := ⟨_, rfl⟩
    obtain ⟨W6, hW6⟩ : ∃ W6, w5.alloc (.cells #[.int .i64 (g F 0), .int .i64 (g F 1), .int .i64 (g F 2), .int .i64 (g F 3), .int .i64 (g F 4), .int .i64 (g F 5), .int .i64 (g F 6), .int .i64 (g F 7), .int .i64 (g F 8), .int .i64 (g F 9), .int .i64 (g F 10)] 90) = W6 := ⟨_, rfl⟩
    have hst6 : Below w5.heap.size w5 W6 := hW6 ▸ bstep w5 _
    have hrr : W6.heap[b2]? = some (.cells #[.int .i64 (g F 0), .int .i64 (g F 1), .int .i64 (g F 2), .int .i64 (g F 3), .int .i64 (g F 4), .int .i64 (g F 5), .int .i64 (g F 6), .int .i64 (g F 7), .int .i64 (g F 8), .int .i64 (g F 9), .int .i64 (g F 10)] 90 (0, 0)) := by rw [← hb2, ← hW6]; exact World.alloc_heap_new w5 _
    have d0 := cell_of_row W6 b2 0 _ _ _ hrr
    have d1 := cell_of_row W6 b2 1 _ _ _ hrr
    have d2 := cell_of_row W6 b2 2 _ _ _ hrr
    have d3 := cell_of_row W6 b2 3 _ _ _ hrr
    have d4 := cell_of_row W6 b2 4 _ _ _ hrr
    have d5 := cell_of_row W6 b2 5 _ _ _ hrr
    have d6 := cell_of_row W6 b2 6 _ _ _ hrr
    have d7 := cell_of_row W6 b2 7 _ _ _ hrr
    have d8 := cell_of_row W6 b2 8 _ _ _ hrr
    have d9 := cell_of_row W6 b2 9 _ _ _ hrr
    have d10 := cell_of_row W6 b2 10 _ _ _ hrr
    have hb6 := bnext hb5 hst6
    have m0 := cell_of_row W6 b1 0 _ _ _ (blk_below hrd hb6)
    have hL6 := hL4.go hb6
    have hb7 := bnext hbb hb6
    clear hst6 hb5 hb6 hbb hL4 hW4 e0 e1 hrd
    go_wp2_with fail
    refine (HE.out W6 hL6).mono ?_
    rintro e w7 ⟨rfl, hb8⟩
    have p10 := cell_of_row w7 b2 10 _ _ _ (blk_below hrr hb8)
    have hb9 := bnext hb7 hb8
    clear hb8 hb7 hrr hW6 hL6 m0
    clear d0
    clear d1
    clear d2
    clear d3
    clear d4
    clear d5
    clear d6
    clear d7
    clear d8
    clear d9
    clear d10
    go_wp2_with fail
    go_ret
    exact ⟨rfl, hb9⟩
  · skip
    have c1 : decide (T1 < T2) = false := decide_eq_false (by omega)
    have c4 : decide (T1 > T2) = true := decide_eq_true (by omega)
    have c3 : decide (s ≥ T2) = false := decide_eq_false (by omega)
    have c9 : (T1 == T2) = false := beq_eq_false_iff_ne.2 (by omega)
    have hX : X = g F 10 := by rw [HV.out, if_pos ((sumB_iff T1 T2 s).2 (by omega))]
    rw [hX]
    clear hX HV
    clear hp
    go_enter Tryz.func73, Tryz.ntmps73
    go_wp2_with fail
    refine HA.out.mono ?_
    rintro e w3 ⟨rfl, hb3⟩
    obtain ⟨b1, hb1⟩ : ∃ b1, w3.heap.size = b1 := ⟨_, rfl⟩
    obtain ⟨W4, hW4⟩ : ∃ W4, w3.alloc (.cells #[.int .i64 y, .int .i64 mm, .int .i64 dd, .int .i64 k1, .int .i64 k2, .int .i64 k3] 134) = W4 := ⟨_, rfl⟩
    have hst4 : Below w3.heap.size w3 W4 := hW4 ▸ bstep w3 _
    have hrd : W4.heap[b1]? = some (.cells #[.int .i64 y, .int .i64 mm, .int .i64 dd, .int .i64 k1, .int .i64 k2, .int .i64 k3] 134 (0, 0)) := by rw [← hb1, ← hW4]; exact World.alloc_heap_new w3 _
    have m0 := cell_of_row W4 b1 0 _ _ _ hrd
    have hb4 := bnext hb3 hst4
    have hr4 := blk_below hr1 hb4
    have e0 := cell_of_row W4 b0 0 _ _ _ hr4
    have e1 := cell_of_row W4 b0 1 _ _ _ hr4
    have hbb := bnext hst1 hb4
    have hR4 := HR.out.go hbb
    have hL4 := HL.out.go hb4
    clear hst4 hb3 hb4 hst1 hr1 hW1
    go_wp2_with fail
    refine (HO.out W4 hR4).mono ?_
    rintro e w5 ⟨rfl, hb5⟩
    obtain ⟨b2, hb2⟩ : ∃ b2, w5.heap.size = b2 := ⟨_, rfl⟩
    obtain ⟨W6, hW6⟩ : ∃ W6, w5.alloc (.cells #[.int .i64 (g F 0), .int .i64 (g F 1), .int .i64 (g F 2), .int .i64 (g F 3), .int .i64 (g F 4), .int .i64 (g F 5), .int .i64 (g F 6), .int .i64 (g F 7), .int .i64 (g F 8), .int .i64 (g F 9), .int .i64 (g F 10)] 90) = W6 := ⟨_, rfl⟩
    have hst6 : Below w5.heap.size w5 W6 := hW6 ▸ bstep w5 _
    have hrr : W6.heap[b2]? = some (.cells #[.int .i64 (g F 0), .int .i64 (g F 1), .int .i64 (g F 2), .int .i64 (g F 3), .int .i64 (g F 4), .int .i64 (g F 5), .int .i64 (g F 6), .int .i64 (g F 7), .int .i64 (g F 8), .int .i64 (g F 9), .int .i64 (g F 10)] 90 (0, 0)) := by rw [← hb2, ← hW6]; exact World.alloc_heap_new w5 _
    have d0 := cell_of_row W6 b2 0 _ _ _ hrr
    have d1 := cell_of_row W6 b2 1 _ _ _ hrr
    have d2 := cell_of_row W6 b2 2 _ _ _ hrr
    have d3 := cell_of_row W6 b2 3 _ _ _ hrr
    have d4 := cell_of_row W6 b2 4 _ _ _ hrr
    have d5 := cell_of_row W6 b2 5 _ _ _ hrr
    have d6 := cell_of_row W6 b2 6 _ _ _ hrr
    have d7 := cell_of_row W6 b2 7 _ _ _ hrr
    have d8 := cell_of_row W6 b2 8 _ _ _ hrr
    have d9 := cell_of_row W6 b2 9 _ _ _ hrr
    have d10 := cell_of_row W6 b2 10 _ _ _ hrr
    have hb6 := bnext hb5 hst6
    have m0 := cell_of_row W6 b1 0 _ _ _ (blk_below hrd hb6)
    have hL6 := hL4.go hb6
    have hb7 := bnext hbb hb6
    clear hst6 hb5 hb6 hbb hL4 hW4 e0 e1 hrd
    go_wp2_with fail
    refine (HE.out W6 hL6).mono ?_
    rintro e w7 ⟨rfl, hb8⟩
    have p10 := cell_of_row w7 b2 10 _ _ _ (blk_below hrr hb8)
    have hb9 := bnext hb7 hb8
    clear hb8 hb7 hrr hW6 hL6 m0
    clear d0
    clear d1
    clear d2
    clear d3
    clear d4
    clear d5
    clear d6
    clear d7
    clear d8
    clear d9
    clear d10
    go_wp2_with fail
    go_ret
    exact ⟨rfl, hb9⟩
  · skip
    have c1 : decide (T1 < T2) = false := decide_eq_false (by omega)
    have c4 : decide (T1 > T2) = false := decide_eq_false (by omega)
    have c9 : (T1 == T2) = true := beq_iff_eq.2 (by omega)
    have hX : X = 0 := by rw [HV.out, if_neg (fun h => by have := (sumB_iff T1 T2 s).1 h; omega)]
    rw [hX]
    clear hX HV
    clear hp
    go_enter Tryz.func73, Tryz.ntmps73
    go_wp2_with fail
    refine HA.out.mono ?_
    rintro e w3 ⟨rfl, hb3⟩
    obtain ⟨b1, hb1⟩ : ∃ b1, w3.heap.size = b1 := ⟨_, rfl⟩
    obtain ⟨W4, hW4⟩ : ∃ W4, w3.alloc (.cells #[.int .i64 y, .int .i64 mm, .int .i64 dd, .int .i64 k1, .int .i64 k2, .int .i64 k3] 134) = W4 := ⟨_, rfl⟩
    have hst4 : Below w3.heap.size w3 W4 := hW4 ▸ bstep w3 _
    have hrd : W4.heap[b1]? = some (.cells #[.int .i64 y, .int .i64 mm, .int .i64 dd, .int .i64 k1, .int .i64 k2, .int .i64 k3] 134 (0, 0)) := by rw [← hb1, ← hW4]; exact World.alloc_heap_new w3 _
    have m0 := cell_of_row W4 b1 0 _ _ _ hrd
    have hb4 := bnext hb3 hst4
    have hr4 := blk_below hr1 hb4
    have e0 := cell_of_row W4 b0 0 _ _ _ hr4
    have e1 := cell_of_row W4 b0 1 _ _ _ hr4
    have hbb := bnext hst1 hb4
    have hR4 := HR.out.go hbb
    have hL4 := HL.out.go hb4
    clear hst4 hb3 hb4 hst1 hr1 hW1
    go_wp2_with fail
    refine (HO.out W4 hR4).mono ?_
    rintro e w5 ⟨rfl, hb5⟩
    obtain ⟨b2, hb2⟩ : ∃ b2, w5.heap.size = b2 := ⟨_, rfl⟩
    obtain ⟨W6, hW6⟩ : ∃ W6, w5.alloc (.cells #[.int .i64 (g F 0), .int .i64 (g F 1), .int .i64 (g F 2), .int .i64 (g F 3), .int .i64 (g F 4), .int .i64 (g F 5), .int .i64 (g F 6), .int .i64 (g F 7), .int .i64 (g F 8), .int .i64 (g F 9), .int .i64 (g F 10)] 90) = W6 := ⟨_, rfl⟩
    have hst6 : Below w5.heap.size w5 W6 := hW6 ▸ bstep w5 _
    have hrr : W6.heap[b2]? = some (.cells #[.int .i64 (g F 0), .int .i64 (g F 1), .int .i64 (g F 2), .int .i64 (g F 3), .int .i64 (g F 4), .int .i64 (g F 5), .int .i64 (g F 6), .int .i64 (g F 7), .int .i64 (g F 8), .int .i64 (g F 9), .int .i64 (g F 10)] 90 (0, 0)) := by rw [← hb2, ← hW6]; exact World.alloc_heap_new w5 _
    have d0 := cell_of_row W6 b2 0 _ _ _ hrr
    have d1 := cell_of_row W6 b2 1 _ _ _ hrr
    have d2 := cell_of_row W6 b2 2 _ _ _ hrr
    have d3 := cell_of_row W6 b2 3 _ _ _ hrr
    have d4 := cell_of_row W6 b2 4 _ _ _ hrr
    have d5 := cell_of_row W6 b2 5 _ _ _ hrr
    have d6 := cell_of_row W6 b2 6 _ _ _ hrr
    have d7 := cell_of_row W6 b2 7 _ _ _ hrr
    have d8 := cell_of_row W6 b2 8 _ _ _ hrr
    have d9 := cell_of_row W6 b2 9 _ _ _ hrr
    have d10 := cell_of_row W6 b2 10 _ _ _ hrr
    have hb6 := bnext hb5 hst6
    have m0 := cell_of_row W6 b1 0 _ _ _ (blk_below hrd hb6)
    have hL6 := hL4.go hb6
    have hb7 := bnext hbb hb6
    clear hst6 hb5 hb6 hbb hL4 hW4 e0 e1 hrd
    go_wp2_with fail
    refine (HE.out W6 hL6).mono ?_
    rintro e w7 ⟨rfl, hb8⟩
    have p10 := cell_of_row w7 b2 10 _ _ _ (blk_below hrr hb8)
    have hb9 := bnext hb7 hb8
    clear hb8 hb7 hrr hW6 hL6 m0
    clear d0
    clear d1
    clear d2
    clear d3
    clear d4
    clear d5
    clear d6
    clear d7
    clear d8
    clear d9
    clear d10
    go_wp2_with fail
    go_ret
    exact ⟨rfl, hb9⟩
theorem extra_calls (o : Int) (A : Option Addr) (lr cr : Nat) (g : Nat → Nat → Int) (s : Int) (hok : zonOk o lr g) (hs : secOk s) (w : World) (hR : RdZ w A lr cr g) (hL : Lens w) :
    Calls Tryz.prog 73 #[zonC o A lr cr, .int .i64 s] w fun e w' => e = .returned (.int .i64 (extV g lr s)) ∧ Below w.heap.size w w' := by
  by_cases hi : OfIs o lr g (zD (s / 86400)).1
  · exact extra_yes o A lr cr g s hs hi w hR hL
  · have hv : extV g lr s = 0 := if_neg (fun h => hi ⟨hok, h⟩)
    rw [hv]
    exact extra_no o A lr cr g s hs hi w hR hL
end Go.Proofs.YtgbkedjjgbhcmaaGreatDoor

/-
  An instant's offset, local time and day, walked: zone.Offset, Local, Day. Conditions stand at each theorem.
-/
namespace Go.Proofs.YtgbkedjjgbhcmaaGreatDoor
open Go Go.RowKit Go.Kw Go.Kw.Cv Go.Shelf
set_option linter.unusedVariables false
set_option linter.unusedSimpArgs false

theorem off_ok {o : Int} {lr : Nat} {g : Nat → Nat → Int} {t : Int} (h : offE o lr g t = 0) : zonOk o lr g ∧ secOk (t + o) ∧ secOk (t + o + extV g lr (t + o)) ∧ offV o lr g t = o + extV g lr (t + o) := by
  have hv : offV o lr g t = o + extV g lr (t + o) := if_pos h
  unfold offE at h
  by_cases h1 : zonOk o lr g
  · rw [if_pos h1] at h
    by_cases h2 : secOk (t + o) ∧ secOk (t + o + extV g lr (t + o))
    · exact ⟨h1, h2.1, h2.2, hv⟩
    · rw [if_neg h2] at h; exact absurd h (by decide)
  · rw [if_neg h1] at h; exact absurd h (by decide)
theorem off_v (o : Int) (lr : Nat) (g : Nat → Nat → Int) (t e : Int) (h : offE o lr g t = e) (he : e ≠ 0) : offV o lr g t = 0 := if_neg (by rw [h]; exact he)
theorem zoff_setup {o : Int} {lr : Nat} {g : Nat → Nat → Int} {t : Int} (h1 : zonOk o lr g) (h2 : ¬ (secOk (t + o) ∧ secOk (t + o + extV g lr (t + o)))) : offE o lr g t = 60 ∧ offV o lr g t = 0 := by
  have h : offE o lr g t = 60 := by unfold offE; rw [if_pos h1, if_neg h2]
  exact ⟨h, off_v o lr g t 60 h (by decide)⟩
set_option maxRecDepth 100000 in
set_option maxHeartbeats 32000000 in
theorem zOffset_calls (o : Int) (A : Option Addr) (lr cr : Nat) (g : Nat → Nat → Int) (t : Int) (w : World) (hR : RdZ w A lr cr g) (hL : Lens w) :
    Calls Tryz.prog 55 #[zonC o A lr cr, .int .i64 t] w fun e w' => e = .returned (.tuple #[.int .i64 (offV o lr g t), .int .i64 (offE o lr g t)]) ∧ Below w.heap.size w w' := by
  obtain ⟨b0, hb0⟩ : ∃ b0, w.heap.size = b0 := ⟨_, rfl⟩
  obtain ⟨W1, hW1⟩ : ∃ W1, w.alloc (.cells #[.int .i64 o, .slice A lr cr] 24) = W1 := ⟨_, rfl⟩
  have hst1 : Below w.heap.size w W1 := hW1 ▸ bstep w _
  have hr1 : W1.heap[b0]? = some (.cells #[.int .i64 o, .slice A lr cr] 24 (0, 0)) := by rw [← hb0, ← hW1]; exact World.alloc_heap_new w _
  have e0 := cell_of_row W1 b0 0 _ _ _ hr1
  have e1 := cell_of_row W1 b0 1 _ _ _ hr1
  have HC := zCheck_calls o A lr cr g W1 (hR.go hst1)
  have HL := Lib.hid (hL.go hst1)
  have HR := Lib.hid (hR.go hst1)
  unfold zonC at HC ⊢
  by_cases hok : zonOk o lr g
  · rw [show zonE o lr g = 0 from if_pos hok] at HC
    replace HC := Lib.hid HC
    have ho := hok
    unfold zonOk at ho
    by_cases hx : t < -50400
    · obtain ⟨v1, v2⟩ := zoff_setup (t := t) hok (fun h => by have := h.1; unfold secOk at this; omega)
      rw [v1, v2]
      have k1 : decide (t < -50400) = true := decide_eq_true hx
      clear v1 v2 hok ho hx hR hL hr1 HL HR
      go_enter Tryz.func55, Tryz.ntmps55
      go_wp2_with fail
      refine HC.out.mono ?_
      rintro e w3 ⟨rfl, hb3⟩
      have hbb := bnext hst1 hb3
      go_wp2_with fail
      go_ret2
      exact ⟨rfl, hbb⟩
    have k1 : decide (t < -50400) = false := decide_eq_false hx
    by_cases hy : t > 253402351200
    · obtain ⟨v1, v2⟩ := zoff_setup (t := t) hok (fun h => by have := h.1; unfold secOk at this; omega)
      rw [v1, v2]
      have k2 : decide (t > 253402351200) = true := decide_eq_true hy
      clear v1 v2 hok ho hx hy hR hL hr1 HL HR
      go_enter Tryz.func55, Tryz.ntmps55
      go_wp2_with fail
      refine HC.out.mono ?_
      rintro e w3 ⟨rfl, hb3⟩
      have hbb := bnext hst1 hb3
      go_wp2_with fail
      go_ret2
      exact ⟨rfl, hbb⟩
    have k2 : decide (t > 253402351200) = false := decide_eq_false hy
    have B1 := Lib.hid (show -9223372036854775808 ≤ t + o ∧ t + o ≤ 9223372036854775807 by omega)
    by_cases hs : secOk (t + o)
    · have HX := fun W hR hL => extra_calls o A lr cr g (t + o) hok hs W hR hL
      have HA := fun W hL => at_ok (t + o) hs W hL
      have her := extV_range hok (t + o)
      have hsr := hs
      unfold secOk at hsr
      have B2 := Lib.hid (show -9223372036854775808 ≤ t + o + extV g lr (t + o) ∧ t + o + extV g lr (t + o) ≤ 9223372036854775807 by omega)
      have B3 := Lib.hid (show -9223372036854775808 ≤ o + extV g lr (t + o) ∧ o + extV g lr (t + o) ≤ 9223372036854775807 by omega)
      have hE : offE o lr g t = if secOk (t + o + extV g lr (t + o)) then 0 else 60 := by
        unfold offE; rw [if_pos hok]
        by_cases hz : secOk (t + o + extV g lr (t + o))
        · rw [if_pos ⟨hs, hz⟩, if_pos hz]
        · rw [if_neg (fun h => hz h.2), if_neg hz]
      have hV : secOk (t + o + extV g lr (t + o)) → offV o lr g t = o + extV g lr (t + o) := fun h => if_pos (by rw [hE, if_pos h])
      have hV0 : ¬ secOk (t + o + extV g lr (t + o)) → offV o lr g t = 0 := fun h => if_neg (by rw [hE, if_neg h]; decide)
      have hB := fun h => at_bad (t + o + extV g lr (t + o)) h
      have hG := fun h W hL => at_ok (t + o + extV g lr (t + o)) h W hL
      obtain ⟨x, hxv⟩ : ∃ x, extV g lr (t + o) = x := ⟨_, rfl⟩
      rw [hxv] at HX B2 B3 hE hV hV0 hB hG
      unfold momV at HA hG
      unfold mom0 at hB
      obtain ⟨y1, hy1⟩ : ∃ y, (zD ((t + o) / 86400)).1 = y := ⟨_, rfl⟩
      obtain ⟨y2, hy2⟩ : ∃ y, (zD ((t + o) / 86400)).2.1 = y := ⟨_, rfl⟩
      obtain ⟨y3, hy3⟩ : ∃ y, (zD ((t + o) / 86400)).2.2 = y := ⟨_, rfl⟩
      obtain ⟨y4, hy4⟩ : ∃ y, (t + o) % 86400 / 3600 = y := ⟨_, rfl⟩
      obtain ⟨y5, hy5⟩ : ∃ y, (t + o) % 86400 / 60 % 60 = y := ⟨_, rfl⟩
      obtain ⟨y6, hy6⟩ : ∃ y, (t + o) % 86400 % 60 = y := ⟨_, rfl⟩
      rw [hy1, hy2, hy3, hy4, hy5, hy6] at HA
      obtain ⟨s, hsv⟩ : ∃ s, t + o = s := ⟨_, rfl⟩
      rw [hsv] at HX HA B1 B2 hE hV hV0 hB hG
      obtain ⟨u, huv⟩ : ∃ u, s + x = u := ⟨_, rfl⟩
      rw [huv] at B2 hE hV hV0 hB hG
      obtain ⟨z1, hz1⟩ : ∃ y, (zD (u / 86400)).1 = y := ⟨_, rfl⟩
      obtain ⟨z2, hz2⟩ : ∃ y, (zD (u / 86400)).2.1 = y := ⟨_, rfl⟩
      obtain ⟨z3, hz3⟩ : ∃ y, (zD (u / 86400)).2.2 = y := ⟨_, rfl⟩
      obtain ⟨z4, hz4⟩ : ∃ y, u % 86400 / 3600 = y := ⟨_, rfl⟩
      obtain ⟨z5, hz5⟩ : ∃ y, u % 86400 / 60 % 60 = y := ⟨_, rfl⟩
      obtain ⟨z6, hz6⟩ : ∃ y, u % 86400 % 60 = y := ⟨_, rfl⟩
      rw [hz1, hz2, hz3, hz4, hz5, hz6] at hG
      unfold zonC at HX
      replace HX := Lib.hid HX
      replace HA := Lib.hid HA
      have XX : Hid (wrap64 (t + o) = s ∧ wrap64 (s + x) = u ∧ wrap64 (o + x) = o + x) := ⟨by rw [hsv]; exact wrap64_in s B1.out, by rw [huv]; exact wrap64_in u B2.out, wrap64_in _ B3.out⟩
      have w1 : IntKind.i64.wrap (t + o) = s := by rw [hsv]; exact i64_same s B1.out
      have w2 : IntKind.i64.wrap (s + x) = u := by rw [huv]; exact i64_same u B2.out
      have w3 := i64_same (o + x) B3.out
      clear B1 B2 B3
      by_cases hu : secOk u
      · rw [hE, if_pos hu, hV hu]
        have HG := Lib.hid (hG hu)
        clear hok ho hx hy hs her hsr hE hV hV0 hB hG hxv hy1 hy2 hy3 hy4 hy5 hy6 hsv huv hz1 hz2 hz3 hz4 hz5 hz6 hu hR hL
        go_enter Tryz.func55, Tryz.ntmps55
        go_wp2_with fail
        refine HC.out.mono ?_
        rintro e wa ⟨rfl, hb3⟩
        have hL3 := HL.out.go hb3
        have hr3 := blk_below hr1 hb3
        have e0 := cell_of_row wa b0 0 _ _ _ hr3
        have hbb := bnext hst1 hb3
        have hq1 := XX.out.1
        clear hst1 hr1 e1 hW1
        go_wp2_with fail
        refine (HA.out wa hL3).mono ?_
        rintro e wb ⟨rfl, hb4⟩
        obtain ⟨wc, hwc⟩ : ∃ wc, wb.alloc (.cells #[.int .i64 y1, .int .i64 y2, .int .i64 y3, .int .i64 y4, .int .i64 y5, .int .i64 y6] 134) = wc := ⟨_, rfl⟩
        have hst5 : Below wb.heap.size wb wc := hwc ▸ bstep wb _
        have hb5 := bnext hb4 hst5
        have hL5 := hL3.go hb5
        have hr5 := blk_below hr3 hb5
        have e0 := cell_of_row wc b0 0 _ _ _ hr5
        have e1 := cell_of_row wc b0 1 _ _ _ hr5
        have hR5 := HR.out.go (bnext hb3 hb5)
        have hbc := bnext hbb hb5
        clear hq1 hL3 hr3 hb3 hb4 hst5 hb5 hbb
        go_wp2_with fail
        refine (HX.out wc hR5 hL5).mono ?_
        rintro e wd ⟨rfl, hb6⟩
        have hL6 := hL5.go hb6
        have hr6 := blk_below hr5 hb6
        have hbd := bnext hbc hb6
        have hq2 := XX.out.2.1
        clear hwc e0 e1 hR5 hL5 hr5 hb6 hbc
        go_wp2_with fail
        refine (HG.out wd hL6).mono ?_
        rintro e we ⟨rfl, hb7⟩
        obtain ⟨wf, hwf⟩ : ∃ wf, we.alloc (.cells #[.int .i64 z1, .int .i64 z2, .int .i64 z3, .int .i64 z4, .int .i64 z5, .int .i64 z6] 134) = wf := ⟨_, rfl⟩
        have hst8 : Below we.heap.size we wf := hwf ▸ bstep we _
        have hb8 := bnext hb7 hst8
        have hr8 := blk_below hr6 hb8
        have e0 := cell_of_row _ b0 0 _ _ _ hr8
        have hbe := bnext hbd hb8
        have hq3 := XX.out.2.2
        clear hq2 hb7 hst8 hb8 hr8 hr6 hL6 hbd
        go_wp2_with fail
        clear hq3
        go_ret2
        exact ⟨rfl, hbe⟩
      · rw [hE, if_neg hu, hV0 hu]
        have HB := Lib.hid (hB hu)
        clear hok ho hx hy hs her hsr hE hV hV0 hB hG hxv hy1 hy2 hy3 hy4 hy5 hy6 hsv huv hz1 hz2 hz3 hz4 hz5 hz6 hu hR hL
        go_enter Tryz.func55, Tryz.ntmps55
        go_wp2_with fail
        refine HC.out.mono ?_
        rintro e wa ⟨rfl, hb3⟩
        have hL3 := HL.out.go hb3
        have hr3 := blk_below hr1 hb3
        have e0 := cell_of_row wa b0 0 _ _ _ hr3
        have hbb := bnext hst1 hb3
        have hq1 := XX.out.1
        clear hst1 hr1 e1 hW1
        go_wp2_with fail
        refine (HA.out wa hL3).mono ?_
        rintro e wb ⟨rfl, hb4⟩
        obtain ⟨wc, hwc⟩ : ∃ wc, wb.alloc (.cells #[.int .i64 y1, .int .i64 y2, .int .i64 y3, .int .i64 y4, .int .i64 y5, .int .i64 y6] 134) = wc := ⟨_, rfl⟩
        have hst5 : Below wb.heap.size wb wc := hwc ▸ bstep wb _
        have hb5 := bnext hb4 hst5
        have hL5 := hL3.go hb5
        have hr5 := blk_below hr3 hb5
        have e0 := cell_of_row wc b0 0 _ _ _ hr5
        have e1 := cell_of_row wc b0 1 _ _ _ hr5
        have hR5 := HR.out.go (bnext hb3 hb5)
        have hbc := bnext hbb hb5
        clear hq1 hL3 hr3 hb3 hb4 hst5 hb5 hbb
        go_wp2_with fail
        refine (HX.out wc hR5 hL5).mono ?_
        rintro e wd ⟨rfl, hb6⟩
        have hL6 := hL5.go hb6
        have hr6 := blk_below hr5 hb6
        have hbd := bnext hbc hb6
        have hq2 := XX.out.2.1
        clear hwc e0 e1 hR5 hL5 hr5 hb6 hbc
        go_wp2_with fail
        refine (HB.out wd).mono ?_
        rintro e we ⟨rfl, hb7⟩
        have hst8 := bstep we (.cells #[.int .i64 0, .int .i64 0, .int .i64 0, .int .i64 0, .int .i64 0, .int .i64 0] 134)
        have hb8 := bnext hb7 hst8
        have hr8 := blk_below hr6 hb8
        have e0 := cell_of_row _ b0 0 _ _ _ hr8
        have hbe := bnext hbd hb8
        have hq3 := XX.out.2.2
        clear hq2 hb7 hst8 hb8 hr8 hr6 hL6 hbd
        go_wp2_with fail
        clear hq3
        go_ret2
        exact ⟨rfl, hbe⟩
    · obtain ⟨v1, v2⟩ := zoff_setup (t := t) hok (fun h => hs h.1)
      rw [v1, v2]
      have HB := at_bad (t + o) hs
      unfold mom0 at HB
      obtain ⟨s, hsv⟩ : ∃ s, t + o = s := ⟨_, rfl⟩
      rw [hsv] at HB B1
      have X1 : Hid (wrap64 (t + o) = s) := by show _ = _; rw [hsv]; exact wrap64_in s B1.out
      have w1 : IntKind.i64.wrap (t + o) = s := by rw [hsv]; exact i64_same s B1.out
      clear B1
      replace HB := Lib.hid HB
      clear v1 v2 hok ho hx hy hs hR hL HL HR hsv
      go_enter Tryz.func55, Tryz.ntmps55
      go_wp2_with fail
      refine HC.out.mono ?_
      rintro e wa ⟨rfl, hb3⟩
      have hr3 := blk_below hr1 hb3
      have e0 := cell_of_row wa b0 0 _ _ _ hr3
      have hbb := bnext hst1 hb3
      have hq1 := X1.out
      clear hst1 hr1 e1 hW1
      go_wp2_with fail
      refine (HB.out wa).mono ?_
      rintro e wb ⟨rfl, hb4⟩
      have hbc := bnext hbb (bnext hb4 (bstep wb (.cells #[.int .i64 0, .int .i64 0, .int .i64 0, .int .i64 0, .int .i64 0, .int .i64 0] 134)))
      clear hq1
      go_wp2_with fail
      go_ret2
      exact ⟨rfl, hbc⟩
  · rw [show zonE o lr g = 70 from if_neg hok] at HC
    replace HC := Lib.hid HC
    have v1 : offE o lr g t = 70 := if_neg hok
    have v2 : offV o lr g t = 0 := off_v o lr g t 70 v1 (by decide)
    rw [v1, v2]
    clear v1 v2 hok hR hL hr1 HL HR
    go_enter Tryz.func55, Tryz.ntmps55
    go_wp2_with fail
    refine HC.out.mono ?_
    rintro e w3 ⟨rfl, hb3⟩
    have hbb := bnext hst1 hb3
    go_wp2_with fail
    go_ret2
    exact ⟨rfl, hbb⟩
end Go.Proofs.YtgbkedjjgbhcmaaGreatDoor

/-
  An instant's local time and day, walked: zone.Local, Day. Conditions stand at each theorem.
-/
namespace Go.Proofs.YtgbkedjjgbhcmaaGreatDoor
open Go Go.RowKit Go.Kw Go.Kw.Cv Go.Shelf
set_option linter.unusedVariables false
set_option linter.unusedSimpArgs false

theorem results_cell_tmp2 {P : Program} {fn : Func} {p t2 t3 : Tmp} {ty : TypeId} (h : fn.results = #[.cell p ty, .tmp t2, .tmp t3]) (tmps : Array Value) (w : World) (g : Nat) (t : TypeId) (cs : Array Value) (fr : Nat × Nat) (d : TypeDesc)
    (hp : tmps.getD p undef = .pointer (some ⟨g, 0, none⟩)) (hg : w.heap[g]? = some (.cells cs t fr))
    (hu : P.underlying ty = some d) (hd : (match d with | .struct _ | .array _ _ => true | _ => false) = true) (hi : (P.info? ty).map (·.size) = some cs.size) :
    (results fn tmps).run P w = .ok (.tuple #[.agg cs, tmps.getD t2 undef, tmps.getD t3 undef]) w := by
  have hp' : tmps[p]?.getD undef = .pointer (some ⟨g, 0, none⟩) := by simpa using hp
  simp [results, h, hp', asAddr, run_loadVar_row w g t ty cs fr d hg hu hd hi]
theorem res_mom3 {fn : Func} {p t2 t3 : Tmp} (h : fn.results = #[.cell p 134, .tmp t2, .tmp t3]) {tmps : Array Value} {w : World} {g : Nat} {a0 a1 a2 a3 a4 a5 : Value} (hp : tmps.getD p undef = .pointer (some ⟨g, 0, none⟩)) (hg : w.heap[g]? = some (.cells #[a0, a1, a2, a3, a4, a5] 134 (0, 0))) :
    (results fn tmps).run Tryz.prog w = .ok (.tuple #[.agg #[a0, a1, a2, a3, a4, a5], tmps.getD t2 undef, tmps.getD t3 undef]) w :=
  results_cell_tmp2 h tmps w g _ _ _ _ hp hg Tryz.underlying134 rfl mom_size
noncomputable def locV (o : Int) (lr : Nat) (g : Nat → Nat → Int) (t : Int) : Value := if offE o lr g t = 0 then momV (t + offV o lr g t) else mom0
noncomputable def locS (o : Int) (lr : Nat) (g : Nat → Nat → Int) (t : Int) : Bool := if offE o lr g t = 0 then !(offV o lr g t == o) else false
noncomputable def dayQ (o : Int) (lr : Nat) (g : Nat → Nat → Int) (t : Int) : Int := if offE o lr g t = 0 then (t + offV o lr g t) / 86400 else 0
noncomputable def minQ (o : Int) (lr : Nat) (g : Nat → Nat → Int) (t : Int) : Int := if offE o lr g t = 0 then (t + offV o lr g t) % 86400 / 60 else 0
theorem off_sec {o : Int} {lr : Nat} {g : Nat → Nat → Int} {t : Int} (h : offE o lr g t = 0) : secOk (t + offV o lr g t) := by
  obtain ⟨h1, h2, h3, h4⟩ := off_ok h
  rw [h4, show t + (o + extV g lr (t + o)) = t + o + extV g lr (t + o) by omega]
  exact h3
theorem offE_cases (o : Int) (lr : Nat) (g : Nat → Nat → Int) (t : Int) : offE o lr g t = 0 ∨ (offE o lr g t ≠ 0 ∧ offV o lr g t = 0 ∧ (offE o lr g t = 60 ∨ offE o lr g t = 70)) := by
  by_cases h : offE o lr g t = 0
  · exact .inl h
  · refine .inr ⟨h, if_neg h, ?_⟩
    unfold offE at h ⊢
    split at h <;> rename_i h1
    · rw [if_pos h1]
      split at h <;> rename_i h2
      · exact absurd rfl h
      · rw [if_neg h2]; exact .inl rfl
    · rw [if_neg h1]; exact .inr rfl
set_option maxRecDepth 100000 in
set_option maxHeartbeats 16000000 in
theorem zDay_calls (o : Int) (A : Option Addr) (lr cr : Nat) (g : Nat → Nat → Int) (t : Int) (w : World) (hR : RdZ w A lr cr g) (hL : Lens w) :
    Calls Tryz.prog 26 #[zonC o A lr cr, .int .i64 t] w fun e w' => e = .returned (.tuple #[.int .i64 (dayQ o lr g t), .int .i64 (minQ o lr g t), .int .i64 (offE o lr g t)]) ∧ Below w.heap.size w w' := by
  obtain ⟨b0, hb0⟩ : ∃ b0, w.heap.size = b0 := ⟨_, rfl⟩
  obtain ⟨W1, hW1⟩ : ∃ W1, w.alloc (.cells #[.int .i64 o, .slice A lr cr] 24) = W1 := ⟨_, rfl⟩
  have hst1 : Below w.heap.size w W1 := hW1 ▸ bstep w _
  have hr1 : W1.heap[b0]? = some (.cells #[.int .i64 o, .slice A lr cr] 24 (0, 0)) := by rw [← hb0, ← hW1]; exact World.alloc_heap_new w _
  have e0 := cell_of_row W1 b0 0 _ _ _ hr1
  have e1 := cell_of_row W1 b0 1 _ _ _ hr1
  have HO := zOffset_calls o A lr cr g t W1 (hR.go hst1) (hL.go hst1)
  unfold zonC at HO ⊢
  rcases offE_cases o lr g t with he | ⟨he, hv, hee⟩
  · have hs := off_sec he
    rw [show dayQ o lr g t = (t + offV o lr g t) / 86400 from if_pos he, show minQ o lr g t = (t + offV o lr g t) % 86400 / 60 from if_pos he]
    rw [he] at HO ⊢
    obtain ⟨n, hn⟩ : ∃ n, offV o lr g t = n := ⟨_, rfl⟩
    rw [hn] at HO hs ⊢
    obtain ⟨u, hu⟩ : ∃ u, t + n = u := ⟨_, rfl⟩
    rw [hu] at hs ⊢
    unfold secOk at hs
    have w1 : IntKind.i64.wrap (t + n) = u := by rw [hu]; exact i64_same u (by omega)
    have X1 : Hid (wrap64 (t + n) = u) := by show _ = _; rw [hu]; exact wrap64_in u (by omega)
    have t1 : u.tdiv 86400 = u / 86400 := Int.tdiv_eq_ediv_of_nonneg (by omega)
    have t2 : u.tmod 86400 = u % 86400 := Int.tmod_eq_emod_of_nonneg (by omega)
    have t3 : (u % 86400).tdiv 60 = u % 86400 / 60 := Int.tdiv_eq_ediv_of_nonneg (by omega)
    have a1 := i64_same (u / 86400) (by omega)
    have a2 := i64_same (u % 86400) (by omega)
    have a3 := i64_same (u % 86400 / 60) (by omega)
    replace HO := Lib.hid HO
    clear he hn hs hu hR hL hr1
    have x1 := X1.out
    go_enter Tryz.func26, Tryz.ntmps26
    go_wp2_with fail
    refine HO.out.mono ?_
    rintro e w3 ⟨rfl, hb3⟩
    have hB3 := bnext hst1 hb3
    go_wp2_with fail
    clear x1
    go_ret3
    exact ⟨rfl, hB3⟩
  · rw [show dayQ o lr g t = 0 from if_neg he, show minQ o lr g t = 0 from if_neg he]
    rw [hv] at HO
    obtain ⟨E, hE⟩ : ∃ E, offE o lr g t = E := ⟨_, rfl⟩
    rw [hE] at HO he ⊢
    replace HO := Lib.hid HO
    have kE : (E == 0) = false := beq_eq_false_iff_ne.2 he
    clear he hv hee hE hR hL hr1
    go_enter Tryz.func26, Tryz.ntmps26
    go_wp2_with fail
    refine HO.out.mono ?_
    rintro e w3 ⟨rfl, hb3⟩
    have hB3 := bnext hst1 hb3
    go_wp2_with fail
    go_ret3
    exact ⟨rfl, hB3⟩
end Go.Proofs.YtgbkedjjgbhcmaaGreatDoor
