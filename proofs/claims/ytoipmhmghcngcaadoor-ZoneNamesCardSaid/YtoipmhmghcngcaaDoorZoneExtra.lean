/-
  A year's edges as instants, and what summer adds at a standard time, walked: zone.Edges, extra. Conditions stand at each theorem.
-/
import Derived.Test.YtoipmhmghcngcaaDoorZoneEdge
namespace Go.Proofs.YtoipmhmghcngcaaDoor
open Go Go.RowKit Go.Kw Go.Kw.Cv Go.Shelf
set_option linter.unusedVariables false
set_option linter.unusedSimpArgs false

theorem of_year {o : Int} {lr : Nat} {g : Nat → Nat → Int} {y : Int} (h : OfIs o lr g y) : rulOk g (rulF g y lr) ∧ 1970 ≤ y ∧ y ≤ 9999 := by
  have h1 := h.1.2.2.2 _ h.2
  have h2 := (rulF_spec g y lr).1 h.2
  unfold inR at h2
  rw [Bool.and_eq_true, decide_eq_true_eq, decide_eq_true_eq] at h2
  refine ⟨h1, ?_⟩
  unfold rulOk at h1
  omega
noncomputable def edA (o : Int) (lr : Nat) (g : Nat → Nat → Int) (y : Int) : Int := if OfIs o lr g y then onT g (rulF g y lr) y - o else 0
noncomputable def edB (o : Int) (lr : Nat) (g : Nat → Nat → Int) (y : Int) : Int := if OfIs o lr g y then offT g (rulF g y lr) y - o else 0
theorem sumB_iff (a b s : Int) : sumB a b s = true ↔ (a < b ∧ a ≤ s ∧ s < b) ∨ (b < a ∧ (s < b ∨ a ≤ s)) := by
  unfold sumB
  simp only [Bool.or_eq_true, Bool.and_eq_true, decide_eq_true_eq]
set_option maxRecDepth 100000 in
set_option maxHeartbeats 16000000 in
theorem zEdges_calls (o : Int) (A : Option Addr) (lr cr : Nat) (g : Nat → Nat → Int) (y : Int) (w : World) (hR : RdZ w A lr cr g) (hL : Lens w) :
    Calls Tryd.prog 12 #[zonC o A lr cr, .int .i64 y] w fun e w' => e = .returned (.tuple #[.int .i64 (edA o lr g y), .int .i64 (edB o lr g y), .bool (ofB o lr g y)]) ∧ Below w.heap.size w w' := by
  obtain ⟨b0, hb0⟩ : ∃ b0, w.heap.size = b0 := ⟨_, rfl⟩
  obtain ⟨W1, hW1⟩ : ∃ W1, w.alloc (.cells #[.int .i64 o, .slice A lr cr] 24) = W1 := ⟨_, rfl⟩
  have hst1 : Below w.heap.size w W1 := hW1 ▸ bstep w _
  have hr1 : W1.heap[b0]? = some (.cells #[.int .i64 o, .slice A lr cr] 24 (0, 0)) := by rw [← hb0, ← hW1]; exact World.alloc_heap_new w _
  have e0 := cell_of_row W1 b0 0 _ _ _ hr1
  have e1 := cell_of_row W1 b0 1 _ _ _ hr1
  have HO := zOf_calls o A lr cr g y W1 (hR.go hst1)
  have HL := Lib.hid (hL.go hst1)
  unfold zonC at HO ⊢
  by_cases hi : OfIs o lr g y
  · obtain ⟨q1, q2⟩ := of_yes hi
    obtain ⟨hk, hy⟩ := of_year hi
    rw [q1, q2] at HO
    rw [q2]
    have v1 : edA o lr g y = onT g (rulF g y lr) y - o := if_pos hi
    have v2 : edB o lr g y = offT g (rulF g y lr) y - o := if_pos hi
    rw [v1, v2]
    unfold onT offT
    obtain ⟨F, hF⟩ : ∃ F, rulF g y lr = F := ⟨_, rfl⟩
    rw [hF] at HO hk ⊢
    have hk2 := hk
    unfold rulOk at hk2
    have hE := fun W hL => edges_calls (g F 0) (g F 1) (g F 2) (g F 3) (g F 4) (g F 5) (g F 6) (g F 7) (g F 8) (g F 9) (g F 10) y hk2.2.2.2.2.2.1 hk2.2.2.2.2.2.2 hy W hL
    have t1 := chgT_range hk2.2.2.2.2.2.1 hy
    have t2 := chgT_range hk2.2.2.2.2.2.2 hy
    obtain ⟨T1, hT1⟩ : ∃ T, chgT y (g F 2) (g F 3) (g F 4) (g F 5) = T := ⟨_, rfl⟩
    obtain ⟨T2, hT2⟩ : ∃ T, chgT y (g F 6) (g F 7) (g F 8) (g F 9) = T := ⟨_, rfl⟩
    rw [hT1] at hE t1 ⊢
    rw [hT2] at hE t2 ⊢
    replace hE := Lib.hid hE
    have ho := hi.1
    unfold zonOk at ho
    have w1 := i64_same (T1 - o) (by omega)
    have w2 := i64_same (T2 - o) (by omega)
    have x1 := wrap64_in (T1 - o) (by omega)
    have x2 := wrap64_in (T2 - o) (by omega)
    have X := Lib.hid (And.intro x1 x2)
    unfold rulV at HO
    replace HO := Lib.hid HO
    clear hi q1 q2 hk hy v1 v2 hF hk2 t1 t2 hT1 hT2 ho x1 x2 hR hL
    go_enter Tryd.func12, Tryd.ntmps12
    go_wp2_with fail
    refine HO.out.mono ?_
    rintro e w3 ⟨rfl, hb3⟩
    obtain ⟨b1, hb1⟩ : ∃ b1, w3.heap.size = b1 := ⟨_, rfl⟩
    obtain ⟨W4, hW4⟩ : ∃ W4, w3.alloc (.cells #[.int .i64 (g F 0), .int .i64 (g F 1), .int .i64 (g F 2), .int .i64 (g F 3), .int .i64 (g F 4), .int .i64 (g F 5), .int .i64 (g F 6), .int .i64 (g F 7), .int .i64 (g F 8), .int .i64 (g F 9), .int .i64 (g F 10)] 31) = W4 := ⟨_, rfl⟩
    have hst4 : Below w3.heap.size w3 W4 := hW4 ▸ bstep w3 _
    have hrd : W4.heap[b1]? = some (.cells #[.int .i64 (g F 0), .int .i64 (g F 1), .int .i64 (g F 2), .int .i64 (g F 3), .int .i64 (g F 4), .int .i64 (g F 5), .int .i64 (g F 6), .int .i64 (g F 7), .int .i64 (g F 8), .int .i64 (g F 9), .int .i64 (g F 10)] 31 (0, 0)) := by rw [← hb1, ← hW4]; exact World.alloc_heap_new w3 _
    have d0 := cell_of_row W4 b1 0 _ _ _ hrd
    have d1 := cell_of_row W4 b1 1 _ _ _ hrd
    have d2 := cell_of_row W4 b1 2 _ _ _ hrd
    have d3 := cell_of_row W4 b1 3 _ _ _ hrd
    have d4 := cell_of_row W4 b1 4 _ _ _ hrd
    have d5 := cell_of_row W4 b1 5 _ _ _ hrd
    have d6 := cell_of_row W4 b1 6 _ _ _ hrd
    have d7 := cell_of_row W4 b1 7 _ _ _ hrd
    have d8 := cell_of_row W4 b1 8 _ _ _ hrd
    have d9 := cell_of_row W4 b1 9 _ _ _ hrd
    have d10 := cell_of_row W4 b1 10 _ _ _ hrd
    have hb4 := bnext hb3 hst4
    have hr4 := blk_below hr1 hb4
    have hbb := bnext hst1 hb4
    have hL4 := HL.out.go hb4
    clear e0 e1 hst4 hrd hb3 hb4 hst1 hr1 hW1
    go_wp2_with fail
    refine (hE.out W4 hL4).mono ?_
    rintro e w5 ⟨rfl, hb5⟩
    have hr5 := blk_below hr4 hb5
    have e0 := cell_of_row w5 b0 0 _ _ _ hr5
    have hb6 := bnext hbb hb5
    clear hb5 hr4 hr5 hbb hW4
    clear d0
    clear d1
    clear d2
    clear d3
    clear d4
    clear d5
    clear d6
    clear d7
    clear d8
    clear d9
    clear d10
    go_wp2_with fail
    have x1 := X.out.1
    have x2 := X.out.2
    go_quiet (fail)
    clear x1 x2
    go_wp2_with fail
    go_ret3
    exact ⟨rfl, hb6.drewN _⟩
  · obtain ⟨q1, q2⟩ := of_not hi
    rw [q1, q2] at HO
    rw [q2]
    have v1 : edA o lr g y = 0 := if_neg hi
    have v2 : edB o lr g y = 0 := if_neg hi
    rw [v1, v2]
    unfold rulV at HO
    replace HO := Lib.hid HO
    clear hi q1 q2 v1 v2 hR hL hr1
    go_enter Tryd.func12, Tryd.ntmps12
    go_wp2_with fail
    refine HO.out.mono ?_
    rintro e w3 ⟨rfl, hb3⟩
    have hbb := bnext hst1 hb3
    go_wp2_with fail
    go_ret3
    exact ⟨rfl, bnext hbb (bstep w3 _)⟩
set_option maxRecDepth 100000 in
set_option maxHeartbeats 16000000 in
theorem extra_no (o : Int) (A : Option Addr) (lr cr : Nat) (g : Nat → Nat → Int) (s : Int) (hs : secOk s) (hi : ¬ OfIs o lr g (zD (s / 86400)).1) (w : World) (hR : RdZ w A lr cr g) (hL : Lens w) :
    Calls Tryd.prog 36 #[zonC o A lr cr, .int .i64 s] w fun e w' => e = .returned (.int .i64 0) ∧ Below w.heap.size w w' := by
  obtain ⟨b0, hb0⟩ : ∃ b0, w.heap.size = b0 := ⟨_, rfl⟩
  obtain ⟨W1, hW1⟩ : ∃ W1, w.alloc (.cells #[.int .i64 o, .slice A lr cr] 24) = W1 := ⟨_, rfl⟩
  have hst1 : Below w.heap.size w W1 := hW1 ▸ bstep w _
  have hr1 : W1.heap[b0]? = some (.cells #[.int .i64 o, .slice A lr cr] 24 (0, 0)) := by rw [← hb0, ← hW1]; exact World.alloc_heap_new w _
  have HA := at_ok s hs W1 (hL.go hst1)
  unfold momV at HA
  have hO := fun W hR => zOf_calls o A lr cr g (zD (s / 86400)).1 W hR
  obtain ⟨q1, q2⟩ := of_not hi
  rw [q1, q2] at hO
  obtain ⟨y, hy⟩ : ∃ y, (zD (s / 86400)).1 = y := ⟨_, rfl⟩
  obtain ⟨mm, hmm⟩ : ∃ y, (zD (s / 86400)).2.1 = y := ⟨_, rfl⟩
  obtain ⟨dd, hdd⟩ : ∃ y, (zD (s / 86400)).2.2 = y := ⟨_, rfl⟩
  obtain ⟨k1, hk1⟩ : ∃ y, s % 86400 / 3600 = y := ⟨_, rfl⟩
  obtain ⟨k2, hk2⟩ : ∃ y, s % 86400 / 60 % 60 = y := ⟨_, rfl⟩
  obtain ⟨k3, hk3⟩ : ∃ y, s % 86400 % 60 = y := ⟨_, rfl⟩
  rw [hy, hmm, hdd, hk1, hk2, hk3] at HA
  rw [hy] at hO
  unfold zonC at hO ⊢
  unfold rulV at hO
  have HO := Lib.hid hO
  replace HA := Lib.hid HA
  have HR := Lib.hid hR
  clear hO hi q1 q2 hs hR hL hy hmm hdd hk1 hk2 hk3
  go_enter Tryd.func36, Tryd.ntmps36
  go_wp2_with fail
  refine HA.out.mono ?_
  rintro e w3 ⟨rfl, hb3⟩
  obtain ⟨b1, hb1⟩ : ∃ b1, w3.heap.size = b1 := ⟨_, rfl⟩
  obtain ⟨W4, hW4⟩ : ∃ W4, w3.alloc (.cells #[.int .i64 y, .int .i64 mm, .int .i64 dd, .int .i64 k1, .int .i64 k2, .int .i64 k3] 44) = W4 := ⟨_, rfl⟩
  have hst4 : Below w3.heap.size w3 W4 := hW4 ▸ bstep w3 _
  have hrd : W4.heap[b1]? = some (.cells #[.int .i64 y, .int .i64 mm, .int .i64 dd, .int .i64 k1, .int .i64 k2, .int .i64 k3] 44 (0, 0)) := by rw [← hb1, ← hW4]; exact World.alloc_heap_new w3 _
  have m0 := cell_of_row W4 b1 0 _ _ _ hrd
  have hb4 := bnext hb3 hst4
  have hr4 := blk_below hr1 hb4
  have e0 := cell_of_row W4 b0 0 _ _ _ hr4
  have e1 := cell_of_row W4 b0 1 _ _ _ hr4
  have hbb := bnext hst1 hb4
  have hR4 := HR.out.go hbb
  clear hst4 hrd hb3 hb4 hst1 hr1 hW1
  go_wp2_with fail
  refine (HO.out W4 hR4).mono ?_
  rintro e w5 ⟨rfl, hb5⟩
  have hb6 := bnext hbb hb5
  go_wp2_with fail
  go_ret
  exact ⟨rfl, bnext hb6 (bstep w5 _)⟩
set_option maxRecDepth 100000 in
set_option maxHeartbeats 32000000 in
theorem extra_yes (o : Int) (A : Option Addr) (lr cr : Nat) (g : Nat → Nat → Int) (s : Int) (hs : secOk s) (hi : OfIs o lr g (zD (s / 86400)).1) (w : World) (hR : RdZ w A lr cr g) (hL : Lens w) :
    Calls Tryd.prog 36 #[zonC o A lr cr, .int .i64 s] w fun e w' => e = .returned (.int .i64 (extV g lr s)) ∧ Below w.heap.size w w' := by
  obtain ⟨b0, hb0⟩ : ∃ b0, w.heap.size = b0 := ⟨_, rfl⟩
  obtain ⟨W1, hW1⟩ : ∃ W1, w.alloc (.cells #[.int .i64 o, .slice A lr cr] 24) = W1 := ⟨_, rfl⟩
  have hst1 : Below w.heap.size w W1 := hW1 ▸ bstep w _
  have hr1 : W1.heap[b0]? = some (.cells #[.int .i64 o, .slice A lr cr] 24 (0, 0)) := by rw [← hb0, ← hW1]; exact World.alloc_heap_new w _
  have HA := at_ok s hs W1 (hL.go hst1)
  have HL := Lib.hid (hL.go hst1)
  unfold momV at HA
  have hO := fun W hR => zOf_calls o A lr cr g (zD (s / 86400)).1 W hR
  obtain ⟨q1, q2⟩ := of_yes hi
  obtain ⟨hk, hy⟩ := of_year hi
  rw [q1, q2] at hO
  have hv : extV g lr s = if sumB (onT g (rulF g (zD (s / 86400)).1 lr) (zD (s / 86400)).1) (offT g (rulF g (zD (s / 86400)).1 lr) (zD (s / 86400)).1) s = true then g (rulF g (zD (s / 86400)).1 lr) 10 else 0 := if_pos hi.2
  obtain ⟨y, hye⟩ : ∃ y, (zD (s / 86400)).1 = y := ⟨_, rfl⟩
  obtain ⟨mm, hmm⟩ : ∃ y, (zD (s / 86400)).2.1 = y := ⟨_, rfl⟩
  obtain ⟨dd, hdd⟩ : ∃ y, (zD (s / 86400)).2.2 = y := ⟨_, rfl⟩
  obtain ⟨k1, hk1⟩ : ∃ y, s % 86400 / 3600 = y := ⟨_, rfl⟩
  obtain ⟨k2, hk2⟩ : ∃ y, s % 86400 / 60 % 60 = y := ⟨_, rfl⟩
  obtain ⟨k3, hk3⟩ : ∃ y, s % 86400 % 60 = y := ⟨_, rfl⟩
  rw [hye, hmm, hdd, hk1, hk2, hk3] at HA
  rw [hye] at hO hk hy hv
  obtain ⟨F, hF⟩ : ∃ F, rulF g y lr = F := ⟨_, rfl⟩
  rw [hF] at hO hk hv
  have hk2' := hk
  unfold rulOk at hk2'
  have hE := fun W hL => edges_calls (g F 0) (g F 1) (g F 2) (g F 3) (g F 4) (g F 5) (g F 6) (g F 7) (g F 8) (g F 9) (g F 10) y hk2'.2.2.2.2.2.1 hk2'.2.2.2.2.2.2 hy W hL
  unfold onT offT at hv
  obtain ⟨T1, hT1⟩ : ∃ T, chgT y (g F 2) (g F 3) (g F 4) (g F 5) = T := ⟨_, rfl⟩
  obtain ⟨T2, hT2⟩ : ∃ T, chgT y (g F 6) (g F 7) (g F 8) (g F 9) = T := ⟨_, rfl⟩
  rw [hT1] at hE hv
  rw [hT2] at hE hv
  obtain ⟨X, hX⟩ : ∃ X, extV g lr s = X := ⟨_, rfl⟩
  rw [hX] at hv ⊢
  have HV := Lib.hid hv
  unfold zonC at hO ⊢
  unfold rulV at hO
  have HO := Lib.hid hO
  have HE := Lib.hid hE
  replace HA := Lib.hid HA
  have HR := Lib.hid hR
  clear hO hE hv hX hi q1 q2 hs hR hL hy hye hmm hdd hk1 hk2 hk3 hk hk2' hF hT1 hT2

  rcases (by omega : (T1 < T2 ∧ s < T1) ∨ (T1 < T2 ∧ ¬ s < T1 ∧ T2 ≤ s) ∨ (T1 < T2 ∧ ¬ s < T1 ∧ s < T2) ∨ (T2 < T1 ∧ T2 ≤ s ∧ s < T1) ∨ (T2 < T1 ∧ T2 ≤ s ∧ T1 ≤ s) ∨ (T2 < T1 ∧ s < T2) ∨ T1 = T2) with hp | hp | hp | hp | hp | hp | hp
  · skip
    have c1 : decide (T1 < T2) = true := decide_eq_true (by omega)
    have c2 : decide (s < T1) = true := decide_eq_true (by omega)
    have hX : X = 0 := by rw [HV.out, if_neg (fun h => by have := (sumB_iff T1 T2 s).1 h; omega)]
    rw [hX]
    clear hX HV
    clear hp
    go_enter Tryd.func36, Tryd.ntmps36
    go_wp2_with fail
    refine HA.out.mono ?_
    rintro e w3 ⟨rfl, hb3⟩
    obtain ⟨b1, hb1⟩ : ∃ b1, w3.heap.size = b1 := ⟨_, rfl⟩
    obtain ⟨W4, hW4⟩ : ∃ W4, w3.alloc (.cells #[.int .i64 y, .int .i64 mm, .int .i64 dd, .int .i64 k1, .int .i64 k2, .int .i64 k3] 44) = W4 := ⟨_, rfl⟩
    have hst4 : Below w3.heap.size w3 W4 := hW4 ▸ bstep w3 _
    have hrd : W4.heap[b1]? = some (.cells #[.int .i64 y, .int .i64 mm, .int .i64 dd, .int .i64 k1, .int .i64 k2, .int .i64 k3] 44 (0, 0)) := by rw [← hb1, ← hW4]; exact World.alloc_heap_new w3 _
    have m0 := cell_of_row W4 b1 0 _ _ _ hrd
    have hb4 := bnext hb3 hst4
    have hr4 := blk_below hr1 hb4
    have e0 := cell_of_row W4 b0 0 _ _ _ hr4
    have e1 := cell_of_row W4 b0 1 _ _ _ hr4
    have hbb := bnext hst1 hb4
    have hR4 := HR.out.go hbb
    have hL4 := HL.out.go hb4
    clear hst4 hb3 hb4 hst1 hr1 hW1
    go_wp2_with fail
    refine (HO.out W4 hR4).mono ?_
    rintro e w5 ⟨rfl, hb5⟩
    obtain ⟨b2, hb2⟩ : ∃ b2, w5.heap.size = b2 := ⟨_, rfl⟩
    obtain ⟨W6, hW6⟩ : ∃ W6, w5.alloc (.cells #[.int .i64 (g F 0), .int .i64 (g F 1), .int .i64 (g F 2), .int .i64 (g F 3), .int .i64 (g F 4), .int .i64 (g F 5), .int .i64 (g F 6), .int .i64 (g F 7), .int .i64 (g F 8), .int .i64 (g F 9), .int .i64 (g F 10)] 31) = W6 := ⟨_, rfl⟩
    have hst6 : Below w5.heap.size w5 W6 := hW6 ▸ bstep w5 _
    have hrr : W6.heap[b2]? = some (.cells #[.int .i64 (g F 0), .int .i64 (g F 1), .int .i64 (g F 2), .int .i64 (g F 3), .int .i64 (g F 4), .int .i64 (g F 5), .int .i64 (g F 6), .int .i64 (g F 7), .int .i64 (g F 8), .int .i64 (g F 9), .int .i64 (g F 10)] 31 (0, 0)) := by rw [← hb2, ← hW6]; exact World.alloc_heap_new w5 _
    have d0 := cell_of_row W6 b2 0 _ _ _ hrr
    have d1 := cell_of_row W6 b2 1 _ _ _ hrr
    have d2 := cell_of_row W6 b2 2 _ _ _ hrr
    have d3 := cell_of_row W6 b2 3 _ _ _ hrr
    have d4 := cell_of_row W6 b2 4 _ _ _ hrr
    have d5 := cell_of_row W6 b2 5 _ _ _ hrr
    have d6 := cell_of_row W6 b2 6 _ _ _ hrr
    have d7 := cell_of_row W6 b2 7 _ _ _ hrr
    have d8 := cell_of_row W6 b2 8 _ _ _ hrr
    have d9 := cell_of_row W6 b2 9 _ _ _ hrr
    have d10 := cell_of_row W6 b2 10 _ _ _ hrr
    have hb6 := bnext hb5 hst6
    have m0 := cell_of_row W6 b1 0 _ _ _ (blk_below hrd hb6)
    have hL6 := hL4.go hb6
    have hb7 := bnext hbb hb6
    clear hst6 hb5 hb6 hbb hL4 hW4 e0 e1 hrd
    go_wp2_with fail
    refine (HE.out W6 hL6).mono ?_
    rintro e w7 ⟨rfl, hb8⟩
    have p10 := cell_of_row w7 b2 10 _ _ _ (blk_below hrr hb8)
    have hb9 := bnext hb7 hb8
    clear hb8 hb7 hrr hW6 hL6 m0
    clear d0
    clear d1
    clear d2
    clear d3
    clear d4
    clear d5
    clear d6
    clear d7
    clear d8
    clear d9
    clear d10
    go_wp2_with fail
    go_ret
    exact ⟨rfl, hb9⟩
  · skip
    have c1 : decide (T1 < T2) = true := decide_eq_true (by omega)
    have c2 : decide (s < T1) = false := decide_eq_false (by omega)
    have c3 : decide (s ≥ T2) = true := decide_eq_true (by omega)
    have hX : X = 0 := by rw [HV.out, if_neg (fun h => by have := (sumB_iff T1 T2 s).1 h; omega)]
    rw [hX]
    clear hX HV
    clear hp
    go_enter Tryd.func36, Tryd.ntmps36
    go_wp2_with fail
    refine HA.out.mono ?_
    rintro e w3 ⟨rfl, hb3⟩
    obtain ⟨b1, hb1⟩ : ∃ b1, w3.heap.size = b1 := ⟨_, rfl⟩
    obtain ⟨W4, hW4⟩ : ∃ W4, w3.alloc (.cells #[.int .i64 y, .int .i64 mm, .int .i64 dd, .int .i64 k1, .int .i64 k2, .int .i64 k3] 44) = W4 := ⟨_, rfl⟩
    have hst4 : Below w3.heap.size w3 W4 := hW4 ▸ bstep w3 _
    have hrd : W4.heap[b1]? = some (.cells #[.int .i64 y, .int .i64 mm, .int .i64 dd, .int .i64 k1, .int .i64 k2, .int .i64 k3] 44 (0, 0)) := by rw [← hb1, ← hW4]; exact World.alloc_heap_new w3 _
    have m0 := cell_of_row W4 b1 0 _ _ _ hrd
    have hb4 := bnext hb3 hst4
    have hr4 := blk_below hr1 hb4
    have e0 := cell_of_row W4 b0 0 _ _ _ hr4
    have e1 := cell_of_row W4 b0 1 _ _ _ hr4
    have hbb := bnext hst1 hb4
    have hR4 := HR.out.go hbb
    have hL4 := HL.out.go hb4
    clear hst4 hb3 hb4 hst1 hr1 hW1
    go_wp2_with fail
    refine (HO.out W4 hR4).mono ?_
    rintro e w5 ⟨rfl, hb5⟩
    obtain ⟨b2, hb2⟩ : ∃ b2, w5.heap.size = b2 := ⟨_, rfl⟩
    obtain ⟨W6, hW6⟩ : ∃ W6, w5.alloc (.cells #[.int .i64 (g F 0), .int .i64 (g F 1), .int .i64 (g F 2), .int .i64 (g F 3), .int .i64 (g F 4), .int .i64 (g F 5), .int .i64 (g F 6), .int .i64 (g F 7), .int .i64 (g F 8), .int .i64 (g F 9), .int .i64 (g F 10)] 31) = W6 := ⟨_, rfl⟩
    have hst6 : Below w5.heap.size w5 W6 := hW6 ▸ bstep w5 _
    have hrr : W6.heap[b2]? = some (.cells #[.int .i64 (g F 0), .int .i64 (g F 1), .int .i64 (g F 2), .int .i64 (g F 3), .int .i64 (g F 4), .int .i64 (g F 5), .int .i64 (g F 6), .int .i64 (g F 7), .int .i64 (g F 8), .int .i64 (g F 9), .int .i64 (g F 10)] 31 (0, 0)) := by rw [← hb2, ← hW6]; exact World.alloc_heap_new w5 _
    have d0 := cell_of_row W6 b2 0 _ _ _ hrr
    have d1 := cell_of_row W6 b2 1 _ _ _ hrr
    have d2 := cell_of_row W6 b2 2 _ _ _ hrr
    have d3 := cell_of_row W6 b2 3 _ _ _ hrr
    have d4 := cell_of_row W6 b2 4 _ _ _ hrr
    have d5 := cell_of_row W6 b2 5 _ _ _ hrr
    have d6 := cell_of_row W6 b2 6 _ _ _ hrr
    have d7 := cell_of_row W6 b2 7 _ _ _ hrr
    have d8 := cell_of_row W6 b2 8 _ _ _ hrr
    have d9 := cell_of_row W6 b2 9 _ _ _ hrr
    have d10 := cell_of_row W6 b2 10 _ _ _ hrr
    have hb6 := bnext hb5 hst6
    have m0 := cell_of_row W6 b1 0 _ _ _ (blk_below hrd hb6)
    have hL6 := hL4.go hb6
    have hb7 := bnext hbb hb6
    clear hst6 hb5 hb6 hbb hL4 hW4 e0 e1 hrd
    go_wp2_with fail
    refine (HE.out W6 hL6).mono ?_
    rintro e w7 ⟨rfl, hb8⟩
    have p10 := cell_of_row w7 b2 10 _ _ _ (blk_below hrr hb8)
    have hb9 := bnext hb7 hb8
    clear hb8 hb7 hrr hW6 hL6 m0
    clear d0
    clear d1
    clear d2
    clear d3
    clear d4
    clear d5
    clear d6
    clear d7
    clear d8
    clear d9
    clear d10
    go_wp2_with fail
    go_ret
    exact ⟨rfl, hb9⟩
  · skip
    have c1 : decide (T1 < T2) = true := decide_eq_true (by omega)
    have c2 : decide (s < T1) = false := decide_eq_false (by omega)
    have c3 : decide (s ≥ T2) = false := decide_eq_false (by omega)
    have c4 : decide (T1 > T2) = false := decide_eq_false (by omega)
    have c9 : (T1 == T2) = false := beq_eq_false_iff_ne.2 (by omega)
    have hX : X = g F 10 := by rw [HV.out, if_pos ((sumB_iff T1 T2 s).2 (by omega))]
    rw [hX]
    clear hX HV
    clear hp
    go_enter Tryd.func36, Tryd.ntmps36
    go_wp2_with fail
    refine HA.out.mono ?_
    rintro e w3 ⟨rfl, hb3⟩
    obtain ⟨b1, hb1⟩ : ∃ b1, w3.heap.size = b1 := ⟨_, rfl⟩
    obtain ⟨W4, hW4⟩ : ∃ W4, w3.alloc (.cells #[.int .i64 y, .int .i64 mm, .int .i64 dd, .int .i64 k1, .int .i64 k2, .int .i64 k3] 44) = W4 := ⟨_, rfl⟩
    have hst4 : Below w3.heap.size w3 W4 := hW4 ▸ bstep w3 _
    have hrd : W4.heap[b1]? = some (.cells #[.int .i64 y, .int .i64 mm, .int .i64 dd, .int .i64 k1, .int .i64 k2, .int .i64 k3] 44 (0, 0)) := by rw [← hb1, ← hW4]; exact World.alloc_heap_new w3 _
    have m0 := cell_of_row W4 b1 0 _ _ _ hrd
    have hb4 := bnext hb3 hst4
    have hr4 := blk_below hr1 hb4
    have e0 := cell_of_row W4 b0 0 _ _ _ hr4
    have e1 := cell_of_row W4 b0 1 _ _ _ hr4
    have hbb := bnext hst1 hb4
    have hR4 := HR.out.go hbb
    have hL4 := HL.out.go hb4
    clear hst4 hb3 hb4 hst1 hr1 hW1
    go_wp2_with fail
    refine (HO.out W4 hR4).mono ?_
    rintro e w5 ⟨rfl, hb5⟩
    obtain ⟨b2, hb2⟩ : ∃ b2, w5.heap.size = b2 := ⟨_, rfl⟩
    obtain ⟨W6, hW6⟩ : ∃ W6, w5.alloc (.cells #[.int .i64 (g F 0), .int .i64 (g F 1), .int .i64 (g F 2), .int .i64 (g F 3), .int .i64 (g F 4), .int .i64 (g F 5), .int .i64 (g F 6), .int .i64 (g F 7), .int .i64 (g F 8), .int .i64 (g F 9), .int .i64 (g F 10)] 31) = W6 := ⟨_, rfl⟩
    have hst6 : Below w5.heap.size w5 W6 := hW6 ▸ bstep w5 _
    have hrr : W6.heap[b2]? = some (.cells #[.int .i64 (g F 0), .int .i64 (g F 1), .int .i64 (g F 2), .int .i64 (g F 3), .int .i64 (g F 4), .int .i64 (g F 5), .int .i64 (g F 6), .int .i64 (g F 7), .int .i64 (g F 8), .int .i64 (g F 9), .int .i64 (g F 10)] 31 (0, 0)) := by rw [← hb2, ← hW6]; exact World.alloc_heap_new w5 _
    have d0 := cell_of_row W6 b2 0 _ _ _ hrr
    have d1 := cell_of_row W6 b2 1 _ _ _ hrr
    have d2 := cell_of_row W6 b2 2 _ _ _ hrr
    have d3 := cell_of_row W6 b2 3 _ _ _ hrr
    have d4 := cell_of_row W6 b2 4 _ _ _ hrr
    have d5 := cell_of_row W6 b2 5 _ _ _ hrr
    have d6 := cell_of_row W6 b2 6 _ _ _ hrr
    have d7 := cell_of_row W6 b2 7 _ _ _ hrr
    have d8 := cell_of_row W6 b2 8 _ _ _ hrr
    have d9 := cell_of_row W6 b2 9 _ _ _ hrr
    have d10 := cell_of_row W6 b2 10 _ _ _ hrr
    have hb6 := bnext hb5 hst6
    have m0 := cell_of_row W6 b1 0 _ _ _ (blk_below hrd hb6)
    have hL6 := hL4.go hb6
    have hb7 := bnext hbb hb6
    clear hst6 hb5 hb6 hbb hL4 hW4 e0 e1 hrd
    go_wp2_with fail
    refine (HE.out W6 hL6).mono ?_
    rintro e w7 ⟨rfl, hb8⟩
    have p10 := cell_of_row w7 b2 10 _ _ _ (blk_below hrr hb8)
    have hb9 := bnext hb7 hb8
    clear hb8 hb7 hrr hW6 hL6 m0
    clear d0
    clear d1
    clear d2
    clear d3
    clear d4
    clear d5
    clear d6
    clear d7
    clear d8
    clear d9
    clear d10
    go_wp2_with fail
    go_ret
    exact ⟨rfl, hb9⟩
  · skip
    have c1 : decide (T1 < T2) = false := decide_eq_false (by omega)
    have c4 : decide (T1 > T2) = true := decide_eq_true (by omega)
    have c3 : decide (s ≥ T2) = true := decide_eq_true (by omega)
    have c2 : decide (s < T1) = true := decide_eq_true (by omega)
    have hX : X = 0 := by rw [HV.out, if_neg (fun h => by have := (sumB_iff T1 T2 s).1 h; omega)]
    rw [hX]
    clear hX HV
    clear hp
    go_enter Tryd.func36, Tryd.ntmps36
    go_wp2_with fail
    refine HA.out.mono ?_
    rintro e w3 ⟨rfl, hb3⟩
    obtain ⟨b1, hb1⟩ : ∃ b1, w3.heap.size = b1 := ⟨_, rfl⟩
    obtain ⟨W4, hW4⟩ : ∃ W4, w3.alloc (.cells #[.int .i64 y, .int .i64 mm, .int .i64 dd, .int .i64 k1, .int .i64 k2, .int .i64 k3] 44) = W4 := ⟨_, rfl⟩
    have hst4 : Below w3.heap.size w3 W4 := hW4 ▸ bstep w3 _
    have hrd : W4.heap[b1]? = some (.cells #[.int .i64 y, .int .i64 mm, .int .i64 dd, .int .i64 k1, .int .i64 k2, .int .i64 k3] 44 (0, 0)) := by rw [← hb1, ← hW4]; exact World.alloc_heap_new w3 _
    have m0 := cell_of_row W4 b1 0 _ _ _ hrd
    have hb4 := bnext hb3 hst4
    have hr4 := blk_below hr1 hb4
    have e0 := cell_of_row W4 b0 0 _ _ _ hr4
    have e1 := cell_of_row W4 b0 1 _ _ _ hr4
    have hbb := bnext hst1 hb4
    have hR4 := HR.out.go hbb
    have hL4 := HL.out.go hb4
    clear hst4 hb3 hb4 hst1 hr1 hW1
    go_wp2_with fail
    refine (HO.out W4 hR4).mono ?_
    rintro e w5 ⟨rfl, hb5⟩
    obtain ⟨b2, hb2⟩ : ∃ b2, w5.heap.size = b2 := ⟨_, rfl⟩
    obtain ⟨W6, hW6⟩ : ∃ W6, w5.alloc (.cells #[.int .i64 (g F 0), .int .i64 (g F 1), .int .i64 (g F 2), .int .i64 (g F 3), .int .i64 (g F 4), .int .i64 (g F 5), .int .i64 (g F 6), .int .i64 (g F 7), .int .i64 (g F 8), .int .i64 (g F 9), .int .i64 (g F 10)] 31) = W6 := ⟨_, rfl⟩
    have hst6 : Below w5.heap.size w5 W6 := hW6 ▸ bstep w5 _
    have hrr : W6.heap[b2]? = some (.cells #[.int .i64 (g F 0), .int .i64 (g F 1), .int .i64 (g F 2), .int .i64 (g F 3), .int .i64 (g F 4), .int .i64 (g F 5), .int .i64 (g F 6), .int .i64 (g F 7), .int .i64 (g F 8), .int .i64 (g F 9), .int .i64 (g F 10)] 31 (0, 0)) := by rw [← hb2, ← hW6]; exact World.alloc_heap_new w5 _
    have d0 := cell_of_row W6 b2 0 _ _ _ hrr
    have d1 := cell_of_row W6 b2 1 _ _ _ hrr
    have d2 := cell_of_row W6 b2 2 _ _ _ hrr
    have d3 := cell_of_row W6 b2 3 _ _ _ hrr
    have d4 := cell_of_row W6 b2 4 _ _ _ hrr
    have d5 := cell_of_row W6 b2 5 _ _ _ hrr
    have d6 := cell_of_row W6 b2 6 _ _ _ hrr
    have d7 := cell_of_row W6 b2 7 _ _ _ hrr
    have d8 := cell_of_row W6 b2 8 _ _ _ hrr
    have d9 := cell_of_row W6 b2 9 _ _ _ hrr
    have d10 := cell_of_row W6 b2 10 _ _ _ hrr
    have hb6 := bnext hb5 hst6
    have m0 := cell_of_row W6 b1 0 _ _ _ (blk_below hrd hb6)
    have hL6 := hL4.go hb6
    have hb7 := bnext hbb hb6
    clear hst6 hb5 hb6 hbb hL4 hW4 e0 e1 hrd
    go_wp2_with fail
    refine (HE.out W6 hL6).mono ?_
    rintro e w7 ⟨rfl, hb8⟩
    have p10 := cell_of_row w7 b2 10 _ _ _ (blk_below hrr hb8)
    have hb9 := bnext hb7 hb8
    clear hb8 hb7 hrr hW6 hL6 m0
    clear d0
    clear d1
    clear d2
    clear d3
    clear d4
    clear d5
    clear d6
    clear d7
    clear d8
    clear d9
    clear d10
    go_wp2_with fail
    go_ret
    exact ⟨rfl, hb9⟩
  · skip
    have c1 : decide (T1 < T2) = false := decide_eq_false (by omega)
    have c4 : decide (T1 > T2) = true := decide_eq_true (by omega)
    have c3 : decide (s ≥ T2) = true := decide_eq_true (by omega)
    have c2 : decide (s < T1) = false := decide_eq_false (by omega)
    have c9 : (T1 == T2) = false := beq_eq_false_iff_ne.2 (by omega)
    have hX : X = g F 10 := by rw [HV.out, if_pos ((sumB_iff T1 T2 s).2 (by omega))]
    rw [hX]
    clear hX HV
    clear hp
    go_enter Tryd.func36, Tryd.ntmps36
    go_wp2_with fail
    refine HA.out.mono ?_
    rintro e w3 ⟨rfl, hb3⟩
    obtain ⟨b1, hb1⟩ : ∃ b1, w3.heap.size = b1 := ⟨_, rfl⟩
    obtain ⟨W4, hW4⟩ : ∃ W4, w3.alloc (.cells #[.int .i64 y, .int .i64 mm, .int .i64 dd, .int .i64 k1, .int .i64 k2, .int .i64 k3] 44) = W4 := ⟨_, rfl⟩
    have hst4 : Below w3.heap.size w3 W4 := hW4 ▸ bstep w3 _
    have hrd : W4.heap[b1]? = some (.cells #[.int .i64 y, .int .i64 mm, .int .i64 dd, .int .i64 k1, .int .i64 k2, .int .i64 k3] 44 (0, 0)) := by rw [← hb1, ← hW4]; exact World.alloc_heap_new w3 _
    have m0 := cell_of_row W4 b1 0 _ _ _ hrd
    have hb4 := bnext hb3 hst4
    have hr4 := blk_below hr1 hb4
    have e0 := cell_of_row W4 b0 0 _ _ _ hr4
    have e1 := cell_of_row W4 b0 1 _ _ _ hr4
    have hbb := bnext hst1 hb4
    have hR4 := HR.out.go hbb
    have hL4 := HL.out.go hb4
    clear hst4 hb3 hb4 hst1 hr1 hW1
    go_wp2_with fail
    refine (HO.out W4 hR4).mono ?_
    rintro e w5 ⟨rfl, hb5⟩
    obtain ⟨b2, hb2⟩ : ∃ b2, w5.heap.size = b2 := ⟨_, rfl⟩
    obtain ⟨W6, hW6⟩ : ∃ W6, w5.alloc (.cells #[.int .i64 (g F 0), .int .i64 (g F 1), .int .i64 (g F 2), .int .i64 (g F 3), .int .i64 (g F 4), .int .i64 (g F 5), .int .i64 (g F 6), .int .i64 (g F 7), .int .i64 (g F 8), .int .i64 (g F 9), .int .i64 (g F 10)] 31) = W6 := ⟨_, rfl⟩
    have hst6 : Below w5.heap.size w5 W6 := hW6 ▸ bstep w5 _
    have hrr : W6.heap[b2]? = some (.cells #[.int .i64 (g F 0), .int .i64 (g F 1), .int .i64 (g F 2), .int .i64 (g F 3), .int .i64 (g F 4), .int .i64 (g F 5), .int .i64 (g F 6), .int .i64 (g F 7), .int .i64 (g F 8), .int .i64 (g F 9), .int .i64 (g F 10)] 31 (0, 0)) := by rw [← hb2, ← hW6]; exact World.alloc_heap_new w5 _
    have d0 := cell_of_row W6 b2 0 _ _ _ hrr
    have d1 := cell_of_row W6 b2 1 _ _ _ hrr
    have d2 := cell_of_row W6 b2 2 _ _ _ hrr
    have d3 := cell_of_row W6 b2 3 _ _ _ hrr
    have d4 := cell_of_row W6 b2 4 _ _ _ hrr
    have d5 := cell_of_row W6 b2 5 _ _ _ hrr
    have d6 := cell_of_row W6 b2 6 _ _ _ hrr
    have d7 := cell_of_row W6 b2 7 _ _ _ hrr
    have d8 := cell_of_row W6 b2 8 _ _ _ hrr
    have d9 := cell_of_row W6 b2 9 _ _ _ hrr
    have d10 := cell_of_row W6 b2 10 _ _ _ hrr
    have hb6 := bnext hb5 hst6
    have m0 := cell_of_row W6 b1 0 _ _ _ (blk_below hrd hb6)
    have hL6 := hL4.go hb6
    have hb7 := bnext hbb hb6
    clear hst6 hb5 hb6 hbb hL4 hW4 e0 e1 hrd
    go_wp2_with fail
    refine (HE.out W6 hL6).mono ?_
    rintro e w7 ⟨rfl, hb8⟩
    have p10 := cell_of_row w7 b2 10 _ _ _ (blk_below hrr hb8)
    have hb9 := bnext hb7 hb8
    clear hb8 hb7 hrr hW6 hL6 m0
    clear d0
    clear d1
    clear d2
    clear d3
    clear d4
    clear d5
    clear d6
    clear d7
    clear d8
    clear d9
    clear d10
    go_wp2_with fail
    go_ret
    exact ⟨rfl, hb9⟩
  · skip
    have c1 : decide (T1 < T2) = false := decide_eq_false (by omega)
    have c4 : decide (T1 > T2) = true := decide_eq_true (by omega)
    have c3 : decide (s ≥ T2) = false := decide_eq_false (by omega)
    have c9 : (T1 == T2) = false := beq_eq_false_iff_ne.2 (by omega)
    have hX : X = g F 10 := by rw [HV.out, if_pos ((sumB_iff T1 T2 s).2 (by omega))]
    rw [hX]
    clear hX HV
    clear hp
    go_enter Tryd.func36, Tryd.ntmps36
    go_wp2_with fail
    refine HA.out.mono ?_
    rintro e w3 ⟨rfl, hb3⟩
    obtain ⟨b1, hb1⟩ : ∃ b1, w3.heap.size = b1 := ⟨_, rfl⟩
    obtain ⟨W4, hW4⟩ : ∃ W4, w3.alloc (.cells #[.int .i64 y, .int .i64 mm, .int .i64 dd, .int .i64 k1, .int .i64 k2, .int .i64 k3] 44) = W4 := ⟨_, rfl⟩
    have hst4 : Below w3.heap.size w3 W4 := hW4 ▸ bstep w3 _
    have hrd : W4.heap[b1]? = some (.cells #[.int .i64 y, .int .i64 mm, .int .i64 dd, .int .i64 k1, .int .i64 k2, .int .i64 k3] 44 (0, 0)) := by rw [← hb1, ← hW4]; exact World.alloc_heap_new w3 _
    have m0 := cell_of_row W4 b1 0 _ _ _ hrd
    have hb4 := bnext hb3 hst4
    have hr4 := blk_below hr1 hb4
    have e0 := cell_of_row W4 b0 0 _ _ _ hr4
    have e1 := cell_of_row W4 b0 1 _ _ _ hr4
    have hbb := bnext hst1 hb4
    have hR4 := HR.out.go hbb
    have hL4 := HL.out.go hb4
    clear hst4 hb3 hb4 hst1 hr1 hW1
    go_wp2_with fail
    refine (HO.out W4 hR4).mono ?_
    rintro e w5 ⟨rfl, hb5⟩
    obtain ⟨b2, hb2⟩ : ∃ b2, w5.heap.size = b2 := ⟨_, rfl⟩
    obtain ⟨W6, hW6⟩ : ∃ W6, w5.alloc (.cells #[.int .i64 (g F 0), .int .i64 (g F 1), .int .i64 (g F 2), .int .i64 (g F 3), .int .i64 (g F 4), .int .i64 (g F 5), .int .i64 (g F 6), .int .i64 (g F 7), .int .i64 (g F 8), .int .i64 (g F 9), .int .i64 (g F 10)] 31) = W6 := ⟨_, rfl⟩
    have hst6 : Below w5.heap.size w5 W6 := hW6 ▸ bstep w5 _
    have hrr : W6.heap[b2]? = some (.cells #[.int .i64 (g F 0), .int .i64 (g F 1), .int .i64 (g F 2), .int .i64 (g F 3), .int .i64 (g F 4), .int .i64 (g F 5), .int .i64 (g F 6), .int .i64 (g F 7), .int .i64 (g F 8), .int .i64 (g F 9), .int .i64 (g F 10)] 31 (0, 0)) := by rw [← hb2, ← hW6]; exact World.alloc_heap_new w5 _
    have d0 := cell_of_row W6 b2 0 _ _ _ hrr
    have d1 := cell_of_row W6 b2 1 _ _ _ hrr
    have d2 := cell_of_row W6 b2 2 _ _ _ hrr
    have d3 := cell_of_row W6 b2 3 _ _ _ hrr
    have d4 := cell_of_row W6 b2 4 _ _ _ hrr
    have d5 := cell_of_row W6 b2 5 _ _ _ hrr
    have d6 := cell_of_row W6 b2 6 _ _ _ hrr
    have d7 := cell_of_row W6 b2 7 _ _ _ hrr
    have d8 := cell_of_row W6 b2 8 _ _ _ hrr
    have d9 := cell_of_row W6 b2 9 _ _ _ hrr
    have d10 := cell_of_row W6 b2 10 _ _ _ hrr
    have hb6 := bnext hb5 hst6
    have m0 := cell_of_row W6 b1 0 _ _ _ (blk_below hrd hb6)
    have hL6 := hL4.go hb6
    have hb7 := bnext hbb hb6
    clear hst6 hb5 hb6 hbb hL4 hW4 e0 e1 hrd
    go_wp2_with fail
    refine (HE.out W6 hL6).mono ?_
    rintro e w7 ⟨rfl, hb8⟩
    have p10 := cell_of_row w7 b2 10 _ _ _ (blk_below hrr hb8)
    have hb9 := bnext hb7 hb8
    clear hb8 hb7 hrr hW6 hL6 m0
    clear d0
    clear d1
    clear d2
    clear d3
    clear d4
    clear d5
    clear d6
    clear d7
    clear d8
    clear d9
    clear d10
    go_wp2_with fail
    go_ret
    exact ⟨rfl, hb9⟩
  · skip
    have c1 : decide (T1 < T2) = false := decide_eq_false (by omega)
    have c4 : decide (T1 > T2) = false := decide_eq_false (by omega)
    have c9 : (T1 == T2) = true := beq_iff_eq.2 (by omega)
    have hX : X = 0 := by rw [HV.out, if_neg (fun h => by have := (sumB_iff T1 T2 s).1 h; omega)]
    rw [hX]
    clear hX HV
    clear hp
    go_enter Tryd.func36, Tryd.ntmps36
    go_wp2_with fail
    refine HA.out.mono ?_
    rintro e w3 ⟨rfl, hb3⟩
    obtain ⟨b1, hb1⟩ : ∃ b1, w3.heap.size = b1 := ⟨_, rfl⟩
    obtain ⟨W4, hW4⟩ : ∃ W4, w3.alloc (.cells #[.int .i64 y, .int .i64 mm, .int .i64 dd, .int .i64 k1, .int .i64 k2, .int .i64 k3] 44) = W4 := ⟨_, rfl⟩
    have hst4 : Below w3.heap.size w3 W4 := hW4 ▸ bstep w3 _
    have hrd : W4.heap[b1]? = some (.cells #[.int .i64 y, .int .i64 mm, .int .i64 dd, .int .i64 k1, .int .i64 k2, .int .i64 k3] 44 (0, 0)) := by rw [← hb1, ← hW4]; exact World.alloc_heap_new w3 _
    have m0 := cell_of_row W4 b1 0 _ _ _ hrd
    have hb4 := bnext hb3 hst4
    have hr4 := blk_below hr1 hb4
    have e0 := cell_of_row W4 b0 0 _ _ _ hr4
    have e1 := cell_of_row W4 b0 1 _ _ _ hr4
    have hbb := bnext hst1 hb4
    have hR4 := HR.out.go hbb
    have hL4 := HL.out.go hb4
    clear hst4 hb3 hb4 hst1 hr1 hW1
    go_wp2_with fail
    refine (HO.out W4 hR4).mono ?_
    rintro e w5 ⟨rfl, hb5⟩
    obtain ⟨b2, hb2⟩ : ∃ b2, w5.heap.size = b2 := ⟨_, rfl⟩
    obtain ⟨W6, hW6⟩ : ∃ W6, w5.alloc (.cells #[.int .i64 (g F 0), .int .i64 (g F 1), .int .i64 (g F 2), .int .i64 (g F 3), .int .i64 (g F 4), .int .i64 (g F 5), .int .i64 (g F 6), .int .i64 (g F 7), .int .i64 (g F 8), .int .i64 (g F 9), .int .i64 (g F 10)] 31) = W6 := ⟨_, rfl⟩
    have hst6 : Below w5.heap.size w5 W6 := hW6 ▸ bstep w5 _
    have hrr : W6.heap[b2]? = some (.cells #[.int .i64 (g F 0), .int .i64 (g F 1), .int .i64 (g F 2), .int .i64 (g F 3), .int .i64 (g F 4), .int .i64 (g F 5), .int .i64 (g F 6), .int .i64 (g F 7), .int .i64 (g F 8), .int .i64 (g F 9), .int .i64 (g F 10)] 31 (0, 0)) := by rw [← hb2, ← hW6]; exact World.alloc_heap_new w5 _
    have d0 := cell_of_row W6 b2 0 _ _ _ hrr
    have d1 := cell_of_row W6 b2 1 _ _ _ hrr
    have d2 := cell_of_row W6 b2 2 _ _ _ hrr
    have d3 := cell_of_row W6 b2 3 _ _ _ hrr
    have d4 := cell_of_row W6 b2 4 _ _ _ hrr
    have d5 := cell_of_row W6 b2 5 _ _ _ hrr
    have d6 := cell_of_row W6 b2 6 _ _ _ hrr
    have d7 := cell_of_row W6 b2 7 _ _ _ hrr
    have d8 := cell_of_row W6 b2 8 _ _ _ hrr
    have d9 := cell_of_row W6 b2 9 _ _ _ hrr
    have d10 := cell_of_row W6 b2 10 _ _ _ hrr
    have hb6 := bnext hb5 hst6
    have m0 := cell_of_row W6 b1 0 _ _ _ (blk_below hrd hb6)
    have hL6 := hL4.go hb6
    have hb7 := bnext hbb hb6
    clear hst6 hb5 hb6 hbb hL4 hW4 e0 e1 hrd
    go_wp2_with fail
    refine (HE.out W6 hL6).mono ?_
    rintro e w7 ⟨rfl, hb8⟩
    have p10 := cell_of_row w7 b2 10 _ _ _ (blk_below hrr hb8)
    have hb9 := bnext hb7 hb8
    clear hb8 hb7 hrr hW6 hL6 m0
    clear d0
    clear d1
    clear d2
    clear d3
    clear d4
    clear d5
    clear d6
    clear d7
    clear d8
    clear d9
    clear d10
    go_wp2_with fail
    go_ret
    exact ⟨rfl, hb9⟩
theorem extra_calls (o : Int) (A : Option Addr) (lr cr : Nat) (g : Nat → Nat → Int) (s : Int) (hok : zonOk o lr g) (hs : secOk s) (w : World) (hR : RdZ w A lr cr g) (hL : Lens w) :
    Calls Tryd.prog 36 #[zonC o A lr cr, .int .i64 s] w fun e w' => e = .returned (.int .i64 (extV g lr s)) ∧ Below w.heap.size w w' := by
  by_cases hi : OfIs o lr g (zD (s / 86400)).1
  · exact extra_yes o A lr cr g s hs hi w hR hL
  · have hv : extV g lr s = 0 := if_neg (fun h => hi ⟨hok, h⟩)
    rw [hv]
    exact extra_no o A lr cr g s hs hi w hR hL
end Go.Proofs.YtoipmhmghcngcaaDoor
