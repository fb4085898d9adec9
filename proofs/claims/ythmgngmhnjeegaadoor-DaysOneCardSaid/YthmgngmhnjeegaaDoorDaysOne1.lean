/-
  DaysOne: the walk of the law. Conditions stand at each theorem. (Printed by gen_done.py.)
-/
import Derived.Test.YthmgngmhnjeegaaDoorAlive
import Derived.Test.YthmgngmhnjeegaaDoorDaysKinds
import Derived.BigRegion
namespace Go.Proofs.YthmgngmhnjeegaaDoor
open Go Go.RowKit Go.Kw Go.Kw.Cv
set_option linter.unusedVariables false
set_option linter.unusedSimpArgs false

theorem irows_take {n : Nat} {kd : Nat → IntKind} {w : World} {A : Option Addr} {len cap k : Nat} {g : Nat → Nat → Int} (h : IRows n kd w A len cap g) (hk : k ≤ len) : IRows n kd w A k cap g := by
  refine ⟨by have := h.1; omega, h.2.1, fun e => by have := h.2.2.1 e; omega, ?_, fun r j h1 h2 => h.2.2.2.2 r j (by omega) h2⟩
  rcases h.2.2.2.1 with h0 | ⟨b, off, e, hb, hc⟩
  · refine .inl ?_
    have : k * n ≤ len * n := Nat.mul_le_mul_right _ hk
    omega
  · exact .inr ⟨b, off, e, hb, fun i hi => hc i (Nat.lt_of_lt_of_le hi (Nat.mul_le_mul_right _ hk))⟩
theorem calOk_take {la k : Nat} {gh : Nat → Nat → Int} {lb : Nat} {gs : Nat → Nat → Int} (h : calOk la gh lb gs) (hk : k ≤ la) : calOk k gh lb gs :=
  ⟨by have := h.1; omega, h.2.1, fun i hi => h.2.2.1 i (by omega), h.2.2.2⟩
theorem isF_take {la k : Nat} {gh : Nat → Nat → Int} {n : Int} (hk : k ≤ la) (h : isF gh k n = true) : isF gh la n = true := by
  unfold isF at h ⊢
  rw [decide_eq_true_eq, fe_mem] at h ⊢
  obtain ⟨h0, i, j, hi, h1, h2, h3⟩ := h
  exact ⟨h0, i, j, by omega, h1, h2, h3⟩
theorem rest_in (s : Int) (la : Nat) : ∃ r : Int, Int.tmod s ((la : Int) + 1) = r ∧ -(la : Int) ≤ r ∧ r ≤ la ∧ ∃ k : Nat, Int.tmod (r + la + 1) ((la : Int) + 1) = k ∧ k ≤ la := by
  refine ⟨_, rfl, ?_, ?_, ?_⟩
  · have := Int.lt_tmod_of_pos s (show (0 : Int) < la + 1 by omega); omega
  · have := Int.tmod_lt_of_pos s (show (0 : Int) < la + 1 by omega); omega
  · have h1 := Int.lt_tmod_of_pos s (show (0 : Int) < la + 1 by omega)
    have h2 : 0 ≤ Int.tmod s (la + 1) + la + 1 := by omega
    have h3 := Int.tmod_lt_of_pos (Int.tmod s (la + 1) + la + 1) (show (0 : Int) < la + 1 by omega)
    have h4 := Int.tmod_nonneg (la + 1) h2
    exact ⟨(Int.tmod (Int.tmod s (la + 1) + la + 1) (la + 1)).toNat, by omega, by omega⟩
set_option maxRecDepth 100000 in
set_option maxHeartbeats 8000000 in
theorem one_great (A : Option Addr) (la ca : Nat) (gh : Nat → Nat → Int) (B : Option Addr) (lb cb : Nat) (gs : Nat → Nat → Int) (s n : Int) (w : World) (hR : RdCal w A la ca gh B lb cb gs) (hL : Lens w) (hgr : la > 120 ∨ lb > 30) :
    Calls Tryd.prog 6 #[calC A la ca B lb cb, .int .i64 s, .int .i64 n] w fun e w' => e = .returned (.bool true) ∧ Below w.heap.size w w' := by
  have hS := St.new hR hL
  obtain ⟨b0, hb0⟩ : ∃ b0, w.heap.size = b0 := ⟨_, rfl⟩
  have Hb0 := Lib.hid hb0
  rw [show St w.heap.size w A la ca gh B lb cb gs = St b0 w A la ca gh B lb cb gs by rw [hb0]] at hS
  have HA := Lib.hid (alive_calls _ hS.2.2.1)
  have HS := Lib.hid hS
  have hcap := hR.1.1
  have hcb := hR.1.2.1
  have hnil := hR.1.2.2.1
  unfold calC
  clear hR hL hS
  clear hcap hcb hnil
  go_enter Tryd.func6, Tryd.ntmps6
  go_wp2_with fail
  refine HA.out.mono ?_
  rintro e w1 ⟨rfl, hb⟩
  have hS := HS.out.go hb
  clear hb
  have c0 := hS.c0
  have c1 := hS.c1
  have HX := (great_calls A la ca B lb cb true (by constructor <;> intro h <;> first | exact hgr | rfl | exact absurd hgr h | exact absurd h hgr | exact absurd h Bool.false_ne_true) w1)
  unfold calC at HX
  replace HX := Lib.hid HX
  have HT := Lib.hid hS
  clear hS
  go_wp2_with fail
  refine HX.out.mono ?_
  rintro e w2 ⟨rfl, hb⟩
  have hS := HT.out.go hb
  clear HX HT c0 c1 hb
  have HB := Lib.hid hS.2.2.2
  clear hS hgr
  go_wp2_with fail
  go_ret
  exact ⟨rfl, by first | exact HB.out | (rw [Hb0.out]; exact HB.out) | (rw [← Hb0.out]; exact HB.out)⟩
set_option maxRecDepth 100000 in
set_option maxHeartbeats 8000000 in
theorem one_nocal (A : Option Addr) (la ca : Nat) (gh : Nat → Nat → Int) (B : Option Addr) (lb cb : Nat) (gs : Nat → Nat → Int) (s n : Int) (w : World) (hR : RdCal w A la ca gh B lb cb gs) (hL : Lens w) (hgr : ¬ (la > 120 ∨ lb > 30)) (hcal : ¬ calOk la gh lb gs) :
    Calls Tryd.prog 6 #[calC A la ca B lb cb, .int .i64 s, .int .i64 n] w fun e w' => e = .returned (.bool true) ∧ Below w.heap.size w w' := by
  have hS := St.new hR hL
  obtain ⟨b0, hb0⟩ : ∃ b0, w.heap.size = b0 := ⟨_, rfl⟩
  have Hb0 := Lib.hid hb0
  rw [show St w.heap.size w A la ca gh B lb cb gs = St b0 w A la ca gh B lb cb gs by rw [hb0]] at hS
  have HA := Lib.hid (alive_calls _ hS.2.2.1)
  have HS := Lib.hid hS
  have hcap := hR.1.1
  have hcb := hR.1.2.1
  have hnil := hR.1.2.2.1
  unfold calC
  clear hR hL hS
  have HNc := Lib.hid hcal
  clear hcap hcb hnil hcal
  go_enter Tryd.func6, Tryd.ntmps6
  go_wp2_with fail
  refine HA.out.mono ?_
  rintro e w1 ⟨rfl, hb⟩
  have hS := HS.out.go hb
  clear hb
  have c0 := hS.c0
  have c1 := hS.c1
  have HX := (great_calls A la ca B lb cb false (by constructor <;> intro h <;> first | exact hgr | rfl | exact absurd hgr h | exact absurd h hgr | exact absurd h Bool.false_ne_true) w1)
  unfold calC at HX
  replace HX := Lib.hid HX
  have HT := Lib.hid hS
  clear hS
  go_wp2_with fail
  refine HX.out.mono ?_
  rintro e w2 ⟨rfl, hb⟩
  have hS := HT.out.go hb
  clear HX HT c0 c1 hb
  have c0 := hS.c0
  have c1 := hS.c1
  have HX := (by have h := daysCheck_calls A la ca gh B lb cb gs w2 hS.2.1 hS.2.2.1; rw [show calE la gh lb gs = 80 from if_neg HNc.out] at h; exact h)
  unfold calC at HX
  replace HX := Lib.hid HX
  have HT := Lib.hid hS
  clear hS
  go_wp2_with fail
  refine HX.out.mono ?_
  rintro e w3 ⟨rfl, hb⟩
  have hS := HT.out.go hb
  clear HX HT c0 c1 hb
  have HB := Lib.hid hS.2.2.2
  clear hS hgr
  go_wp2_with fail
  go_ret
  exact ⟨rfl, by first | exact HB.out | (rw [Hb0.out]; exact HB.out) | (rw [← Hb0.out]; exact HB.out)⟩
set_option maxRecDepth 100000 in
set_option maxHeartbeats 8000000 in
theorem one_noday (A : Option Addr) (la ca : Nat) (gh : Nat → Nat → Int) (B : Option Addr) (lb cb : Nat) (gs : Nat → Nat → Int) (s n : Int) (w : World) (hR : RdCal w A la ca gh B lb cb gs) (hL : Lens w) (hgr : ¬ (la > 120 ∨ lb > 30)) (hcal : calOk la gh lb gs) (hn : ¬ (0 ≤ n ∧ n ≤ 2932896)) (r : Int) (k : Nat) (hr : Int.tmod s ((la : Int) + 1) = r) (hr1 : -(la : Int) ≤ r) (hr2 : r ≤ la) (hk : Int.tmod (r + la + 1) ((la : Int) + 1) = k) (hkl : k ≤ la) :
    Calls Tryd.prog 6 #[calC A la ca B lb cb, .int .i64 s, .int .i64 n] w fun e w' => e = .returned (.bool true) ∧ Below w.heap.size w w' := by
  have hS := St.new hR hL
  obtain ⟨b0, hb0⟩ : ∃ b0, w.heap.size = b0 := ⟨_, rfl⟩
  have Hb0 := Lib.hid hb0
  rw [show St w.heap.size w A la ca gh B lb cb gs = St b0 w A la ca gh B lb cb gs by rw [hb0]] at hS
  have HA := Lib.hid (alive_calls _ hS.2.2.1)
  have HS := Lib.hid hS
  have hcap := hR.1.1
  have hcb := hR.1.2.1
  have hnil := hR.1.2.2.1
  unfold calC
  clear hR hL hS
  have Hcal := Lib.hid hcal
  have Hcap := Lib.hid (And.intro hcap (And.intro hcb hnil))
  clear hcap hcb hnil
  go_enter Tryd.func6, Tryd.ntmps6
  go_wp2_with fail
  refine HA.out.mono ?_
  rintro e w1 ⟨rfl, hb⟩
  have hS := HS.out.go hb
  clear hb
  have c0 := hS.c0
  have c1 := hS.c1
  have HX := (great_calls A la ca B lb cb false (by constructor <;> intro h <;> first | exact hgr | rfl | exact absurd hgr h | exact absurd h hgr | exact absurd h Bool.false_ne_true) w1)
  unfold calC at HX
  replace HX := Lib.hid HX
  have HT := Lib.hid hS
  clear hS
  go_wp2_with fail
  refine HX.out.mono ?_
  rintro e w2 ⟨rfl, hb⟩
  have hS := HT.out.go hb
  clear HX HT c0 c1 hb
  have c0 := hS.c0
  have c1 := hS.c1
  have HX := (by have h := daysCheck_calls A la ca gh B lb cb gs w2 hS.2.1 hS.2.2.1; rw [show calE la gh lb gs = 0 from if_pos Hcal.out] at h; exact h)
  unfold calC at HX
  replace HX := Lib.hid HX
  have HT := Lib.hid hS
  clear hS
  go_wp2_with fail
  refine HX.out.mono ?_
  rintro e w3 ⟨rfl, hb⟩
  have hS := HT.out.go hb
  clear HX HT c0 c1 hb
  have c0 := hS.c0
  have c1 := hS.c1
  have hla := hcal.1
  have a1 := i64_same ((la : Int) + 1) (by omega)
  have A1 := Lib.hid (wrap64_in ((la : Int) + 1) (by omega))
  have a2 := i64_same r (by omega)
  have a3 := i64_same (r + la) (by omega)
  have A3 := Lib.hid (wrap64_in (r + la) (by omega))
  have a4 := i64_same (r + la + 1) (by omega)
  have A4 := Lib.hid (wrap64_in (r + la + 1) (by omega))
  have a5 := i64_same (k : Int) (by omega)
  have z1 : (la : Int) + 1 ≠ 0 := by omega
  have HT := Lib.hid hS
  have Hk := Lib.hid hkl
  clear hgr hcal hS hr1 hr2 hla hkl
  have x1 := A1.out
  have x3 := A3.out
  have x4 := A4.out
  go_wp2_with fail
  go_quiet (fail)
  clear x1 x3 x4 z1 a1 a2 a3 a4 a5
  have q1 : (0 : Int) ≤ k := by omega
  have q2 : (k : Int) ≤ ca := by have := Hk.out; have := Hcap.out.1; omega
  have q3 : k ≤ ca := by omega
  go_wp2_with fail
  have t0 : Below w3.heap.size w3 (w3.drewN (nq + 1)) := (Below.refl _ w3).drewN _
  have t1 : Below w3.heap.size w3 ((w3.drewN (nq + 1)).alloc (.cells #[.slice none 0 0, .slice none 0 0] 35)) := t0.alloc t0.size _
  have d0 := cell_of_row _ b0 0 _ _ _ (blk_below HT.out.1 t0)
  have d1 := cell_of_row _ b0 1 _ _ _ (blk_below HT.out.1 t0)
  have e0 := cell_of_row _ b0 0 _ _ _ (blk_below HT.out.1 t1)
  have e1 := cell_of_row _ b0 1 _ _ _ (blk_below HT.out.1 t1)
  have rN : ((w3.drewN (nq + 1)).alloc (.cells #[.slice none 0 0, .slice none 0 0] 35)).heap[w3.heap.size]? = some (.cells #[.slice none 0 0, .slice none 0 0] 35 (0, 0)) := World.alloc_heap_new (w3.drewN (nq + 1)) _
  have g0 := cell_of_row _ _ 0 _ _ _ rN
  have g1 := cell_of_row _ _ 1 _ _ _ rN
  have f0 := blk_frozen rN 0
  have f1 := blk_frozen rN 1
  go_region
  obtain ⟨W5, hW5⟩ : ∃ W5, (((w3.drewN (nq + 1)).alloc (.cells #[.slice none 0 0, .slice none 0 0] 35)).setCell ⟨w3.heap.size, 0, none⟩ (.slice A k ca)).setCell ⟨w3.heap.size, 1, none⟩ (.slice B lb cb) = W5 := ⟨_, rfl⟩
  have tW : Below w3.heap.size w3 W5 := hW5 ▸ (t1.setCell (p := ⟨w3.heap.size, 0, none⟩) (Nat.le_refl _) _).setCell (p := ⟨w3.heap.size, 1, none⟩) (Nat.le_refl _) _
  have rW : W5.heap[w3.heap.size]? = some (.cells #[.slice A k ca, .slice B lb cb] 35 (0, 0)) := hW5 ▸ heap_setCell_same _ _ 1 _ _ _ (heap_setCell_same _ _ 0 _ _ _ rN)
  have hS := HT.out.go tW
  obtain ⟨bL, hbL⟩ : ∃ bL, w3.heap.size = bL := ⟨_, rfl⟩
  rw [hW5]
  try rw [hbL]
  rw [hbL] at rW
  have hM : St bL w A k ca gh B lb cb gs W5 := ⟨rW, ⟨irows_take hS.2.1.1 Hk.out, hS.2.1.2⟩, hS.2.2⟩
  clear t0 t1 d0 d1 e0 e1 rN g0 g1 f0 f1 hW5 tW rW hbL c0 c1 HT q1 q2 q3
  have HE := Lib.hid (errA_out Hcal.out hn)
  have HE2 := Lib.hid (errA_out (calOk_take Hcal.out Hk.out) hn)
  clear hn
  have c0 := hS.c0
  have c1 := hS.c1
  have HX := (by have h := daysKind_no A la ca gh B lb cb gs n (by rw [HE.out]; decide) W5 hS.2.1 hS.2.2.1; rw [HE.out] at h; exact h)
  unfold calC at HX
  replace HX := Lib.hid HX
  have HT := Lib.hid (And.intro hS hM)
  clear hS hM
  go_wp2_with fail
  refine HX.out.mono ?_
  rintro e w6 ⟨rfl, hb⟩
  have hS := HT.out.1.go hb
  have hM := HT.out.2.go hb
  clear HX HT c0 c1 hb
  have c0 := hM.c0
  have c1 := hM.c1
  have HX := (by have h := daysKind_no A k ca gh B lb cb gs n (by rw [HE2.out]; decide) w6 hM.2.1 hM.2.2.1; rw [HE2.out] at h; exact h)
  unfold calC at HX
  replace HX := Lib.hid HX
  have HT := Lib.hid (And.intro hS hM)
  clear hS hM
  go_wp2_with fail
  refine HX.out.mono ?_
  rintro e w7 ⟨rfl, hb⟩
  have hS := HT.out.1.go hb
  have hM := HT.out.2.go hb
  clear HX HT c0 c1 hb
  have c0 := hS.c0
  have c1 := hS.c1
  have HX := (by have h := season_no A la ca gh B lb cb gs n (by rw [HE.out]; decide) w7 hS.2.1 hS.2.2.1; rw [HE.out] at h; exact h)
  unfold calC at HX
  replace HX := Lib.hid HX
  have HT := Lib.hid (And.intro hS hM)
  clear hS hM
  go_wp2_with fail
  refine HX.out.mono ?_
  rintro e w8 ⟨rfl, hb⟩
  have hS := HT.out.1.go hb
  have hM := HT.out.2.go hb
  clear HX HT c0 c1 hb
  have c0 := hM.c0
  have c1 := hM.c1
  have HX := (by have h := season_no A k ca gh B lb cb gs n (by rw [HE2.out]; decide) w8 hM.2.1 hM.2.2.1; rw [HE2.out] at h; exact h)
  unfold calC at HX
  replace HX := Lib.hid HX
  have HT := Lib.hid (And.intro hS hM)
  clear hS hM
  go_wp2_with fail
  refine HX.out.mono ?_
  rintro e w9 ⟨rfl, hb⟩
  have hS := HT.out.1.go hb
  have hM := HT.out.2.go hb
  clear HX HT c0 c1 hb
  have HB := Lib.hid hS.2.2.2
  clear hS hM
  go_wp2_with fail
  go_ret
  exact ⟨rfl, by first | exact HB.out | (rw [Hb0.out]; exact HB.out) | (rw [← Hb0.out]; exact HB.out)⟩
set_option maxRecDepth 100000 in
set_option maxHeartbeats 8000000 in
theorem one_tt (A : Option Addr) (la ca : Nat) (gh : Nat → Nat → Int) (B : Option Addr) (lb cb : Nat) (gs : Nat → Nat → Int) (s n : Int) (w : World) (hR : RdCal w A la ca gh B lb cb gs) (hL : Lens w) (hgr : ¬ (la > 120 ∨ lb > 30)) (hcal : calOk la gh lb gs) (hn : 0 ≤ n ∧ n ≤ 2932896) (r : Int) (k : Nat) (hr : Int.tmod s ((la : Int) + 1) = r) (hr1 : -(la : Int) ≤ r) (hr2 : r ≤ la) (hk : Int.tmod (r + la + 1) ((la : Int) + 1) = k) (hkl : k ≤ la) (hI : isF gh la n = true) (hJ : isF gh k n = true) :
    Calls Tryd.prog 6 #[calC A la ca B lb cb, .int .i64 s, .int .i64 n] w fun e w' => e = .returned (.bool true) ∧ Below w.heap.size w w' := by
  have hS := St.new hR hL
  obtain ⟨b0, hb0⟩ : ∃ b0, w.heap.size = b0 := ⟨_, rfl⟩
  have Hb0 := Lib.hid hb0
  rw [show St w.heap.size w A la ca gh B lb cb gs = St b0 w A la ca gh B lb cb gs by rw [hb0]] at hS
  have HA := Lib.hid (alive_calls _ hS.2.2.1)
  have HS := Lib.hid hS
  have hcap := hR.1.1
  have hcb := hR.1.2.1
  have hnil := hR.1.2.2.1
  unfold calC
  clear hR hL hS
  have Hcal := Lib.hid hcal
  have Hcap := Lib.hid (And.intro hcap (And.intro hcb hnil))
  clear hcap hcb hnil
  go_enter Tryd.func6, Tryd.ntmps6
  go_wp2_with fail
  refine HA.out.mono ?_
  rintro e w1 ⟨rfl, hb⟩
  have hS := HS.out.go hb
  clear hb
  have c0 := hS.c0
  have c1 := hS.c1
  have HX := (great_calls A la ca B lb cb false (by constructor <;> intro h <;> first | exact hgr | rfl | exact absurd hgr h | exact absurd h hgr | exact absurd h Bool.false_ne_true) w1)
  unfold calC at HX
  replace HX := Lib.hid HX
  have HT := Lib.hid hS
  clear hS
  go_wp2_with fail
  refine HX.out.mono ?_
  rintro e w2 ⟨rfl, hb⟩
  have hS := HT.out.go hb
  clear HX HT c0 c1 hb
  have c0 := hS.c0
  have c1 := hS.c1
  have HX := (by have h := daysCheck_calls A la ca gh B lb cb gs w2 hS.2.1 hS.2.2.1; rw [show calE la gh lb gs = 0 from if_pos Hcal.out] at h; exact h)
  unfold calC at HX
  replace HX := Lib.hid HX
  have HT := Lib.hid hS
  clear hS
  go_wp2_with fail
  refine HX.out.mono ?_
  rintro e w3 ⟨rfl, hb⟩
  have hS := HT.out.go hb
  clear HX HT c0 c1 hb
  have c0 := hS.c0
  have c1 := hS.c1
  have hla := hcal.1
  have a1 := i64_same ((la : Int) + 1) (by omega)
  have A1 := Lib.hid (wrap64_in ((la : Int) + 1) (by omega))
  have a2 := i64_same r (by omega)
  have a3 := i64_same (r + la) (by omega)
  have A3 := Lib.hid (wrap64_in (r + la) (by omega))
  have a4 := i64_same (r + la + 1) (by omega)
  have A4 := Lib.hid (wrap64_in (r + la + 1) (by omega))
  have a5 := i64_same (k : Int) (by omega)
  have z1 : (la : Int) + 1 ≠ 0 := by omega
  have HT := Lib.hid hS
  have Hk := Lib.hid hkl
  clear hgr hcal hS hr1 hr2 hla hkl
  have x1 := A1.out
  have x3 := A3.out
  have x4 := A4.out
  go_wp2_with fail
  go_quiet (fail)
  clear x1 x3 x4 z1 a1 a2 a3 a4 a5
  have q1 : (0 : Int) ≤ k := by omega
  have q2 : (k : Int) ≤ ca := by have := Hk.out; have := Hcap.out.1; omega
  have q3 : k ≤ ca := by omega
  go_wp2_with fail
  have t0 : Below w3.heap.size w3 (w3.drewN (nq + 1)) := (Below.refl _ w3).drewN _
  have t1 : Below w3.heap.size w3 ((w3.drewN (nq + 1)).alloc (.cells #[.slice none 0 0, .slice none 0 0] 35)) := t0.alloc t0.size _
  have d0 := cell_of_row _ b0 0 _ _ _ (blk_below HT.out.1 t0)
  have d1 := cell_of_row _ b0 1 _ _ _ (blk_below HT.out.1 t0)
  have e0 := cell_of_row _ b0 0 _ _ _ (blk_below HT.out.1 t1)
  have e1 := cell_of_row _ b0 1 _ _ _ (blk_below HT.out.1 t1)
  have rN : ((w3.drewN (nq + 1)).alloc (.cells #[.slice none 0 0, .slice none 0 0] 35)).heap[w3.heap.size]? = some (.cells #[.slice none 0 0, .slice none 0 0] 35 (0, 0)) := World.alloc_heap_new (w3.drewN (nq + 1)) _
  have g0 := cell_of_row _ _ 0 _ _ _ rN
  have g1 := cell_of_row _ _ 1 _ _ _ rN
  have f0 := blk_frozen rN 0
  have f1 := blk_frozen rN 1
  go_region
  obtain ⟨W5, hW5⟩ : ∃ W5, (((w3.drewN (nq + 1)).alloc (.cells #[.slice none 0 0, .slice none 0 0] 35)).setCell ⟨w3.heap.size, 0, none⟩ (.slice A k ca)).setCell ⟨w3.heap.size, 1, none⟩ (.slice B lb cb) = W5 := ⟨_, rfl⟩
  have tW : Below w3.heap.size w3 W5 := hW5 ▸ (t1.setCell (p := ⟨w3.heap.size, 0, none⟩) (Nat.le_refl _) _).setCell (p := ⟨w3.heap.size, 1, none⟩) (Nat.le_refl _) _
  have rW : W5.heap[w3.heap.size]? = some (.cells #[.slice A k ca, .slice B lb cb] 35 (0, 0)) := hW5 ▸ heap_setCell_same _ _ 1 _ _ _ (heap_setCell_same _ _ 0 _ _ _ rN)
  have hS := HT.out.go tW
  obtain ⟨bL, hbL⟩ : ∃ bL, w3.heap.size = bL := ⟨_, rfl⟩
  rw [hW5]
  try rw [hbL]
  rw [hbL] at rW
  have hM : St bL w A k ca gh B lb cb gs W5 := ⟨rW, ⟨irows_take hS.2.1.1 Hk.out, hS.2.1.2⟩, hS.2.2⟩
  clear t0 t1 d0 d1 e0 e1 rN g0 g1 f0 f1 hW5 tW rW hbL c0 c1 HT q1 q2 q3
  have Hn := Lib.hid hn
  have HC2 := Lib.hid (calOk_take Hcal.out Hk.out)
  obtain ⟨V, hV⟩ : ∃ V, wdN n = V := ⟨_, rfl⟩
  obtain ⟨K, hK⟩ : ∃ K, kindD gh la n = K := ⟨_, rfl⟩
  obtain ⟨K2, hK2⟩ : ∃ K, kindD gh k n = K := ⟨_, rfl⟩
  obtain ⟨S, hSe⟩ : ∃ K, seasD gs lb n = K := ⟨_, rfl⟩
  have HV := Lib.hid (And.intro hK (And.intro hK2 (And.intro hSe hI)))
  have HKb := Lib.hid (show K = kindB true V ∧ K2 = kindB true V by rw [← hK, ← hK2]; unfold kindD; rw [hI, hJ, hV]; exact ⟨rfl, rfl⟩)
  have HW := weekday_calls n
  rw [hV] at HW
  replace HW := Lib.hid HW
  clear hn hI hJ hV hK hK2 hSe
  have c0 := hS.c0
  have c1 := hS.c1
  have HX := (by have h := daysKind_ok A la ca gh B lb cb gs n Hcal.out Hn.out W5 hS.2.1 hS.2.2.1; rw [HV.out.1] at h; exact h)
  unfold calC at HX
  replace HX := Lib.hid HX
  have HT := Lib.hid (And.intro hS hM)
  clear hS hM
  go_wp2_with fail
  refine HX.out.mono ?_
  rintro e w6 ⟨rfl, hb⟩
  have hS := HT.out.1.go hb
  have hM := HT.out.2.go hb
  clear HX HT c0 c1 hb
  have c0 := hM.c0
  have c1 := hM.c1
  have HX := (by have h := daysKind_ok A k ca gh B lb cb gs n HC2.out Hn.out w6 hM.2.1 hM.2.2.1; rw [HV.out.2.1] at h; exact h)
  unfold calC at HX
  replace HX := Lib.hid HX
  have HT := Lib.hid (And.intro hS hM)
  clear hS hM
  go_wp2_with fail
  refine HX.out.mono ?_
  rintro e w7 ⟨rfl, hb⟩
  have hS := HT.out.1.go hb
  have hM := HT.out.2.go hb
  clear HX HT c0 c1 hb
  have c0 := hS.c0
  have c1 := hS.c1
  have HX := (by have h := season_ok A la ca gh B lb cb gs n Hcal.out Hn.out w7 hS.2.1 hS.2.2.1; rw [HV.out.2.2.1] at h; exact h)
  unfold calC at HX
  replace HX := Lib.hid HX
  have HT := Lib.hid (And.intro hS hM)
  clear hS hM
  go_wp2_with fail
  refine HX.out.mono ?_
  rintro e w8 ⟨rfl, hb⟩
  have hS := HT.out.1.go hb
  have hM := HT.out.2.go hb
  clear HX HT c0 c1 hb
  have c0 := hM.c0
  have c1 := hM.c1
  have HX := (by have h := season_ok A k ca gh B lb cb gs n HC2.out Hn.out w8 hM.2.1 hM.2.2.1; rw [HV.out.2.2.1] at h; exact h)
  unfold calC at HX
  replace HX := Lib.hid HX
  have HT := Lib.hid (And.intro hS hM)
  clear hS hM
  go_wp2_with fail
  refine HX.out.mono ?_
  rintro e w9 ⟨rfl, hb⟩
  have hS := HT.out.1.go hb
  have hM := HT.out.2.go hb
  clear HX HT c0 c1 hb
  have c0 := hS.c0
  have c1 := hS.c1
  have HX := (by have h := daysIs_ok A la ca gh B lb cb gs n Hcal.out Hn.out w9 hS.2.1 hS.2.2.1; rw [HV.out.2.2.2] at h; exact h)
  unfold calC at HX
  replace HX := Lib.hid HX
  have HT := Lib.hid hS
  clear hS hM
  obtain ⟨hk1, hk2⟩ := HKb.out
  by_cases h7 : V = 7
  · subst h7
    rw [kindB_t] at hk1
    rw [kindB_t] at hk2
    subst hk1 hk2
    skip
    go_wp2_with fail
    refine (HW.out _).mono ?_
    rintro e w10 ⟨rfl, rfl⟩
    go_wp2_with fail
    refine HX.out.mono ?_
    rintro e w11 ⟨rfl, hb⟩
    have HB := Lib.hid (HT.out.go hb).2.2.2
    clear hb c0 c1
    go_wp2_with fail
    go_ret
    exact ⟨rfl, by first | exact HB.out | (rw [Hb0.out]; exact HB.out) | (rw [← Hb0.out]; exact HB.out)⟩
  · by_cases h6 : V = 6
    · subst h6
      rw [kindB_t] at hk1
      rw [kindB_t] at hk2
      subst hk1 hk2
      skip
      clear h7
      go_wp2_with fail
      refine (HW.out _).mono ?_
      rintro e w10 ⟨rfl, rfl⟩
      go_wp2_with fail
      refine HX.out.mono ?_
      rintro e w11 ⟨rfl, hb⟩
      have HB := Lib.hid (HT.out.go hb).2.2.2
      clear hb c0 c1
      go_wp2_with fail
      go_ret
      exact ⟨rfl, by first | exact HB.out | (rw [Hb0.out]; exact HB.out) | (rw [← Hb0.out]; exact HB.out)⟩
    · have v7 : (V == 7) = false := beq_eq_false_iff_ne.2 h7
      have v6 : (V == 6) = false := beq_eq_false_iff_ne.2 h6
      rw [kindB_t] at hk1
      rw [kindB_t] at hk2
      subst hk1 hk2
      skip
      clear h7 h6
      go_wp2_with fail
      refine (HW.out _).mono ?_
      rintro e w10 ⟨rfl, rfl⟩
      go_wp2_with fail
      refine HX.out.mono ?_
      rintro e w11 ⟨rfl, hb⟩
      have HB := Lib.hid (HT.out.go hb).2.2.2
      clear hb c0 c1
      go_wp2_with fail
      go_ret
      exact ⟨rfl, by first | exact HB.out | (rw [Hb0.out]; exact HB.out) | (rw [← Hb0.out]; exact HB.out)⟩
end Go.Proofs.YthmgngmhnjeegaaDoor
