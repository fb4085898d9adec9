/-
  The law ZoneEdges: the case that is gone through. Conditions stand at each theorem.
-/
import Derived.Test.YtoipmhmghcngcaaDoorZoneEdges1
namespace Go.Proofs.YtoipmhmghcngcaaDoor
open Go Go.RowKit Go.Kw Go.Kw.Cv Go.Shelf
set_option linter.unusedVariables false
set_option linter.unusedSimpArgs false
set_option maxRecDepth 100000 in
set_option maxHeartbeats 32000000 in
theorem ze_good (o : Int) (A : Option Addr) (cr : Nat) (g : Nat → Nat → Int) (y : Int) (w : World) (hR : RdZ w A 1 cr g) (hi : OfIs o 1 g y) (hy : 1970 < y ∧ y < 9999) (hg1 : ¬ onT g 0 y - o < dayN y 1 3 * 86400) (hg2 : ¬ dayN y 12 29 * 86400 < offT g 0 y - o) (hg : ¬ offT g 0 y - o - (onT g 0 y - o) < 86400) (hL : Lens w) :
    Calls Tryd.prog 8 #[.agg #[.int .i64 o, .slice A 1 cr], .int .i64 y] w fun e w' => e = .returned (.bool true) ∧ Below w.heap.size w w' := by
  obtain ⟨b0, hb0⟩ : ∃ b0, w.heap.size = b0 := ⟨_, rfl⟩
  have Hb0 := Lib.hid hb0
  have hS : StZ b0 w o A 1 cr g (w.alloc (.cells #[.int .i64 o, .slice A 1 cr] 24)) := hb0 ▸ StZ.new hR hL
  obtain ⟨W1, hW1⟩ : ∃ W1, w.alloc (.cells #[.int .i64 o, .slice A 1 cr] 24) = W1 := ⟨_, rfl⟩
  rw [hW1] at hS
  have hN := edg_n hi hy (by omega) (by omega) (by omega)
  obtain ⟨T1, hT1⟩ : ∃ T, onT g 0 y = T := ⟨_, rfl⟩
  obtain ⟨T2, hT2⟩ : ∃ T, offT g 0 y = T := ⟨_, rfl⟩
  have hF0 : rulF g y 1 = 0 := by have := hi.2; omega
  have v1 : edA o 1 g y = T1 - o := by rw [← hT1, ← hF0]; exact if_pos hi
  have v2 : edB o 1 g y = T2 - o := by rw [← hT2, ← hF0]; exact if_pos hi
  have Hv := Lib.hid (And.intro v1 (And.intro v2 (of_yes hi).2))
  have k1 : decide (y ≥ 9999) = false := decide_eq_false (by omega)
  have k2 : decide (y ≤ 1970) = false := decide_eq_false (by omega)
  obtain ⟨D1, hD1⟩ : ∃ D, dayN y 1 3 * 86400 = D := ⟨_, rfl⟩
  obtain ⟨D2, hD2⟩ : ∃ D, dayN y 12 29 * 86400 = D := ⟨_, rfl⟩
  have hdo := day_one (y := y) (by omega)
  rw [hD1, hD2] at hdo
  have ho := hi.1
  have hr := ho.2.2.2 0 (by omega)
  unfold rulOk at hr
  have t1 : 0 ≤ T1 ∧ T1 ≤ 253402300799 := by rw [← hT1]; exact chgT_range hr.2.2.2.2.2.1 (by omega)
  have t2 : 0 ≤ T2 ∧ T2 ≤ 253402300799 := by rw [← hT2]; exact chgT_range hr.2.2.2.2.2.2 (by omega)
  have HD := Lib.hid (And.intro hdo.1 hdo.2.1)
  have ho1 := ho.1
  have ho2 := ho.2.1
  have w1 : IntKind.i64.wrap (T2 - o - (T1 - o)) = T2 - o - (T1 - o) := i64_same _ (by omega)
  have x1 := wrap64_in (T2 - o - (T1 - o)) (by omega)
  rw [hT1, hD1] at hg1
  rw [hT2, hD2] at hg2
  rw [hT1, hT2] at hg hN
  have k3 : decide (T1 - o < D1) = false := decide_eq_false hg1
  have k4 : decide (T2 - o > D2) = false := decide_eq_false hg2
  have k5 : decide (T2 - o - (T1 - o) < 86400) = false := decide_eq_false hg
  obtain ⟨sb, off, rfl, hsb, hc⟩ := hR.at_ (by omega) (show 0 < 1 by omega)
  obtain ⟨E, hE⟩ : ∃ E, g 0 10 = E := ⟨_, rfl⟩
  have rE := hN.rE
  have rA := hN.rA
  rw [hE] at rE
  have e1 := loc_at hN.e1
  have e2 := loc_at hN.e2
  have e3 := loc_at hN.e3
  have e4 := loc_at hN.e4
  rw [hE] at e2 e3
  rw [show (!(o == o)) = false by simp] at e1 e4
  rw [show (!(o + E == o)) = true by simp; omega] at e2 e3
  rw [show T1 - o - 1 + o = T1 - 1 by omega] at e1
  rw [show T1 - o + (o + E) = T1 + E by omega] at e2
  rw [show T2 - o - 1 + (o + E) = T2 - 1 + E by omega] at e3
  rw [show T2 - o + o = T2 by omega] at e4
  obtain ⟨a1, m1⟩ := mom_ex (t := T1 - 1) (by unfold secOk; omega)
  obtain ⟨a2, m2⟩ := mom_ex (t := T1 + E) (by unfold secOk; omega)
  obtain ⟨a3, m3⟩ := mom_ex (t := T2 - 1 + E) (by unfold secOk; omega)
  obtain ⟨a4, m4⟩ := mom_ex (t := T2) (by unfold secOk; omega)
  obtain ⟨a5, m5⟩ := mom_ex (t := T1 + E - 1) (by unfold secOk; omega)
  obtain ⟨a6, m6⟩ := mom_ex (t := T2 + E - 1) (by unfold secOk; omega)
  rw [m1.v] at e1
  rw [m2.v] at e2
  rw [m3.v] at e3
  rw [m4.v] at e4
  have i1 := hN.i1
  have i2 := hN.i2
  rw [hE] at i1 i2
  obtain ⟨U0, hU0⟩ : ∃ U, T2 + E - 1 - (o + E) = U := ⟨_, rfl⟩
  obtain ⟨U1, hU1⟩ : ∃ U, T2 + E - 1 - (o + 0) = U := ⟨_, rfl⟩
  rw [hU0, hU1] at i2
  have hUU : U1 - U0 = E := by omega
  have hW1 : IntKind.i64.wrap (T1 - o - 1) = T1 - o - 1 ∧ IntKind.i64.wrap (T2 - o - 1) = T2 - o - 1 ∧ IntKind.i64.wrap (T1 + E - 1) = T1 + E - 1 ∧ IntKind.i64.wrap (T2 + E) = T2 + E ∧ IntKind.i64.wrap (T2 + E - 1) = T2 + E - 1 ∧ IntKind.i64.wrap (U1 - U0) = E := ⟨i64_same _ (by omega), i64_same _ (by omega), i64_same _ (by omega), i64_same _ (by omega), i64_same _ (by omega), by rw [hUU]; exact i64_same _ (by omega)⟩
  have HW1 := Lib.hid hW1
  have HW := Lib.hid (And.intro (wrap64_in (T1 - o - 1) (by omega)) (And.intro (wrap64_in (T2 - o - 1) (by omega)) (And.intro (wrap64_in (T1 + E - 1) (by omega)) (And.intro (wrap64_in (T2 + E) (by omega)) (And.intro (wrap64_in (T2 + E - 1) (by omega)) (show wrap64 (U1 - U0) = E by rw [hUU]; exact wrap64_in E (by omega)))))))
  have Hs1 := Lib.hid (show secOk (T1 + E - 1) by unfold secOk; omega)
  have Hs2 := Lib.hid (show secOk (T2 + E - 1) by unfold secOk; omega)
  have HN := Lib.hid hN
  have HE := Lib.hid (And.intro e1 (And.intro e2 (And.intro e3 e4)))
  have HI := Lib.hid (And.intro i1 i2)
  have M2 := Lib.hid m2
  have M4 := Lib.hid m4
  have M5 := Lib.hid m5
  have M6 := Lib.hid m6
  have Hc : Hid (∀ W, StZ b0 w o (some ⟨sb, off, none⟩) 1 cr g W → W.cell? ⟨sb, off + 10, none⟩ = some (.int .i64 E)) := fun W h => by
    obtain ⟨sb2, off2, e2, -, hc2⟩ := h.2.1.at_ (by omega) (show 0 < 1 by omega)
    injection e2 with e2; injection e2 with e3 e4; subst e3 e4
    have := hc2 10 (by omega)
    rw [hE, Nat.zero_mul, Nat.add_zero] at this
    exact this
  clear hR hL hi hT1 hT2 hF0 v1 v2 hy hD1 hD2 hdo ho hr t1 t2 ho1 ho2 hg hg1 hg2 hsb hc hE rE rA e1 e2 e3 e4 m1 m2 m3 m4 m5 m6 i1 i2 hU0 hU1 hUU hN hW1
  go_enter Tryd.func8, Tryd.ntmps8
  have c0 := hS.c0
  have c1 := hS.c1
  have HX := (by have h := alive_calls W1 hS.2.2.1; exact h)
  try unfold zonC at HX
  replace HX := Lib.hid HX
  have HT := Lib.hid hS
  clear hS
  try clear hb
  go_wp2_with fail
  refine HX.out.mono ?_
  rintro e w2 ⟨rfl, hb⟩
  have hS := HT.out.go hb
  clear HX HT c0 c1
  have c0 := hS.c0
  have c1 := hS.c1
  have HX := (by have h := zEdges_calls o (some ⟨sb, off, none⟩) 1 cr g y w2 hS.2.1 hS.2.2.1; rw [Hv.out.1, Hv.out.2.1, Hv.out.2.2] at h; exact h)
  try unfold zonC at HX
  replace HX := Lib.hid HX
  have HT := Lib.hid hS
  clear hS
  try clear hb
  go_wp2_with fail
  refine HX.out.mono ?_
  rintro e w3 ⟨rfl, hb⟩
  have hS := HT.out.go hb
  clear HX HT c0 c1
  have c0 := hS.c0
  have c1 := hS.c1
  have HX := (by have h := when_calls y 1 3 0 0 0 w3 hS.2.2.1; rw [HD.out.1] at h; exact h)
  try unfold zonC at HX
  replace HX := Lib.hid HX
  have HT := Lib.hid hS
  clear hS
  try clear hb
  go_wp2_with fail
  refine HX.out.mono ?_
  rintro e w4 ⟨rfl, hb⟩
  have hS := HT.out.go hb
  clear HX HT c0 c1
  have c0 := hS.c0
  have c1 := hS.c1
  have HX := (by have h := when_calls y 12 29 0 0 0 w4 hS.2.2.1; rw [HD.out.2] at h; exact h)
  try unfold zonC at HX
  replace HX := Lib.hid HX
  have HT := Lib.hid hS
  clear hS
  try clear hb
  go_wp2_with fail
  refine HX.out.mono ?_
  rintro e w5 ⟨rfl, hb⟩
  have hS := HT.out.go hb
  clear HX HT c0 c1
  have c10 := Hc.out _ hS
  clear HD
  have za := HW.out.1
  have zb := HW1.out.1
  have c0 := hS.c0
  have c1 := hS.c1
  have HX := (by have h := zLocal_calls o (some ⟨sb, off, none⟩) 1 cr g (T1 - o - 1) w5 hS.2.1 hS.2.2.1; rw [HN.out.e1.1, HE.out.1.1, HE.out.1.2] at h; exact h)
  try unfold zonC at HX
  replace HX := Lib.hid HX
  have HT := Lib.hid hS
  clear hS
  try clear hb
  go_wp2_with fail
  refine HX.out.mono ?_
  rintro e w6 ⟨rfl, hb⟩
  have hS := HT.out.go hb
  clear HX HT c0 c1
  have hst := bstep w6 (.cells #[.int .i64 (a1 0), .int .i64 (a1 1), .int .i64 (a1 2), .int .i64 (a1 3), .int .i64 (a1 4), .int .i64 (a1 5)] 44)
  have hS := hS.go hst
  clear hst
  clear c10 za zb k1 k2 k3 k4 k5 w1 x1
  have c0 := hS.c0
  have c1 := hS.c1
  have HX := (by have h := zLocal_calls o (some ⟨sb, off, none⟩) 1 cr g (T1 - o) _ hS.2.1 hS.2.2.1; rw [HN.out.e2.1, HE.out.2.1.1, HE.out.2.1.2] at h; exact h)
  try unfold zonC at HX
  replace HX := Lib.hid HX
  have HT := Lib.hid hS
  clear hS
  try clear hb
  go_wp2_with fail
  refine HX.out.mono ?_
  rintro e w7 ⟨rfl, hb⟩
  have hS := HT.out.go hb
  clear HX HT c0 c1
  have hst := bstep w7 (.cells #[.int .i64 (a2 0), .int .i64 (a2 1), .int .i64 (a2 2), .int .i64 (a2 3), .int .i64 (a2 4), .int .i64 (a2 5)] 44)
  have hS := hS.go hst
  have rx := World.alloc_heap_new w7 (.cells #[.int .i64 (a2 0), .int .i64 (a2 1), .int .i64 (a2 2), .int .i64 (a2 3), .int .i64 (a2 4), .int .i64 (a2 5)] 44)
  clear hst
  have za := HW.out.2.1
  have zb := HW1.out.2.1
  have c0 := hS.c0
  have c1 := hS.c1
  have rxc0 := cell_of_row _ w7.heap.size 0 _ _ _ rx
  have rxc1 := cell_of_row _ w7.heap.size 1 _ _ _ rx
  have rxc2 := cell_of_row _ w7.heap.size 2 _ _ _ rx
  have rxc3 := cell_of_row _ w7.heap.size 3 _ _ _ rx
  have rxc4 := cell_of_row _ w7.heap.size 4 _ _ _ rx
  have rxc5 := cell_of_row _ w7.heap.size 5 _ _ _ rx
  have HX := (by have h := zLocal_calls o (some ⟨sb, off, none⟩) 1 cr g (T2 - o - 1) _ hS.2.1 hS.2.2.1; rw [HN.out.e3.1, HE.out.2.2.1.1, HE.out.2.2.1.2] at h; exact h)
  try unfold zonC at HX
  replace HX := Lib.hid HX
  have HT := Lib.hid hS
  have Hrx := Lib.hid rx
  clear rx
  clear hS
  try clear hb
  go_wp2_with fail
  refine HX.out.mono ?_
  rintro e w8 ⟨rfl, hb⟩
  have hS := HT.out.go hb
  have rx := blk_below Hrx.out hb
  clear HX HT Hrx c0 c1 rxc0 rxc1 rxc2 rxc3 rxc4 rxc5
  have hst := bstep w8 (.cells #[.int .i64 (a3 0), .int .i64 (a3 1), .int .i64 (a3 2), .int .i64 (a3 3), .int .i64 (a3 4), .int .i64 (a3 5)] 44)
  have hS := hS.go hst
  have rx := blk_below rx hst
  clear hst
  clear za zb
  have c0 := hS.c0
  have c1 := hS.c1
  have rxc0 := cell_of_row _ w7.heap.size 0 _ _ _ rx
  have rxc1 := cell_of_row _ w7.heap.size 1 _ _ _ rx
  have rxc2 := cell_of_row _ w7.heap.size 2 _ _ _ rx
  have rxc3 := cell_of_row _ w7.heap.size 3 _ _ _ rx
  have rxc4 := cell_of_row _ w7.heap.size 4 _ _ _ rx
  have rxc5 := cell_of_row _ w7.heap.size 5 _ _ _ rx
  have HX := (by have h := zLocal_calls o (some ⟨sb, off, none⟩) 1 cr g (T2 - o) _ hS.2.1 hS.2.2.1; rw [HN.out.e4.1, HE.out.2.2.2.1, HE.out.2.2.2.2] at h; exact h)
  try unfold zonC at HX
  replace HX := Lib.hid HX
  have HT := Lib.hid hS
  have Hrx := Lib.hid rx
  clear rx
  clear hS
  try clear hb
  go_wp2_with fail
  refine HX.out.mono ?_
  rintro e w9 ⟨rfl, hb⟩
  have hS := HT.out.go hb
  have rx := blk_below Hrx.out hb
  clear HX HT Hrx c0 c1 rxc0 rxc1 rxc2 rxc3 rxc4 rxc5
  have hst := bstep w9 (.cells #[.int .i64 (a4 0), .int .i64 (a4 1), .int .i64 (a4 2), .int .i64 (a4 3), .int .i64 (a4 4), .int .i64 (a4 5)] 44)
  have hS := hS.go hst
  have rx := blk_below rx hst
  have ry := World.alloc_heap_new w9 (.cells #[.int .i64 (a4 0), .int .i64 (a4 1), .int .i64 (a4 2), .int .i64 (a4 3), .int .i64 (a4 4), .int .i64 (a4 5)] 44)
  clear hst
  have c0 := hS.c0
  have c1 := hS.c1
  have rxc0 := cell_of_row _ w7.heap.size 0 _ _ _ rx
  have rxc1 := cell_of_row _ w7.heap.size 1 _ _ _ rx
  have rxc2 := cell_of_row _ w7.heap.size 2 _ _ _ rx
  have rxc3 := cell_of_row _ w7.heap.size 3 _ _ _ rx
  have rxc4 := cell_of_row _ w7.heap.size 4 _ _ _ rx
  have rxc5 := cell_of_row _ w7.heap.size 5 _ _ _ rx
  have ryc0 := cell_of_row _ w9.heap.size 0 _ _ _ ry
  have ryc1 := cell_of_row _ w9.heap.size 1 _ _ _ ry
  have ryc2 := cell_of_row _ w9.heap.size 2 _ _ _ ry
  have ryc3 := cell_of_row _ w9.heap.size 3 _ _ _ ry
  have ryc4 := cell_of_row _ w9.heap.size 4 _ _ _ ry
  have ryc5 := cell_of_row _ w9.heap.size 5 _ _ _ ry
  have HX := (by have h := instant_calls (a2 0) (a2 1) (a2 2) (a2 3) (a2 4) (a2 5) _ hS.2.2.1; rw [M2.out.t, M2.out.e] at h; exact h)
  try unfold zonC at HX
  replace HX := Lib.hid HX
  have HT := Lib.hid hS
  have Hrx := Lib.hid rx
  have Hry := Lib.hid ry
  clear rx ry
  clear hS
  try clear hb
  go_wp2_with fail
  refine HX.out.mono ?_
  rintro e wa ⟨rfl, hb⟩
  have hS := HT.out.go hb
  have rx := blk_below Hrx.out hb
  have ry := blk_below Hry.out hb
  clear HX HT Hrx Hry c0 c1 rxc0 rxc1 rxc2 rxc3 rxc4 rxc5 ryc0 ryc1 ryc2 ryc3 ryc4 ryc5
  clear rx
  have c0 := hS.c0
  have c1 := hS.c1
  have ryc0 := cell_of_row _ w9.heap.size 0 _ _ _ ry
  have ryc1 := cell_of_row _ w9.heap.size 1 _ _ _ ry
  have ryc2 := cell_of_row _ w9.heap.size 2 _ _ _ ry
  have ryc3 := cell_of_row _ w9.heap.size 3 _ _ _ ry
  have ryc4 := cell_of_row _ w9.heap.size 4 _ _ _ ry
  have ryc5 := cell_of_row _ w9.heap.size 5 _ _ _ ry
  have HX := (by have h := instant_calls (a4 0) (a4 1) (a4 2) (a4 3) (a4 4) (a4 5) wa hS.2.2.1; rw [M4.out.t, M4.out.e] at h; exact h)
  try unfold zonC at HX
  replace HX := Lib.hid HX
  have HT := Lib.hid hS
  have Hry := Lib.hid ry
  clear ry
  clear hS
  try clear hb
  go_wp2_with fail
  refine HX.out.mono ?_
  rintro e wb ⟨rfl, hb⟩
  have hS := HT.out.go hb
  have ry := blk_below Hry.out hb
  clear HX HT Hry c0 c1 ryc0 ryc1 ryc2 ryc3 ryc4 ryc5
  clear ry
  have za := HW.out.2.2.1
  have zb := HW1.out.2.2.1
  have c0 := hS.c0
  have c1 := hS.c1
  have HX := (by have h := at_ok (T1 + E - 1) Hs1.out wb hS.2.2.1; rw [M5.out.v] at h; exact h)
  try unfold zonC at HX
  replace HX := Lib.hid HX
  have HT := Lib.hid hS
  clear hS
  try clear hb
  go_wp2_with fail
  refine HX.out.mono ?_
  rintro e wc ⟨rfl, hb⟩
  have hS := HT.out.go hb
  clear HX HT c0 c1
  have hst := bstep wc (.cells #[.int .i64 (a5 0), .int .i64 (a5 1), .int .i64 (a5 2), .int .i64 (a5 3), .int .i64 (a5 4), .int .i64 (a5 5)] 44)
  have hS := hS.go hst
  have rn := World.alloc_heap_new wc (.cells #[.int .i64 (a5 0), .int .i64 (a5 1), .int .i64 (a5 2), .int .i64 (a5 3), .int .i64 (a5 4), .int .i64 (a5 5)] 44)
  clear hst
  clear za zb
  have za := HW.out.2.2.2.1
  have zb := HW1.out.2.2.2.1
  have zc := HW.out.2.2.2.2.1
  have zd := HW1.out.2.2.2.2.1
  have c0 := hS.c0
  have c1 := hS.c1
  have rnc0 := cell_of_row _ wc.heap.size 0 _ _ _ rn
  have rnc1 := cell_of_row _ wc.heap.size 1 _ _ _ rn
  have rnc2 := cell_of_row _ wc.heap.size 2 _ _ _ rn
  have rnc3 := cell_of_row _ wc.heap.size 3 _ _ _ rn
  have rnc4 := cell_of_row _ wc.heap.size 4 _ _ _ rn
  have rnc5 := cell_of_row _ wc.heap.size 5 _ _ _ rn
  have HX := (by have h := at_ok (T2 + E - 1) Hs2.out _ hS.2.2.1; rw [M6.out.v] at h; exact h)
  try unfold zonC at HX
  replace HX := Lib.hid HX
  have HT := Lib.hid hS
  have Hrn := Lib.hid rn
  clear rn
  clear hS
  try clear hb
  go_wp2_with fail
  refine HX.out.mono ?_
  rintro e wd ⟨rfl, hb⟩
  have hS := HT.out.go hb
  have rn := blk_below Hrn.out hb
  clear HX HT Hrn c0 c1 rnc0 rnc1 rnc2 rnc3 rnc4 rnc5
  clear za zb zc zd
  have hst := bstep wd (.cells #[.int .i64 (a6 0), .int .i64 (a6 1), .int .i64 (a6 2), .int .i64 (a6 3), .int .i64 (a6 4), .int .i64 (a6 5)] 44)
  have hS := hS.go hst
  have rn := blk_below rn hst
  have ra := World.alloc_heap_new wd (.cells #[.int .i64 (a6 0), .int .i64 (a6 1), .int .i64 (a6 2), .int .i64 (a6 3), .int .i64 (a6 4), .int .i64 (a6 5)] 44)
  clear hst
  have c0 := hS.c0
  have c1 := hS.c1
  have rnc0 := cell_of_row _ wc.heap.size 0 _ _ _ rn
  have rnc1 := cell_of_row _ wc.heap.size 1 _ _ _ rn
  have rnc2 := cell_of_row _ wc.heap.size 2 _ _ _ rn
  have rnc3 := cell_of_row _ wc.heap.size 3 _ _ _ rn
  have rnc4 := cell_of_row _ wc.heap.size 4 _ _ _ rn
  have rnc5 := cell_of_row _ wc.heap.size 5 _ _ _ rn
  have rac0 := cell_of_row _ wd.heap.size 0 _ _ _ ra
  have rac1 := cell_of_row _ wd.heap.size 1 _ _ _ ra
  have rac2 := cell_of_row _ wd.heap.size 2 _ _ _ ra
  have rac3 := cell_of_row _ wd.heap.size 3 _ _ _ ra
  have rac4 := cell_of_row _ wd.heap.size 4 _ _ _ ra
  have rac5 := cell_of_row _ wd.heap.size 5 _ _ _ ra
  have HX := (by have h := insts_ok o (some ⟨sb, off, none⟩) 1 cr g (a5 0) (a5 1) (a5 2) (a5 3) (a5 4) (a5 5) HN.out.ok M5.out.d M5.out.c _ hS.2.1 hS.2.2.1; rw [M5.out.t, HI.out.1] at h; exact h)
  try unfold zonC at HX
  replace HX := Lib.hid HX
  have HT := Lib.hid hS
  have Hrn := Lib.hid rn
  have Hra := Lib.hid ra
  clear rn ra
  clear hS
  try clear hb
  go_wp2_with fail
  refine HX.out.mono ?_
  rintro e we ⟨⟨B1, q1, rfl, -⟩, hb⟩
  have hS := HT.out.go hb
  have rn := blk_below Hrn.out hb
  have ra := blk_below Hra.out hb
  clear HX HT Hrn Hra c0 c1 rnc0 rnc1 rnc2 rnc3 rnc4 rnc5 rac0 rac1 rac2 rac3 rac4 rac5
  clear rn
  rw [show ([] : List Int).length = 0 from rfl]
  have c0 := hS.c0
  have c1 := hS.c1
  have rac0 := cell_of_row _ wd.heap.size 0 _ _ _ ra
  have rac1 := cell_of_row _ wd.heap.size 1 _ _ _ ra
  have rac2 := cell_of_row _ wd.heap.size 2 _ _ _ ra
  have rac3 := cell_of_row _ wd.heap.size 3 _ _ _ ra
  have rac4 := cell_of_row _ wd.heap.size 4 _ _ _ ra
  have rac5 := cell_of_row _ wd.heap.size 5 _ _ _ ra
  have HX := (by have h := insts_ok o (some ⟨sb, off, none⟩) 1 cr g (a6 0) (a6 1) (a6 2) (a6 3) (a6 4) (a6 5) HN.out.ok M6.out.d M6.out.c we hS.2.1 hS.2.2.1; rw [M6.out.t, HI.out.2] at h; exact h)
  try unfold zonC at HX
  replace HX := Lib.hid HX
  have HT := Lib.hid hS
  have Hra := Lib.hid ra
  clear ra
  clear hS
  try clear hb
  go_wp2_with fail
  refine HX.out.mono ?_
  rintro e wf ⟨⟨B2, q2, rfl, hRd⟩, hb⟩
  have hS := HT.out.go hb
  have ra := blk_below Hra.out hb
  clear HX HT Hra c0 c1 rac0 rac1 rac2 rac3 rac4 rac5
  clear ra
  rw [show [U0, U1].length = 2 from rfl]
  obtain ⟨lb, lo, rfl, hlb, hl0⟩ := hRd.at_ (k := 0) (by show 0 < 2; omega)
  obtain ⟨lb2, lo2, he2, -, hl1⟩ := hRd.at_ (k := 1) (by show 1 < 2; omega)
  injection he2 with he2
  injection he2 with e7 e8
  subst e7 e8
  rw [Nat.add_zero, show [U0, U1].getD 0 0 = U0 from rfl] at hl0
  rw [show [U0, U1].getD 1 0 = U1 from rfl] at hl1
  have HB := Lib.hid hS.2.2.2
  clear hRd hlb hS hb
  go_upto_region 24 with fail
  have za := HW.out.2.2.2.2.2
  have zb := HW1.out.2.2.2.2.2
  go_quiet (fail)
  clear za zb
  go_wp2_with fail
  go_ret
  exact ⟨rfl, by first | exact HB.out | exact HB.out.drewN _⟩
end Go.Proofs.YtoipmhmghcngcaaDoor
