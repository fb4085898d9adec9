/-
  The law ZoneOffsets: a case of a zone that may be, walked. Conditions stand at each theorem.
-/
import Derived.Test.YtoipmhmghcngcaaDoorZoneOffs0
namespace Go.Proofs.YtoipmhmghcngcaaDoor
open Go Go.RowKit Go.Kw Go.Kw.Cv Go.Shelf
set_option linter.unusedVariables false
set_option linter.unusedSimpArgs false

attribute [local go_sem] eq_rul eq_mom
set_option maxRecDepth 100000 in
set_option maxHeartbeats 32000000 in
theorem zo_good1 (o : Int) (A : Option Addr) (lr cr : Nat) (g : Nat → Nat → Int) (y t : Int) (w : World) (hR : RdZ w A lr cr g) (hl : lr ≤ 100) (hok : zonOk o lr g) (hi : OfIs o lr g y) (he : offE o lr g t = 0) (hL : Lens w) :
    Calls Tryd.prog 3 #[.agg #[.int .i64 o, .slice A lr cr], .int .i64 y, .int .i64 t] w fun e w' => e = .returned (.bool true) ∧ Below w.heap.size w w' := by
  obtain ⟨b0, hb0⟩ : ∃ b0, w.heap.size = b0 := ⟨_, rfl⟩
  have Hb0 := Lib.hid hb0
  have hS : StZ b0 w o A lr cr g (w.alloc (.cells #[.int .i64 o, .slice A lr cr] 24)) := hb0 ▸ StZ.new hR hL
  obtain ⟨W1, hW1⟩ : ∃ W1, w.alloc (.cells #[.int .i64 o, .slice A lr cr] 24) = W1 := ⟨_, rfl⟩
  rw [hW1] at hS
  clear hR hL
  have kl : decide ((lr : Int) > 100) = false := decide_eq_false (by omega)
  have Hv := Lib.hid (show decide (zonOk o lr g) = true ∧ zonE o lr g = 0 from ⟨decide_eq_true hok, if_pos hok⟩)
  have Hok := Lib.hid hok
  clear hl hok
  go_enter Tryd.func3, Tryd.ntmps3
  have c0 := hS.c0
  have c1 := hS.c1
  have HX := (by have h := refMayZ_calls o A lr cr g W1 hS.2.1; rw [Hv.out.1] at h; exact h)
  unfold zonC at HX
  replace HX := Lib.hid HX
  have HT := Lib.hid hS
  clear hS
  try clear hb
  go_wp2_with fail
  refine HX.out.mono ?_
  rintro e w2 ⟨rfl, hb⟩
  have hS := HT.out.go hb
  clear HX HT c0 c1
  have c0 := hS.c0
  have c1 := hS.c1
  have HX := (by have h := zCheck_calls o A lr cr g w2 hS.2.1; rw [Hv.out.2] at h; exact h)
  unfold zonC at HX
  replace HX := Lib.hid HX
  have HT := Lib.hid hS
  clear hS
  try clear hb
  go_wp2_with fail
  refine HX.out.mono ?_
  rintro e w3 ⟨rfl, hb⟩
  have hS := HT.out.go hb
  clear HX HT c0 c1
  clear Hv
  have c0 := hS.c0
  have c1 := hS.c1
  have HT := Lib.hid hS
  clear hS hb
  go_upto_region 5 with fail
  clear c0 c1
  have hS := HT.out
  clear HT
  obtain ⟨q1, q2⟩ := of_yes hi
  obtain ⟨hk, hy⟩ := of_year hi
  have v1 : edA o lr g y = onT g (rulF g y lr) y - o := if_pos hi
  have v2 : edB o lr g y = offT g (rulF g y lr) y - o := if_pos hi
  have v3 : reA lr g y = onT g (rulF g y lr) y := if_pos hi.2
  have v4 : reB lr g y = offT g (rulF g y lr) y := if_pos hi.2
  have v5 : idxV lr g y = (rulF g y lr : Int) := if_pos hi.2
  have hlt := hi.2
  have hk2 := hk
  unfold rulOk at hk2
  unfold onT at v1 v3
  unfold offT at v2 v4
  obtain ⟨F, hF⟩ : ∃ F, rulF g y lr = F := ⟨_, rfl⟩
  rw [hF] at q1 hk v1 v2 v3 v4 v5 hlt hk2
  have t1 := chgT_range hk2.2.2.2.2.2.1 hy
  have t2 := chgT_range hk2.2.2.2.2.2.2 hy
  obtain ⟨T1, hT1⟩ : ∃ T, chgT y (g F 2) (g F 3) (g F 4) (g F 5) = T := ⟨_, rfl⟩
  obtain ⟨T2, hT2⟩ : ∃ T, chgT y (g F 6) (g F 7) (g F 8) (g F 9) = T := ⟨_, rfl⟩
  rw [hT1] at v1 v3 t1
  rw [hT2] at v2 v4 t2
  have ho := hi.1
  unfold zonOk at ho
  have b1 : -9223372036854775808 ≤ T1 - o ∧ T1 - o ≤ 9223372036854775807 := by omega
  have b2 : -9223372036854775808 ≤ T2 - o ∧ T2 - o ≤ 9223372036854775807 := by omega
  have kJ1 : (0 : Int) ≤ F := by omega
  have kJ2 : (F : Int) < lr := by omega
  have kG : decide ((F : Int) ≥ 0) = true := decide_eq_true (by omega)
  have hc := hS.2.1.at_ (by omega) hlt
  have Hv := Lib.hid (And.intro q1 (And.intro q2 (And.intro v1 (And.intro v2 (And.intro v3 (And.intro v4 v5))))))
  have w1 := i64_same (T1 - o) b1
  have w2 := i64_same (T2 - o) b2
  have XX := Lib.hid (And.intro (wrap64_in (T1 - o) b1) (wrap64_in (T2 - o) b2))
  obtain ⟨sb, off, rfl, hsb, hcc⟩ := hc
  have Hcc := Lib.hid (And.intro hsb hcc)
  have Hlt := Lib.hid hlt
  clear q1 q2 v1 v2 v3 v4 v5 hk hy hk2 hF t1 t2 hT1 hT2 ho b1 b2 hlt hsb hcc hi
  have c0 := hS.c0
  have c1 := hS.c1
  have HX := (by have h := zOf_calls o (some ⟨sb, off, none⟩) lr cr g y w3 hS.2.1; rw [Hv.out.1, Hv.out.2.1] at h; unfold rulV at h; exact h)
  unfold zonC at HX
  replace HX := Lib.hid HX
  have HT := Lib.hid hS
  clear hS
  try clear hb
  go_wp2_with fail
  refine HX.out.mono ?_
  rintro e w4 ⟨rfl, hb⟩
  have hS := HT.out.go hb
  clear HX HT c0 c1
  have hrr : (w4.alloc (.cells #[.int .i64 (g F 0), .int .i64 (g F 1), .int .i64 (g F 2), .int .i64 (g F 3), .int .i64 (g F 4), .int .i64 (g F 5), .int .i64 (g F 6), .int .i64 (g F 7), .int .i64 (g F 8), .int .i64 (g F 9), .int .i64 (g F 10)] 31)).heap[w4.heap.size]? = some (.cells #[.int .i64 (g F 0), .int .i64 (g F 1), .int .i64 (g F 2), .int .i64 (g F 3), .int .i64 (g F 4), .int .i64 (g F 5), .int .i64 (g F 6), .int .i64 (g F 7), .int .i64 (g F 8), .int .i64 (g F 9), .int .i64 (g F 10)] 31 (0, 0)) := World.alloc_heap_new w4 _
  have hS := hS.go (bstep w4 (.cells #[.int .i64 (g F 0), .int .i64 (g F 1), .int .i64 (g F 2), .int .i64 (g F 3), .int .i64 (g F 4), .int .i64 (g F 5), .int .i64 (g F 6), .int .i64 (g F 7), .int .i64 (g F 8), .int .i64 (g F 9), .int .i64 (g F 10)] 31))
  have c0 := hS.c0
  have c1 := hS.c1
  have HX := (by have h := zEdges_calls o (some ⟨sb, off, none⟩) lr cr g y _ hS.2.1 hS.2.2.1; rw [Hv.out.2.1, Hv.out.2.2.1, Hv.out.2.2.2.1] at h; exact h)
  unfold zonC at HX
  replace HX := Lib.hid HX
  have HT := Lib.hid hS
  clear hS
  try clear hb
  go_wp2_with fail
  refine HX.out.mono ?_
  rintro e w5 ⟨rfl, hb⟩
  have hS := HT.out.go hb
  clear HX HT c0 c1
  have hrr := blk_below hrr hb
  have c0 := hS.c0
  have c1 := hS.c1
  have HX := (by have h := refRule_calls o (some ⟨sb, off, none⟩) lr cr g y w5 hS.2.1; rw [Hv.out.2.2.2.2.2.2] at h; exact h)
  unfold zonC at HX
  replace HX := Lib.hid HX
  have HT := Lib.hid hS
  clear hS
  try clear hb
  go_wp2_with fail
  refine HX.out.mono ?_
  rintro e w6 ⟨rfl, hb⟩
  have hS := HT.out.go hb
  clear HX HT c0 c1
  have hrr := blk_below hrr hb
  have c0 := hS.c0
  have c1 := hS.c1
  have HX := (by have h := refEdges_calls o (some ⟨sb, off, none⟩) lr cr g y Hok.out w6 hS.2.1; rw [Hv.out.2.1, Hv.out.2.2.2.2.1, Hv.out.2.2.2.2.2.1] at h; exact h)
  unfold zonC at HX
  replace HX := Lib.hid HX
  have HT := Lib.hid hS
  clear hS
  try clear hb
  go_wp2_with fail
  refine HX.out.mono ?_
  rintro e w7 ⟨rfl, hb⟩
  have hS := HT.out.go hb
  clear HX HT c0 c1
  have hrr := blk_below hrr hb
  have c0 := hS.c0
  have c1 := hS.c1
  have hc' : ∀ j, j < 11 → w7.cell? ⟨sb, off + F * 11 + j, none⟩ = some (.int .i64 (g F j)) := by
    obtain ⟨sb2, off2, e2, -, hc2⟩ := hS.2.1.at_ (by have := Hlt.out; omega) Hlt.out
    injection e2 with e2; injection e2 with e3 e4; subst e3 e4
    exact hc2
  have r0 : w7.cell? ⟨sb, off + F * 11, none⟩ = some (.int .i64 (g F 0)) := hc' 0 (by omega)
  have r1 := hc' 1 (by omega)
  have r2 := hc' 2 (by omega)
  have r3 := hc' 3 (by omega)
  have r4 := hc' 4 (by omega)
  have r5 := hc' 5 (by omega)
  have r6 := hc' 6 (by omega)
  have r7 := hc' 7 (by omega)
  have r8 := hc' 8 (by omega)
  have r9 := hc' 9 (by omega)
  have r10 := hc' 10 (by omega)
  have d0 := cell_of_row w7 w4.heap.size 0 _ _ _ hrr
  have d1 := cell_of_row w7 w4.heap.size 1 _ _ _ hrr
  have d2 := cell_of_row w7 w4.heap.size 2 _ _ _ hrr
  have d3 := cell_of_row w7 w4.heap.size 3 _ _ _ hrr
  have d4 := cell_of_row w7 w4.heap.size 4 _ _ _ hrr
  have d5 := cell_of_row w7 w4.heap.size 5 _ _ _ hrr
  have d6 := cell_of_row w7 w4.heap.size 6 _ _ _ hrr
  have d7 := cell_of_row w7 w4.heap.size 7 _ _ _ hrr
  have d8 := cell_of_row w7 w4.heap.size 8 _ _ _ hrr
  have d9 := cell_of_row w7 w4.heap.size 9 _ _ _ hrr
  have d10 := cell_of_row w7 w4.heap.size 10 _ _ _ hrr
  have x1 := XX.out.1
  have x2 := XX.out.2
  have HT := Lib.hid hS
  clear hS hb hrr hc'
  go_upto_region 12 with fail
  go_quiet (fail)
  clear c0 c1 d0 r0 d1 r1 d2 r2 d3 r3 d4 r4 d5 r5 d6 r6 d7 r7 d8 r8 d9 r9 d10 r10 x1 x2 w1 w2 kJ1 kJ2 kG
  have hS := HT.out.go ((Below.refl w7.heap.size w7).drewN nq)
  clear HT
  have hs := off_sec he
  have u1 : locV o lr g t = momV (t + offV o lr g t) := if_pos he
  have u2 : locS o lr g t = !(offV o lr g t == o) := if_pos he
  have u3 : dayQ o lr g t = (t + offV o lr g t) / 86400 := if_pos he
  have u4 : minQ o lr g t = (t + offV o lr g t) % 86400 / 60 := if_pos he
  obtain ⟨n, hn⟩ : ∃ n, offV o lr g t = n := ⟨_, rfl⟩
  rw [hn] at hs u1 u2 u3 u4
  unfold momV at u1
  obtain ⟨u, hu⟩ : ∃ u, t + n = u := ⟨_, rfl⟩
  rw [hu] at hs u1 u3 u4
  obtain ⟨hokD, hday⟩ := zD_spec _ (sec_day hs)
  have HO := refOf_calls _ _ _ hokD
  rw [hday] at HO
  unfold secOk at hs
  obtain ⟨q, hq⟩ : ∃ q, u / 86400 = q := ⟨_, rfl⟩
  obtain ⟨cl, hcl⟩ : ∃ c, u % 86400 = c := ⟨_, rfl⟩
  rw [hq] at u1 u3 HO
  rw [hcl] at u1 u4
  obtain ⟨y1, hy1⟩ : ∃ y, (zD q).1 = y := ⟨_, rfl⟩
  obtain ⟨y2, hy2⟩ : ∃ y, (zD q).2.1 = y := ⟨_, rfl⟩
  obtain ⟨y3, hy3⟩ : ∃ y, (zD q).2.2 = y := ⟨_, rfl⟩
  rw [hy1, hy2, hy3] at u1 HO
  obtain ⟨Bn, hBn⟩ : ∃ Bn, (n == o) = Bn := ⟨_, rfl⟩
  rw [hBn] at u2
  have kb : (n != o) = !Bn := by show (!(n == o)) = !Bn; rw [hBn]
  have hcr : 0 ≤ cl ∧ cl < 86400 := by omega
  have hqr : 0 ≤ q ∧ q ≤ 2932896 := by omega
  have bu : -9223372036854775808 ≤ u ∧ u ≤ 9223372036854775807 := by omega
  have m1 : u.tdiv 86400 = q := by rw [Int.tdiv_eq_ediv_of_nonneg (by omega)]; exact hq
  have m2 : u.tmod 86400 = cl := by rw [Int.tmod_eq_emod_of_nonneg (by omega)]; exact hcl
  have m3 : cl.tdiv 3600 = cl / 3600 := Int.tdiv_eq_ediv_of_nonneg hcr.1
  have m4 : cl.tmod 3600 = cl % 3600 := Int.tmod_eq_emod_of_nonneg hcr.1
  have m5 : (cl % 3600).tdiv 60 = cl / 60 % 60 := by rw [Int.tdiv_eq_ediv_of_nonneg (by omega)]; omega
  have m6 : cl.tmod 60 = cl % 60 := Int.tmod_eq_emod_of_nonneg hcr.1
  have m7 : cl.tdiv 60 = cl / 60 := Int.tdiv_eq_ediv_of_nonneg hcr.1
  have n1 := i64_same q (by omega)
  have n2 := i64_same cl (by omega)
  have n3 := i64_same (cl / 3600) (by omega)
  have n4 := i64_same (cl % 3600) (by omega)
  have n5 := i64_same (cl / 60 % 60) (by omega)
  have n6 := i64_same (cl % 60) (by omega)
  have n7 := i64_same (cl / 60) (by omega)
  have n8 : IntKind.i64.wrap (t + n) = u := by rw [hu]; exact i64_same u bu
  have HU := Lib.hid (And.intro u1 (And.intro u2 (And.intro u3 (And.intro u4 (And.intro he hn)))))
  have HO2 := Lib.hid HO
  have X9 : Hid (wrap64 (t + n) = u) := by show _ = _; rw [hu]; exact wrap64_in u bu
  clear HO hs u1 u2 u3 u4 hn hu hokD hday hq hcl hy1 hy2 hy3 hBn hcr hqr bu he
  have c0 := hS.c0
  have c1 := hS.c1
  have HX := (by have h := zOffset_calls o (some ⟨sb, off, none⟩) lr cr g t _ hS.2.1 hS.2.2.1; rw [HU.out.2.2.2.2.1, HU.out.2.2.2.2.2] at h; exact h)
  unfold zonC at HX
  replace HX := Lib.hid HX
  have HT := Lib.hid hS
  clear hS
  try clear hb
  go_wp2_with fail
  refine HX.out.mono ?_
  rintro e wa ⟨rfl, hb⟩
  have hS := HT.out.go hb
  clear HX HT c0 c1
  have c0 := hS.c0
  have c1 := hS.c1
  have HX := (by have h := refOffset_calls o (some ⟨sb, off, none⟩) lr cr g t wa hS.2.1; rw [HU.out.2.2.2.2.1, HU.out.2.2.2.2.2] at h; exact h)
  unfold zonC at HX
  replace HX := Lib.hid HX
  have HT := Lib.hid hS
  clear hS
  try clear hb
  go_wp2_with fail
  refine HX.out.mono ?_
  rintro e wb ⟨rfl, hb⟩
  have hS := HT.out.go hb
  clear HX HT c0 c1
  have c0 := hS.c0
  have c1 := hS.c1
  have HX := (by have h := zLocal_calls o (some ⟨sb, off, none⟩) lr cr g t wb hS.2.1 hS.2.2.1; rw [HU.out.2.2.2.2.1, HU.out.1, HU.out.2.1] at h; exact h)
  unfold zonC at HX
  replace HX := Lib.hid HX
  have HT := Lib.hid hS
  clear hS
  try clear hb
  go_wp2_with fail
  refine HX.out.mono ?_
  rintro e wd ⟨rfl, hb⟩
  have hS := HT.out.go hb
  clear HX HT c0 c1
  have hrm : (wd.alloc (.cells #[.int .i64 y1, .int .i64 y2, .int .i64 y3, .int .i64 (cl / 3600), .int .i64 (cl / 60 % 60), .int .i64 (cl % 60)] 44)).heap[wd.heap.size]? = some (.cells #[.int .i64 y1, .int .i64 y2, .int .i64 y3, .int .i64 (cl / 3600), .int .i64 (cl / 60 % 60), .int .i64 (cl % 60)] 44 (0, 0)) := World.alloc_heap_new wd _
  have hS := hS.go (bstep wd (.cells #[.int .i64 y1, .int .i64 y2, .int .i64 y3, .int .i64 (cl / 3600), .int .i64 (cl / 60 % 60), .int .i64 (cl % 60)] 44))
  have c0 := hS.c0
  have c1 := hS.c1
  have HX := (by have h := zDay_calls o (some ⟨sb, off, none⟩) lr cr g t _ hS.2.1 hS.2.2.1; rw [HU.out.2.2.2.2.1, HU.out.2.2.1, HU.out.2.2.2.1] at h; exact h)
  unfold zonC at HX
  replace HX := Lib.hid HX
  have HT := Lib.hid hS
  clear hS
  try clear hb
  go_wp2_with fail
  refine HX.out.mono ?_
  rintro e we ⟨rfl, hb⟩
  have hS := HT.out.go hb
  clear HX HT c0 c1
  have hrm := blk_below hrm hb
  have c0 := hS.c0
  have p0 := cell_of_row we wd.heap.size 0 _ _ _ hrm
  have p1 := cell_of_row we wd.heap.size 1 _ _ _ hrm
  have p2 := cell_of_row we wd.heap.size 2 _ _ _ hrm
  have p3 := cell_of_row we wd.heap.size 3 _ _ _ hrm
  have p4 := cell_of_row we wd.heap.size 4 _ _ _ hrm
  have p5 := cell_of_row we wd.heap.size 5 _ _ _ hrm
  have HB := Lib.hid hS.2.2.2
  have x9 := X9.out
  clear hS hb hrm
  go_wp2_with fail
  refine (HO2.out _).mono ?_
  rintro e wf ⟨rfl, ea⟩
  rw [ea]; clear ea wf
  go_wp2_with fail
  clear x9
  go_ret
  exact ⟨rfl, HB.out⟩
end Go.Proofs.YtoipmhmghcngcaaDoor
