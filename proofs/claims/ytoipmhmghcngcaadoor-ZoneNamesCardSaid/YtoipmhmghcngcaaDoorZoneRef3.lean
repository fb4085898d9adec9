/-
  The document's Offset, walked. Conditions stand at each theorem.
-/
import Derived.Test.YtoipmhmghcngcaaDoorZoneRef2
namespace Go.Proofs.YtoipmhmghcngcaaDoor
open Go Go.RowKit Go.Kw Go.Kw.Cv Go.Shelf
set_option linter.unusedVariables false
set_option linter.unusedSimpArgs false

noncomputable def summS (o : Int) (lr : Nat) (g : Nat → Nat → Int) (s : Int) : Bool := ofB o lr g (zD (s / 86400)).1 && sumB (reA lr g (zD (s / 86400)).1) (reB lr g (zD (s / 86400)).1) s
theorem summ_ext {o : Int} {lr : Nat} {g : Nat → Nat → Int} (hok : zonOk o lr g) (s : Int) : extV g lr s = if summS o lr g s = true then g (rulF g (zD (s / 86400)).1 lr) 10 else 0 := by
  unfold extV summS
  by_cases hi : rulF g (zD (s / 86400)).1 lr < lr
  · rw [if_pos hi, (of_yes (show OfIs o lr g _ from ⟨hok, hi⟩)).2, Bool.true_and, show reA lr g (zD (s / 86400)).1 = onT g (rulF g (zD (s / 86400)).1 lr) (zD (s / 86400)).1 from if_pos hi, show reB lr g (zD (s / 86400)).1 = offT g (rulF g (zD (s / 86400)).1 lr) (zD (s / 86400)).1 from if_pos hi]
  · rw [if_neg hi, (of_not (show ¬ OfIs o lr g _ from fun h => hi h.2)).2, Bool.false_and]
    rfl
theorem summ_in {o : Int} {lr : Nat} {g : Nat → Nat → Int} {s : Int} (h : summS o lr g s = true) : rulF g (zD (s / 86400)).1 lr < lr := by
  unfold summS at h
  rw [Bool.and_eq_true] at h
  have h1 := h.1
  unfold ofB at h1
  rw [decide_eq_true_eq] at h1
  exact h1.2
set_option maxRecDepth 100000 in
set_option maxHeartbeats 16000000 in
theorem refOffset_no (o : Int) (A : Option Addr) (lr cr : Nat) (g : Nat → Nat → Int) (t : Int) (h : ¬ (zonOk o lr g ∧ secOk (t + o))) (w : World) (hR : RdZ w A lr cr g) :
    Calls Tryd.prog 16 #[zonC o A lr cr, .int .i64 t] w fun e w' => e = .returned (.tuple #[.int .i64 (offV o lr g t), .int .i64 (offE o lr g t)]) ∧ Below w.heap.size w w' := by
  obtain ⟨b0, hb0⟩ : ∃ b0, w.heap.size = b0 := ⟨_, rfl⟩
  obtain ⟨W1, hW1⟩ : ∃ W1, w.alloc (.cells #[.int .i64 o, .slice A lr cr] 24) = W1 := ⟨_, rfl⟩
  have hst1 : Below w.heap.size w W1 := hW1 ▸ bstep w _
  have hr1 : W1.heap[b0]? = some (.cells #[.int .i64 o, .slice A lr cr] 24 (0, 0)) := by rw [← hb0, ← hW1]; exact World.alloc_heap_new w _
  have e0 := cell_of_row W1 b0 0 _ _ _ hr1
  have e1 := cell_of_row W1 b0 1 _ _ _ hr1
  have HM := refMayZ_calls o A lr cr g W1 (hR.go hst1)
  unfold zonC at HM ⊢
  by_cases hok : zonOk o lr g
  · rw [decide_eq_true hok] at HM
    replace HM := Lib.hid HM
    have hs : ¬ secOk (t + o) := fun h' => h ⟨hok, h'⟩
    obtain ⟨v1, v2⟩ := zoff_setup (t := t) hok (fun h => hs h.1)
    rw [v1, v2]
    have ho := hok
    unfold zonOk at ho
    unfold secOk at hs
    clear v1 v2 hok h hR
    by_cases hx : t < -100000
    · have k1 : decide (t < -100000) = true := decide_eq_true hx
      clear ho hs hx hr1
      go_enter Tryd.func16, Tryd.ntmps16
      go_wp2_with fail
      refine HM.out.mono ?_
      rintro e w3 ⟨rfl, hb3⟩
      have hbb := bnext hst1 hb3
      go_wp2_with fail
      go_ret2
      exact ⟨rfl, hbb⟩
    have k1 : decide (t < -100000) = false := decide_eq_false hx
    by_cases hy : t > 253402400800
    · have k2 : decide (t > 253402400800) = true := decide_eq_true hy
      clear ho hs hx hy hr1
      go_enter Tryd.func16, Tryd.ntmps16
      go_wp2_with fail
      refine HM.out.mono ?_
      rintro e w3 ⟨rfl, hb3⟩
      have hbb := bnext hst1 hb3
      go_wp2_with fail
      go_ret2
      exact ⟨rfl, hbb⟩
    have k2 : decide (t > 253402400800) = false := decide_eq_false hy
    obtain ⟨s, hsv⟩ : ∃ s, t + o = s := ⟨_, rfl⟩
    rw [hsv] at hs
    have hb1 : -9223372036854775808 ≤ s ∧ s ≤ 9223372036854775807 := by omega
    have w1 : IntKind.i64.wrap (t + o) = s := by rw [hsv]; exact i64_same s hb1
    have X1 : Hid (wrap64 (t + o) = s) := by show _ = _; rw [hsv]; exact wrap64_in s hb1
    by_cases hz : s < 0
    · have k3 : decide (s < 0) = true := decide_eq_true hz
      clear ho hs hx hy hz hsv hb1
      go_enter Tryd.func16, Tryd.ntmps16
      go_wp2_with fail
      refine HM.out.mono ?_
      rintro e w3 ⟨rfl, hb3⟩
      have e0 := cell_of_row w3 b0 0 _ _ _ (blk_below hr1 hb3)
      have hbb := bnext hst1 hb3
      have x1 := X1.out
      clear hr1 hst1 hW1 hb3 e1
      go_wp2_with fail
      clear x1
      go_ret2
      exact ⟨rfl, hbb⟩
    have k3 : decide (s < 0) = false := decide_eq_false hz
    have k4 : decide (s ≥ 253402300800) = true := decide_eq_true (by omega)
    clear ho hs hx hy hz hsv hb1
    go_enter Tryd.func16, Tryd.ntmps16
    go_wp2_with fail
    refine HM.out.mono ?_
    rintro e w3 ⟨rfl, hb3⟩
    have e0 := cell_of_row w3 b0 0 _ _ _ (blk_below hr1 hb3)
    have hbb := bnext hst1 hb3
    have x1 := X1.out
    clear hr1 hst1 hW1 hb3 e1
    go_wp2_with fail
    clear x1
    go_ret2
    exact ⟨rfl, hbb⟩
  · rw [decide_eq_false hok] at HM
    replace HM := Lib.hid HM
    have v1 : offE o lr g t = 70 := if_neg hok
    have v2 : offV o lr g t = 0 := off_v o lr g t 70 v1 (by decide)
    rw [v1, v2]
    clear v1 v2 hok h hR hr1
    go_enter Tryd.func16, Tryd.ntmps16
    go_wp2_with fail
    refine HM.out.mono ?_
    rintro e w3 ⟨rfl, hb3⟩
    have hbb := bnext hst1 hb3
    go_wp2_with fail
    go_ret2
    exact ⟨rfl, hbb⟩
set_option maxRecDepth 100000 in
set_option maxHeartbeats 32000000 in
theorem refOffset_yes (o : Int) (A : Option Addr) (lr cr : Nat) (g : Nat → Nat → Int) (t : Int) (hok : zonOk o lr g) (hs : secOk (t + o)) (w : World) (hR : RdZ w A lr cr g) :
    Calls Tryd.prog 16 #[zonC o A lr cr, .int .i64 t] w fun e w' => e = .returned (.tuple #[.int .i64 (offV o lr g t), .int .i64 (offE o lr g t)]) ∧ Below w.heap.size w w' := by
  obtain ⟨b0, hb0⟩ : ∃ b0, w.heap.size = b0 := ⟨_, rfl⟩
  have Hb0 := Lib.hid hb0
  obtain ⟨W1, hW1⟩ : ∃ W1, w.alloc (.cells #[.int .i64 o, .slice A lr cr] 24) = W1 := ⟨_, rfl⟩
  have hst1 : Below w.heap.size w W1 := hW1 ▸ bstep w _
  have hr1 : W1.heap[b0]? = some (.cells #[.int .i64 o, .slice A lr cr] 24 (0, 0)) := by rw [← hb0, ← hW1]; exact World.alloc_heap_new w _
  have e0 := cell_of_row W1 b0 0 _ _ _ hr1
  have e1 := cell_of_row W1 b0 1 _ _ _ hr1
  have HM := refMayZ_calls o A lr cr g W1 (hR.go hst1)
  rw [decide_eq_true hok] at HM
  replace HM := Lib.hid HM
  have ho := hok
  unfold zonOk at ho
  have hsr := hs
  unfold secOk at hsr
  have hd := sec_day hs
  obtain ⟨hokD, hday⟩ := zD_spec _ hd
  have hO := fun W => refOf_calls _ _ _ hokD W
  rw [hday] at hO
  have hE := fun W hR => refEdges_calls o A lr cr g (zD ((t + o) / 86400)).1 hok W hR
  have hU := fun W hR => refRule_calls o A lr cr g (zD ((t + o) / 86400)).1 W hR
  have hx := summ_ext hok (t + o)
  have her := extV_range hok (t + o)
  have hin := @summ_in o lr g (t + o)
  have hEE : offE o lr g t = if secOk (t + o + extV g lr (t + o)) then 0 else 60 := by
    unfold offE; rw [if_pos hok]
    by_cases hz : secOk (t + o + extV g lr (t + o))
    · rw [if_pos ⟨hs, hz⟩, if_pos hz]
    · rw [if_neg (fun h => hz h.2), if_neg hz]
  have hV : secOk (t + o + extV g lr (t + o)) → offV o lr g t = o + extV g lr (t + o) := fun h => if_pos (by rw [hEE, if_pos h])
  have hV0 : ¬ secOk (t + o + extV g lr (t + o)) → offV o lr g t = 0 := fun h => if_neg (by rw [hEE, if_neg h]; decide)
  have hS : summS o lr g (t + o) = (ofB o lr g (zD ((t + o) / 86400)).1 && sumB (reA lr g (zD ((t + o) / 86400)).1) (reB lr g (zD ((t + o) / 86400)).1) (t + o)) := rfl
  obtain ⟨E, hEv⟩ : ∃ E, offE o lr g t = E := ⟨_, rfl⟩
  obtain ⟨V, hVv⟩ : ∃ V, offV o lr g t = V := ⟨_, rfl⟩
  rw [hEv] at hEE ⊢
  rw [hVv] at hV hV0 ⊢
  obtain ⟨S, hSv⟩ : ∃ S, summS o lr g (t + o) = S := ⟨_, rfl⟩
  rw [hSv] at hx hin hS
  have k1 : decide (t < -100000) = false := decide_eq_false (by omega)
  have k2 : decide (t > 253402400800) = false := decide_eq_false (by omega)
  obtain ⟨s, hsv⟩ : ∃ s, t + o = s := ⟨_, rfl⟩
  rw [hsv] at hs hsr hO hE hU hx her hin hEE hV hV0 hS hd
  obtain ⟨q, hq⟩ : ∃ q, s / 86400 = q := ⟨_, rfl⟩
  rw [hq] at hO hE hU hin hS hd hx
  obtain ⟨y, hy⟩ : ∃ y, (zD q).1 = y := ⟨_, rfl⟩
  obtain ⟨mm, hmm⟩ : ∃ y, (zD q).2.1 = y := ⟨_, rfl⟩
  obtain ⟨dd, hdd⟩ : ∃ y, (zD q).2.2 = y := ⟨_, rfl⟩
  rw [hy, hmm, hdd] at hO
  rw [hy] at hE hU hin hS hx
  obtain ⟨B, hB⟩ : ∃ B, ofB o lr g y = B := ⟨_, rfl⟩
  obtain ⟨T1, hT1⟩ : ∃ T, reA lr g y = T := ⟨_, rfl⟩
  obtain ⟨T2, hT2⟩ : ∃ T, reB lr g y = T := ⟨_, rfl⟩
  rw [hB, hT1, hT2] at hE hS
  have k3 : decide (s < 0) = false := decide_eq_false (by omega)
  have k4 : decide (s ≥ 253402300800) = false := decide_eq_false (by omega)
  have t1 : s.tdiv 86400 = q := by rw [Int.tdiv_eq_ediv_of_nonneg (by omega)]; exact hq
  have hb1 : -9223372036854775808 ≤ s ∧ s ≤ 9223372036854775807 := by omega
  have a1 := i64_same q (by omega)
  obtain ⟨F, hF⟩ : ∃ F, rulF g y lr = F := ⟨_, rfl⟩
  have hidx : F < lr → idxV lr g y = (F : Int) := fun h => by unfold idxV; rw [hF, if_pos h]
  rw [hF] at hin hx
  have hc : F < lr → ∃ sb off, A = some ⟨sb, off, none⟩ ∧ sb < w.heap.size ∧ ∀ j, j < 11 → w.cell? ⟨sb, off + F * 11 + j, none⟩ = some (.int .i64 (g F j)) := fun h => hR.at_ (by omega) h
  have Hbnd := Lib.hid (And.intro hb1 (And.intro ho.1 (And.intro ho.2.1 hsv)))
  have Hsr := Lib.hid hsr
  have Her := Lib.hid her
  have Hlr := Lib.hid (show lr ≤ 20 from ho.2.2.1)
  have w1 : IntKind.i64.wrap (t + o) = s := by rw [hsv]; exact i64_same s hb1
  have X1 : Hid (wrap64 (t + o) = s) := by show _ = _; rw [hsv]; exact wrap64_in s hb1
  unfold zonC at HM hE hU ⊢
  have HO := Lib.hid hO
  have HE := Lib.hid hE
  have HU := Lib.hid hU
  have HR := Lib.hid (hR.go hst1)
  have Hx := Lib.hid hx
  have Hin := Lib.hid hin
  have HEE := Lib.hid hEE
  have HV := Lib.hid hV
  have HV0 := Lib.hid hV0
  have HS := Lib.hid hS
  have Hidx := Lib.hid hidx
  have Hc := Lib.hid hc
  have Hs := Lib.hid hs
  clear hEv hVv hO hE hU hx her hin hEE hV hV0 hS hidx hc hs hsr hd hokD hday hok ho hSv hq hy hmm hdd hB hT1 hT2 hb1 hF hR hsv
  go_enter Tryd.func16, Tryd.ntmps16
  go_wp2_with fail
  refine HM.out.mono ?_
  rintro e w2 ⟨rfl, hb2⟩
  have hr2 := blk_below hr1 hb2
  have e0 := cell_of_row w2 b0 0 _ _ _ hr2
  have e1 := cell_of_row w2 b0 1 _ _ _ hr2
  have hB2 := bnext hst1 hb2
  have hR2 := HR.out.go hb2
  have x1 := X1.out
  clear hr1 hst1 hW1 hb2 HM
  go_wp2_with fail
  clear x1
  refine (HO.out _).mono ?_
  rintro e w3 ⟨rfl, ea⟩
  rw [ea]; clear ea w3 HO
  go_wp2_with fail
  refine (HE.out _ hR2).mono ?_
  rintro e w4 ⟨rfl, hb4⟩
  have hr4 := blk_below hr2 hb4
  have hB4 := bnext hB2 hb4
  have hR4 := hR2.go hb4
  clear hr2 hB2 hR2 hb4 HE e0 e1
  go_upto_region 11 with fail
  go_cut [15] from 52 to 82 (fun s15 wx => s15 = .bool S ∧ wx = w4)
  case first =>
    cases B with
    | false =>
      have hS := HS.out
      rw [Bool.false_and] at hS
      subst hS
      go_wp2_with fail
      go_meet
      exact ⟨rfl, rfl⟩
    | true =>
      have hS := HS.out
      rw [Bool.true_and] at hS
      have hiff := sumB_iff T1 T2 s
      rw [← hS] at hiff
      rcases (by omega : (T1 < T2 ∧ s < T1) ∨ (T1 < T2 ∧ ¬ s < T1 ∧ T2 ≤ s) ∨ (T1 < T2 ∧ ¬ s < T1 ∧ s < T2) ∨ (T2 < T1 ∧ s < T2) ∨ (T2 < T1 ∧ ¬ s < T2 ∧ T1 ≤ s) ∨ (T2 < T1 ∧ ¬ s < T2 ∧ s < T1) ∨ T1 = T2) with hp | hp | hp | hp | hp | hp | hp
      · skip
        have c1 : decide (T1 < T2) = true := decide_eq_true (by omega)
        have c2 : decide (s ≥ T1) = false := decide_eq_false (by omega)
        have c4 : decide (T2 < T1) = false := decide_eq_false (by omega)
        obtain rfl : S = false := Bool.eq_false_iff.2 (fun h => by have := hiff.1 h; omega)
        clear hp hiff hS
        go_wp2_with fail
        go_meet
        exact ⟨rfl, rfl⟩
      · skip
        have c1 : decide (T1 < T2) = true := decide_eq_true (by omega)
        have c2 : decide (s ≥ T1) = true := decide_eq_true (by omega)
        have c3 : decide (s < T2) = false := decide_eq_false (by omega)
        have c4 : decide (T2 < T1) = false := decide_eq_false (by omega)
        obtain rfl : S = false := Bool.eq_false_iff.2 (fun h => by have := hiff.1 h; omega)
        clear hp hiff hS
        go_wp2_with fail
        go_meet
        exact ⟨rfl, rfl⟩
      · skip
        have c1 : decide (T1 < T2) = true := decide_eq_true (by omega)
        have c2 : decide (s ≥ T1) = true := decide_eq_true (by omega)
        have c3 : decide (s < T2) = true := decide_eq_true (by omega)
        obtain rfl : S = true := hiff.2 (by omega)
        clear hp hiff hS
        go_wp2_with fail
        go_meet
        exact ⟨rfl, rfl⟩
      · skip
        have c1 : decide (T1 < T2) = false := decide_eq_false (by omega)
        have c4 : decide (T2 < T1) = true := decide_eq_true (by omega)
        have c3 : decide (s < T2) = true := decide_eq_true (by omega)
        obtain rfl : S = true := hiff.2 (by omega)
        clear hp hiff hS
        go_wp2_with fail
        go_meet
        exact ⟨rfl, rfl⟩
      · skip
        have c1 : decide (T1 < T2) = false := decide_eq_false (by omega)
        have c4 : decide (T2 < T1) = true := decide_eq_true (by omega)
        have c3 : decide (s < T2) = false := decide_eq_false (by omega)
        have c2 : decide (s ≥ T1) = true := decide_eq_true (by omega)
        obtain rfl : S = true := hiff.2 (by omega)
        clear hp hiff hS
        go_wp2_with fail
        go_meet
        exact ⟨rfl, rfl⟩
      · skip
        have c1 : decide (T1 < T2) = false := decide_eq_false (by omega)
        have c4 : decide (T2 < T1) = true := decide_eq_true (by omega)
        have c3 : decide (s < T2) = false := decide_eq_false (by omega)
        have c2 : decide (s ≥ T1) = false := decide_eq_false (by omega)
        obtain rfl : S = false := Bool.eq_false_iff.2 (fun h => by have := hiff.1 h; omega)
        clear hp hiff hS
        go_wp2_with fail
        go_meet
        exact ⟨rfl, rfl⟩
      · skip
        have c1 : decide (T1 < T2) = false := decide_eq_false (by omega)
        have c4 : decide (T2 < T1) = false := decide_eq_false (by omega)
        obtain rfl : S = false := Bool.eq_false_iff.2 (fun h => by have := hiff.1 h; omega)
        clear hp hiff hS
        go_wp2_with fail
        go_meet
        exact ⟨rfl, rfl⟩
  case rest =>
    obtain ⟨rfl, rfl⟩ := hcut
    have e0 := cell_of_row wc b0 0 _ _ _ hr4
    have e1 := cell_of_row wc b0 1 _ _ _ hr4
    cases S with
    | false =>
      have hx : extV g lr s = 0 := by rw [Hx.out, if_neg (by decide)]
      have hu : secOk (s + extV g lr s) := by rw [hx, Int.add_zero]; exact Hs.out
      have HEV := Lib.hid (show E = 0 ∧ V = o from ⟨by rw [HEE.out, if_pos hu], by rw [HV.out hu, hx, Int.add_zero]⟩)
      have x1 := X1.out
      clear hx hu
      go_wp2_with fail
      clear x1
      go_ret2
      exact ⟨by rw [HEV.out.1, HEV.out.2] <;> rfl, hB4⟩
    | true =>
      have hlt := Hin.out rfl
      have hx : extV g lr s = g F 10 := by rw [Hx.out, if_pos rfl]
      have hidx := Hidx.out hlt
      obtain ⟨sb, off, rfl, hsb, hcc⟩ := Hc.out hlt
      rw [hx] at Her HEE HV HV0
      have hU := HU.out
      rw [hidx] at hU
      have HH0 : ∀ W, Below wc.heap.size wc W → W.cell? ⟨b0, 0, none⟩ = some (.int .i64 o) ∧ W.cell? ⟨b0, 1, none⟩ = some (.slice (some ⟨sb, off, none⟩) lr cr) ∧ W.cell? ⟨sb, off + F * 11 + 10, none⟩ = some (.int .i64 (g F 10)) := fun W hW =>
        ⟨cell_of_row W b0 0 _ _ _ (blk_below hr4 hW), cell_of_row W b0 1 _ _ _ (blk_below hr4 hW), (((bnext hB4 hW)).cell (p := ⟨sb, off + F * 11 + 10, none⟩) hsb).trans (hcc 10 (by omega))⟩
      obtain ⟨x, hxv⟩ : ∃ x, g F 10 = x := ⟨_, rfl⟩
      rw [hxv] at Her HEE HV HV0 HH0
      have HH := Lib.hid HH0
      have hbd := Hbnd.out
      have her := Her.out
      have hsr := Hsr.out
      have kJ1 : (0 : Int) ≤ F := by omega
      have kJ2 : (F : Int) < lr := by omega
      have hbx : -9223372036854775808 ≤ o + x ∧ o + x ≤ 9223372036854775807 := by omega
      have hbu : -9223372036854775808 ≤ s + x ∧ s + x ≤ 9223372036854775807 := by omega
      have hadd : t + (o + x) = s + x := by omega
      obtain ⟨u, hu⟩ : ∃ u, s + x = u := ⟨_, rfl⟩
      rw [hu] at hadd hbu HEE HV HV0
      have w2 := i64_same (o + x) hbx
      have w3 : IntKind.i64.wrap (t + (o + x)) = u := by rw [hadd]; exact i64_same u hbu
      have XX : Hid (wrap64 (o + x) = o + x ∧ wrap64 (t + (o + x)) = u) := ⟨wrap64_in _ hbx, by rw [hadd]; exact wrap64_in u hbu⟩
      have hun : secOk u ↔ u < 253402300800 := by unfold secOk; omega
      have HUU := Lib.hid hU
      have hRc := Lib.hid hR4
      obtain ⟨D, hD⟩ : ∃ D, decide (u ≥ 253402300800) = D := ⟨_, rfl⟩
      have HD := Lib.hid hD
      have Hun := Lib.hid hun
      have HB4 := Lib.hid hB4
      clear hlt hx hidx hU HH0 hcc hxv hbd her hsr hbx hbu hadd hu hun hR4 hB4 hr4 Hbnd Hsr Her Hx Hin Hidx Hc Hs HU HR HS Hlr
      go_upto_region 14 with fail
      clear e0 e1
      have x2 := XX.out.1
      go_region_held3 (fun W => W.cell? ⟨b0, 0, none⟩ = some (.int .i64 o) ∧ W.cell? ⟨b0, 1, none⟩ = some (.slice (some ⟨sb, off, none⟩) lr cr) ∧ W.cell? ⟨sb, off + F * 11 + 10, none⟩ = some (.int .i64 x))
        (first | exact HH.out _ ((Below.refl _ _).drew) | exact HH.out _ hb6)
        ((go_at_call 14; refine (HUU.out _ (hRc.out.go ((Below.refl _ _).drew))).mono ?_; rintro e w5 ⟨rfl, hb5⟩; have hb6 := bnext ((Below.refl wc.heap.size wc).drew) hb5))
      all_goals
        clear x2
        have hB6 := bnext HB4.out hb6
        cases D with
        | true =>
          have hno : ¬ secOk u := fun h => by have h1 := Hun.out.1 h; have h2 := of_decide_eq_true HD.out; omega
          have HEV := Lib.hid (show E = 60 ∧ V = 0 from ⟨by rw [HEE.out, if_neg hno], HV0.out hno⟩)
          clear hno
          have x3 := XX.out.2
          go_wp2_with fail
          clear x3
          go_ret2
          exact ⟨by rw [HEV.out.1, HEV.out.2] <;> rfl, hB6⟩
        | false =>
          have hyes : secOk u := Hun.out.2 (by have h2 := of_decide_eq_false HD.out; omega)
          have HEV := Lib.hid (show E = 0 ∧ V = o + x from ⟨by rw [HEE.out, if_pos hyes], HV.out hyes⟩)
          clear hyes
          have x3 := XX.out.2
          go_wp2_with fail
          clear x3
          go_ret2
          exact ⟨by rw [HEV.out.1, HEV.out.2] <;> rfl, hB6⟩
theorem refOffset_calls (o : Int) (A : Option Addr) (lr cr : Nat) (g : Nat → Nat → Int) (t : Int) (w : World) (hR : RdZ w A lr cr g) :
    Calls Tryd.prog 16 #[zonC o A lr cr, .int .i64 t] w fun e w' => e = .returned (.tuple #[.int .i64 (offV o lr g t), .int .i64 (offE o lr g t)]) ∧ Below w.heap.size w w' := by
  by_cases h : zonOk o lr g ∧ secOk (t + o)
  · exact refOffset_yes o A lr cr g t h.1 h.2 w hR
  · exact refOffset_no o A lr cr g t h w hR
end Go.Proofs.YtoipmhmghcngcaaDoor
