/-
  An instant's offset, local time and day, walked: zone.Offset, Local, Day. Conditions stand at each theorem.
-/
import Derived.Test.YtoipmhmghcngcaaDoorZoneExtra
import Derived.BigRegion
namespace Go.Proofs.YtoipmhmghcngcaaDoor
open Go Go.RowKit Go.Kw Go.Kw.Cv Go.Shelf
set_option linter.unusedVariables false
set_option linter.unusedSimpArgs false

theorem off_ok {o : Int} {lr : Nat} {g : Nat → Nat → Int} {t : Int} (h : offE o lr g t = 0) : zonOk o lr g ∧ secOk (t + o) ∧ secOk (t + o + extV g lr (t + o)) ∧ offV o lr g t = o + extV g lr (t + o) := by
  have hv : offV o lr g t = o + extV g lr (t + o) := if_pos h
  unfold offE at h
  by_cases h1 : zonOk o lr g
  · rw [if_pos h1] at h
    by_cases h2 : secOk (t + o) ∧ secOk (t + o + extV g lr (t + o))
    · exact ⟨h1, h2.1, h2.2, hv⟩
    · rw [if_neg h2] at h; exact absurd h (by decide)
  · rw [if_neg h1] at h; exact absurd h (by decide)
theorem off_v (o : Int) (lr : Nat) (g : Nat → Nat → Int) (t e : Int) (h : offE o lr g t = e) (he : e ≠ 0) : offV o lr g t = 0 := if_neg (by rw [h]; exact he)
theorem zoff_setup {o : Int} {lr : Nat} {g : Nat → Nat → Int} {t : Int} (h1 : zonOk o lr g) (h2 : ¬ (secOk (t + o) ∧ secOk (t + o + extV g lr (t + o)))) : offE o lr g t = 60 ∧ offV o lr g t = 0 := by
  have h : offE o lr g t = 60 := by unfold offE; rw [if_pos h1, if_neg h2]
  exact ⟨h, off_v o lr g t 60 h (by decide)⟩
set_option maxRecDepth 100000 in
set_option maxHeartbeats 32000000 in
theorem zOffset_calls (o : Int) (A : Option Addr) (lr cr : Nat) (g : Nat → Nat → Int) (t : Int) (w : World) (hR : RdZ w A lr cr g) (hL : Lens w) :
    Calls Tryd.prog 13 #[zonC o A lr cr, .int .i64 t] w fun e w' => e = .returned (.tuple #[.int .i64 (offV o lr g t), .int .i64 (offE o lr g t)]) ∧ Below w.heap.size w w' := by
  obtain ⟨b0, hb0⟩ : ∃ b0, w.heap.size = b0 := ⟨_, rfl⟩
  obtain ⟨W1, hW1⟩ : ∃ W1, w.alloc (.cells #[.int .i64 o, .slice A lr cr] 24) = W1 := ⟨_, rfl⟩
  have hst1 : Below w.heap.size w W1 := hW1 ▸ bstep w _
  have hr1 : W1.heap[b0]? = some (.cells #[.int .i64 o, .slice A lr cr] 24 (0, 0)) := by rw [← hb0, ← hW1]; exact World.alloc_heap_new w _
  have e0 := cell_of_row W1 b0 0 _ _ _ hr1
  have e1 := cell_of_row W1 b0 1 _ _ _ hr1
  have HC := zCheck_calls o A lr cr g W1 (hR.go hst1)
  have HL := Lib.hid (hL.go hst1)
  have HR := Lib.hid (hR.go hst1)
  unfold zonC at HC ⊢
  by_cases hok : zonOk o lr g
  · rw [show zonE o lr g = 0 from if_pos hok] at HC
    replace HC := Lib.hid HC
    have ho := hok
    unfold zonOk at ho
    by_cases hx : t < -50400
    · obtain ⟨v1, v2⟩ := zoff_setup (t := t) hok (fun h => by have := h.1; unfold secOk at this; omega)
      rw [v1, v2]
      have k1 : decide (t < -50400) = true := decide_eq_true hx
      clear v1 v2 hok ho hx hR hL hr1 HL HR
      go_enter Tryd.func13, Tryd.ntmps13
      go_wp2_with fail
      refine HC.out.mono ?_
      rintro e w3 ⟨rfl, hb3⟩
      have hbb := bnext hst1 hb3
      go_wp2_with fail
      go_ret2
      exact ⟨rfl, hbb⟩
    have k1 : decide (t < -50400) = false := decide_eq_false hx
    by_cases hy : t > 253402351200
    · obtain ⟨v1, v2⟩ := zoff_setup (t := t) hok (fun h => by have := h.1; unfold secOk at this; omega)
      rw [v1, v2]
      have k2 : decide (t > 253402351200) = true := decide_eq_true hy
      clear v1 v2 hok ho hx hy hR hL hr1 HL HR
      go_enter Tryd.func13, Tryd.ntmps13
      go_wp2_with fail
      refine HC.out.mono ?_
      rintro e w3 ⟨rfl, hb3⟩
      have hbb := bnext hst1 hb3
      go_wp2_with fail
      go_ret2
      exact ⟨rfl, hbb⟩
    have k2 : decide (t > 253402351200) = false := decide_eq_false hy
    have B1 := Lib.hid (show -9223372036854775808 ≤ t + o ∧ t + o ≤ 9223372036854775807 by omega)
    by_cases hs : secOk (t + o)
    · have HX := fun W hR hL => extra_calls o A lr cr g (t + o) hok hs W hR hL
      have HA := fun W hL => at_ok (t + o) hs W hL
      have her := extV_range hok (t + o)
      have hsr := hs
      unfold secOk at hsr
      have B2 := Lib.hid (show -9223372036854775808 ≤ t + o + extV g lr (t + o) ∧ t + o + extV g lr (t + o) ≤ 9223372036854775807 by omega)
      have B3 := Lib.hid (show -9223372036854775808 ≤ o + extV g lr (t + o) ∧ o + extV g lr (t + o) ≤ 9223372036854775807 by omega)
      have hE : offE o lr g t = if secOk (t + o + extV g lr (t + o)) then 0 else 60 := by
        unfold offE; rw [if_pos hok]
        by_cases hz : secOk (t + o + extV g lr (t + o))
        · rw [if_pos ⟨hs, hz⟩, if_pos hz]
        · rw [if_neg (fun h => hz h.2), if_neg hz]
      have hV : secOk (t + o + extV g lr (t + o)) → offV o lr g t = o + extV g lr (t + o) := fun h => if_pos (by rw [hE, if_pos h])
      have hV0 : ¬ secOk (t + o + extV g lr (t + o)) → offV o lr g t = 0 := fun h => if_neg (by rw [hE, if_neg h]; decide)
      have hB := fun h => at_bad (t + o + extV g lr (t + o)) h
      have hG := fun h W hL => at_ok (t + o + extV g lr (t + o)) h W hL
      obtain ⟨x, hxv⟩ : ∃ x, extV g lr (t + o) = x := ⟨_, rfl⟩
      rw [hxv] at HX B2 B3 hE hV hV0 hB hG
      unfold momV at HA hG
      unfold mom0 at hB
      obtain ⟨y1, hy1⟩ : ∃ y, (zD ((t + o) / 86400)).1 = y := ⟨_, rfl⟩
      obtain ⟨y2, hy2⟩ : ∃ y, (zD ((t + o) / 86400)).2.1 = y := ⟨_, rfl⟩
      obtain ⟨y3, hy3⟩ : ∃ y, (zD ((t + o) / 86400)).2.2 = y := ⟨_, rfl⟩
      obtain ⟨y4, hy4⟩ : ∃ y, (t + o) % 86400 / 3600 = y := ⟨_, rfl⟩
      obtain ⟨y5, hy5⟩ : ∃ y, (t + o) % 86400 / 60 % 60 = y := ⟨_, rfl⟩
      obtain ⟨y6, hy6⟩ : ∃ y, (t + o) % 86400 % 60 = y := ⟨_, rfl⟩
      rw [hy1, hy2, hy3, hy4, hy5, hy6] at HA
      obtain ⟨s, hsv⟩ : ∃ s, t + o = s := ⟨_, rfl⟩
      rw [hsv] at HX HA B1 B2 hE hV hV0 hB hG
      obtain ⟨u, huv⟩ : ∃ u, s + x = u := ⟨_, rfl⟩
      rw [huv] at B2 hE hV hV0 hB hG
      obtain ⟨z1, hz1⟩ : ∃ y, (zD (u / 86400)).1 = y := ⟨_, rfl⟩
      obtain ⟨z2, hz2⟩ : ∃ y, (zD (u / 86400)).2.1 = y := ⟨_, rfl⟩
      obtain ⟨z3, hz3⟩ : ∃ y, (zD (u / 86400)).2.2 = y := ⟨_, rfl⟩
      obtain ⟨z4, hz4⟩ : ∃ y, u % 86400 / 3600 = y := ⟨_, rfl⟩
      obtain ⟨z5, hz5⟩ : ∃ y, u % 86400 / 60 % 60 = y := ⟨_, rfl⟩
      obtain ⟨z6, hz6⟩ : ∃ y, u % 86400 % 60 = y := ⟨_, rfl⟩
      rw [hz1, hz2, hz3, hz4, hz5, hz6] at hG
      unfold zonC at HX
      replace HX := Lib.hid HX
      replace HA := Lib.hid HA
      have XX : Hid (wrap64 (t + o) = s ∧ wrap64 (s + x) = u ∧ wrap64 (o + x) = o + x) := ⟨by rw [hsv]; exact wrap64_in s B1.out, by rw [huv]; exact wrap64_in u B2.out, wrap64_in _ B3.out⟩
      have w1 : IntKind.i64.wrap (t + o) = s := by rw [hsv]; exact i64_same s B1.out
      have w2 : IntKind.i64.wrap (s + x) = u := by rw [huv]; exact i64_same u B2.out
      have w3 := i64_same (o + x) B3.out
      clear B1 B2 B3
      by_cases hu : secOk u
      · rw [hE, if_pos hu, hV hu]
        have HG := Lib.hid (hG hu)
        clear hok ho hx hy hs her hsr hE hV hV0 hB hG hxv hy1 hy2 hy3 hy4 hy5 hy6 hsv huv hz1 hz2 hz3 hz4 hz5 hz6 hu hR hL
        go_enter Tryd.func13, Tryd.ntmps13
        go_wp2_with fail
        refine HC.out.mono ?_
        rintro e wa ⟨rfl, hb3⟩
        have hL3 := HL.out.go hb3
        have hr3 := blk_below hr1 hb3
        have e0 := cell_of_row wa b0 0 _ _ _ hr3
        have hbb := bnext hst1 hb3
        have hq1 := XX.out.1
        clear hst1 hr1 e1 hW1
        go_wp2_with fail
        refine (HA.out wa hL3).mono ?_
        rintro e wb ⟨rfl, hb4⟩
        obtain ⟨wc, hwc⟩ : ∃ wc, wb.alloc (.cells #[.int .i64 y1, .int .i64 y2, .int .i64 y3, .int .i64 y4, .int .i64 y5, .int .i64 y6] 44) = wc := ⟨_, rfl⟩
        have hst5 : Below wb.heap.size wb wc := hwc ▸ bstep wb _
        have hb5 := bnext hb4 hst5
        have hL5 := hL3.go hb5
        have hr5 := blk_below hr3 hb5
        have e0 := cell_of_row wc b0 0 _ _ _ hr5
        have e1 := cell_of_row wc b0 1 _ _ _ hr5
        have hR5 := HR.out.go (bnext hb3 hb5)
        have hbc := bnext hbb hb5
        clear hq1 hL3 hr3 hb3 hb4 hst5 hb5 hbb
        go_wp2_with fail
        refine (HX.out wc hR5 hL5).mono ?_
        rintro e wd ⟨rfl, hb6⟩
        have hL6 := hL5.go hb6
        have hr6 := blk_below hr5 hb6
        have hbd := bnext hbc hb6
        have hq2 := XX.out.2.1
        clear hwc e0 e1 hR5 hL5 hr5 hb6 hbc
        go_wp2_with fail
        refine (HG.out wd hL6).mono ?_
        rintro e we ⟨rfl, hb7⟩
        obtain ⟨wf, hwf⟩ : ∃ wf, we.alloc (.cells #[.int .i64 z1, .int .i64 z2, .int .i64 z3, .int .i64 z4, .int .i64 z5, .int .i64 z6] 44) = wf := ⟨_, rfl⟩
        have hst8 : Below we.heap.size we wf := hwf ▸ bstep we _
        have hb8 := bnext hb7 hst8
        have hr8 := blk_below hr6 hb8
        have e0 := cell_of_row _ b0 0 _ _ _ hr8
        have hbe := bnext hbd hb8
        have hq3 := XX.out.2.2
        clear hq2 hb7 hst8 hb8 hr8 hr6 hL6 hbd
        go_wp2_with fail
        clear hq3
        go_ret2
        exact ⟨rfl, hbe⟩
      · rw [hE, if_neg hu, hV0 hu]
        have HB := Lib.hid (hB hu)
        clear hok ho hx hy hs her hsr hE hV hV0 hB hG hxv hy1 hy2 hy3 hy4 hy5 hy6 hsv huv hz1 hz2 hz3 hz4 hz5 hz6 hu hR hL
        go_enter Tryd.func13, Tryd.ntmps13
        go_wp2_with fail
        refine HC.out.mono ?_
        rintro e wa ⟨rfl, hb3⟩
        have hL3 := HL.out.go hb3
        have hr3 := blk_below hr1 hb3
        have e0 := cell_of_row wa b0 0 _ _ _ hr3
        have hbb := bnext hst1 hb3
        have hq1 := XX.out.1
        clear hst1 hr1 e1 hW1
        go_wp2_with fail
        refine (HA.out wa hL3).mono ?_
        rintro e wb ⟨rfl, hb4⟩
        obtain ⟨wc, hwc⟩ : ∃ wc, wb.alloc (.cells #[.int .i64 y1, .int .i64 y2, .int .i64 y3, .int .i64 y4, .int .i64 y5, .int .i64 y6] 44) = wc := ⟨_, rfl⟩
        have hst5 : Below wb.heap.size wb wc := hwc ▸ bstep wb _
        have hb5 := bnext hb4 hst5
        have hL5 := hL3.go hb5
        have hr5 := blk_below hr3 hb5
        have e0 := cell_of_row wc b0 0 _ _ _ hr5
        have e1 := cell_of_row wc b0 1 _ _ _ hr5
        have hR5 := HR.out.go (bnext hb3 hb5)
        have hbc := bnext hbb hb5
        clear hq1 hL3 hr3 hb3 hb4 hst5 hb5 hbb
        go_wp2_with fail
        refine (HX.out wc hR5 hL5).mono ?_
        rintro e wd ⟨rfl, hb6⟩
        have hL6 := hL5.go hb6
        have hr6 := blk_below hr5 hb6
        have hbd := bnext hbc hb6
        have hq2 := XX.out.2.1
        clear hwc e0 e1 hR5 hL5 hr5 hb6 hbc
        go_wp2_with fail
        refine (HB.out wd).mono ?_
        rintro e we ⟨rfl, hb7⟩
        have hst8 := bstep we (.cells #[.int .i64 0, .int .i64 0, .int .i64 0, .int .i64 0, .int .i64 0, .int .i64 0] 44)
        have hb8 := bnext hb7 hst8
        have hr8 := blk_below hr6 hb8
        have e0 := cell_of_row _ b0 0 _ _ _ hr8
        have hbe := bnext hbd hb8
        have hq3 := XX.out.2.2
        clear hq2 hb7 hst8 hb8 hr8 hr6 hL6 hbd
        go_wp2_with fail
        clear hq3
        go_ret2
        exact ⟨rfl, hbe⟩
    · obtain ⟨v1, v2⟩ := zoff_setup (t := t) hok (fun h => hs h.1)
      rw [v1, v2]
      have HB := at_bad (t + o) hs
      unfold mom0 at HB
      obtain ⟨s, hsv⟩ : ∃ s, t + o = s := ⟨_, rfl⟩
      rw [hsv] at HB B1
      have X1 : Hid (wrap64 (t + o) = s) := by show _ = _; rw [hsv]; exact wrap64_in s B1.out
      have w1 : IntKind.i64.wrap (t + o) = s := by rw [hsv]; exact i64_same s B1.out
      clear B1
      replace HB := Lib.hid HB
      clear v1 v2 hok ho hx hy hs hR hL HL HR hsv
      go_enter Tryd.func13, Tryd.ntmps13
      go_wp2_with fail
      refine HC.out.mono ?_
      rintro e wa ⟨rfl, hb3⟩
      have hr3 := blk_below hr1 hb3
      have e0 := cell_of_row wa b0 0 _ _ _ hr3
      have hbb := bnext hst1 hb3
      have hq1 := X1.out
      clear hst1 hr1 e1 hW1
      go_wp2_with fail
      refine (HB.out wa).mono ?_
      rintro e wb ⟨rfl, hb4⟩
      have hbc := bnext hbb (bnext hb4 (bstep wb (.cells #[.int .i64 0, .int .i64 0, .int .i64 0, .int .i64 0, .int .i64 0, .int .i64 0] 44)))
      clear hq1
      go_wp2_with fail
      go_ret2
      exact ⟨rfl, hbc⟩
  · rw [show zonE o lr g = 70 from if_neg hok] at HC
    replace HC := Lib.hid HC
    have v1 : offE o lr g t = 70 := if_neg hok
    have v2 : offV o lr g t = 0 := off_v o lr g t 70 v1 (by decide)
    rw [v1, v2]
    clear v1 v2 hok hR hL hr1 HL HR
    go_enter Tryd.func13, Tryd.ntmps13
    go_wp2_with fail
    refine HC.out.mono ?_
    rintro e w3 ⟨rfl, hb3⟩
    have hbb := bnext hst1 hb3
    go_wp2_with fail
    go_ret2
    exact ⟨rfl, hbb⟩
end Go.Proofs.YtoipmhmghcngcaaDoor
