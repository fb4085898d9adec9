/-
  Texts that the proof leans on, merged by program, part 9. Conditions stand at each theorem.
-/
import Derived.Test.YtgbkedjjgbhcmaaDoorTarM6
import Derived.Test.YtgbkedjjgbhcmaaDoorTarM8
import Derived.BigRegion
/-
  An instant's offset, local time and day, walked: zone.Offset, Local, Day. Conditions stand at each theorem.
-/
namespace Go.Proofs.YtgbkedjjgbhcmaaDoor
open Go Go.RowKit Go.Kw Go.Kw.Cv Go.Shelf
set_option linter.unusedVariables false
set_option linter.unusedSimpArgs false

theorem off_ok {o : Int} {lr : Nat} {g : Nat → Nat → Int} {t : Int} (h : offE o lr g t = 0) : zonOk o lr g ∧ secOk (t + o) ∧ secOk (t + o + extV g lr (t + o)) ∧ offV o lr g t = o + extV g lr (t + o) := by
  have hv : offV o lr g t = o + extV g lr (t + o) := if_pos h
  unfold offE at h
  by_cases h1 : zonOk o lr g
  · rw [if_pos h1] at h
    by_cases h2 : secOk (t + o) ∧ secOk (t + o + extV g lr (t + o))
    · exact ⟨h1, h2.1, h2.2, hv⟩
    · rw [if_neg h2] at h; exact absurd h (by decide)
  · rw [if_neg h1] at h; exact absurd h (by decide)
theorem off_v (o : Int) (lr : Nat) (g : Nat → Nat → Int) (t e : Int) (h : offE o lr g t = e) (he : e ≠ 0) : offV o lr g t = 0 := if_neg (by rw [h]; exact he)
theorem zoff_setup {o : Int} {lr : Nat} {g : Nat → Nat → Int} {t : Int} (h1 : zonOk o lr g) (h2 : ¬ (secOk (t + o) ∧ secOk (t + o + extV g lr (t + o)))) : offE o lr g t = 60 ∧ offV o lr g t = 0 := by
  have h : offE o lr g t = 60 := by unfold offE; rw [if_pos h1, if_neg h2]
  exact ⟨h, off_v o lr g t 60 h (by decide)⟩
set_option maxRecDepth 100000 in
set_option maxHeartbeats 32000000 in
theorem zOffset_calls (o : Int) (A : Option Addr) (lr cr : Nat) (g : Nat → Nat → Int) (t : Int) (w : World) (hR : RdZ w A lr cr g) (hL : Lens w) :
    Calls Tryd.prog 51 #[zonC o A lr cr, .int .i64 t] w fun e w' => e = .returned (.tuple #[.int .i64 (offV o lr g t), .int .i64 (offE o lr g t)]) ∧ Below w.heap.size w w' := by
  obtain ⟨b0, hb0⟩ : ∃ b0, w.heap.size = b0 := ⟨_, rfl⟩
  obtain ⟨W1, hW1⟩ : ∃ W1, w.alloc (.cells #[.int .i64 o, .slice A lr cr] 43) = W1 := ⟨_, rfl⟩
  have hst1 : Below w.heap.size w W1 := hW1 ▸ bstep w _
  have hr1 : W1.heap[b0]? = some (.cells #[.int .i64 o, .slice A lr cr] 43 (0, 0)) := by rw [← hb0, ← hW1]; exact World.alloc_heap_new w _
  have e0 := cell_of_row W1 b0 0 _ _ _ hr1
  have e1 := cell_of_row W1 b0 1 _ _ _ hr1
  have HC := zCheck_calls o A lr cr g W1 (hR.go hst1)
  have HL := Lib.hid (hL.go hst1)
  have HR := Lib.hid (hR.go hst1)
  unfold zonC at HC ⊢
  by_cases hok : zonOk o lr g
  · rw [show zonE o lr g = 0 from if_pos hok] at HC
    replace HC := Lib.hid HC
    have ho := hok
    unfold zonOk at ho
    by_cases hx : t < -50400
    · obtain ⟨v1, v2⟩ := zoff_setup (t := t) hok (fun h => by have := h.1; unfold secOk at this; omega)
      rw [v1, v2]
      have k1 : decide (t < -50400) = true := decide_eq_true hx
      clear v1 v2 hok ho hx hR hL hr1 HL HR
      go_enter Tryd.func51, Tryd.ntmps51
      go_wp2_with fail
      refine HC.out.mono ?_
      rintro e w3 ⟨rfl, hb3⟩
      have hbb := bnext hst1 hb3
      go_wp2_with fail
      go_ret2
      exact ⟨rfl, hbb⟩
    have k1 : decide (t < -50400) = false := decide_eq_false hx
    by_cases hy : t > 253402351200
    · obtain ⟨v1, v2⟩ := zoff_setup (t := t) hok (fun h => by have := h.1; unfold secOk at this; omega)
      rw [v1, v2]
      have k2 : decide (t > 253402351200) = true := decide_eq_true hy
      clear v1 v2 hok ho hx hy hR hL hr1 HL HR
      go_enter Tryd.func51, Tryd.ntmps51
      go_wp2_with fail
      refine HC.out.mono ?_
      rintro e w3 ⟨rfl, hb3⟩
      have hbb := bnext hst1 hb3
      go_wp2_with fail
      go_ret2
      exact ⟨rfl, hbb⟩
    have k2 : decide (t > 253402351200) = false := decide_eq_false hy
    have B1 := Lib.hid (show -9223372036854775808 ≤ t + o ∧ t + o ≤ 9223372036854775807 by omega)
    by_cases hs : secOk (t + o)
    · have HX := fun W hR hL => extra_calls o A lr cr g (t + o) hok hs W hR hL
      have HA := fun W hL => at_ok (t + o) hs W hL
      have her := extV_range hok (t + o)
      have hsr := hs
      unfold secOk at hsr
      have B2 := Lib.hid (show -9223372036854775808 ≤ t + o + extV g lr (t + o) ∧ t + o + extV g lr (t + o) ≤ 9223372036854775807 by omega)
      have B3 := Lib.hid (show -9223372036854775808 ≤ o + extV g lr (t + o) ∧ o + extV g lr (t + o) ≤ 9223372036854775807 by omega)
      have hE : offE o lr g t = if secOk (t + o + extV g lr (t + o)) then 0 else 60 := by
        unfold offE; rw [if_pos hok]
        by_cases hz : secOk (t + o + extV g lr (t + o))
        · rw [if_pos ⟨hs, hz⟩, if_pos hz]
        · rw [if_neg (fun h => hz h.2), if_neg hz]
      have hV : secOk (t + o + extV g lr (t + o)) → offV o lr g t = o + extV g lr (t + o) := fun h => if_pos (by rw [hE, if_pos h])
      have hV0 : ¬ secOk (t + o + extV g lr (t + o)) → offV o lr g t = 0 := fun h => if_neg (by rw [hE, if_neg h]; decide)
      have hB := fun h => at_bad (t + o + extV g lr (t + o)) h
      have hG := fun h W hL => at_ok (t + o + extV g lr (t + o)) h W hL
      obtain ⟨x, hxv⟩ : ∃ x, extV g lr (t + o) = x := ⟨_, rfl⟩
      rw [hxv] at HX B2 B3 hE hV hV0 hB hG
      unfold momV at HA hG
      unfold mom0 at hB
      obtain ⟨y1, hy1⟩ : ∃ y, (zD ((t + o) / 86400)).1 = y := ⟨_, rfl⟩
      obtain ⟨y2, hy2⟩ : ∃ y, (zD ((t + o) / 86400)).2.1 = y := ⟨_, rfl⟩
      obtain ⟨y3, hy3⟩ : ∃ y, (zD ((t + o) / 86400)).2.2 = y := ⟨_, rfl⟩
      obtain ⟨y4, hy4⟩ : ∃ y, (t + o) % 86400 / 3600 = y := ⟨_, rfl⟩
      obtain ⟨y5, hy5⟩ : ∃ y, (t + o) % 86400 / 60 % 60 = y := ⟨_, rfl⟩
      obtain ⟨y6, hy6⟩ : ∃ y, (t + o) % 86400 % 60 = y := ⟨_, rfl⟩
      rw [hy1, hy2, hy3, hy4, hy5, hy6] at HA
      obtain ⟨s, hsv⟩ : ∃ s, t + o = s := ⟨_, rfl⟩
      rw [hsv] at HX HA B1 B2 hE hV hV0 hB hG
      obtain ⟨u, huv⟩ : ∃ u, s + x = u := ⟨_, rfl⟩
      rw [huv] at B2 hE hV hV0 hB hG
      obtain ⟨z1, hz1⟩ : ∃ y, (zD (u / 86400)).1 = y := ⟨_, rfl⟩
      obtain ⟨z2, hz2⟩ : ∃ y, (zD (u / 86400)).2.1 = y := ⟨_, rfl⟩
      obtain ⟨z3, hz3⟩ : ∃ y, (zD (u / 86400)).2.2 = y := ⟨_, rfl⟩
      obtain ⟨z4, hz4⟩ : ∃ y, u % 86400 / 3600 = y := ⟨_, rfl⟩
      obtain ⟨z5, hz5⟩ : ∃ y, u % 86400 / 60 % 60 = y := ⟨_, rfl⟩
      obtain ⟨z6, hz6⟩ : ∃ y, u % 86400 % 60 = y := ⟨_, rfl⟩
      rw [hz1, hz2, hz3, hz4, hz5, hz6] at hG
      unfold zonC at HX
      replace HX := Lib.hid HX
      replace HA := Lib.hid HA
      have XX : Hid (wrap64 (t + o) = s ∧ wrap64 (s + x) = u ∧ wrap64 (o + x) = o + x) := ⟨by rw [hsv]; exact wrap64_in s B1.out, by rw [huv]; exact wrap64_in u B2.out, wrap64_in _ B3.out⟩
      have w1 : IntKind.i64.wrap (t + o) = s := by rw [hsv]; exact i64_same s B1.out
      have w2 : IntKind.i64.wrap (s + x) = u := by rw [huv]; exact i64_same u B2.out
      have w3 := i64_same (o + x) B3.out
      clear B1 B2 B3
      by_cases hu : secOk u
      · rw [hE, if_pos hu, hV hu]
        have HG := Lib.hid (hG hu)
        clear hok ho hx hy hs her hsr hE hV hV0 hB hG hxv hy1 hy2 hy3 hy4 hy5 hy6 hsv huv hz1 hz2 hz3 hz4 hz5 hz6 hu hR hL
        go_enter Tryd.func51, Tryd.ntmps51
        go_wp2_with fail
        refine HC.out.mono ?_
        rintro e wa ⟨rfl, hb3⟩
        have hL3 := HL.out.go hb3
        have hr3 := blk_below hr1 hb3
        have e0 := cell_of_row wa b0 0 _ _ _ hr3
        have hbb := bnext hst1 hb3
        have hq1 := XX.out.1
        clear hst1 hr1 e1 hW1
        go_wp2_with fail
        refine (HA.out wa hL3).mono ?_
        rintro e wb ⟨rfl, hb4⟩
        obtain ⟨wc, hwc⟩ : ∃ wc, wb.alloc (.cells #[.int .i64 y1, .int .i64 y2, .int .i64 y3, .int .i64 y4, .int .i64 y5, .int .i64 y6] 151) = wc := ⟨_, rfl⟩
        have hst5 : Below wb.heap.size wb wc := hwc ▸ bstep wb _
        have hb5 := bnext hb4 hst5
        have hL5 := hL3.go hb5
        have hr5 := blk_below hr3 hb5
        have e0 := cell_of_row wc b0 0 _ _ _ hr5
        have e1 := cell_of_row wc b0 1 _ _ _ hr5
        have hR5 := HR.out.go (bnext hb3 hb5)
        have hbc := bnext hbb hb5
        clear hq1 hL3 hr3 hb3 hb4 hst5 hb5 hbb
        go_wp2_with fail
        refine (HX.out wc hR5 hL5).mono ?_
        rintro e wd ⟨rfl, hb6⟩
        have hL6 := hL5.go hb6
        have hr6 := blk_below hr5 hb6
        have hbd := bnext hbc hb6
        have hq2 := XX.out.2.1
        clear hwc e0 e1 hR5 hL5 hr5 hb6 hbc
        go_wp2_with fail
        refine (HG.out wd hL6).mono ?_
        rintro e we ⟨rfl, hb7⟩
        obtain ⟨wf, hwf⟩ : ∃ wf, we.alloc (.cells #[.int .i64 z1, .int .i64 z2, .int .i64 z3, .int .i64 z4, .int .i64 z5, .int .i64 z6] 151) = wf := ⟨_, rfl⟩
        have hst8 : Below we.heap.size we wf := hwf ▸ bstep we _
        have hb8 := bnext hb7 hst8
        have hr8 := blk_below hr6 hb8
        have e0 := cell_of_row _ b0 0 _ _ _ hr8
        have hbe := bnext hbd hb8
        have hq3 := XX.out.2.2
        clear hq2 hb7 hst8 hb8 hr8 hr6 hL6 hbd
        go_wp2_with fail
        clear hq3
        go_ret2
        exact ⟨rfl, hbe⟩
      · rw [hE, if_neg hu, hV0 hu]
        have HB := Lib.hid (hB hu)
        clear hok ho hx hy hs her hsr hE hV hV0 hB hG hxv hy1 hy2 hy3 hy4 hy5 hy6 hsv huv hz1 hz2 hz3 hz4 hz5 hz6 hu hR hL
        go_enter Tryd.func51, Tryd.ntmps51
        go_wp2_with fail
        refine HC.out.mono ?_
        rintro e wa ⟨rfl, hb3⟩
        have hL3 := HL.out.go hb3
        have hr3 := blk_below hr1 hb3
        have e0 := cell_of_row wa b0 0 _ _ _ hr3
        have hbb := bnext hst1 hb3
        have hq1 := XX.out.1
        clear hst1 hr1 e1 hW1
        go_wp2_with fail
        refine (HA.out wa hL3).mono ?_
        rintro e wb ⟨rfl, hb4⟩
        obtain ⟨wc, hwc⟩ : ∃ wc, wb.alloc (.cells #[.int .i64 y1, .int .i64 y2, .int .i64 y3, .int .i64 y4, .int .i64 y5, .int .i64 y6] 151) = wc := ⟨_, rfl⟩
        have hst5 : Below wb.heap.size wb wc := hwc ▸ bstep wb _
        have hb5 := bnext hb4 hst5
        have hL5 := hL3.go hb5
        have hr5 := blk_below hr3 hb5
        have e0 := cell_of_row wc b0 0 _ _ _ hr5
        have e1 := cell_of_row wc b0 1 _ _ _ hr5
        have hR5 := HR.out.go (bnext hb3 hb5)
        have hbc := bnext hbb hb5
        clear hq1 hL3 hr3 hb3 hb4 hst5 hb5 hbb
        go_wp2_with fail
        refine (HX.out wc hR5 hL5).mono ?_
        rintro e wd ⟨rfl, hb6⟩
        have hL6 := hL5.go hb6
        have hr6 := blk_below hr5 hb6
        have hbd := bnext hbc hb6
        have hq2 := XX.out.2.1
        clear hwc e0 e1 hR5 hL5 hr5 hb6 hbc
        go_wp2_with fail
        refine (HB.out wd).mono ?_
        rintro e we ⟨rfl, hb7⟩
        have hst8 := bstep we (.cells #[.int .i64 0, .int .i64 0, .int .i64 0, .int .i64 0, .int .i64 0, .int .i64 0] 151)
        have hb8 := bnext hb7 hst8
        have hr8 := blk_below hr6 hb8
        have e0 := cell_of_row _ b0 0 _ _ _ hr8
        have hbe := bnext hbd hb8
        have hq3 := XX.out.2.2
        clear hq2 hb7 hst8 hb8 hr8 hr6 hL6 hbd
        go_wp2_with fail
        clear hq3
        go_ret2
        exact ⟨rfl, hbe⟩
    · obtain ⟨v1, v2⟩ := zoff_setup (t := t) hok (fun h => hs h.1)
      rw [v1, v2]
      have HB := at_bad (t + o) hs
      unfold mom0 at HB
      obtain ⟨s, hsv⟩ : ∃ s, t + o = s := ⟨_, rfl⟩
      rw [hsv] at HB B1
      have X1 : Hid (wrap64 (t + o) = s) := by show _ = _; rw [hsv]; exact wrap64_in s B1.out
      have w1 : IntKind.i64.wrap (t + o) = s := by rw [hsv]; exact i64_same s B1.out
      clear B1
      replace HB := Lib.hid HB
      clear v1 v2 hok ho hx hy hs hR hL HL HR hsv
      go_enter Tryd.func51, Tryd.ntmps51
      go_wp2_with fail
      refine HC.out.mono ?_
      rintro e wa ⟨rfl, hb3⟩
      have hr3 := blk_below hr1 hb3
      have e0 := cell_of_row wa b0 0 _ _ _ hr3
      have hbb := bnext hst1 hb3
      have hq1 := X1.out
      clear hst1 hr1 e1 hW1
      go_wp2_with fail
      refine (HB.out wa).mono ?_
      rintro e wb ⟨rfl, hb4⟩
      have hbc := bnext hbb (bnext hb4 (bstep wb (.cells #[.int .i64 0, .int .i64 0, .int .i64 0, .int .i64 0, .int .i64 0, .int .i64 0] 151)))
      clear hq1
      go_wp2_with fail
      go_ret2
      exact ⟨rfl, hbc⟩
  · rw [show zonE o lr g = 70 from if_neg hok] at HC
    replace HC := Lib.hid HC
    have v1 : offE o lr g t = 70 := if_neg hok
    have v2 : offV o lr g t = 0 := off_v o lr g t 70 v1 (by decide)
    rw [v1, v2]
    clear v1 v2 hok hR hL hr1 HL HR
    go_enter Tryd.func51, Tryd.ntmps51
    go_wp2_with fail
    refine HC.out.mono ?_
    rintro e w3 ⟨rfl, hb3⟩
    have hbb := bnext hst1 hb3
    go_wp2_with fail
    go_ret2
    exact ⟨rfl, hbb⟩
end Go.Proofs.YtgbkedjjgbhcmaaDoor

/-
  An instant's local time and day, walked: zone.Local, Day. Conditions stand at each theorem.
-/
namespace Go.Proofs.YtgbkedjjgbhcmaaDoor
open Go Go.RowKit Go.Kw Go.Kw.Cv Go.Shelf
set_option linter.unusedVariables false
set_option linter.unusedSimpArgs false

theorem results_cell_tmp2 {P : Program} {fn : Func} {p t2 t3 : Tmp} {ty : TypeId} (h : fn.results = #[.cell p ty, .tmp t2, .tmp t3]) (tmps : Array Value) (w : World) (g : Nat) (t : TypeId) (cs : Array Value) (fr : Nat × Nat) (d : TypeDesc)
    (hp : tmps.getD p undef = .pointer (some ⟨g, 0, none⟩)) (hg : w.heap[g]? = some (.cells cs t fr))
    (hu : P.underlying ty = some d) (hd : (match d with | .struct _ | .array _ _ => true | _ => false) = true) (hi : (P.info? ty).map (·.size) = some cs.size) :
    (results fn tmps).run P w = .ok (.tuple #[.agg cs, tmps.getD t2 undef, tmps.getD t3 undef]) w := by
  have hp' : tmps[p]?.getD undef = .pointer (some ⟨g, 0, none⟩) := by simpa using hp
  simp [results, h, hp', asAddr, run_loadVar_row w g t ty cs fr d hg hu hd hi]
theorem res_mom3 {fn : Func} {p t2 t3 : Tmp} (h : fn.results = #[.cell p 151, .tmp t2, .tmp t3]) {tmps : Array Value} {w : World} {g : Nat} {a0 a1 a2 a3 a4 a5 : Value} (hp : tmps.getD p undef = .pointer (some ⟨g, 0, none⟩)) (hg : w.heap[g]? = some (.cells #[a0, a1, a2, a3, a4, a5] 151 (0, 0))) :
    (results fn tmps).run Tryd.prog w = .ok (.tuple #[.agg #[a0, a1, a2, a3, a4, a5], tmps.getD t2 undef, tmps.getD t3 undef]) w :=
  results_cell_tmp2 h tmps w g _ _ _ _ hp hg Tryd.underlying151 rfl mom_size
noncomputable def locV (o : Int) (lr : Nat) (g : Nat → Nat → Int) (t : Int) : Value := if offE o lr g t = 0 then momV (t + offV o lr g t) else mom0
noncomputable def locS (o : Int) (lr : Nat) (g : Nat → Nat → Int) (t : Int) : Bool := if offE o lr g t = 0 then !(offV o lr g t == o) else false
noncomputable def dayQ (o : Int) (lr : Nat) (g : Nat → Nat → Int) (t : Int) : Int := if offE o lr g t = 0 then (t + offV o lr g t) / 86400 else 0
noncomputable def minQ (o : Int) (lr : Nat) (g : Nat → Nat → Int) (t : Int) : Int := if offE o lr g t = 0 then (t + offV o lr g t) % 86400 / 60 else 0
theorem off_sec {o : Int} {lr : Nat} {g : Nat → Nat → Int} {t : Int} (h : offE o lr g t = 0) : secOk (t + offV o lr g t) := by
  obtain ⟨h1, h2, h3, h4⟩ := off_ok h
  rw [h4, show t + (o + extV g lr (t + o)) = t + o + extV g lr (t + o) by omega]
  exact h3
theorem offE_cases (o : Int) (lr : Nat) (g : Nat → Nat → Int) (t : Int) : offE o lr g t = 0 ∨ (offE o lr g t ≠ 0 ∧ offV o lr g t = 0 ∧ (offE o lr g t = 60 ∨ offE o lr g t = 70)) := by
  by_cases h : offE o lr g t = 0
  · exact .inl h
  · refine .inr ⟨h, if_neg h, ?_⟩
    unfold offE at h ⊢
    split at h <;> rename_i h1
    · rw [if_pos h1]
      split at h <;> rename_i h2
      · exact absurd rfl h
      · rw [if_neg h2]; exact .inl rfl
    · rw [if_neg h1]; exact .inr rfl
set_option maxRecDepth 100000 in
set_option maxHeartbeats 16000000 in
theorem zDay_calls (o : Int) (A : Option Addr) (lr cr : Nat) (g : Nat → Nat → Int) (t : Int) (w : World) (hR : RdZ w A lr cr g) (hL : Lens w) :
    Calls Tryd.prog 27 #[zonC o A lr cr, .int .i64 t] w fun e w' => e = .returned (.tuple #[.int .i64 (dayQ o lr g t), .int .i64 (minQ o lr g t), .int .i64 (offE o lr g t)]) ∧ Below w.heap.size w w' := by
  obtain ⟨b0, hb0⟩ : ∃ b0, w.heap.size = b0 := ⟨_, rfl⟩
  obtain ⟨W1, hW1⟩ : ∃ W1, w.alloc (.cells #[.int .i64 o, .slice A lr cr] 43) = W1 := ⟨_, rfl⟩
  have hst1 : Below w.heap.size w W1 := hW1 ▸ bstep w _
  have hr1 : W1.heap[b0]? = some (.cells #[.int .i64 o, .slice A lr cr] 43 (0, 0)) := by rw [← hb0, ← hW1]; exact World.alloc_heap_new w _
  have e0 := cell_of_row W1 b0 0 _ _ _ hr1
  have e1 := cell_of_row W1 b0 1 _ _ _ hr1
  have HO := zOffset_calls o A lr cr g t W1 (hR.go hst1) (hL.go hst1)
  unfold zonC at HO ⊢
  rcases offE_cases o lr g t with he | ⟨he, hv, hee⟩
  · have hs := off_sec he
    rw [show dayQ o lr g t = (t + offV o lr g t) / 86400 from if_pos he, show minQ o lr g t = (t + offV o lr g t) % 86400 / 60 from if_pos he]
    rw [he] at HO ⊢
    obtain ⟨n, hn⟩ : ∃ n, offV o lr g t = n := ⟨_, rfl⟩
    rw [hn] at HO hs ⊢
    obtain ⟨u, hu⟩ : ∃ u, t + n = u := ⟨_, rfl⟩
    rw [hu] at hs ⊢
    unfold secOk at hs
    have w1 : IntKind.i64.wrap (t + n) = u := by rw [hu]; exact i64_same u (by omega)
    have X1 : Hid (wrap64 (t + n) = u) := by show _ = _; rw [hu]; exact wrap64_in u (by omega)
    have t1 : u.tdiv 86400 = u / 86400 := Int.tdiv_eq_ediv_of_nonneg (by omega)
    have t2 : u.tmod 86400 = u % 86400 := Int.tmod_eq_emod_of_nonneg (by omega)
    have t3 : (u % 86400).tdiv 60 = u % 86400 / 60 := Int.tdiv_eq_ediv_of_nonneg (by omega)
    have a1 := i64_same (u / 86400) (by omega)
    have a2 := i64_same (u % 86400) (by omega)
    have a3 := i64_same (u % 86400 / 60) (by omega)
    replace HO := Lib.hid HO
    clear he hn hs hu hR hL hr1
    have x1 := X1.out
    go_enter Tryd.func27, Tryd.ntmps27
    go_wp2_with fail
    refine HO.out.mono ?_
    rintro e w3 ⟨rfl, hb3⟩
    have hB3 := bnext hst1 hb3
    go_wp2_with fail
    clear x1
    go_ret3
    exact ⟨rfl, hB3⟩
  · rw [show dayQ o lr g t = 0 from if_neg he, show minQ o lr g t = 0 from if_neg he]
    rw [hv] at HO
    obtain ⟨E, hE⟩ : ∃ E, offE o lr g t = E := ⟨_, rfl⟩
    rw [hE] at HO he ⊢
    replace HO := Lib.hid HO
    have kE : (E == 0) = false := beq_eq_false_iff_ne.2 he
    clear he hv hee hE hR hL hr1
    go_enter Tryd.func27, Tryd.ntmps27
    go_wp2_with fail
    refine HO.out.mono ?_
    rintro e w3 ⟨rfl, hb3⟩
    have hB3 := bnext hst1 hb3
    go_wp2_with fail
    go_ret3
    exact ⟨rfl, hB3⟩
end Go.Proofs.YtgbkedjjgbhcmaaDoor

/-
  Easter Sunday: both sides, walked. Conditions stand at each theorem. (Printed by gen_easter.py.)
-/
namespace Go.Proofs.YtgbkedjjgbhcmaaDoor
open Go Go.RowKit Go.Kw Go.Kw.Cv Go.Shelf
set_option linter.unusedVariables false
set_option linter.unusedSimpArgs false

def eaA (y : Int) : Int := y % 19
def eaB (y : Int) : Int := y / 100
def eaC (y : Int) : Int := y % 100
def eaG (y : Int) : Int := (eaB y - (eaB y + 8) / 25 + 1) / 3
def eaH (y : Int) : Int := (19 * eaA y + eaB y - eaB y / 4 - eaG y + 15) % 30
def eaL (y : Int) : Int := (32 + 2 * (eaB y % 4) + 2 * (eaC y / 4) - eaH y - eaC y % 4) % 7
def eaM (y : Int) : Int := (eaA y + 11 * eaH y + 22 * eaL y) / 451
def eaN (y : Int) : Int := eaH y + eaL y - 7 * eaM y + 114
/-- Easter Sunday's month and day. -/
def easM (y : Int) : Int := eaN y / 31
def easD (y : Int) : Int := eaN y % 31 + 1
set_option maxRecDepth 100000 in
set_option maxHeartbeats 8000000 in
theorem easter_calls (y : Int) (hy : 1970 ≤ y ∧ y ≤ 9999) (w : World) : Calls Tryd.prog 94 #[.int .i64 y] w fun e w' => e = .returned (.tuple #[.agg #[.int .i64 y, .int .i64 (easM y), .int .i64 (easD y)], .int .i64 0]) ∧ Below w.heap.size w w' := by
  have HIn := in_calls y 1970 9999
  rw [show (decide (1970 ≤ y) && decide (y ≤ 9999)) = true by rw [decide_eq_true hy.1, decide_eq_true hy.2]; rfl] at HIn
  replace HIn := Lib.hid HIn
  have Ry := Lib.hid hy
  clear hy
  obtain ⟨A, EA⟩ : ∃ A : Int, y % 19 = A := ⟨_, rfl⟩
  have RA := Lib.hid (show 0 ≤ A ∧ A ≤ 18 by have := Ry.out; omega)
  have DA := Lib.hid (show Int.tmod y 19 = A by have := Ry.out; rw [Int.tmod_eq_emod_of_nonneg (by omega)]; exact EA)
  have WA := Lib.hid (i64_same A (by have := RA.out; omega))
  replace EA := Lib.hid EA
  obtain ⟨B, EB⟩ : ∃ B : Int, y / 100 = B := ⟨_, rfl⟩
  have RB := Lib.hid (show 19 ≤ B ∧ B ≤ 99 by have := Ry.out; omega)
  have DB := Lib.hid (show Int.tdiv y 100 = B by have := Ry.out; rw [Int.tdiv_eq_ediv_of_nonneg (by omega)]; exact EB)
  have WB := Lib.hid (i64_same B (by have := RB.out; omega))
  replace EB := Lib.hid EB
  obtain ⟨C, EC⟩ : ∃ C : Int, y % 100 = C := ⟨_, rfl⟩
  have RC := Lib.hid (show 0 ≤ C ∧ C ≤ 99 by have := Ry.out; omega)
  have DC := Lib.hid (show Int.tmod y 100 = C by have := Ry.out; rw [Int.tmod_eq_emod_of_nonneg (by omega)]; exact EC)
  have WC := Lib.hid (i64_same C (by have := RC.out; omega))
  replace EC := Lib.hid EC
  obtain ⟨T24, ET24⟩ : ∃ T24 : Int, B + 8 = T24 := ⟨_, rfl⟩
  have RT24 := Lib.hid (show 27 ≤ T24 ∧ T24 ≤ 107 by have := RB.out; omega)
  have WT24 := Lib.hid (show IntKind.i64.wrap (B + 8) = T24 by rw [ET24]; exact i64_same _ (by have := RT24.out; omega))
  have XT24 := Lib.hid (show wrap64 (B + 8) = T24 by rw [ET24]; exact wrap64_in _ (by have := RT24.out; omega))
  replace ET24 := Lib.hid ET24
  obtain ⟨T25, ET25⟩ : ∃ T25 : Int, T24 / 25 = T25 := ⟨_, rfl⟩
  have RT25 := Lib.hid (show 1 ≤ T25 ∧ T25 ≤ 4 by have := RT24.out; omega)
  have DT25 := Lib.hid (show Int.tdiv T24 25 = T25 by have := RT24.out; rw [Int.tdiv_eq_ediv_of_nonneg (by omega)]; exact ET25)
  have WT25 := Lib.hid (i64_same T25 (by have := RT25.out; omega))
  replace ET25 := Lib.hid ET25
  obtain ⟨T26, ET26⟩ : ∃ T26 : Int, B - T25 = T26 := ⟨_, rfl⟩
  have RT26 := Lib.hid (show 15 ≤ T26 ∧ T26 ≤ 98 by have := RB.out; have := RT25.out; omega)
  have WT26 := Lib.hid (show IntKind.i64.wrap (B - T25) = T26 by rw [ET26]; exact i64_same _ (by have := RT26.out; omega))
  have XT26 := Lib.hid (show wrap64 (B - T25) = T26 by rw [ET26]; exact wrap64_in _ (by have := RT26.out; omega))
  replace ET26 := Lib.hid ET26
  obtain ⟨T27, ET27⟩ : ∃ T27 : Int, T26 + 1 = T27 := ⟨_, rfl⟩
  have RT27 := Lib.hid (show 16 ≤ T27 ∧ T27 ≤ 99 by have := RT26.out; omega)
  have WT27 := Lib.hid (show IntKind.i64.wrap (T26 + 1) = T27 by rw [ET27]; exact i64_same _ (by have := RT27.out; omega))
  have XT27 := Lib.hid (show wrap64 (T26 + 1) = T27 by rw [ET27]; exact wrap64_in _ (by have := RT27.out; omega))
  replace ET27 := Lib.hid ET27
  obtain ⟨G, EG⟩ : ∃ G : Int, T27 / 3 = G := ⟨_, rfl⟩
  have RG := Lib.hid (show 5 ≤ G ∧ G ≤ 33 by have := RT27.out; omega)
  have DG := Lib.hid (show Int.tdiv T27 3 = G by have := RT27.out; rw [Int.tdiv_eq_ediv_of_nonneg (by omega)]; exact EG)
  have WG := Lib.hid (i64_same G (by have := RG.out; omega))
  replace EG := Lib.hid EG
  obtain ⟨T30, ET30⟩ : ∃ T30 : Int, 19 * A = T30 := ⟨_, rfl⟩
  have RT30 := Lib.hid (show 0 ≤ T30 ∧ T30 ≤ 342 by have := RA.out; omega)
  have WT30 := Lib.hid (show IntKind.i64.wrap (19 * A) = T30 by rw [ET30]; exact i64_same _ (by have := RT30.out; omega))
  have XT30 := Lib.hid (show wrap64 (19 * A) = T30 by rw [ET30]; exact wrap64_in _ (by have := RT30.out; omega))
  replace ET30 := Lib.hid ET30
  obtain ⟨T32, ET32⟩ : ∃ T32 : Int, T30 + B = T32 := ⟨_, rfl⟩
  have RT32 := Lib.hid (show 19 ≤ T32 ∧ T32 ≤ 441 by have := RT30.out; have := RB.out; omega)
  have WT32 := Lib.hid (show IntKind.i64.wrap (T30 + B) = T32 by rw [ET32]; exact i64_same _ (by have := RT32.out; omega))
  have XT32 := Lib.hid (show wrap64 (T30 + B) = T32 by rw [ET32]; exact wrap64_in _ (by have := RT32.out; omega))
  replace ET32 := Lib.hid ET32
  obtain ⟨T34, ET34⟩ : ∃ T34 : Int, B / 4 = T34 := ⟨_, rfl⟩
  have RT34 := Lib.hid (show 4 ≤ T34 ∧ T34 ≤ 24 by have := RB.out; omega)
  have DT34 := Lib.hid (show Int.tdiv B 4 = T34 by have := RB.out; rw [Int.tdiv_eq_ediv_of_nonneg (by omega)]; exact ET34)
  have WT34 := Lib.hid (i64_same T34 (by have := RT34.out; omega))
  replace ET34 := Lib.hid ET34
  obtain ⟨T35, ET35⟩ : ∃ T35 : Int, T32 - T34 = T35 := ⟨_, rfl⟩
  have RT35 := Lib.hid (show -5 ≤ T35 ∧ T35 ≤ 437 by have := RT32.out; have := RT34.out; omega)
  have WT35 := Lib.hid (show IntKind.i64.wrap (T32 - T34) = T35 by rw [ET35]; exact i64_same _ (by have := RT35.out; omega))
  have XT35 := Lib.hid (show wrap64 (T32 - T34) = T35 by rw [ET35]; exact wrap64_in _ (by have := RT35.out; omega))
  replace ET35 := Lib.hid ET35
  obtain ⟨T37, ET37⟩ : ∃ T37 : Int, T35 - G = T37 := ⟨_, rfl⟩
  have RT37 := Lib.hid (show -38 ≤ T37 ∧ T37 ≤ 432 by have := RT35.out; have := RG.out; omega)
  have WT37 := Lib.hid (show IntKind.i64.wrap (T35 - G) = T37 by rw [ET37]; exact i64_same _ (by have := RT37.out; omega))
  have XT37 := Lib.hid (show wrap64 (T35 - G) = T37 by rw [ET37]; exact wrap64_in _ (by have := RT37.out; omega))
  replace ET37 := Lib.hid ET37
  obtain ⟨T38, ET38⟩ : ∃ T38 : Int, T37 + 15 = T38 := ⟨_, rfl⟩
  have RT38 := Lib.hid (show 0 ≤ T38 ∧ T38 ≤ 1000 by have := RT37.out; have := ET24.out; have := RT24.out; have := ET25.out; have := RT25.out; have := ET26.out; have := RT26.out; have := ET27.out; have := RT27.out; have := EG.out; have := RG.out; have := ET30.out; have := RT30.out; have := ET32.out; have := RT32.out; have := ET34.out; have := RT34.out; have := ET35.out; have := RT35.out; have := ET37.out; have := RT37.out; have := RB.out; have := RA.out; omega)
  have WT38 := Lib.hid (show IntKind.i64.wrap (T37 + 15) = T38 by rw [ET38]; exact i64_same _ (by have := RT38.out; omega))
  have XT38 := Lib.hid (show wrap64 (T37 + 15) = T38 by rw [ET38]; exact wrap64_in _ (by have := RT38.out; omega))
  replace ET38 := Lib.hid ET38
  obtain ⟨H, EH⟩ : ∃ H : Int, T38 % 30 = H := ⟨_, rfl⟩
  have RH := Lib.hid (show 0 ≤ H ∧ H ≤ 29 by have := RT38.out; omega)
  have DH := Lib.hid (show Int.tmod T38 30 = H by have := RT38.out; rw [Int.tmod_eq_emod_of_nonneg (by omega)]; exact EH)
  have WH := Lib.hid (i64_same H (by have := RH.out; omega))
  replace EH := Lib.hid EH
  obtain ⟨T41, ET41⟩ : ∃ T41 : Int, B % 4 = T41 := ⟨_, rfl⟩
  have RT41 := Lib.hid (show 0 ≤ T41 ∧ T41 ≤ 3 by have := RB.out; omega)
  have DT41 := Lib.hid (show Int.tmod B 4 = T41 by have := RB.out; rw [Int.tmod_eq_emod_of_nonneg (by omega)]; exact ET41)
  have WT41 := Lib.hid (i64_same T41 (by have := RT41.out; omega))
  replace ET41 := Lib.hid ET41
  obtain ⟨T42, ET42⟩ : ∃ T42 : Int, 2 * T41 = T42 := ⟨_, rfl⟩
  have RT42 := Lib.hid (show 0 ≤ T42 ∧ T42 ≤ 6 by have := RT41.out; omega)
  have WT42 := Lib.hid (show IntKind.i64.wrap (2 * T41) = T42 by rw [ET42]; exact i64_same _ (by have := RT42.out; omega))
  have XT42 := Lib.hid (show wrap64 (2 * T41) = T42 by rw [ET42]; exact wrap64_in _ (by have := RT42.out; omega))
  replace ET42 := Lib.hid ET42
  obtain ⟨T43, ET43⟩ : ∃ T43 : Int, 32 + T42 = T43 := ⟨_, rfl⟩
  have RT43 := Lib.hid (show 32 ≤ T43 ∧ T43 ≤ 38 by have := RT42.out; omega)
  have WT43 := Lib.hid (show IntKind.i64.wrap (32 + T42) = T43 by rw [ET43]; exact i64_same _ (by have := RT43.out; omega))
  have XT43 := Lib.hid (show wrap64 (32 + T42) = T43 by rw [ET43]; exact wrap64_in _ (by have := RT43.out; omega))
  replace ET43 := Lib.hid ET43
  obtain ⟨T45, ET45⟩ : ∃ T45 : Int, C / 4 = T45 := ⟨_, rfl⟩
  have RT45 := Lib.hid (show 0 ≤ T45 ∧ T45 ≤ 24 by have := RC.out; omega)
  have DT45 := Lib.hid (show Int.tdiv C 4 = T45 by have := RC.out; rw [Int.tdiv_eq_ediv_of_nonneg (by omega)]; exact ET45)
  have WT45 := Lib.hid (i64_same T45 (by have := RT45.out; omega))
  replace ET45 := Lib.hid ET45
  obtain ⟨T46, ET46⟩ : ∃ T46 : Int, 2 * T45 = T46 := ⟨_, rfl⟩
  have RT46 := Lib.hid (show 0 ≤ T46 ∧ T46 ≤ 48 by have := RT45.out; omega)
  have WT46 := Lib.hid (show IntKind.i64.wrap (2 * T45) = T46 by rw [ET46]; exact i64_same _ (by have := RT46.out; omega))
  have XT46 := Lib.hid (show wrap64 (2 * T45) = T46 by rw [ET46]; exact wrap64_in _ (by have := RT46.out; omega))
  replace ET46 := Lib.hid ET46
  obtain ⟨T47, ET47⟩ : ∃ T47 : Int, T43 + T46 = T47 := ⟨_, rfl⟩
  have RT47 := Lib.hid (show 32 ≤ T47 ∧ T47 ≤ 86 by have := RT43.out; have := RT46.out; omega)
  have WT47 := Lib.hid (show IntKind.i64.wrap (T43 + T46) = T47 by rw [ET47]; exact i64_same _ (by have := RT47.out; omega))
  have XT47 := Lib.hid (show wrap64 (T43 + T46) = T47 by rw [ET47]; exact wrap64_in _ (by have := RT47.out; omega))
  replace ET47 := Lib.hid ET47
  obtain ⟨T49, ET49⟩ : ∃ T49 : Int, T47 - H = T49 := ⟨_, rfl⟩
  have RT49 := Lib.hid (show 3 ≤ T49 ∧ T49 ≤ 86 by have := RT47.out; have := RH.out; omega)
  have WT49 := Lib.hid (show IntKind.i64.wrap (T47 - H) = T49 by rw [ET49]; exact i64_same _ (by have := RT49.out; omega))
  have XT49 := Lib.hid (show wrap64 (T47 - H) = T49 by rw [ET49]; exact wrap64_in _ (by have := RT49.out; omega))
  replace ET49 := Lib.hid ET49
  obtain ⟨T51, ET51⟩ : ∃ T51 : Int, C % 4 = T51 := ⟨_, rfl⟩
  have RT51 := Lib.hid (show 0 ≤ T51 ∧ T51 ≤ 3 by have := RC.out; omega)
  have DT51 := Lib.hid (show Int.tmod C 4 = T51 by have := RC.out; rw [Int.tmod_eq_emod_of_nonneg (by omega)]; exact ET51)
  have WT51 := Lib.hid (i64_same T51 (by have := RT51.out; omega))
  replace ET51 := Lib.hid ET51
  obtain ⟨T52, ET52⟩ : ∃ T52 : Int, T49 - T51 = T52 := ⟨_, rfl⟩
  have RT52 := Lib.hid (show 0 ≤ T52 ∧ T52 ≤ 86 by have := RT49.out; have := RT51.out; omega)
  have WT52 := Lib.hid (show IntKind.i64.wrap (T49 - T51) = T52 by rw [ET52]; exact i64_same _ (by have := RT52.out; omega))
  have XT52 := Lib.hid (show wrap64 (T49 - T51) = T52 by rw [ET52]; exact wrap64_in _ (by have := RT52.out; omega))
  replace ET52 := Lib.hid ET52
  obtain ⟨L, EL⟩ : ∃ L : Int, T52 % 7 = L := ⟨_, rfl⟩
  have RL := Lib.hid (show 0 ≤ L ∧ L ≤ 6 by have := RT52.out; omega)
  have DL := Lib.hid (show Int.tmod T52 7 = L by have := RT52.out; rw [Int.tmod_eq_emod_of_nonneg (by omega)]; exact EL)
  have WL := Lib.hid (i64_same L (by have := RL.out; omega))
  replace EL := Lib.hid EL
  obtain ⟨T56, ET56⟩ : ∃ T56 : Int, 11 * H = T56 := ⟨_, rfl⟩
  have RT56 := Lib.hid (show 0 ≤ T56 ∧ T56 ≤ 319 by have := RH.out; omega)
  have WT56 := Lib.hid (show IntKind.i64.wrap (11 * H) = T56 by rw [ET56]; exact i64_same _ (by have := RT56.out; omega))
  have XT56 := Lib.hid (show wrap64 (11 * H) = T56 by rw [ET56]; exact wrap64_in _ (by have := RT56.out; omega))
  replace ET56 := Lib.hid ET56
  obtain ⟨T57, ET57⟩ : ∃ T57 : Int, A + T56 = T57 := ⟨_, rfl⟩
  have RT57 := Lib.hid (show 0 ≤ T57 ∧ T57 ≤ 337 by have := RA.out; have := RT56.out; omega)
  have WT57 := Lib.hid (show IntKind.i64.wrap (A + T56) = T57 by rw [ET57]; exact i64_same _ (by have := RT57.out; omega))
  have XT57 := Lib.hid (show wrap64 (A + T56) = T57 by rw [ET57]; exact wrap64_in _ (by have := RT57.out; omega))
  replace ET57 := Lib.hid ET57
  obtain ⟨T59, ET59⟩ : ∃ T59 : Int, 22 * L = T59 := ⟨_, rfl⟩
  have RT59 := Lib.hid (show 0 ≤ T59 ∧ T59 ≤ 132 by have := RL.out; omega)
  have WT59 := Lib.hid (show IntKind.i64.wrap (22 * L) = T59 by rw [ET59]; exact i64_same _ (by have := RT59.out; omega))
  have XT59 := Lib.hid (show wrap64 (22 * L) = T59 by rw [ET59]; exact wrap64_in _ (by have := RT59.out; omega))
  replace ET59 := Lib.hid ET59
  obtain ⟨T60, ET60⟩ : ∃ T60 : Int, T57 + T59 = T60 := ⟨_, rfl⟩
  have RT60 := Lib.hid (show 0 ≤ T60 ∧ T60 ≤ 469 by have := RT57.out; have := RT59.out; omega)
  have WT60 := Lib.hid (show IntKind.i64.wrap (T57 + T59) = T60 by rw [ET60]; exact i64_same _ (by have := RT60.out; omega))
  have XT60 := Lib.hid (show wrap64 (T57 + T59) = T60 by rw [ET60]; exact wrap64_in _ (by have := RT60.out; omega))
  replace ET60 := Lib.hid ET60
  obtain ⟨M, EM⟩ : ∃ M : Int, T60 / 451 = M := ⟨_, rfl⟩
  have RM := Lib.hid (show 0 ≤ M ∧ M ≤ 1 by have := RT60.out; omega)
  have DM := Lib.hid (show Int.tdiv T60 451 = M by have := RT60.out; rw [Int.tdiv_eq_ediv_of_nonneg (by omega)]; exact EM)
  have WM := Lib.hid (i64_same M (by have := RM.out; omega))
  replace EM := Lib.hid EM
  obtain ⟨T64, ET64⟩ : ∃ T64 : Int, H + L = T64 := ⟨_, rfl⟩
  have RT64 := Lib.hid (show 0 ≤ T64 ∧ T64 ≤ 35 by have := RH.out; have := RL.out; omega)
  have WT64 := Lib.hid (show IntKind.i64.wrap (H + L) = T64 by rw [ET64]; exact i64_same _ (by have := RT64.out; omega))
  have XT64 := Lib.hid (show wrap64 (H + L) = T64 by rw [ET64]; exact wrap64_in _ (by have := RT64.out; omega))
  replace ET64 := Lib.hid ET64
  obtain ⟨T66, ET66⟩ : ∃ T66 : Int, 7 * M = T66 := ⟨_, rfl⟩
  have RT66 := Lib.hid (show 0 ≤ T66 ∧ T66 ≤ 7 by have := RM.out; omega)
  have WT66 := Lib.hid (show IntKind.i64.wrap (7 * M) = T66 by rw [ET66]; exact i64_same _ (by have := RT66.out; omega))
  have XT66 := Lib.hid (show wrap64 (7 * M) = T66 by rw [ET66]; exact wrap64_in _ (by have := RT66.out; omega))
  replace ET66 := Lib.hid ET66
  obtain ⟨T67, ET67⟩ : ∃ T67 : Int, T64 - T66 = T67 := ⟨_, rfl⟩
  have RT67 := Lib.hid (show -7 ≤ T67 ∧ T67 ≤ 35 by have := RT64.out; have := RT66.out; omega)
  have WT67 := Lib.hid (show IntKind.i64.wrap (T64 - T66) = T67 by rw [ET67]; exact i64_same _ (by have := RT67.out; omega))
  have XT67 := Lib.hid (show wrap64 (T64 - T66) = T67 by rw [ET67]; exact wrap64_in _ (by have := RT67.out; omega))
  replace ET67 := Lib.hid ET67
  obtain ⟨N, EN⟩ : ∃ N : Int, T67 + 114 = N := ⟨_, rfl⟩
  have RN := Lib.hid (show 107 ≤ N ∧ N ≤ 149 by have := RT67.out; omega)
  have WN := Lib.hid (show IntKind.i64.wrap (T67 + 114) = N by rw [EN]; exact i64_same _ (by have := RN.out; omega))
  have XN := Lib.hid (show wrap64 (T67 + 114) = N by rw [EN]; exact wrap64_in _ (by have := RN.out; omega))
  replace EN := Lib.hid EN
  obtain ⟨T71, ET71⟩ : ∃ T71 : Int, N / 31 = T71 := ⟨_, rfl⟩
  have RT71 := Lib.hid (show 3 ≤ T71 ∧ T71 ≤ 4 by have := RN.out; omega)
  have DT71 := Lib.hid (show Int.tdiv N 31 = T71 by have := RN.out; rw [Int.tdiv_eq_ediv_of_nonneg (by omega)]; exact ET71)
  have WT71 := Lib.hid (i64_same T71 (by have := RT71.out; omega))
  replace ET71 := Lib.hid ET71
  obtain ⟨T73, ET73⟩ : ∃ T73 : Int, N % 31 = T73 := ⟨_, rfl⟩
  have RT73 := Lib.hid (show 0 ≤ T73 ∧ T73 ≤ 30 by have := RN.out; omega)
  have DT73 := Lib.hid (show Int.tmod N 31 = T73 by have := RN.out; rw [Int.tmod_eq_emod_of_nonneg (by omega)]; exact ET73)
  have WT73 := Lib.hid (i64_same T73 (by have := RT73.out; omega))
  replace ET73 := Lib.hid ET73
  obtain ⟨T74, ET74⟩ : ∃ T74 : Int, T73 + 1 = T74 := ⟨_, rfl⟩
  have RT74 := Lib.hid (show 1 ≤ T74 ∧ T74 ≤ 31 by have := RT73.out; omega)
  have WT74 := Lib.hid (show IntKind.i64.wrap (T73 + 1) = T74 by rw [ET74]; exact i64_same _ (by have := RT74.out; omega))
  have XT74 := Lib.hid (show wrap64 (T73 + 1) = T74 by rw [ET74]; exact wrap64_in _ (by have := RT74.out; omega))
  replace ET74 := Lib.hid ET74
  have Esm : easM y = T71 := by
    simp only [← ET71.out, ← EN.out, ← ET67.out, ← ET66.out, ← EM.out, ← ET60.out, ← ET59.out, ← ET57.out, ← ET56.out, ← ET64.out, ← EL.out, ← ET52.out, ← ET49.out, ← ET51.out, ← ET47.out, ← ET46.out, ← ET45.out, ← ET43.out, ← ET42.out, ← ET41.out, ← EH.out, ← ET38.out, ← ET37.out, ← ET35.out, ← ET34.out, ← ET32.out, ← ET30.out, ← EG.out, ← ET27.out, ← ET26.out, ← ET25.out, ← ET24.out, ← EC.out, ← EB.out, ← EA.out]; rfl
  have Esd : easD y = T74 := by
    simp only [← ET74.out, ← ET73.out, ← EN.out, ← ET67.out, ← ET66.out, ← EM.out, ← ET60.out, ← ET59.out, ← ET57.out, ← ET56.out, ← ET64.out, ← EL.out, ← ET52.out, ← ET49.out, ← ET51.out, ← ET47.out, ← ET46.out, ← ET45.out, ← ET43.out, ← ET42.out, ← ET41.out, ← EH.out, ← ET38.out, ← ET37.out, ← ET35.out, ← ET34.out, ← ET32.out, ← ET30.out, ← EG.out, ← ET27.out, ← ET26.out, ← ET25.out, ← ET24.out, ← EC.out, ← EB.out, ← EA.out]; rfl
  rw [Esm, Esd]
  clear Esm Esd
  have dA := DA.out
  have wA := WA.out
  have dB := DB.out
  have wB := WB.out
  have dC := DC.out
  have wC := WC.out
  have wT24 := WT24.out
  have xT24 := XT24.out
  have dT25 := DT25.out
  have wT25 := WT25.out
  have wT26 := WT26.out
  have xT26 := XT26.out
  have wT27 := WT27.out
  have xT27 := XT27.out
  have dG := DG.out
  have wG := WG.out
  have wT30 := WT30.out
  have xT30 := XT30.out
  have wT32 := WT32.out
  have xT32 := XT32.out
  have dT34 := DT34.out
  have wT34 := WT34.out
  have wT35 := WT35.out
  have xT35 := XT35.out
  have wT37 := WT37.out
  have xT37 := XT37.out
  have wT38 := WT38.out
  have xT38 := XT38.out
  have dH := DH.out
  have wH := WH.out
  have dT41 := DT41.out
  have wT41 := WT41.out
  have wT42 := WT42.out
  have xT42 := XT42.out
  have wT43 := WT43.out
  have xT43 := XT43.out
  have dT45 := DT45.out
  have wT45 := WT45.out
  have wT46 := WT46.out
  have xT46 := XT46.out
  have wT47 := WT47.out
  have xT47 := XT47.out
  have wT49 := WT49.out
  have xT49 := XT49.out
  have dT51 := DT51.out
  have wT51 := WT51.out
  have wT52 := WT52.out
  have xT52 := XT52.out
  have dL := DL.out
  have wL := WL.out
  have wT56 := WT56.out
  have xT56 := XT56.out
  have wT57 := WT57.out
  have xT57 := XT57.out
  have wT59 := WT59.out
  have xT59 := XT59.out
  have wT60 := WT60.out
  have xT60 := XT60.out
  have dM := DM.out
  have wM := WM.out
  have wT64 := WT64.out
  have xT64 := XT64.out
  have wT66 := WT66.out
  have xT66 := XT66.out
  have wT67 := WT67.out
  have xT67 := XT67.out
  have wN := WN.out
  have xN := XN.out
  have dT71 := DT71.out
  have wT71 := WT71.out
  have dT73 := DT73.out
  have wT73 := WT73.out
  have wT74 := WT74.out
  have xT74 := XT74.out
  obtain ⟨b0, hb0⟩ : ∃ b0, w.heap.size = b0 := ⟨_, rfl⟩
  have Hb0 := Lib.hid hb0
  have hrow := World.alloc_heap_new w (.cells #[.int .i64 0, .int .i64 0, .int .i64 0] 121)
  have hB1 := bstep w (.cells #[.int .i64 0, .int .i64 0, .int .i64 0] 121)
  rw [hb0] at hrow hB1
  have hs1 : (w.alloc (.cells #[.int .i64 0, .int .i64 0, .int .i64 0] 121)).heap.size = b0 + 1 := by simp [hb0]
  go_enter Tryd.func94, Tryd.ntmps94
  go_wp2_with fail
  refine (HIn.out _).mono ?_
  rintro e w1 ⟨rfl, rfl⟩
  have z0 := cell_of_row _ b0 0 _ _ _ hrow
  have z1 := cell_of_row _ b0 1 _ _ _ hrow
  have z2 := cell_of_row _ b0 2 _ _ _ hrow
  have f0 := blk_frozen hrow 0
  have f1 := blk_frozen hrow 1
  have f2 := blk_frozen hrow 2
  have hz7 := World.alloc_heap_new w (.cells #[.int .i64 y, .int .i64 T71, .int .i64 T74] 121)
  have hB7 := bstep w (.cells #[.int .i64 y, .int .i64 T71, .int .i64 T74] 121)
  rw [hb0] at hz7 hB7
  clear hrow hB1
  go_wp2_with fail
  refine bodyPost_ret (res_date rfl rfl hz7) rfl ?_
  exact ⟨rfl, by rw [Hb0.out]; exact hB7⟩
set_option maxRecDepth 100000 in
set_option maxHeartbeats 8000000 in
theorem easter_bad (y : Int) (hy : ¬ (1970 ≤ y ∧ y ≤ 9999)) (w : World) : Calls Tryd.prog 94 #[.int .i64 y] w fun e w' => e = .returned (.tuple #[.agg #[.int .i64 0, .int .i64 0, .int .i64 0], .int .i64 60]) ∧ Below w.heap.size w w' := by
  have HIn := in_calls y 1970 9999
  rw [show (decide (1970 ≤ y) && decide (y ≤ 9999)) = false by
    rw [Bool.and_eq_false_iff, decide_eq_false_iff_not, decide_eq_false_iff_not]; omega] at HIn
  replace HIn := Lib.hid HIn
  clear hy
  obtain ⟨b0, hb0⟩ : ∃ b0, w.heap.size = b0 := ⟨_, rfl⟩
  have Hb0 := Lib.hid hb0
  have hrow := World.alloc_heap_new w (.cells #[.int .i64 0, .int .i64 0, .int .i64 0] 121)
  have hB1 := bstep w (.cells #[.int .i64 0, .int .i64 0, .int .i64 0] 121)
  rw [hb0] at hrow hB1
  go_enter Tryd.func94, Tryd.ntmps94
  go_wp2_with fail
  refine (HIn.out _).mono ?_
  rintro e w1 ⟨rfl, rfl⟩
  have z0 := cell_of_row _ b0 0 _ _ _ hrow
  have z1 := cell_of_row _ b0 1 _ _ _ hrow
  have z2 := cell_of_row _ b0 2 _ _ _ hrow
  have f0 := blk_frozen hrow 0
  have f1 := blk_frozen hrow 1
  have f2 := blk_frozen hrow 2
  have hz7 := World.alloc_heap_new w (.cells #[.int .i64 0, .int .i64 0, .int .i64 0] 121)
  have hB7 := bstep w (.cells #[.int .i64 0, .int .i64 0, .int .i64 0] 121)
  rw [hb0] at hz7 hB7
  clear hrow hB1
  go_wp2_with fail
  refine bodyPost_ret (res_date rfl rfl hz7) rfl ?_
  exact ⟨rfl, by rw [Hb0.out]; exact hB7⟩
end Go.Proofs.YtgbkedjjgbhcmaaDoor

/-
  Easter Sunday is a Sunday, from 22 March to 25 April: all years, by calculation. No program here but the definitions.
-/
namespace Go.Proofs.YtgbkedjjgbhcmaaDoor
open Go Go.Kw Go.Kw.Cv

/-- What is to be shown of a year. -/
def easB (y : Int) : Bool :=
  decide (1 ≤ easD y) && (decide (easD y ≤ dim y (easM y)) && (decide (easM y = 3 ∧ 22 ≤ easD y ∨ easM y = 4 ∧ easD y ≤ 25) && decide ((dayN y (easM y) (easD y) + 3) % 7 = 6)))
def easAll : Nat → Bool
  | 0 => true
  | n + 1 => easB (1970 + (n : Int)) && easAll n
theorem easAll_at : ∀ n, easAll n = true → ∀ k, k < n → easB (1970 + (k : Int)) = true
  | 0, _, k, hk => absurd hk (by omega)
  | n + 1, h, k, hk => by
    rw [easAll, Bool.and_eq_true] at h
    by_cases e : k = n
    · rw [e]; exact h.1
    · exact easAll_at n h.2 k (by omega)
theorem easAll_8030 : easAll 8030 = true := by decide +kernel
theorem eas_all {y : Int} (h : 1970 ≤ y ∧ y ≤ 9999) : easB y = true := by
  have := easAll_at 8030 easAll_8030 (y - 1970).toNat (by omega)
  rwa [show (1970 : Int) + ((y - 1970).toNat : Int) = y by omega] at this
/-- Easter Sunday: the date may be, lies from 22 March to 25 April, and is a Sunday. -/
theorem eas_ok {y : Int} (h : 1970 ≤ y ∧ y ≤ 9999) : okD y (easM y) (easD y) := by
  have := eas_all h
  simp only [easB, Bool.and_eq_true, decide_eq_true_eq] at this
  exact ⟨h.1, h.2, this.1, this.2.1⟩
theorem eas_in {y : Int} (h : 1970 ≤ y ∧ y ≤ 9999) : easM y = 3 ∧ 22 ≤ easD y ∨ easM y = 4 ∧ easD y ≤ 25 := by
  have := eas_all h
  simp only [easB, Bool.and_eq_true, decide_eq_true_eq] at this
  exact this.2.2.1
theorem eas_sun {y : Int} (h : 1970 ≤ y ∧ y ≤ 9999) : wdN (dayN y (easM y) (easD y)) = 7 := by
  have := eas_all h
  simp only [easB, Bool.and_eq_true, decide_eq_true_eq] at this
  rw [wd_in (eas_ok h)]
  have := this.2.2.2
  omega
end Go.Proofs.YtgbkedjjgbhcmaaDoor

/-
  Whether a calendar may be: the document's May, walked. Conditions stand at each theorem.
-/
namespace Go.Proofs.YtgbkedjjgbhcmaaDoor
open Go Go.RowKit Go.Kw Go.Kw.Cv Go.Shelf
set_option linter.unusedVariables false
set_option linter.unusedSimpArgs false

theorem meas_step2 (lb q : Nat) (h : q + 1 ≤ lb) : lb - (intOf (Value.int .i64 ((q : Int) + 1))).toNat < lb - (intOf (Value.int .i64 (q : Int))).toNat := meas_step lb q h
end Go.Proofs.YtgbkedjjgbhcmaaDoor

/-
  Holidays' days, a day's kind, its season: in plain numbers; no walk here. Conditions stand at each theorem.
-/
namespace Go.Proofs.YtgbkedjjgbhcmaaDoor
open Go Go.Kw Go.Kw.Cv
set_option linter.unusedVariables false
set_option linter.unusedSimpArgs false

/-- A holiday's day in a year; below 0: it has none. -/
def onV (k hy m d wd n y : Int) : Int :=
  if k = 2 then (if hy = y ∧ okD y m d then dayN y m d else -1)
  else if k = 1 then (if okD y m d then dayN y m d else -1)
  else if k = 3 then (if nthOk y m wd n ∧ nthN y m wd n ≤ dim y m then dayN y m (nthN y m wd n) else -1)
  else (if 1970 ≤ y ∧ y ≤ 9999 then dayN y (easM y) (easD y) + n else -1)
/-- The document's question: is a day that holiday? -/
def behD (D j : Int) : Int := D - dayN j (easM j) (easD j)
def oneP (k hy m d wd n y0 m0 d0 : Int) : Prop :=
  (k = 1 ∧ m0 = m ∧ d0 = d) ∨ (k = 2 ∧ y0 = hy ∧ m0 = m ∧ d0 = d) ∨ (k = 3 ∧ m0 = m ∧ nthV y0 m0 wd n = (d0, 0)) ∨
  (k = 4 ∧ ∃ j, y0 - 1 ≤ j ∧ j ≤ y0 + 1 ∧ 1970 ≤ j ∧ j ≤ 9999 ∧ behD (dayN y0 m0 d0) j = n)
theorem nth_ok (y m k n : Int) (h : nthOk y m k n ∧ nthN y m k n ≤ dim y m) : okD y m (nthN y m k n) := ⟨h.1.1, h.1.2.1, (nth_lo y m k n h.1).1, h.2⟩
theorem nthV_ok {y m k n : Int} (h : nthOk y m k n ∧ nthN y m k n ≤ dim y m) : nthV y m k n = (nthN y m k n, 0) := if_pos h
theorem nthV_no {y m k n : Int} (h : ¬ (nthOk y m k n ∧ nthN y m k n ≤ dim y m)) : nthV y m k n = (0, 60) := if_neg h
theorem one_on (k hy m d wd n y0 m0 d0 : Int) (h : mayB k hy m d wd n) (hok : okD y0 m0 d0) :
    oneP k hy m d wd n y0 m0 d0 ↔ ∃ j, y0 - 1 ≤ j ∧ j ≤ y0 + 1 ∧ onV k hy m d wd n j = dayN y0 m0 d0 := by
  have hr := day_range hok
  unfold oneP
  rcases h with ⟨rfl, -, -, h⟩ | ⟨rfl, -, -, -, h⟩ | ⟨rfl, -, -, h⟩ | ⟨rfl, -, -, -, -, h⟩
  · constructor
    · rintro (⟨h1, _⟩ | ⟨-, rfl, rfl, rfl⟩ | ⟨h1, _⟩ | ⟨h1, _⟩)
      · omega
      · refine ⟨y0, by omega, by omega, ?_⟩
        unfold onV; rw [if_pos rfl, if_pos ⟨rfl, hok⟩]
      · omega
      · omega
    · rintro ⟨j, -, -, hj⟩
      unfold onV at hj
      rw [if_pos rfl] at hj
      by_cases hc : hy = j ∧ okD j m d
      · rw [if_pos hc] at hj
        obtain ⟨h1, h2, h3⟩ := day_inj hc.2 hok hj
        exact .inr (.inl ⟨rfl, by omega, h2.symm, h3.symm⟩)
      · rw [if_neg hc] at hj; omega
  · constructor
    · rintro (⟨-, rfl, rfl⟩ | ⟨h1, _⟩ | ⟨h1, _⟩ | ⟨h1, _⟩)
      · refine ⟨y0, by omega, by omega, ?_⟩
        unfold onV; rw [if_neg (by omega), if_pos rfl, if_pos hok]
      · omega
      · omega
      · omega
    · rintro ⟨j, -, -, hj⟩
      unfold onV at hj
      rw [if_neg (by omega), if_pos rfl] at hj
      by_cases hc : okD j m d
      · rw [if_pos hc] at hj
        obtain ⟨h1, h2, h3⟩ := day_inj hc hok hj
        exact .inl ⟨rfl, h2.symm, h3.symm⟩
      · rw [if_neg hc] at hj; omega
  · constructor
    · rintro (⟨h1, _⟩ | ⟨h1, _⟩ | ⟨-, rfl, h2⟩ | ⟨h1, _⟩)
      · omega
      · omega
      · refine ⟨y0, by omega, by omega, ?_⟩
        unfold onV; rw [if_neg (by omega), if_neg (by omega), if_pos rfl]
        by_cases hc : nthOk y0 m0 wd n ∧ nthN y0 m0 wd n ≤ dim y0 m0
        · rw [if_pos hc]
          rw [nthV_ok hc] at h2
          injection h2 with h2 _
          rw [h2]
        · rw [nthV_no hc] at h2
          injection h2 with _ h2
          omega
      · omega
    · rintro ⟨j, -, -, hj⟩
      unfold onV at hj
      rw [if_neg (by omega), if_neg (by omega), if_pos rfl] at hj
      by_cases hc : nthOk j m wd n ∧ nthN j m wd n ≤ dim j m
      · rw [if_pos hc] at hj
        obtain ⟨h1, h2, h3⟩ := day_inj (nth_ok _ _ _ _ hc) hok hj
        subst h1 h2
        exact .inr (.inr (.inl ⟨rfl, rfl, by rw [nthV_ok hc, h3]⟩))
      · rw [if_neg hc] at hj; omega
  · constructor
    · rintro (⟨h1, _⟩ | ⟨h1, _⟩ | ⟨h1, _⟩ | ⟨-, j, h1, h2, h3, h4, h5⟩)
      · omega
      · omega
      · omega
      · refine ⟨j, h1, h2, ?_⟩
        unfold onV; rw [if_neg (by omega), if_neg (by omega), if_neg (by omega), if_pos ⟨h3, h4⟩]
        unfold behD at h5; omega
    · rintro ⟨j, h1, h2, hj⟩
      unfold onV at hj
      rw [if_neg (by omega), if_neg (by omega), if_neg (by omega)] at hj
      by_cases hc : 1970 ≤ j ∧ j ≤ 9999
      · rw [if_pos hc] at hj
        exact .inr (.inr (.inr ⟨rfl, j, h1, h2, hc.1, hc.2, by unfold behD; omega⟩))
      · rw [if_neg hc] at hj; omega
theorem on_range (k hy m d wd n y : Int) (h : mayB k hy m d wd n) : -200 ≤ onV k hy m d wd n y ∧ onV k hy m d wd n y ≤ 2933200 := by
  unfold onV
  split
  · split
    · rename_i hc; have := day_range hc.2; omega
    · omega
  · split
    · split
      · rename_i hc; have := day_range hc; omega
      · omega
    · split
      · split
        · rename_i hc; have := day_range (nth_ok _ _ _ _ hc); omega
        · omega
      · split
        · rename_i hc
          have h1 := day_range (eas_ok hc)
          rcases h with h | h | h | h <;> omega
        · omega
def onH (g : Nat → Nat → Int) (i : Nat) (y : Int) : Int := onV (g i 0) (g i 1) (g i 2) (g i 3) (g i 4) (g i 5) y
def oneH (g : Nat → Nat → Int) (i : Nat) (y0 m0 d0 : Int) : Prop := oneP (g i 0) (g i 1) (g i 2) (g i 3) (g i 4) (g i 5) y0 m0 d0
/-- What the iterator 'feasts' hands over: place q is holiday q / 3, year y - 1 + q % 3. -/
def feF (g : Nat → Nat → Int) (y : Int) (q : Nat) : Option Int := if 0 ≤ onH g (q / 3) (y - 1 + (q % 3 : Nat)) then some (onH g (q / 3) (y - 1 + (q % 3 : Nat))) else none
def feastL (g : Nat → Nat → Int) (la : Nat) (y : Int) : List Int := (List.range (3 * la)).filterMap (feF g y)
def fePos (g : Nat → Nat → Int) (y : Int) (q : Nat) : Nat := ((List.range q).filterMap (feF g y)).length
theorem fePos_0 (g : Nat → Nat → Int) (y : Int) : fePos g y 0 = 0 := rfl
theorem fePos_end (g : Nat → Nat → Int) (la : Nat) (y : Int) : fePos g y (3 * la) = (feastL g la y).length := rfl
theorem fe_hit (g : Nat → Nat → Int) (la : Nat) (y : Int) (q : Nat) (hq : q < 3 * la) (h : 0 ≤ onH g (q / 3) (y - 1 + (q % 3 : Nat))) :
    (feastL g la y)[fePos g y q]? = some (onH g (q / 3) (y - 1 + (q % 3 : Nat))) ∧ fePos g y (q + 1) = fePos g y q + 1 := by
  have hf : feF g y q = some (onH g (q / 3) (y - 1 + (q % 3 : Nat))) := if_pos h
  have hs : (List.range (q + 1)).filterMap (feF g y) = (List.range q).filterMap (feF g y) ++ [onH g (q / 3) (y - 1 + (q % 3 : Nat))] := by
    rw [List.range_succ, List.filterMap_append]; simp [hf]
  obtain ⟨r, hr⟩ : ∃ r, 3 * la = q + 1 + r := ⟨3 * la - (q + 1), by omega⟩
  constructor
  · unfold feastL fePos
    rw [hr, List.range_add, List.filterMap_append, hs, List.append_assoc, List.getElem?_append_right (Nat.le_refl _)]
    simp
  · unfold fePos; rw [hs]; simp
theorem fe_miss (g : Nat → Nat → Int) (y : Int) (q : Nat) (h : ¬ 0 ≤ onH g (q / 3) (y - 1 + (q % 3 : Nat))) : fePos g y (q + 1) = fePos g y q := by
  have hf : feF g y q = none := if_neg h
  unfold fePos
  rw [List.range_succ, List.filterMap_append]; simp [hf]
theorem fe_mem (g : Nat → Nat → Int) (la : Nat) (y x : Int) : x ∈ feastL g la y ↔ 0 ≤ x ∧ ∃ i j, i < la ∧ y - 1 ≤ j ∧ j ≤ y + 1 ∧ onH g i j = x := by
  unfold feastL
  rw [List.mem_filterMap]
  constructor
  · rintro ⟨q, hq, hx⟩
    rw [List.mem_range] at hq
    unfold feF at hx
    split at hx
    · rename_i h
      injection hx with hx
      rw [hx] at h
      exact ⟨h, q / 3, y - 1 + (q % 3 : Nat), by omega, by omega, by omega, hx⟩
    · cases hx
  · rintro ⟨h0, i, j, hi, h1, h2, hx⟩
    refine ⟨3 * i + (j - (y - 1)).toNat, by rw [List.mem_range]; omega, ?_⟩
    have e1 : (3 * i + (j - (y - 1)).toNat) / 3 = i := by omega
    have e2 : y - 1 + (((3 * i + (j - (y - 1)).toNat) % 3 : Nat) : Int) = j := by omega
    unfold feF
    rw [e1, e2, hx, if_pos h0]
theorem fe_range (g : Nat → Nat → Int) (la : Nat) (y : Int) (hall : ∀ i, i < la → holOk g i) (x : Int) (hx : x ∈ feastL g la y) : 0 ≤ x ∧ x ≤ 2933200 := by
  obtain ⟨h0, i, j, hi, -, -, rfl⟩ := (fe_mem g la y x).1 hx
  exact ⟨h0, (on_range _ _ _ _ _ _ _ (hall i hi)).2⟩
/-- Both say the same of a day. -/
theorem fe_one (g : Nat → Nat → Int) (la : Nat) (hall : ∀ i, i < la → holOk g i) (y m d : Int) (hok : okD y m d) :
    dayN y m d ∈ feastL g la y ↔ ∃ i, i < la ∧ oneH g i y m d := by
  rw [fe_mem]
  constructor
  · rintro ⟨-, i, j, hi, h1, h2, hx⟩
    exact ⟨i, hi, (one_on _ _ _ _ _ _ y m d (hall i hi) hok).2 ⟨j, h1, h2, hx⟩⟩
  · rintro ⟨i, hi, h⟩
    obtain ⟨j, h1, h2, hx⟩ := (one_on _ _ _ _ _ _ y m d (hall i hi) hok).1 h
    exact ⟨(day_range hok).1, i, j, hi, h1, h2, hx⟩
/-- A day's date. -/
noncomputable def dOf (n : Int) : Int × Int × Int := if h : 0 ≤ n ∧ n ≤ 2932896 then ((day_ex n h).choose, (day_ex n h).choose_spec.choose, (day_ex n h).choose_spec.choose_spec.choose) else (0, 0, 0)
theorem dOf_spec (n : Int) (h : 0 ≤ n ∧ n ≤ 2932896) : okD (dOf n).1 (dOf n).2.1 (dOf n).2.2 ∧ dayN (dOf n).1 (dOf n).2.1 (dOf n).2.2 = n := by
  unfold dOf
  rw [dif_pos h]
  exact (day_ex n h).choose_spec.choose_spec.choose_spec
theorem dOf_day {y m d : Int} (h : okD y m d) : dOf (dayN y m d) = (y, m, d) := by
  obtain ⟨h1, h2⟩ := dOf_spec _ (day_range h)
  obtain ⟨e1, e2, e3⟩ := day_inj h1 h h2
  exact Prod.ext_iff.2 ⟨e1, Prod.ext_iff.2 ⟨e2, e3⟩⟩
/-- Is a day a holiday? Its kind. -/
noncomputable def isF (g : Nat → Nat → Int) (la : Nat) (n : Int) : Bool := decide (n ∈ feastL g la (dOf n).1)
def kindB (b : Bool) (w : Int) : Int := if b = true then 4 else if w = 7 then 3 else if w = 6 then 2 else 1
noncomputable def kindD (g : Nat → Nat → Int) (la : Nat) (n : Int) : Int := kindB (isF g la n) (wdN n)
theorem isF_day (g : Nat → Nat → Int) (la : Nat) {y m d : Int} (h : okD y m d) : isF g la (dayN y m d) = decide (dayN y m d ∈ feastL g la y) := by
  unfold isF; rw [dOf_day h]
/-- What is answered of a calendar and a day. -/
noncomputable def errA (la : Nat) (gh : Nat → Nat → Int) (lb : Nat) (gs : Nat → Nat → Int) (n : Int) : Int := if calOk la gh lb gs then (if 0 ≤ n ∧ n ≤ 2932896 then 0 else 60) else 80
theorem errA_bad {la : Nat} {gh : Nat → Nat → Int} {lb : Nat} {gs : Nat → Nat → Int} {n : Int} (h : ¬ calOk la gh lb gs) : errA la gh lb gs n = 80 := if_neg h
theorem errA_out {la : Nat} {gh : Nat → Nat → Int} {lb : Nat} {gs : Nat → Nat → Int} {n : Int} (h : calOk la gh lb gs) (hn : ¬ (0 ≤ n ∧ n ≤ 2932896)) : errA la gh lb gs n = 60 := by unfold errA; rw [if_pos h, if_neg hn]
theorem errA_ok {la : Nat} {gh : Nat → Nat → Int} {lb : Nat} {gs : Nat → Nat → Int} {n : Int} (h : calOk la gh lb gs) (hn : 0 ≤ n ∧ n ≤ 2932896) : errA la gh lb gs n = 0 := by unfold errA; rw [if_pos h, if_pos hn]
theorem errA_0 {la : Nat} {gh : Nat → Nat → Int} {lb : Nat} {gs : Nat → Nat → Int} {n : Int} : errA la gh lb gs n = 0 ↔ calOk la gh lb gs ∧ 0 ≤ n ∧ n ≤ 2932896 := by
  unfold errA
  by_cases h : calOk la gh lb gs
  · rw [if_pos h]
    by_cases hn : 0 ≤ n ∧ n ≤ 2932896
    · rw [if_pos hn]; exact ⟨fun _ => ⟨h, hn⟩, fun _ => rfl⟩
    · rw [if_neg hn]; exact ⟨fun h => by omega, fun h => absurd h.2 hn⟩
  · rw [if_neg h]; exact ⟨fun h => by omega, fun h2 => absurd h2.1 h⟩
/-- The seasons: the latest that begins at a place or ahead of it. -/
def plc (gs : Nat → Nat → Int) (i : Nat) : Int := 100 * gs i 1 + gs i 2
def mxS (gs : Nat → Nat → Int) (p : Int) : Nat → Int × Int
  | 0 => (-1, 0)
  | k + 1 => if plc gs k ≤ p ∧ plc gs k > (mxS gs p k).1 then (plc gs k, gs k 0) else mxS gs p k
def seasB (a b : Int × Int) : Int := if a.1 < 0 then b.2 else a.2
def seasN (gs : Nat → Nat → Int) (lb : Nat) (m d : Int) : Int := seasB (mxS gs (100 * m + d) lb) (mxS gs 9999 lb)
theorem mxS_spec (gs : Nat → Nat → Int) (p : Int) : ∀ k, (∀ i, i < k → 0 ≤ plc gs i) →
    ((mxS gs p k = (-1, 0) ∧ ∀ i, i < k → ¬ plc gs i ≤ p) ∨ ∃ j, j < k ∧ plc gs j ≤ p ∧ mxS gs p k = (plc gs j, gs j 0) ∧ ∀ i, i < k → plc gs i ≤ p → plc gs i ≤ plc gs j)
  | 0, _ => .inl ⟨rfl, fun i hi => absurd hi (by omega)⟩
  | k + 1, h => by
    have ih := mxS_spec gs p k (fun i hi => h i (by omega))
    have hk := h k (by omega)
    rw [mxS]
    by_cases hc : plc gs k ≤ p ∧ plc gs k > (mxS gs p k).1
    · rw [if_pos hc]
      refine .inr ⟨k, by omega, hc.1, rfl, fun i hi hle => ?_⟩
      by_cases e : i = k
      · rw [e]; exact Int.le_refl _
      · rcases ih with ⟨h1, h2⟩ | ⟨j, hj, h1, h2, h3⟩
        · exact absurd hle (h2 i (by omega))
        · have := h3 i (by omega) hle
          have h4 := hc.2
          rw [h2] at h4
          show plc gs i ≤ plc gs k
          have h4 : plc gs k > plc gs j := h4
          omega
    · rw [if_neg hc]
      rcases ih with ⟨h1, h2⟩ | ⟨j, hj, h1, h2, h3⟩
      · refine .inl ⟨h1, fun i hi => ?_⟩
        by_cases e : i = k
        · subst e; intro hle; apply hc; rw [h1]; exact ⟨hle, by show plc gs i > -1; omega⟩
        · exact h2 i (by omega)
      · refine .inr ⟨j, by omega, h1, h2, fun i hi hle => ?_⟩
        by_cases e : i = k
        · subst e
          rcases Int.lt_or_le (plc gs j) (plc gs i) with h4 | h4
          · exact absurd ⟨hle, by rw [h2]; exact h4⟩ hc
          · exact h4
        · exact h3 i (by omega) hle
theorem sea_place {gs : Nat → Nat → Int} {i : Nat} (h : seaOk gs i) : 101 ≤ plc gs i ∧ plc gs i ≤ 1231 := by
  have h1 := dim_month h.2.2
  have h2 := dim_lo 2001 _ h1
  have h3 := h.2.2
  unfold okD at h3
  unfold plc
  omega
end Go.Proofs.YtgbkedjjgbhcmaaDoor

/-
  Whether there are a calendar and a day, and the day's date: days.may, walked. Conditions stand at each theorem.
-/
namespace Go.Proofs.YtgbkedjjgbhcmaaDoor
open Go Go.RowKit Go.Kw Go.Kw.Cv Go.Shelf
set_option linter.unusedVariables false
set_option linter.unusedSimpArgs false

noncomputable def mayV (la : Nat) (gh : Nat → Nat → Int) (lb : Nat) (gs : Nat → Nat → Int) (n : Int) : Int × Int × Int := if errA la gh lb gs n = 0 then dOf n else (0, 0, 0)
theorem mayV_ok {la : Nat} {gh : Nat → Nat → Int} {lb : Nat} {gs : Nat → Nat → Int} {n : Int} (h : errA la gh lb gs n = 0) : mayV la gh lb gs n = dOf n := if_pos h
theorem mayV_no {la : Nat} {gh : Nat → Nat → Int} {lb : Nat} {gs : Nat → Nat → Int} {n : Int} (h : errA la gh lb gs n ≠ 0) : mayV la gh lb gs n = (0, 0, 0) := if_neg h
def dateV (t : Int × Int × Int) : Value := .agg #[.int .i64 t.1, .int .i64 t.2.1, .int .i64 t.2.2]
theorem set3_below {B b : Nat} {W W' : World} (h : Below B W W') (hb : B ≤ b) (u v x : Value) : Below B W (((W'.setCell ⟨b, 0, none⟩ u).setCell ⟨b, 1, none⟩ v).setCell ⟨b, 2, none⟩ x) :=
  ((h.setCell (p := ⟨b, 0, none⟩) hb u).setCell (p := ⟨b, 1, none⟩) hb v).setCell (p := ⟨b, 2, none⟩) hb x
theorem set3_lens {b : Nat} {W : World} (h : Lens W) (hb : 2 < b) (u v x : Value) : Lens (((W.setCell ⟨b, 0, none⟩ u).setCell ⟨b, 1, none⟩ v).setCell ⟨b, 2, none⟩ x) :=
  h.below (set3_below (Below.refl b W) (Nat.le_refl b) u v x) hb
theorem set3_row {b : Nat} {W : World} {t : TypeId} {a a1 a2 : Value} (h : W.heap[b]? = some (.cells #[a, a1, a2] t (0, 0))) (u v x : Value) :
    (((W.setCell ⟨b, 0, none⟩ u).setCell ⟨b, 1, none⟩ v).setCell ⟨b, 2, none⟩ x).heap[b]? = some (.cells #[u, v, x] t (0, 0)) :=
  heap_setCell_same _ b 2 _ _ x (heap_setCell_same _ b 1 _ _ v (heap_setCell_same _ b 0 _ _ u h))
set_option maxRecDepth 100000 in
set_option maxHeartbeats 8000000 in
theorem may_calls (A : Option Addr) (la ca : Nat) (gh : Nat → Nat → Int) (B : Option Addr) (lb cb : Nat) (gs : Nat → Nat → Int) (n : Int) (w : World) (hR : RdCal w A la ca gh B lb cb gs) (hL : Lens w) :
    Calls Tryd.prog 52 #[calC A la ca B lb cb, .int .i64 n] w fun e w' => e = .returned (.tuple #[dateV (mayV la gh lb gs n), .int .i64 (errA la gh lb gs n)]) ∧ Below w.heap.size w w' := by
  obtain ⟨b0, hb0⟩ : ∃ b0, w.heap.size = b0 := ⟨_, rfl⟩
  have Hb0 := Lib.hid hb0
  have hst1 := bstep w (.cells #[.slice A la ca, .slice B lb cb] 47)
  obtain ⟨W1, hW1⟩ : ∃ W1, w.alloc (.cells #[.slice A la ca, .slice B lb cb] 47) = W1 := ⟨_, rfl⟩
  have hs1 : W1.heap.size = b0 + 1 := by rw [← hW1, World.size_alloc, hb0]
  have hrow1 : W1.heap[b0]? = some (.cells #[.slice A la ca, .slice B lb cb] 47 (0, 0)) := by rw [← hb0, ← hW1]; exact World.alloc_heap_new w _
  rw [hW1] at hst1
  have hst2 := bstep W1 (.cells #[.int .i64 0, .int .i64 0, .int .i64 0] 121)
  obtain ⟨W2, hW2⟩ : ∃ W2, W1.alloc (.cells #[.int .i64 0, .int .i64 0, .int .i64 0] 121) = W2 := ⟨_, rfl⟩
  have hs2 : W2.heap.size = b0 + 2 := by rw [← hW2, World.size_alloc, hs1]
  have hrow2 : W2.heap[b0 + 1]? = some (.cells #[.int .i64 0, .int .i64 0, .int .i64 0] 121 (0, 0)) := by rw [← hs1, ← hW2]; exact World.alloc_heap_new W1 _
  rw [hW2] at hst2
  have hstB := bnext hst1 hst2
  have c0 := cell_of_row W2 b0 0 _ _ _ (blk_below hrow1 hst2)
  have c1 := cell_of_row W2 b0 1 _ _ _ (blk_below hrow1 hst2)
  have hL2 := hL.go hstB
  have HC := daysCheck_calls A la ca gh B lb cb gs W2 (hR.go hstB) hL2
  unfold calC at HC ⊢
  by_cases hcal : calOk la gh lb gs
  · rw [show calE la gh lb gs = 0 from if_pos hcal] at HC
    replace HC := Lib.hid HC
    by_cases hn : 0 ≤ n ∧ n ≤ 2932896
    · have hE := errA_ok hcal hn
      obtain ⟨hok, hday⟩ := dOf_spec n hn
      rw [mayV_ok hE, hE]
      have HO := of_calls _ _ _ hok
      rw [hday] at HO
      replace HO := Lib.hid HO
      obtain ⟨T, hT⟩ : ∃ T, dOf n = T := ⟨_, rfl⟩
      rw [hT] at HO ⊢
      obtain ⟨y, m, d⟩ := T
      unfold dateV
      clear hE hok hday hT hcal hn hR hL
      go_enter Tryd.func52, Tryd.ntmps52
      go_wp2_with fail
      refine HC.out.mono ?_
      rintro e w3 ⟨rfl, hb3⟩
      have hr3 := blk_below hrow2 hb3
      have hL3 := hL2.go hb3
      have hb := bnext hstB hb3
      clear c0 c1 hb3 hW1 hW2
      go_wp2_with fail
      refine (HO.out w3 hL3).mono ?_
      rintro e w4 ⟨rfl, hb4⟩
      have hr4 := blk_below hr3 hb4
      have hbb := bnext hb hb4
      have f0 := blk_frozen hr4 0
      have f1 := blk_frozen hr4 1
      have f2 := blk_frozen hr4 2
      have d0 := cell_of_row _ (b0 + 1) 0 _ _ _ hr4
      have d1 := cell_of_row _ (b0 + 1) 1 _ _ _ hr4
      have d2 := cell_of_row _ (b0 + 1) 2 _ _ _ hr4
      have HS := hr4
      clear hr3 hL3 hb hb4 hr4
      go_wp2_with fail
      refine bodyPost_ret (res_date rfl rfl (set3_row HS _ _ _)) rfl ?_
      exact ⟨rfl, set3_below hbb (by have := Hb0.out; omega) _ _ _⟩
    · have hE := errA_out hcal hn
      rw [mayV_no (by rw [hE]; decide), hE]
      have HO := Lib.hid (of_bad n hn)
      unfold dateV
      clear hE hcal hn hR hL
      go_enter Tryd.func52, Tryd.ntmps52
      go_wp2_with fail
      refine HC.out.mono ?_
      rintro e w3 ⟨rfl, hb3⟩
      have hr3 := blk_below hrow2 hb3
      have hb := bnext hstB hb3
      clear c0 c1 hb3 hW1 hW2
      go_wp2_with fail
      refine (HO.out w3).mono ?_
      rintro e w4 ⟨rfl, hb4⟩
      have hr4 := blk_below hr3 hb4
      have hbb := bnext hb hb4
      have f0 := blk_frozen hr4 0
      have f1 := blk_frozen hr4 1
      have f2 := blk_frozen hr4 2
      have d0 := cell_of_row _ (b0 + 1) 0 _ _ _ hr4
      have d1 := cell_of_row _ (b0 + 1) 1 _ _ _ hr4
      have d2 := cell_of_row _ (b0 + 1) 2 _ _ _ hr4
      have HS := hr4
      clear hr3 hb hb4 hr4
      go_wp2_with fail
      refine bodyPost_ret (res_date rfl rfl (set3_row HS _ _ _)) rfl ?_
      exact ⟨rfl, set3_below hbb (by have := Hb0.out; omega) _ _ _⟩
  · rw [show calE la gh lb gs = 80 from if_neg hcal] at HC
    replace HC := Lib.hid HC
    have hE := errA_bad (n := n) hcal
    rw [mayV_no (by rw [hE]; decide), hE]
    unfold dateV
    clear hE hcal hR hL
    go_enter Tryd.func52, Tryd.ntmps52
    go_wp2_with fail
    refine HC.out.mono ?_
    rintro e w3 ⟨rfl, hb3⟩
    have hr3 := blk_below hrow2 hb3
    have hb := bnext hstB hb3
    have f0 := blk_frozen hr3 0
    have f1 := blk_frozen hr3 1
    have f2 := blk_frozen hr3 2
    have d0 := cell_of_row _ (b0 + 1) 0 _ _ _ hr3
    have d1 := cell_of_row _ (b0 + 1) 1 _ _ _ hr3
    have d2 := cell_of_row _ (b0 + 1) 2 _ _ _ hr3
    have HS := hr3
    clear hr3 c0 c1 hb3 hW1 hW2
    go_wp2_with fail
    refine bodyPost_ret (res_date rfl rfl (set3_row HS _ _ _)) rfl ?_
    exact ⟨rfl, set3_below hb (by have := Hb0.out; omega) _ _ _⟩
end Go.Proofs.YtgbkedjjgbhcmaaDoor
