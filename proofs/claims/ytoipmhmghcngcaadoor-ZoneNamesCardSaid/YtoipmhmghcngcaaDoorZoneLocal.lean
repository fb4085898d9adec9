/-
  An instant's local time and day, walked: zone.Local, Day. Conditions stand at each theorem.
-/
import Derived.Test.YtoipmhmghcngcaaDoorZoneOff
import Derived.BigRegion
namespace Go.Proofs.YtoipmhmghcngcaaDoor
open Go Go.RowKit Go.Kw Go.Kw.Cv Go.Shelf
set_option linter.unusedVariables false
set_option linter.unusedSimpArgs false

theorem results_cell_tmp2 {P : Program} {fn : Func} {p t2 t3 : Tmp} {ty : TypeId} (h : fn.results = #[.cell p ty, .tmp t2, .tmp t3]) (tmps : Array Value) (w : World) (g : Nat) (t : TypeId) (cs : Array Value) (fr : Nat × Nat) (d : TypeDesc)
    (hp : tmps.getD p undef = .pointer (some ⟨g, 0, none⟩)) (hg : w.heap[g]? = some (.cells cs t fr))
    (hu : P.underlying ty = some d) (hd : (match d with | .struct _ | .array _ _ => true | _ => false) = true) (hi : (P.info? ty).map (·.size) = some cs.size) :
    (results fn tmps).run P w = .ok (.tuple #[.agg cs, tmps.getD t2 undef, tmps.getD t3 undef]) w := by
  have hp' : tmps[p]?.getD undef = .pointer (some ⟨g, 0, none⟩) := by simpa using hp
  simp [results, h, hp', asAddr, run_loadVar_row w g t ty cs fr d hg hu hd hi]
theorem res_mom3 {fn : Func} {p t2 t3 : Tmp} (h : fn.results = #[.cell p 44, .tmp t2, .tmp t3]) {tmps : Array Value} {w : World} {g : Nat} {a0 a1 a2 a3 a4 a5 : Value} (hp : tmps.getD p undef = .pointer (some ⟨g, 0, none⟩)) (hg : w.heap[g]? = some (.cells #[a0, a1, a2, a3, a4, a5] 44 (0, 0))) :
    (results fn tmps).run Tryd.prog w = .ok (.tuple #[.agg #[a0, a1, a2, a3, a4, a5], tmps.getD t2 undef, tmps.getD t3 undef]) w :=
  results_cell_tmp2 h tmps w g _ _ _ _ hp hg Tryd.underlying44 rfl mom_size
noncomputable def locV (o : Int) (lr : Nat) (g : Nat → Nat → Int) (t : Int) : Value := if offE o lr g t = 0 then momV (t + offV o lr g t) else mom0
noncomputable def locS (o : Int) (lr : Nat) (g : Nat → Nat → Int) (t : Int) : Bool := if offE o lr g t = 0 then !(offV o lr g t == o) else false
noncomputable def dayQ (o : Int) (lr : Nat) (g : Nat → Nat → Int) (t : Int) : Int := if offE o lr g t = 0 then (t + offV o lr g t) / 86400 else 0
noncomputable def minQ (o : Int) (lr : Nat) (g : Nat → Nat → Int) (t : Int) : Int := if offE o lr g t = 0 then (t + offV o lr g t) % 86400 / 60 else 0
theorem off_sec {o : Int} {lr : Nat} {g : Nat → Nat → Int} {t : Int} (h : offE o lr g t = 0) : secOk (t + offV o lr g t) := by
  obtain ⟨h1, h2, h3, h4⟩ := off_ok h
  rw [h4, show t + (o + extV g lr (t + o)) = t + o + extV g lr (t + o) by omega]
  exact h3
theorem offE_cases (o : Int) (lr : Nat) (g : Nat → Nat → Int) (t : Int) : offE o lr g t = 0 ∨ (offE o lr g t ≠ 0 ∧ offV o lr g t = 0 ∧ (offE o lr g t = 60 ∨ offE o lr g t = 70)) := by
  by_cases h : offE o lr g t = 0
  · exact .inl h
  · refine .inr ⟨h, if_neg h, ?_⟩
    unfold offE at h ⊢
    split at h <;> rename_i h1
    · rw [if_pos h1]
      split at h <;> rename_i h2
      · exact absurd rfl h
      · rw [if_neg h2]; exact .inl rfl
    · rw [if_neg h1]; exact .inr rfl
set_option maxRecDepth 100000 in
set_option maxHeartbeats 16000000 in
theorem zLocal_calls (o : Int) (A : Option Addr) (lr cr : Nat) (g : Nat → Nat → Int) (t : Int) (w : World) (hR : RdZ w A lr cr g) (hL : Lens w) :
    Calls Tryd.prog 17 #[zonC o A lr cr, .int .i64 t] w fun e w' => e = .returned (.tuple #[locV o lr g t, .bool (locS o lr g t), .int .i64 (offE o lr g t)]) ∧ Below w.heap.size w w' := by
  obtain ⟨b0, hb0⟩ : ∃ b0, w.heap.size = b0 := ⟨_, rfl⟩
  have Hb0 := Lib.hid hb0
  obtain ⟨W1, hW1⟩ : ∃ W1, w.alloc (.cells #[.int .i64 o, .slice A lr cr] 24) = W1 := ⟨_, rfl⟩
  have hst1 : Below w.heap.size w W1 := hW1 ▸ bstep w _
  have hs1 : W1.heap.size = b0 + 1 := by rw [← hW1, World.size_alloc, hb0]
  have hr1 : W1.heap[b0]? = some (.cells #[.int .i64 o, .slice A lr cr] 24 (0, 0)) := by rw [← hb0, ← hW1]; exact World.alloc_heap_new w _
  obtain ⟨W2, hW2⟩ : ∃ W2, W1.alloc (.cells #[.int .i64 0, .int .i64 0, .int .i64 0, .int .i64 0, .int .i64 0, .int .i64 0] 44) = W2 := ⟨_, rfl⟩
  have hst2 : Below W1.heap.size W1 W2 := hW2 ▸ bstep W1 _
  have hr2 : W2.heap[b0 + 1]? = some (.cells #[.int .i64 0, .int .i64 0, .int .i64 0, .int .i64 0, .int .i64 0, .int .i64 0] 44 (0, 0)) := by rw [← hs1, ← hW2]; exact World.alloc_heap_new W1 _
  have hB2 := bnext hst1 hst2
  have hz2 := blk_below hr1 hst2
  have e0 := cell_of_row W2 b0 0 _ _ _ hz2
  have e1 := cell_of_row W2 b0 1 _ _ _ hz2
  have HO := zOffset_calls o A lr cr g t W2 (hR.go hB2) (hL.go hB2)
  have HL := Lib.hid (hL.go hB2)
  unfold zonC at HO ⊢
  rcases offE_cases o lr g t with he | ⟨he, hv, hee⟩
  · have hs := off_sec he
    rw [show locV o lr g t = momV (t + offV o lr g t) from if_pos he, show locS o lr g t = !(offV o lr g t == o) from if_pos he]
    have HG := fun W hL => at_ok (t + offV o lr g t) hs W hL
    rw [he] at HO ⊢
    obtain ⟨n, hn⟩ : ∃ n, offV o lr g t = n := ⟨_, rfl⟩
    rw [hn] at HO HG hs ⊢
    unfold momV at HG ⊢
    obtain ⟨u, hu⟩ : ∃ u, t + n = u := ⟨_, rfl⟩
    rw [hu] at HG hs ⊢
    unfold secOk at hs
    have w1 : IntKind.i64.wrap (t + n) = u := by rw [hu]; exact i64_same u (by omega)
    have X1 : Hid (wrap64 (t + n) = u) := by show _ = _; rw [hu]; exact wrap64_in u (by omega)
    obtain ⟨y1, hy1⟩ : ∃ y, (zD (u / 86400)).1 = y := ⟨_, rfl⟩
    obtain ⟨y2, hy2⟩ : ∃ y, (zD (u / 86400)).2.1 = y := ⟨_, rfl⟩
    obtain ⟨y3, hy3⟩ : ∃ y, (zD (u / 86400)).2.2 = y := ⟨_, rfl⟩
    obtain ⟨y4, hy4⟩ : ∃ y, u % 86400 / 3600 = y := ⟨_, rfl⟩
    obtain ⟨y5, hy5⟩ : ∃ y, u % 86400 / 60 % 60 = y := ⟨_, rfl⟩
    obtain ⟨y6, hy6⟩ : ∃ y, u % 86400 % 60 = y := ⟨_, rfl⟩
    rw [hy1, hy2, hy3, hy4, hy5, hy6] at HG ⊢
    replace HG := Lib.hid HG
    replace HO := Lib.hid HO
    obtain ⟨Bn, hBn⟩ : ∃ Bn, (n == o) = Bn := ⟨_, rfl⟩
    rw [hBn]
    clear he hn hs hu hR hL hst1 hst2 hr1 hy1 hy2 hy3 hy4 hy5 hy6
    go_enter Tryd.func17, Tryd.ntmps17
    go_wp2_with fail
    refine HO.out.mono ?_
    rintro e w3 ⟨rfl, hb3⟩
    have hL3 := HL.out.go hb3
    have hr3 := blk_below hr2 hb3
    have hz3 := blk_below hz2 hb3
    have hB3 := bnext hB2 hb3
    have x1 := X1.out
    clear hr2 hz2 hB2 e0 e1 hW1 hW2
    go_wp2_with fail
    refine (HG.out w3 hL3).mono ?_
    rintro e w4 ⟨rfl, hb4⟩
    have hr4 := blk_below hr3 hb4
    have hz4 := blk_below hz3 hb4
    have hB4 := bnext hB3 hb4
    have d0 := cell_of_row w4 (b0 + 1) 0 _ _ _ hr4
    have d1 := cell_of_row w4 (b0 + 1) 1 _ _ _ hr4
    have d2 := cell_of_row w4 (b0 + 1) 2 _ _ _ hr4
    have d3 := cell_of_row w4 (b0 + 1) 3 _ _ _ hr4
    have d4 := cell_of_row w4 (b0 + 1) 4 _ _ _ hr4
    have d5 := cell_of_row w4 (b0 + 1) 5 _ _ _ hr4
    have f0 := blk_frozen hr4 0
    have f1 := blk_frozen hr4 1
    have f2 := blk_frozen hr4 2
    have f3 := blk_frozen hr4 3
    have f4 := blk_frozen hr4 4
    have f5 := blk_frozen hr4 5
    obtain ⟨WX, hWX⟩ : ∃ WX, (((((w4.setCell ⟨b0 + 1, 0, none⟩ (.int .i64 y1)).setCell ⟨b0 + 1, 1, none⟩ (.int .i64 y2)).setCell ⟨b0 + 1, 2, none⟩ (.int .i64 y3)).setCell ⟨b0 + 1, 3, none⟩ (.int .i64 y4)).setCell ⟨b0 + 1, 4, none⟩ (.int .i64 y5)).setCell ⟨b0 + 1, 5, none⟩ (.int .i64 y6) = WX := ⟨_, rfl⟩
    have hrX : WX.heap[b0 + 1]? = some (.cells #[.int .i64 y1, .int .i64 y2, .int .i64 y3, .int .i64 y4, .int .i64 y5, .int .i64 y6] 44 (0, 0)) := hWX ▸ set6_row hr4 _ _ _ _ _ _
    have hbX : Below (b0 + 1) w4 WX := hWX ▸ set6_below (Below.refl _ _) (Nat.le_refl _) _ _ _ _ _ _
    have hzX : WX.heap[b0]? = some (.cells #[.int .i64 o, .slice A lr cr] 24 (0, 0)) := (hbX.block b0 (by omega)).trans hz4
    have hBX : Below w.heap.size w WX := hB4.trans (hbX.mono (by have := Hb0.out; omega))
    clear hr4 hz4 hB4 hr3 hz3 hB3 hL3 hb3 hb4 x1
    go_wp2_with fail
    clear d0 d1 d2 d3 d4 d5 f0 f1 f2 f3 f4 f5
    have e0 := cell_of_row WX b0 0 _ _ _ hzX
    have d0 := cell_of_row WX (b0 + 1) 0 _ _ _ hrX
    have d1 := cell_of_row WX (b0 + 1) 1 _ _ _ hrX
    have d2 := cell_of_row WX (b0 + 1) 2 _ _ _ hrX
    have d3 := cell_of_row WX (b0 + 1) 3 _ _ _ hrX
    have d4 := cell_of_row WX (b0 + 1) 4 _ _ _ hrX
    have d5 := cell_of_row WX (b0 + 1) 5 _ _ _ hrX
    have f0 := blk_frozen hrX 0
    have f1 := blk_frozen hrX 1
    have f2 := blk_frozen hrX 2
    have f3 := blk_frozen hrX 3
    have f4 := blk_frozen hrX 4
    have f5 := blk_frozen hrX 5
    go_region
    go_wp2_with fail
    have hF0 := set6_row hrX (.int .i64 y1) (.int .i64 y2) (.int .i64 y3) (.int .i64 y4) (.int .i64 y5) (.int .i64 y6)
    have hFb0 := set6_below hBX (show w.heap.size ≤ b0 + 1 by have := Hb0.out; omega) (.int .i64 y1) (.int .i64 y2) (.int .i64 y3) (.int .i64 y4) (.int .i64 y5) (.int .i64 y6)
    generalize ((((((WX.setCell ⟨b0 + 1, 0, none⟩ (.int .i64 y1)).setCell ⟨b0 + 1, 1, none⟩ (.int .i64 y2)).setCell ⟨b0 + 1, 2, none⟩ (.int .i64 y3)).setCell ⟨b0 + 1, 3, none⟩ (.int .i64 y4)).setCell ⟨b0 + 1, 4, none⟩ (.int .i64 y5)).setCell ⟨b0 + 1, 5, none⟩ (.int .i64 y6)) = WY at hF0 hFb0 ⊢
    have hF : WY.drew.heap[b0 + 1]? = _ := hF0
    refine bodyPost_ret (res_mom3 rfl rfl hF) rfl ?_
    refine ⟨?_, hFb0.drew⟩
    rw [show (n != o) = !Bn from by show (!(n == o)) = !Bn; rw [hBn]]
    first | rfl | exact ⟨rfl⟩ | done
  · rw [show locV o lr g t = mom0 from if_neg he, show locS o lr g t = false from if_neg he]
    rw [hv] at HO
    unfold mom0
    obtain ⟨E, hE⟩ : ∃ E, offE o lr g t = E := ⟨_, rfl⟩
    rw [hE] at HO he ⊢
    replace HO := Lib.hid HO
    have kE : (E == 0) = false := beq_eq_false_iff_ne.2 he
    clear he hv hee hE hR hL hst1 hst2 hr1
    go_enter Tryd.func17, Tryd.ntmps17
    go_wp2_with fail
    refine HO.out.mono ?_
    rintro e w3 ⟨rfl, hb3⟩
    have hr3 := blk_below hr2 hb3
    have hB3 := bnext hB2 hb3
    have d0 := cell_of_row w3 (b0 + 1) 0 _ _ _ hr3
    have d1 := cell_of_row w3 (b0 + 1) 1 _ _ _ hr3
    have d2 := cell_of_row w3 (b0 + 1) 2 _ _ _ hr3
    have d3 := cell_of_row w3 (b0 + 1) 3 _ _ _ hr3
    have d4 := cell_of_row w3 (b0 + 1) 4 _ _ _ hr3
    have d5 := cell_of_row w3 (b0 + 1) 5 _ _ _ hr3
    have f0 := blk_frozen hr3 0
    have f1 := blk_frozen hr3 1
    have f2 := blk_frozen hr3 2
    have f3 := blk_frozen hr3 3
    have f4 := blk_frozen hr3 4
    have f5 := blk_frozen hr3 5
    have HS := hr3
    clear hr2 hr3 hz2 hB2 e0 e1 hW1 hW2
    go_wp2_with fail
    refine bodyPost_ret (res_mom3 rfl rfl (set6_row HS _ _ _ _ _ _)) rfl ?_
    exact ⟨rfl, set6_below hB3 (by have := Hb0.out; omega) _ _ _ _ _ _⟩
set_option maxRecDepth 100000 in
set_option maxHeartbeats 16000000 in
theorem zDay_calls (o : Int) (A : Option Addr) (lr cr : Nat) (g : Nat → Nat → Int) (t : Int) (w : World) (hR : RdZ w A lr cr g) (hL : Lens w) :
    Calls Tryd.prog 18 #[zonC o A lr cr, .int .i64 t] w fun e w' => e = .returned (.tuple #[.int .i64 (dayQ o lr g t), .int .i64 (minQ o lr g t), .int .i64 (offE o lr g t)]) ∧ Below w.heap.size w w' := by
  obtain ⟨b0, hb0⟩ : ∃ b0, w.heap.size = b0 := ⟨_, rfl⟩
  obtain ⟨W1, hW1⟩ : ∃ W1, w.alloc (.cells #[.int .i64 o, .slice A lr cr] 24) = W1 := ⟨_, rfl⟩
  have hst1 : Below w.heap.size w W1 := hW1 ▸ bstep w _
  have hr1 : W1.heap[b0]? = some (.cells #[.int .i64 o, .slice A lr cr] 24 (0, 0)) := by rw [← hb0, ← hW1]; exact World.alloc_heap_new w _
  have e0 := cell_of_row W1 b0 0 _ _ _ hr1
  have e1 := cell_of_row W1 b0 1 _ _ _ hr1
  have HO := zOffset_calls o A lr cr g t W1 (hR.go hst1) (hL.go hst1)
  unfold zonC at HO ⊢
  rcases offE_cases o lr g t with he | ⟨he, hv, hee⟩
  · have hs := off_sec he
    rw [show dayQ o lr g t = (t + offV o lr g t) / 86400 from if_pos he, show minQ o lr g t = (t + offV o lr g t) % 86400 / 60 from if_pos he]
    rw [he] at HO ⊢
    obtain ⟨n, hn⟩ : ∃ n, offV o lr g t = n := ⟨_, rfl⟩
    rw [hn] at HO hs ⊢
    obtain ⟨u, hu⟩ : ∃ u, t + n = u := ⟨_, rfl⟩
    rw [hu] at hs ⊢
    unfold secOk at hs
    have w1 : IntKind.i64.wrap (t + n) = u := by rw [hu]; exact i64_same u (by omega)
    have X1 : Hid (wrap64 (t + n) = u) := by show _ = _; rw [hu]; exact wrap64_in u (by omega)
    have t1 : u.tdiv 86400 = u / 86400 := Int.tdiv_eq_ediv_of_nonneg (by omega)
    have t2 : u.tmod 86400 = u % 86400 := Int.tmod_eq_emod_of_nonneg (by omega)
    have t3 : (u % 86400).tdiv 60 = u % 86400 / 60 := Int.tdiv_eq_ediv_of_nonneg (by omega)
    have a1 := i64_same (u / 86400) (by omega)
    have a2 := i64_same (u % 86400) (by omega)
    have a3 := i64_same (u % 86400 / 60) (by omega)
    replace HO := Lib.hid HO
    clear he hn hs hu hR hL hr1
    have x1 := X1.out
    go_enter Tryd.func18, Tryd.ntmps18
    go_wp2_with fail
    refine HO.out.mono ?_
    rintro e w3 ⟨rfl, hb3⟩
    have hB3 := bnext hst1 hb3
    go_wp2_with fail
    clear x1
    go_ret3
    exact ⟨rfl, hB3⟩
  · rw [show dayQ o lr g t = 0 from if_neg he, show minQ o lr g t = 0 from if_neg he]
    rw [hv] at HO
    obtain ⟨E, hE⟩ : ∃ E, offE o lr g t = E := ⟨_, rfl⟩
    rw [hE] at HO he ⊢
    replace HO := Lib.hid HO
    have kE : (E == 0) = false := beq_eq_false_iff_ne.2 he
    clear he hv hee hE hR hL hr1
    go_enter Tryd.func18, Tryd.ntmps18
    go_wp2_with fail
    refine HO.out.mono ?_
    rintro e w3 ⟨rfl, hb3⟩
    have hB3 := bnext hst1 hb3
    go_wp2_with fail
    go_ret3
    exact ⟨rfl, hB3⟩
end Go.Proofs.YtoipmhmghcngcaaDoor
