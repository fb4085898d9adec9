/-
  The chapter's zone, and its first examples: kilowattlaw07.europe, when, alive, walked. Conditions stand at each theorem.
-/
import Derived.Test.YtoipmhmghcngcaaDoorZoneLawPlain
import Derived.Test.YtoipmhmghcngcaaDoorZoneLocal
namespace Go.Proofs.YtoipmhmghcngcaaDoor
open Go Go.RowKit Go.Kw Go.Kw.Cv Go.Shelf
set_option linter.unusedVariables false
set_option linter.unusedSimpArgs false

theorem results_cell1 {P : Program} {fn : Func} {p : Tmp} {ty : TypeId} (h : fn.results = #[.cell p ty]) (tmps : Array Value) (w : World) (g : Nat) (t : TypeId) (cs : Array Value) (fr : Nat × Nat) (d : TypeDesc)
    (hp : tmps.getD p undef = .pointer (some ⟨g, 0, none⟩)) (hg : w.heap[g]? = some (.cells cs t fr))
    (hu : P.underlying ty = some d) (hd : (match d with | .struct _ | .array _ _ => true | _ => false) = true) (hi : (P.info? ty).map (·.size) = some cs.size) :
    (results fn tmps).run P w = .ok (.agg cs) w := by
  have hp' : tmps[p]?.getD undef = .pointer (some ⟨g, 0, none⟩) := by simpa using hp
  simp [results, h, hp', asAddr, run_loadVar_row w g t ty cs fr d hg hu hd hi]
theorem wf_mid (x : Int) (h : -1000000 ≤ x ∧ x ≤ 1000000) : (Lit.int .i64 x).wf = true := by
  rw [show x = wrap64 x from (wrap64_in x (by omega)).symm]; exact wrap64_wf x
theorem zone_size : (Tryd.prog.info? 24).map (·.size) = some 2 := by kernel_rfl
theorem res_zone {fn : Func} {p : Tmp} (h : fn.results = #[.cell p 24]) {tmps : Array Value} {w : World} {g : Nat} {a b : Value} (hp : tmps.getD p undef = .pointer (some ⟨g, 0, none⟩)) (hg : w.heap[g]? = some (.cells #[a, b] 24 (0, 0))) :
    (results fn tmps).run Tryd.prog w = .ok (.agg #[a, b]) w :=
  results_cell1 h tmps w g _ _ _ _ hp hg Tryd.underlying24 rfl zone_size
/-- A rule of eleven numbers. -/
def rulG (l : List Int) : Nat → Nat → Int := fun _ j => l.getD j 0
def euL : List Int := [1996, 9999, 3, 7, -1, 120, 10, 7, -1, 120, 3600]
def badL : List Int := [1996, 9999, 3, 7, -1, 120, 10, 7, -1, 120, 0]
def rulC (l : List Int) : Array Value := (l.map (fun x => Value.int .i64 x)).toArray
theorem rul_rd {w : World} {b : Nat} {l : List Int} {ty : TypeId} {fr : Nat × Nat} (hl : l.length = 11) (h : w.heap[b]? = some (.cells (rulC l) ty fr)) (hb : ∀ x ∈ l, -1000000 ≤ x ∧ x ≤ 1000000) : RdZ w (some ⟨b, 0, none⟩) 1 1 (rulG l) := by
  refine ⟨Nat.le_refl _, by decide, (fun h => by cases h), .inr ⟨b, 0, rfl, (Array.getElem?_eq_some_iff.1 h).1, fun i hi => ?_⟩, fun r j hr hj => ?_⟩
  · have hi' : i < 11 := by omega
    rw [Nat.zero_add, cell_of_row w b i _ _ _ h]
    unfold rulC rulG kI
    simp [hl, hi', Nat.mod_eq_of_lt hi']
  · have hj' : j < l.length := by omega
    have := hb (l.getD j 0) (by rw [List.getD_eq_getElem?_getD, List.getElem?_eq_getElem hj']; exact List.getElem_mem hj')
    unfold rulG kI
    exact wf_mid _ (by omega)
theorem eu_ok : zonOk 3600 1 (rulG euL) := ⟨by decide, by decide, by decide, fun i hi => by
  obtain rfl : i = 0 := by omega
  decide⟩
theorem eu_rulF : rulF (rulG euL) 2026 1 = 0 := by decide
theorem eu_on : onT (rulG euL) 0 2026 = 1774749600 := by decide
theorem eu_off : offT (rulG euL) 0 2026 = 1792893600 := by decide
/-- Summer of 2026. -/
theorem eu_ext (s : Int) (h : 1767225600 ≤ s ∧ s < 1798761600) : extV (rulG euL) 1 s = if 1774749600 ≤ s ∧ s < 1792893600 then 3600 else 0 := by
  have a1 : ahd 2026 = 20454 := by decide
  have a2 : ahd (2026 + 1) = 20819 := by decide
  rw [ext_at (y := 2026) (by rw [a1, a2]; omega) (by unfold secOk; omega), eu_rulF, if_pos (by decide), eu_on, eu_off]
  by_cases hs : 1774749600 ≤ s ∧ s < 1792893600
  · rw [if_pos hs, if_pos (by rw [sumB_iff]; omega)]; rfl
  · rw [if_neg hs, if_neg (by rw [sumB_iff]; omega)]
theorem eu_sum (t : Int) (h : 1774749600 ≤ t + 3600 ∧ t + 3600 < 1792893600) : offE 3600 1 (rulG euL) t = 0 ∧ offV 3600 1 (rulG euL) t = 7200 :=
  off_is (e := 3600) eu_ok (by unfold secOk; omega) (by rw [eu_ext _ (by omega), if_pos h]) (by unfold secOk; omega)
theorem eu_win (t : Int) (h : 1767225600 ≤ t + 3600 ∧ t + 3600 < 1774749600 ∨ 1792893600 ≤ t + 3600 ∧ t + 3600 < 1798761600) : offE 3600 1 (rulG euL) t = 0 ∧ offV 3600 1 (rulG euL) t = 3600 :=
  off_is (e := 0) eu_ok (by unfold secOk; omega) (by rw [eu_ext _ (by omega), if_neg (by omega)]) (by unfold secOk; omega)
/-- What europe answers. -/
def EuE (w : World) (e : Ending) (w' : World) : Prop := ∃ b, e = .returned (zonC 3600 (some ⟨b, 0, none⟩) 1 1) ∧ w.heap.size ≤ b ∧ w'.heap[b]? = some (.cells (rulC euL) 31 (0, 0)) ∧ Below w.heap.size w w'
set_option maxRecDepth 100000 in
set_option maxHeartbeats 4000000 in
theorem europe_calls (w : World) : Calls Tryd.prog 25 #[] w fun e w' => EuE w e w' := by
  go_enter Tryd.func25, Tryd.ntmps25
  go_wp2_with fail
  have t0 := bstep w (.cells #[.int .i64 3600, .slice (some ⟨w.heap.size + 1, 0, none⟩) 1 1] 24)
  have r0 := World.alloc_heap_new w (.cells #[.int .i64 3600, .slice (some ⟨w.heap.size + 1, 0, none⟩) 1 1] 24)
  obtain ⟨W1, hW1⟩ : ∃ W1, w.alloc (.cells #[.int .i64 3600, .slice (some ⟨w.heap.size + 1, 0, none⟩) 1 1] 24) = W1 := ⟨_, rfl⟩
  have s1 : W1.heap.size = w.heap.size + 1 := by rw [← hW1]; simp
  rw [hW1] at t0 r0 ⊢
  have t1 := bstep W1 (.cells #[.int .i64 1996, .int .i64 9999, .int .i64 3, .int .i64 7, .int .i64 (-1), .int .i64 120, .int .i64 10, .int .i64 7, .int .i64 (-1), .int .i64 120, .int .i64 3600] 31)
  have r1 := World.alloc_heap_new W1 (.cells #[.int .i64 1996, .int .i64 9999, .int .i64 3, .int .i64 7, .int .i64 (-1), .int .i64 120, .int .i64 10, .int .i64 7, .int .i64 (-1), .int .i64 120, .int .i64 3600] 31)
  rw [s1] at r1
  have r0' := blk_below r0 t1
  refine bodyPost_ret (res_zone rfl rfl r0') rfl ?_
  exact ⟨w.heap.size + 1, rfl, by omega, r1, bnext t0 t1⟩
set_option maxRecDepth 100000 in
set_option maxHeartbeats 4000000 in
theorem when_calls (y m d h i s : Int) (w : World) (hL : Lens w) :
    Calls Tryd.prog 26 #[.int .i64 y, .int .i64 m, .int .i64 d, .int .i64 h, .int .i64 i, .int .i64 s] w fun e w' => e = .returned (.int .i64 (instV y m d h i s)) ∧ Below w.heap.size w w' := by
  have HI := instant_calls y m d h i s w hL
  obtain ⟨V, hV⟩ : ∃ V, instV y m d h i s = V := ⟨_, rfl⟩
  obtain ⟨E, hE⟩ : ∃ E, instE y m d h i s = E := ⟨_, rfl⟩
  rw [hV, hE] at HI
  rw [hV]
  replace HI := Lib.hid HI
  clear hV hE
  go_enter Tryd.func26, Tryd.ntmps26
  go_wp2_with fail
  refine HI.out.mono ?_
  rintro e w2 ⟨rfl, hb⟩
  go_wp2_with fail
  go_ret
  exact ⟨rfl, hb⟩
theorem loc_at {o : Int} {lr : Nat} {g : Nat → Nat → Int} {t v : Int} (h : offE o lr g t = 0 ∧ offV o lr g t = v) : locV o lr g t = momV (t + v) ∧ locS o lr g t = !(v == o) := by
  unfold locV locS
  rw [if_pos h.1, if_pos h.1, h.2]
  exact ⟨rfl, rfl⟩
theorem al_1 : instV 2026 3 29 0 59 59 = 1774745999 := by decide
theorem al_2 : instV 2026 3 29 1 0 0 = 1774746000 := by decide
theorem al_3 : locV 3600 1 (rulG euL) 1774745999 = .agg #[.int .i64 2026, .int .i64 3, .int .i64 29, .int .i64 1, .int .i64 59, .int .i64 59] ∧ locS 3600 1 (rulG euL) 1774745999 = false ∧ offE 3600 1 (rulG euL) 1774745999 = 0 := by
  have h := eu_win 1774745999 (by omega)
  have q := loc_at h
  refine ⟨?_, by rw [q.2]; decide, h.1⟩
  rw [q.1, show (1774745999 : Int) + 3600 = instV 2026 3 29 1 59 59 by decide]
  exact inst_mom (by decide) (by decide)
theorem al_4 : locV 3600 1 (rulG euL) 1774746000 = .agg #[.int .i64 2026, .int .i64 3, .int .i64 29, .int .i64 3, .int .i64 0, .int .i64 0] ∧ locS 3600 1 (rulG euL) 1774746000 = true ∧ offE 3600 1 (rulG euL) 1774746000 = 0 := by
  have h := eu_sum 1774746000 (by omega)
  have q := loc_at h
  refine ⟨?_, by rw [q.2]; decide, h.1⟩
  rw [q.1, show (1774746000 : Int) + 7200 = instV 2026 3 29 3 0 0 by decide]
  exact inst_mom (by decide) (by decide)
theorem eu_rd {w : World} {b : Nat} (h : w.heap[b]? = some (.cells (rulC euL) 31 (0, 0))) : RdZ w (some ⟨b, 0, none⟩) 1 1 (rulG euL) := rul_rd rfl h (by decide)
set_option maxRecDepth 100000 in
set_option maxHeartbeats 8000000 in
theorem alive_calls (w : World) (hL : Lens w) : Calls Tryd.prog 27 #[] w fun e w' => e = .returned (.bool true) ∧ Below w.heap.size w w' := by
  have HL := Lib.hid hL
  clear hL
  go_enter Tryd.func27, Tryd.ntmps27
  go_wp2_with fail
  refine (europe_calls _).mono ?_
  rintro e w1 ⟨b, rfl, hb, hr, h1⟩
  have hL1 := HL.out.go h1
  have HW := Lib.hid (when_calls 2026 3 29 0 59 59 w1 hL1)
  unfold zonC
  go_wp2_with fail
  refine HW.out.mono ?_
  rintro e w2 ⟨rfl, h2⟩
  rw [al_1]
  have hL2 := hL1.go h2
  have h12 := bnext h1 h2
  have HC := (by have h := zLocal_calls 3600 (some ⟨b, 0, none⟩) 1 1 (rulG euL) 1774745999 w2 (eu_rd (blk_below hr h2)) hL2; rw [al_3.1, al_3.2.1, al_3.2.2] at h; exact h)
  unfold zonC at HC
  replace HC := Lib.hid HC
  clear HW hr hL1 h1 h2
  go_wp2_with fail
  refine HC.out.mono ?_
  rintro e w3 ⟨rfl, h3⟩
  have h4 := bstep w3 (.cells #[.int .i64 2026, .int .i64 3, .int .i64 29, .int .i64 1, .int .i64 59, .int .i64 59] 44)
  have r4 := World.alloc_heap_new w3 (.cells #[.int .i64 2026, .int .i64 3, .int .i64 29, .int .i64 1, .int .i64 59, .int .i64 59] 44)
  have h14 := bnext h12 (bnext h3 h4)
  have hL4 := (hL2.go h3).go h4
  clear HC hL2 h12 h3 h4
  go_wp2_with fail
  refine (europe_calls _).mono ?_
  rintro e w5 ⟨c, rfl, hc, hr, h5⟩
  have hL5 := hL4.go h5
  have r5 := blk_below r4 h5
  have h15 := bnext h14 h5
  have HW := Lib.hid (when_calls 2026 3 29 1 0 0 w5 hL5)
  clear hL4 r4 h14
  unfold zonC
  go_wp2_with fail
  refine HW.out.mono ?_
  rintro e w6 ⟨rfl, h6⟩
  rw [al_2]
  have hL6 := hL5.go h6
  have r6 := blk_below r5 h6
  have h16 := bnext h15 h6
  have HC := (by have h := zLocal_calls 3600 (some ⟨c, 0, none⟩) 1 1 (rulG euL) 1774746000 w6 (eu_rd (blk_below hr h6)) hL6; rw [al_4.1, al_4.2.1, al_4.2.2] at h; exact h)
  unfold zonC at HC
  replace HC := Lib.hid HC
  clear HW hr hL5 h5 h6 h15 r5
  go_wp2_with fail
  refine HC.out.mono ?_
  rintro e w7 ⟨rfl, h7⟩
  have h8 := bstep w7 (.cells #[.int .i64 2026, .int .i64 3, .int .i64 29, .int .i64 3, .int .i64 0, .int .i64 0] 44)
  have r8 := World.alloc_heap_new w7 (.cells #[.int .i64 2026, .int .i64 3, .int .i64 29, .int .i64 3, .int .i64 0, .int .i64 0] 44)
  have r8a := blk_below (blk_below r6 h7) h8
  have p3 := cell_of_row _ w3.heap.size 3 _ _ _ r8a
  have p5 := cell_of_row _ w3.heap.size 5 _ _ _ r8a
  have q3 := cell_of_row _ w7.heap.size 3 _ _ _ r8
  have q4 := cell_of_row _ w7.heap.size 4 _ _ _ r8
  have HB := Lib.hid (bnext h16 (bnext h7 h8))
  clear HC hL6 r6 h7 h8 r8 r8a h16
  go_wp2_with fail
  go_ret
  exact ⟨rfl, by first | exact HB.out | exact HB.out.drewN _⟩
end Go.Proofs.YtoipmhmghcngcaaDoor
