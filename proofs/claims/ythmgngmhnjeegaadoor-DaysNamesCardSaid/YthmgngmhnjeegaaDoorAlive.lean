/-
  The chapter's calendar and examples: few, kind, season, alive: walked. Conditions stand at each theorem.
-/
import Derived.Test.YthmgngmhnjeegaaDoorCalOpen
namespace Go.Proofs.YthmgngmhnjeegaaDoor
open Go Go.RowKit Go.Kw Go.Kw.Cv
set_option linter.unusedVariables false
set_option linter.unusedSimpArgs false

def fewH : Nat → Nat → Int := fun i j => ([1, 0, 1, 1, 0, 0, 4, 0, 0, 0, 0, 1, 3, 0, 5, 0, 1, -1] : List Int).getD (i * 6 + j) 0
def fewS : Nat → Nat → Int := fun i j => ([1, 4, 1, 2, 10, 1] : List Int).getD (i * 3 + j) 0
theorem few_ok : calOk 3 fewH 2 fewS := by
  refine ⟨by omega, by omega, fun i hi => ?_, fun i hi => ?_⟩
  · have : i = 0 ∨ i = 1 ∨ i = 2 := by omega
    rcases this with rfl | rfl | rfl
    · show mayB 1 0 1 1 0 0; decide
    · show mayB 4 0 0 0 0 1; decide
    · show mayB 3 0 5 0 1 (-1); decide
  · have : i = 0 ∨ i = 1 := by omega
    rcases this with rfl | rfl
    · exact ⟨⟨by decide, by decide, by show okD 2001 4 1; decide⟩, fun ⟨j, hj, _⟩ => by omega⟩
    · refine ⟨⟨by decide, by decide, by show okD 2001 10 1; decide⟩, fun ⟨j, hj, h1, h2⟩ => ?_⟩
      obtain rfl : j = 0 := by omega
      exact absurd h1 (by decide)
theorem results_cell1 {P : Program} {fn : Func} {p : Tmp} {ty : TypeId} (h : fn.results = #[.cell p ty]) (tmps : Array Value) (w : World) (g : Nat) (t : TypeId) (cs : Array Value) (fr : Nat × Nat) (d : TypeDesc)
    (hp : tmps.getD p undef = .pointer (some ⟨g, 0, none⟩)) (hg : w.heap[g]? = some (.cells cs t fr))
    (hu : P.underlying ty = some d) (hd : (match d with | .struct _ | .array _ _ => true | _ => false) = true) (hi : (P.info? ty).map (·.size) = some cs.size) :
    (results fn tmps).run P w = .ok (.agg cs) w := by
  have hp' : tmps[p]?.getD undef = .pointer (some ⟨g, 0, none⟩) := by simpa using hp
  simp [results, h, hp', asAddr, run_loadVar_row w g t ty cs fr d hg hu hd hi]
theorem cal_size : (Tryd.prog.info? 35).map (·.size) = some 2 := by kernel_rfl
theorem res_cal {fn : Func} {p : Tmp} (h : fn.results = #[.cell p 35]) {tmps : Array Value} {w : World} {g : Nat} {a b : Value} (hp : tmps.getD p undef = .pointer (some ⟨g, 0, none⟩)) (hg : w.heap[g]? = some (.cells #[a, b] 35 (0, 0))) :
    (results fn tmps).run Tryd.prog w = .ok (.agg #[a, b]) w :=
  results_cell1 h tmps w g _ _ _ _ hp hg Tryd.underlying35 rfl cal_size
theorem few_read (W : World) (s : Nat) (hH : W.heap[s]? = some (.cells #[.int .i64 1, .int .i64 0, .int .i64 1, .int .i64 1, .int .i64 0, .int .i64 0, .int .i64 4, .int .i64 0, .int .i64 0, .int .i64 0, .int .i64 0, .int .i64 1, .int .i64 3, .int .i64 0, .int .i64 5, .int .i64 0, .int .i64 1, .int .i64 (-1)] 47 (0, 0)))
    (hS : W.heap[s + 1]? = some (.cells #[.int .i64 1, .int .i64 4, .int .i64 1, .int .i64 2, .int .i64 10, .int .i64 1] 49 (0, 0))) :
    RdCal W (some ⟨s, 0, none⟩) 3 3 fewH (some ⟨s + 1, 0, none⟩) 2 2 fewS := by
  have h1 := (Array.getElem?_eq_some_iff.1 hH).1
  have h2 := (Array.getElem?_eq_some_iff.1 hS).1
  refine ⟨⟨by omega, by decide, (fun h => by cases h), .inr ⟨s, 0, rfl, h1, fun i hi => ?_⟩, fun r j hr hj => ?_⟩, ⟨by omega, by decide, (fun h => by cases h), .inr ⟨s + 1, 0, rfl, h2, fun i hi => ?_⟩, fun r j hr hj => ?_⟩⟩
  · have hc := cell_of_row W s i _ _ _ hH
    rw [Nat.zero_add]
    rcases (by omega : i = 0 ∨ i = 1 ∨ i = 2 ∨ i = 3 ∨ i = 4 ∨ i = 5 ∨ i = 6 ∨ i = 7 ∨ i = 8 ∨ i = 9 ∨ i = 10 ∨ i = 11 ∨ i = 12 ∨ i = 13 ∨ i = 14 ∨ i = 15 ∨ i = 16 ∨ i = 17) with rfl | rfl | rfl | rfl | rfl | rfl | rfl | rfl | rfl | rfl | rfl | rfl | rfl | rfl | rfl | rfl | rfl | rfl
    all_goals exact hc
  · rcases (by omega : r = 0 ∨ r = 1 ∨ r = 2) with rfl | rfl | rfl <;> rcases (by omega : j = 0 ∨ j = 1 ∨ j = 2 ∨ j = 3 ∨ j = 4 ∨ j = 5) with rfl | rfl | rfl | rfl | rfl | rfl <;> decide
  · have hc := cell_of_row W (s + 1) i _ _ _ hS
    rw [Nat.zero_add]
    rcases (by omega : i = 0 ∨ i = 1 ∨ i = 2 ∨ i = 3 ∨ i = 4 ∨ i = 5) with rfl | rfl | rfl | rfl | rfl | rfl
    all_goals exact hc
  · rcases (by omega : r = 0 ∨ r = 1) with rfl | rfl <;> rcases (by omega : j = 0 ∨ j = 1 ∨ j = 2) with rfl | rfl | rfl <;> decide
/-- What few answers. -/
def FewE (w : World) (e : Ending) (w' : World) : Prop := ∃ s, e = .returned (calC (some ⟨s, 0, none⟩) 3 3 (some ⟨s + 1, 0, none⟩) 2 2) ∧ RdCal w' (some ⟨s, 0, none⟩) 3 3 fewH (some ⟨s + 1, 0, none⟩) 2 2 fewS ∧ Below w.heap.size w w'
set_option maxRecDepth 100000 in
set_option maxHeartbeats 4000000 in
theorem few_calls (w : World) : Calls Tryd.prog 24 #[] w fun e w' => FewE w e w' := by
  go_enter Tryd.func24, Tryd.ntmps24
  go_wp2_with fail
  have t0 := bstep w (.cells #[.slice (some ⟨w.heap.size + 1, 0, none⟩) 3 3, .slice (some ⟨w.heap.size + 1 + 1, 0, none⟩) 2 2] 35)
  have r0 := World.alloc_heap_new w (.cells #[.slice (some ⟨w.heap.size + 1, 0, none⟩) 3 3, .slice (some ⟨w.heap.size + 1 + 1, 0, none⟩) 2 2] 35)
  obtain ⟨W1, hW1⟩ : ∃ W1, w.alloc (.cells #[.slice (some ⟨w.heap.size + 1, 0, none⟩) 3 3, .slice (some ⟨w.heap.size + 1 + 1, 0, none⟩) 2 2] 35) = W1 := ⟨_, rfl⟩
  have s1 : W1.heap.size = w.heap.size + 1 := by rw [← hW1]; simp
  rw [hW1] at t0 r0 ⊢
  have t1 := bstep W1 (.cells #[.int .i64 1, .int .i64 0, .int .i64 1, .int .i64 1, .int .i64 0, .int .i64 0, .int .i64 4, .int .i64 0, .int .i64 0, .int .i64 0, .int .i64 0, .int .i64 1, .int .i64 3, .int .i64 0, .int .i64 5, .int .i64 0, .int .i64 1, .int .i64 (-1)] 47)
  have r1 := World.alloc_heap_new W1 (.cells #[.int .i64 1, .int .i64 0, .int .i64 1, .int .i64 1, .int .i64 0, .int .i64 0, .int .i64 4, .int .i64 0, .int .i64 0, .int .i64 0, .int .i64 0, .int .i64 1, .int .i64 3, .int .i64 0, .int .i64 5, .int .i64 0, .int .i64 1, .int .i64 (-1)] 47)
  obtain ⟨W2, hW2⟩ : ∃ W2, W1.alloc (.cells #[.int .i64 1, .int .i64 0, .int .i64 1, .int .i64 1, .int .i64 0, .int .i64 0, .int .i64 4, .int .i64 0, .int .i64 0, .int .i64 0, .int .i64 0, .int .i64 1, .int .i64 3, .int .i64 0, .int .i64 5, .int .i64 0, .int .i64 1, .int .i64 (-1)] 47) = W2 := ⟨_, rfl⟩
  have s2 : W2.heap.size = w.heap.size + 1 + 1 := by rw [← hW2]; simp [s1]
  rw [hW2] at t1 r1 ⊢
  have t2 := bstep W2 (.cells #[.int .i64 1, .int .i64 4, .int .i64 1, .int .i64 2, .int .i64 10, .int .i64 1] 49)
  have r2 := World.alloc_heap_new W2 (.cells #[.int .i64 1, .int .i64 4, .int .i64 1, .int .i64 2, .int .i64 10, .int .i64 1] 49)
  rw [s2] at r2
  rw [s1] at r1
  have r0' := blk_below (blk_below r0 t1) t2
  have r1' := blk_below r1 t2
  refine bodyPost_ret (res_cal rfl rfl r0') rfl ?_
  exact ⟨w.heap.size + 1, rfl, few_read _ _ r1' r2, bnext (bnext t0 t1) t2⟩
theorem kind_few {y m d : Int} (hok : okD y m d) {b : Bool} (hb : decide (dayN y m d ∈ feastL fewH 3 y) = b) : kindD fewH 3 (dayN y m d) = kindB b (wdN (dayN y m d)) := by
  unfold kindD; rw [isF_day _ _ hok, hb]
theorem season_few {y m d : Int} (hok : okD y m d) : seasD fewS 2 (dayN y m d) = seasN fewS 2 m d := by
  unfold seasD; rw [dOf_day hok]
set_option maxHeartbeats 4000000 in
theorem kind_calls (y m d K : Int) (hok : okD y m d) (hK : kindD fewH 3 (dayN y m d) = K) (w : World) (hL : Lens w) : Calls Tryd.prog 25 #[.int .i64 y, .int .i64 m, .int .i64 d] w fun e w' => e = .returned (.int .i64 K) ∧ Below w.heap.size w w' := by
  have HD := day_calls y m d w hL
  rw [show dayE y m d = dayN y m d from if_pos hok, chk_ok hok] at HD
  have hr := day_range hok
  obtain ⟨N, hN⟩ : ∃ N, dayN y m d = N := ⟨_, rfl⟩
  rw [hN] at HD hr hK
  replace HD := Lib.hid HD
  have Hr := Lib.hid (And.intro hr hK)
  have HL := Lib.hid hL
  clear hok hN hr hL hK
  go_enter Tryd.func25, Tryd.ntmps25
  go_wp2_with fail
  refine HD.out.mono ?_
  rintro e w1 ⟨rfl, hb1⟩
  have hL1 := HL.out.go hb1
  go_wp2_with fail
  refine (few_calls _).mono ?_
  rintro e w2 ⟨s, rfl, hR, hb2⟩
  have hL2 := hL1.go hb2
  have HK := daysKind_ok _ 3 3 fewH _ 2 2 fewS N few_ok Hr.out.1 w2 hR hL2
  rw [Hr.out.2] at HK
  replace HK := Lib.hid HK
  have hbb := bnext hb1 hb2
  unfold calC at HK ⊢
  clear hL1 hR hL2 hb1 hb2
  go_wp2_with fail
  refine HK.out.mono ?_
  rintro e w3 ⟨rfl, hb3⟩
  have hbc := bnext hbb hb3
  clear hb3 hbb
  go_wp2_with fail
  go_ret
  exact ⟨rfl, hbc⟩
set_option maxHeartbeats 4000000 in
theorem lawSeason_calls (y m d K : Int) (hok : okD y m d) (hK : seasD fewS 2 (dayN y m d) = K) (w : World) (hL : Lens w) : Calls Tryd.prog 26 #[.int .i64 y, .int .i64 m, .int .i64 d] w fun e w' => e = .returned (.int .i64 K) ∧ Below w.heap.size w w' := by
  have HD := day_calls y m d w hL
  rw [show dayE y m d = dayN y m d from if_pos hok, chk_ok hok] at HD
  have hr := day_range hok
  obtain ⟨N, hN⟩ : ∃ N, dayN y m d = N := ⟨_, rfl⟩
  rw [hN] at HD hr hK
  replace HD := Lib.hid HD
  have Hr := Lib.hid (And.intro hr hK)
  have HL := Lib.hid hL
  clear hok hN hr hL hK
  go_enter Tryd.func26, Tryd.ntmps26
  go_wp2_with fail
  refine HD.out.mono ?_
  rintro e w1 ⟨rfl, hb1⟩
  have hL1 := HL.out.go hb1
  go_wp2_with fail
  refine (few_calls _).mono ?_
  rintro e w2 ⟨s, rfl, hR, hb2⟩
  have hL2 := hL1.go hb2
  have HK := season_ok _ 3 3 fewH _ 2 2 fewS N few_ok Hr.out.1 w2 hR hL2
  rw [Hr.out.2] at HK
  replace HK := Lib.hid HK
  have hbb := bnext hb1 hb2
  unfold calC at HK ⊢
  clear hL1 hR hL2 hb1 hb2
  go_wp2_with fail
  refine HK.out.mono ?_
  rintro e w3 ⟨rfl, hb3⟩
  have hbc := bnext hbb hb3
  clear hb3 hbb
  go_wp2_with fail
  go_ret
  exact ⟨rfl, hbc⟩
set_option maxRecDepth 100000 in
theorem eq_date (a b c a' b' c' : Int) (w : World) : (Op.equalIn 10000 24 (.agg #[.int .i64 a, .int .i64 b, .int .i64 c]) (.agg #[.int .i64 a', .int .i64 b', .int .i64 c'])).run Tryd.prog w = .ok (a == a' && b == b' && c == c') w := by
  have u3 := Tryd.underlying3
  have hS : Tryd.prog.underlying 24 = some (.struct (Tryd.prog.fieldsOf 24)) := by kernel_rfl
  have hp : Tryd.prog.stoodInHeld 24 = false := by kernel_rfl
  rw [show (10000 : Nat) = 9999 + 1 from rfl, run_equalIn_agg _ 9999 24 _ _ hS hp]
  simp only [Program.fieldsOf, Tryd.underlying24]
  have p0 : ∀ a b c : Int, (part 3 #[Value.int .i64 a, .int .i64 b, .int .i64 c] 0).run Tryd.prog w = .ok (.int .i64 a) w := fun a b c => by kernel_rfl
  have p1 : ∀ a b c : Int, (part 3 #[Value.int .i64 a, .int .i64 b, .int .i64 c] 1).run Tryd.prog w = .ok (.int .i64 b) w := fun a b c => by kernel_rfl
  have p2 : ∀ a b c : Int, (part 3 #[Value.int .i64 a, .int .i64 b, .int .i64 c] 2).run Tryd.prog w = .ok (.int .i64 c) w := fun a b c => by kernel_rfl
  have q : ∀ x y : Int, (Op.equalIn 9999 3 (.int .i64 x) (.int .i64 y)).run Tryd.prog w = .ok (x == y) w := fun x y => run_equalIn_int w 9998 3 _ _ x y u3
  simp [Op.eqFields, p0, p1, p2, q]
  by_cases h1 : a = a' <;> by_cases h2 : b = b' <;> by_cases h3 : c = c' <;> simp [h1, h2, h3]
attribute [local go_sem] eq_date
set_option maxRecDepth 100000 in
set_option maxHeartbeats 4000000 in
theorem alive_calls (w : World) (hL : Lens w) : Calls Tryd.prog 9 #[] w fun e w' => e = .returned (.bool true) ∧ Below w.heap.size w w' := by
  have HE := easter_calls 2026 (by omega) w
  rw [show easM 2026 = 4 by decide, show easD 2026 = 5 by decide] at HE
  replace HE := Lib.hid HE
  have ok6 : okD 2026 4 6 := by decide
  have ok4 : okD 2026 4 4 := by decide
  have ok7 : okD 2026 4 7 := by decide
  have H6 := Lib.hid (kind_calls 2026 4 6 4 ok6 ((kind_few ok6 (b := true) (by decide +kernel)).trans (by decide +kernel)))
  have H4 := Lib.hid (kind_calls 2026 4 4 2 ok4 ((kind_few ok4 (b := false) (by decide +kernel)).trans (by decide +kernel)))
  have H7 := Lib.hid (kind_calls 2026 4 7 1 ok7 ((kind_few ok7 (b := false) (by decide +kernel)).trans (by decide +kernel)))
  have HL := Lib.hid hL
  clear hL ok6 ok4 ok7
  go_enter Tryd.func9, Tryd.ntmps9
  go_wp2_with fail
  refine HE.out.mono ?_
  rintro e w1 ⟨rfl, hb1⟩
  have t1 := bstep w1 (.cells #[.int .i64 2026, .int .i64 4, .int .i64 5] 24)
  have hb2 := bnext hb1 t1
  have hL2 := (HL.out.go hb1).go t1
  clear hb1 t1
  go_wp2_with fail
  refine (H6.out _ hL2).mono ?_
  rintro e w3 ⟨rfl, hb3⟩
  have hb4 := bnext hb2 hb3
  have hL4 := hL2.go hb3
  clear hb2 hb3 hL2
  go_wp2_with fail
  refine (H4.out _ hL4).mono ?_
  rintro e w5 ⟨rfl, hb5⟩
  have hb6 := bnext hb4 hb5
  have hL6 := hL4.go hb5
  clear hb4 hb5 hL4
  go_wp2_with fail
  refine (H7.out _ hL6).mono ?_
  rintro e w7 ⟨rfl, hb7⟩
  have hb8 := bnext hb6 hb7
  clear hb6 hb7 hL6
  go_wp2_with fail
  go_ret
  exact ⟨rfl, hb8⟩
end Go.Proofs.YthmgngmhnjeegaaDoor
