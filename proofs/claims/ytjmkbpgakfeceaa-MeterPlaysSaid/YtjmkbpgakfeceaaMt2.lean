/-
  A meter: begin, New, Reset, Last, Counts, Open, Copy, walked. Conditions stand at each theorem. (Printed by gen_mt2.py.)
-/
import Derived.Test.YtjmkbpgakfeceaaMt1
namespace Go.Proofs.Ytjmkbpgakfeceaa
open Go Go.RowKit Go.Kw Go.Kw.Mt
set_option linter.unusedVariables false
set_option linter.unusedSimpArgs false

theorem mtC_all (nr : Int) (s : Stp) (m : M) : (mtC nr s m).all (·.oneCell') = true := by simp [mtC, Value.oneCell']
theorem mtC_size (nr : Int) (s : Stp) (m : M) : (mtC nr s m).size = 14 := rfl
theorem eMtS : (Try.prog.info? 72).map (·.size) = some 14 := by kernel_rfl
set_option maxRecDepth 100000 in
theorem built_mt (nr : Int) (s : Stp) (t : Int) (v : Nat) (q : Int) : Try.prog.built 72 [(0, .int .i64 nr), (1, .agg #[.int .u64 (s.num : Int), .int .u64 (s.den : Int), .int .u32 (s.bound : Int), .int .i64 s.gap, .int .i64 s.len]), (2, .bool true), (3, .int .i64 t), (4, .int .u32 (v : Int)), (6, .int .i64 q)] = some (mtC nr s ⟨true, t, v, 0, q, 0, 0, 0⟩) := by
  have hz : (Try.prog.info? 72).map (fun i => i.zero) = some (some (.agg #[.int .i64 0, .int .u64 0, .int .u64 0, .int .u32 0, .int .i64 0, .int .i64 0, .bool false, .int .i64 0, .int .u32 0, .int .u64 0, .int .i64 0, .int .i64 0, .int .i64 0, .int .i64 0])) := by kernel_rfl
  obtain ⟨i, hi, hz⟩ := Option.map_eq_some_iff.1 hz
  have hf : ∃ fs, Try.prog.underlying 72 = some (.struct fs) ∧ fs.toList.mapM (fun f => (Try.prog.info? f.type).map fun i => (f.offset, i.size)) = some [(0, 1), (1, 5), (6, 1), (7, 1), (8, 1), (9, 1), (10, 1), (11, 1), (12, 1), (13, 1)] := ⟨_, rfl, by kernel_rfl⟩
  obtain ⟨fs, hu, hm⟩ := hf
  unfold Program.built
  rw [hi, hu]
  dsimp only
  rw [hz, hm]
  show Instr.fill _ _ _ = some (mtC nr s ⟨true, t, v, 0, q, 0, 0, 0⟩)
  kernel_rfl
set_option maxRecDepth 100000 in
theorem built_mt0 (nr : Int) (s : Stp) : Try.prog.built 72 [(0, .int .i64 nr), (1, .agg #[.int .u64 (s.num : Int), .int .u64 (s.den : Int), .int .u32 (s.bound : Int), .int .i64 s.gap, .int .i64 s.len])] = some (mtC nr s zeroM) := by
  have hz : (Try.prog.info? 72).map (fun i => i.zero) = some (some (.agg #[.int .i64 0, .int .u64 0, .int .u64 0, .int .u32 0, .int .i64 0, .int .i64 0, .bool false, .int .i64 0, .int .u32 0, .int .u64 0, .int .i64 0, .int .i64 0, .int .i64 0, .int .i64 0])) := by kernel_rfl
  obtain ⟨i, hi, hz⟩ := Option.map_eq_some_iff.1 hz
  have hf : ∃ fs, Try.prog.underlying 72 = some (.struct fs) ∧ fs.toList.mapM (fun f => (Try.prog.info? f.type).map fun i => (f.offset, i.size)) = some [(0, 1), (1, 5), (6, 1), (7, 1), (8, 1), (9, 1), (10, 1), (11, 1), (12, 1), (13, 1)] := ⟨_, rfl, by kernel_rfl⟩
  obtain ⟨fs, hu, hm⟩ := hf
  unfold Program.built
  rw [hi, hu]
  dsimp only
  rw [hz, hm]
  show Instr.fill _ _ _ = some (mtC nr s zeroM)
  kernel_rfl

theorem MtB.setup {W : World} {b : Nat} {nr : Int} {s : Stp} {m : M} (h : MtB W b nr s m) : W.cell? ⟨b, 0, none⟩ = some (.int .i64 nr) ∧ W.cell? ⟨b, 1, none⟩ = some (.int .u64 (s.num : Int)) ∧ W.cell? ⟨b, 2, none⟩ = some (.int .u64 (s.den : Int)) ∧ W.cell? ⟨b, 3, none⟩ = some (.int .u32 (s.bound : Int)) ∧ W.cell? ⟨b, 4, none⟩ = some (.int .i64 s.gap) ∧ W.cell? ⟨b, 5, none⟩ = some (.int .i64 s.len) :=
  ⟨h.cells.1, h.cells.2.1, h.cells.2.2.1, h.cells.2.2.2.1, h.cells.2.2.2.2.1, h.cells.2.2.2.2.2.1⟩
theorem MtB.row {W : World} {b : Nat} {nr : Int} {s : Stp} {m m' : M} (h : MtB W b nr s m) : MtB (W.setRow b (mtC nr s m')) b nr s m' := setRow_heap _ _ _ _ _ _ h
set_option maxRecDepth 100000 in
set_option maxHeartbeats 16000000 in
theorem mbegin_calls (w : World) (b : Nat) (nr : Int) (s : Stp) (m : M) (hs : MayS s) (h : MtB w b nr s m) (t : Int) (v : Nat) (ht : 0 ≤ t ∧ t < 253402300800) :
    Calls Try.prog 33 #[.pointer (some ⟨b, 0, none⟩), .int .i64 t, .int .u32 (v : Int)] w fun e w' => (∃ u, e = .returned u) ∧ MtB w' b nr s (beginM s t v) ∧ Kept (fun x => x ≠ b) w w' := by
  have hl := hs.ok.len
  have hq0 : 0 ≤ t / s.len := Int.ediv_nonneg ht.1 (by omega)
  have hq1 : t / s.len ≤ t := Int.ediv_le_self _ ht.1
  have HQ := Lib.hid (show IntKind.i64.wrap (t.tdiv s.len) = t / s.len by rw [Int.tdiv_eq_ediv_of_nonneg ht.1]; exact wrapI_at _ (by omega))
  have HQ2 := Lib.hid (show t.tmod s.len = t % s.len from Int.tmod_eq_emod_of_nonneg ht.1)
  have hz : (s.len == 0) = false := beq_eq_false_iff_ne.2 (by omega)
  have hm1 : (s.len == -1) = false := beq_eq_false_iff_ne.2 (by omega)
  have Hz := Lib.hid (And.intro hz (And.intro hm1 (show ¬ s.len = 0 by omega)))
  have HS := Lib.hid (h.setup)
  have HB := Lib.hid (built_mt nr s t v (t / s.len))
  have H := Lib.hid h
  have Hm := Lib.hid (show beginM s t v = (if t % s.len = 0 then (⟨true, t, v, 0, t / s.len, 0, 0, 0⟩ : M) else ⟨true, t, v, 0, t / s.len, 1, 0, 0⟩) by unfold beginM; split <;> rfl)
  clear h hs hl ht hq0 hq1 hz hm1
  go_enter Try.func33, Try.ntmps33
  go_wp2_with fail
  refine wp_region_held_drew (S := (fun Y => Y.cell? ⟨b, 0, none⟩ = some (.int .i64 nr) ∧ Y.cell? ⟨b, 1, none⟩ = some (.int .u64 (s.num : Int)) ∧ Y.cell? ⟨b, 2, none⟩ = some (.int .u64 (s.den : Int)) ∧ Y.cell? ⟨b, 3, none⟩ = some (.int .u32 (s.bound : Int)) ∧ Y.cell? ⟨b, 4, none⟩ = some (.int .i64 s.gap) ∧ Y.cell? ⟨b, 5, none⟩ = some (.int .i64 s.len))) (by kernel_rfl) HS.out (fun hHeld => ?_)
  refine wpAnyH_take (i := 0) (v := ?_) rfl (by kernel_rfl) (by kernel_rfl) (by kernel_rfl) (fun _ _ _ h => h) (Or.inl ⟨by kernel_rfl, ?_⟩) (by assumption) ?_
  rotate_left
  · intro w hSw; (try dsimp only at hSw); go_simp; try with_reducible rfl
  simp only [Act.put, List.getElem_toArray, List.getElem_cons_succ, List.getElem_cons_zero, List.setIfInBounds_toArray, List.set_cons_zero, List.set_cons_succ]
  refine wpAnyH_take (i := 1) (v := ?_) rfl (by kernel_rfl) (by kernel_rfl) (by kernel_rfl) (fun _ _ _ h => h) (Or.inl ⟨by kernel_rfl, ?_⟩) (by assumption) ?_
  rotate_left
  · intro w hSw; (try dsimp only at hSw); go_simp; try with_reducible rfl
  simp only [Act.put, List.getElem_toArray, List.getElem_cons_succ, List.getElem_cons_zero, List.setIfInBounds_toArray, List.set_cons_zero, List.set_cons_succ]
  refine wpAnyH_take (i := 2) (v := ?_) rfl (by kernel_rfl) (by kernel_rfl) (by kernel_rfl) (fun _ _ _ h => h) (Or.inl ⟨by kernel_rfl, ?_⟩) (by assumption) ?_
  rotate_left
  · intro w hSw; (try dsimp only at hSw); go_simp; try with_reducible rfl
  simp only [Act.put, List.getElem_toArray, List.getElem_cons_succ, List.getElem_cons_zero, List.setIfInBounds_toArray, List.set_cons_zero, List.set_cons_succ]
  refine wpAnyH_take (i := 3) (v := ?_) rfl (by kernel_rfl) (by kernel_rfl) (by kernel_rfl) (fun _ _ _ h => h) (Or.inl ⟨by kernel_rfl, ?_⟩) (by assumption) ?_
  rotate_left
  · intro w hSw; (try dsimp only at hSw); go_simp; try with_reducible rfl
  simp only [Act.put, List.getElem_toArray, List.getElem_cons_succ, List.getElem_cons_zero, List.setIfInBounds_toArray, List.set_cons_zero, List.set_cons_succ]
  refine wpAnyH_take (i := 4) (v := ?_) rfl (by kernel_rfl) (by kernel_rfl) (by kernel_rfl) (fun _ _ _ h => h) (Or.inl ⟨by kernel_rfl, ?_⟩) (by assumption) ?_
  rotate_left
  · intro w hSw; (try dsimp only at hSw); go_simp; try with_reducible rfl
  simp only [Act.put, List.getElem_toArray, List.getElem_cons_succ, List.getElem_cons_zero, List.setIfInBounds_toArray, List.set_cons_zero, List.set_cons_succ]
  refine wpAnyH_take (i := 5) (v := ?_) rfl (by kernel_rfl) (by kernel_rfl) (by kernel_rfl) (fun _ _ _ h => h) (Or.inl ⟨by kernel_rfl, ?_⟩) (by assumption) ?_
  rotate_left
  · intro w hSw; (try dsimp only at hSw); go_simp; try with_reducible rfl
  simp only [Act.put, List.getElem_toArray, List.getElem_cons_succ, List.getElem_cons_zero, List.setIfInBounds_toArray, List.set_cons_zero, List.set_cons_succ]
  refine wpAnyH_take (i := 6) (v := ?_) rfl (by kernel_rfl) (by kernel_rfl) (by kernel_rfl) (fun _ _ _ h => h) (Or.inl ⟨by kernel_rfl, ?_⟩) (by assumption) ?_
  rotate_left
  · intro w hSw; (try dsimp only at hSw); go_simp; try with_reducible rfl
  simp only [Act.put, List.getElem_toArray, List.getElem_cons_succ, List.getElem_cons_zero, List.setIfInBounds_toArray, List.set_cons_zero, List.set_cons_succ]
  refine wpAnyH_take (i := 7) (v := ?_) rfl (by kernel_rfl) (by kernel_rfl) (by kernel_rfl) (fun _ _ _ h => h) (Or.inl ⟨by kernel_rfl, ?_⟩) (by assumption) ?_
  rotate_left
  · intro w hSw; (try dsimp only at hSw); go_simp; try with_reducible rfl
  simp only [Act.put, List.getElem_toArray, List.getElem_cons_succ, List.getElem_cons_zero, List.setIfInBounds_toArray, List.set_cons_zero, List.set_cons_succ]
  refine wpAnyH_take (i := 8) (v := ?_) rfl (by kernel_rfl) (by kernel_rfl) (by kernel_rfl) (fun _ _ _ h => h) (Or.inl ⟨by kernel_rfl, ?_⟩) (by assumption) ?_
  rotate_left
  · intro w hSw; (try dsimp only at hSw); go_simp; try with_reducible rfl
  simp only [Act.put, List.getElem_toArray, List.getElem_cons_succ, List.getElem_cons_zero, List.setIfInBounds_toArray, List.set_cons_zero, List.set_cons_succ]
  refine wpAnyH_take (i := 9) (v := ?_) rfl (by kernel_rfl) (by kernel_rfl) (by kernel_rfl) (fun _ _ _ h => h) (Or.inl ⟨by kernel_rfl, ?_⟩) (by assumption) ?_
  rotate_left
  · intro w hSw; (try dsimp only at hSw); go_simp; try with_reducible rfl
  simp only [Act.put, List.getElem_toArray, List.getElem_cons_succ, List.getElem_cons_zero, List.setIfInBounds_toArray, List.set_cons_zero, List.set_cons_succ]
  refine wpAnyH_take (i := 10) (v := ?_) rfl (by kernel_rfl) (by kernel_rfl) (by kernel_rfl) (fun _ _ _ h => h) (Or.inl ⟨by kernel_rfl, ?_⟩) (by assumption) ?_
  rotate_left
  · intro w hSw; (try dsimp only at hSw); go_simp; try with_reducible rfl
  simp only [Act.put, List.getElem_toArray, List.getElem_cons_succ, List.getElem_cons_zero, List.setIfInBounds_toArray, List.set_cons_zero, List.set_cons_succ]
  refine wpAnyH_take (i := 11) (v := ?_) rfl (by kernel_rfl) (by kernel_rfl) (by kernel_rfl) (fun _ _ _ h => h) (Or.inl ⟨by kernel_rfl, ?_⟩) (by assumption) ?_
  rotate_left
  · intro w hSw; (try dsimp only at hSw); go_simp; try with_reducible rfl
  simp only [Act.put, List.getElem_toArray, List.getElem_cons_succ, List.getElem_cons_zero, List.setIfInBounds_toArray, List.set_cons_zero, List.set_cons_succ]
  refine wpAnyH_take (i := 12) (v := ?_) rfl (by kernel_rfl) (by kernel_rfl) (by kernel_rfl) (fun _ _ _ h => h) (Or.inl ⟨by kernel_rfl, ?_⟩) (by assumption) ?_
  rotate_left
  · intro w hSw; (try dsimp only at hSw); go_simp; try with_reducible rfl
  simp only [Act.put, List.getElem_toArray, List.getElem_cons_succ, List.getElem_cons_zero, List.setIfInBounds_toArray, List.set_cons_zero, List.set_cons_succ]
  refine wpAnyH_take (i := 13) (v := ?_) rfl (by kernel_rfl) (by kernel_rfl) (by kernel_rfl) (fun _ _ _ h => h) (Or.inl ⟨by kernel_rfl, ?_⟩) (by assumption) ?_
  rotate_left
  · intro w hSw; (try dsimp only at hSw); go_simp; try with_reducible rfl
  simp only [Act.put, List.getElem_toArray, List.getElem_cons_succ, List.getElem_cons_zero, List.setIfInBounds_toArray, List.set_cons_zero, List.set_cons_succ]
  refine wpAnyH_take (i := 14) (v := ?_) rfl (by kernel_rfl) (by kernel_rfl) (by kernel_rfl) (fun _ _ _ h => h) (Or.inl ⟨by kernel_rfl, ?_⟩) (by assumption) ?_
  rotate_left
  · intro w hSw; (try dsimp only at hSw); go_simp; try with_reducible rfl
  simp only [Act.put, List.getElem_toArray, List.getElem_cons_succ, List.getElem_cons_zero, List.setIfInBounds_toArray, List.set_cons_zero, List.set_cons_succ]
  refine wpAnyH_take (i := 15) (v := ?_) rfl (by kernel_rfl) (by kernel_rfl) (by kernel_rfl) (fun _ _ _ h => h) (Or.inl ⟨by kernel_rfl, ?_⟩) (by assumption) ?_
  rotate_left
  · intro w hSw; (try dsimp only at hSw); go_simp; try with_reducible rfl
  simp only [Act.put, List.getElem_toArray, List.getElem_cons_succ, List.getElem_cons_zero, List.setIfInBounds_toArray, List.set_cons_zero, List.set_cons_succ]
  refine wpAnyH_take (i := 16) (v := ?_) rfl (by kernel_rfl) (by kernel_rfl) (by kernel_rfl) (fun _ _ _ h => h) (Or.inl ⟨by kernel_rfl, ?_⟩) (by assumption) ?_
  rotate_left
  · intro w hSw; (try dsimp only at hSw); go_simp; try with_reducible rfl
  simp only [Act.put, List.getElem_toArray, List.getElem_cons_succ, List.getElem_cons_zero, List.setIfInBounds_toArray, List.set_cons_zero, List.set_cons_succ]
  refine wpAnyH_take (i := 17) (v := .int .i64 (t / s.len)) rfl (by kernel_rfl) (by kernel_rfl) (by kernel_rfl) (fun _ _ _ h => h) (Or.inl ⟨by kernel_rfl, ?_⟩) (by assumption) ?_
  · intro w hSw; (try dsimp only at hSw)
    have hq := HQ.out; have hz := Hz.out.1; have hm1 := Hz.out.2.1; go_simp; exact Hz.out.2.2
  simp only [Act.put, List.getElem_toArray, List.getElem_cons_succ, List.getElem_cons_zero, List.setIfInBounds_toArray, List.set_cons_zero, List.set_cons_succ]
  refine wpAnyH_take (i := 18) (v := (.agg (mtC nr s ⟨true, t, v, 0, t / s.len, 0, 0, 0⟩))) rfl (by kernel_rfl) (by kernel_rfl) (by kernel_rfl) (fun _ _ _ h => h) (Or.inl ⟨by kernel_rfl, ?_⟩) (by assumption) ?_
  · intro w hSw; (try dsimp only at hSw)
    refine build_op _ #[(0, .tmp 10), (1, .tmp 14), (2, .const (.bool true)), (3, .tmp 15), (4, .tmp 16), (6, .tmp 23)] rfl _ ?_ w
    simp only [List.map_toArray, List.map_cons, List.map_nil, Act.eval]
    exact HB.out
  simp only [Act.put, List.getElem_toArray, List.getElem_cons_succ, List.getElem_cons_zero, List.setIfInBounds_toArray, List.set_cons_zero, List.set_cons_succ]
  refine wpAnyH_take (i := 19) (v := ?_) rfl (by kernel_rfl) (by kernel_rfl) (by kernel_rfl) (fun _ _ _ h => h) (Or.inl ⟨by kernel_rfl, ?_⟩) (by assumption) ?_
  rotate_left
  · intro w hSw; (try dsimp only at hSw); go_simp; try with_reducible rfl
  simp only [Act.put, List.getElem_toArray, List.getElem_cons_succ, List.getElem_cons_zero, List.setIfInBounds_toArray, List.set_cons_zero, List.set_cons_succ]
  refine wpAnyH_ready (rs := [20]) (by kernel_rfl) (by simp) ?_
  refine AllReadyH.cons rfl (fun K hK => ?_) AllReadyH.nil
  rw [if_pos (by kernel_rfl)]
  simp only [List.getElem_toArray, List.getElem_cons_succ, List.getElem_cons_zero]
  refine wp_store_row 72 (.tmp 25) (.tmp 24) ?_ b (mtC nr s ⟨true, t, v, 0, t / s.len, 0, 0, 0⟩) ?_ ?_ 72 (mtC nr s m) ?_ ?_ ?_ ?_ ?_
  · rfl
  · rfl
  · rfl
  · exact H.out
  · rw [mtC_size]; exact eMtS
  · rfl
  · exact mtC_all _ _ _
  refine hK.out _ _ (MtB.row (W := w.drew) H.out).setup (fun hHeld => ?_)
  clear hK K
  try simp only [Act.put, List.getElem_toArray, List.getElem_cons_succ, List.getElem_cons_zero, List.setIfInBounds_toArray, List.set_cons_zero, List.set_cons_succ]
  refine wpAnyH_done (by kernel_rfl) ?_ _
  obtain ⟨w1, hw1⟩ : ∃ w1, w.drew.setRow b (mtC nr s ⟨true, t, v, 0, t / s.len, 0, 0, 0⟩) = w1 := ⟨_, rfl⟩
  have hM1 : MtB w1 b nr s ⟨true, t, v, 0, t / s.len, 0, 0, 0⟩ := hw1 ▸ MtB.row (W := w.drew) H.out
  have hk1 : Kept (fun x => x ≠ b) w w1 := hw1 ▸ (Kept.refl _ w).drew.setRow (fun e => e rfl) _
  rw [hw1]
  obtain ⟨cm, hcm⟩ : ∃ cm, mtC nr s ⟨true, t, v, 0, t / s.len, 0, 0, 0⟩ = cm := ⟨_, rfl⟩
  rw [hcm]
  clear hcm
  obtain ⟨qq, hqq⟩ : ∃ qq, t / s.len = qq := ⟨_, rfl⟩
  have Hqq := Lib.hid hqq
  rw [hqq]
  clear hqq
  have c5 := hM1.cells.2.2.2.2.2.1
  have c11 : w1.cell? ⟨b, 11, none⟩ = some (.int .i64 0) := hM1.cells.2.2.2.2.2.2.2.2.2.2.2.1
  have f11 := hM1.fr 11
  have H1 := Lib.hid (And.intro hM1 hk1)
  clear hw1 hM1 hk1
  obtain ⟨rr, hrr⟩ : ∃ rr, t.tmod s.len = rr := ⟨_, rfl⟩
  have Hrr := Lib.hid (show t % s.len = rr by rw [← HQ2.out]; exact hrr)
  have hz : ¬ s.len = 0 := Hz.out.2.2
  clear HQ HQ2 hHeld HS HB
  by_cases hr : rr = 0
  · have kr : (rr != 0) = false := by rw [hr]; rfl
    have Hr := Lib.hid hr
    clear hr
    go_wp2_with fail
    go_end0
    exact ⟨⟨_, rfl⟩, by rw [Hm.out, if_pos (by rw [Hrr.out]; exact Hr.out)]; exact H1.out.1, H1.out.2⟩
  · have kr : (rr != 0) = true := bne_iff_ne.2 hr
    have Hr := Lib.hid hr
    clear hr
    go_wp2_with fail
    go_end0
    refine ⟨⟨_, rfl⟩, ?_, H1.out.2.setCell (fun e => e rfl) _⟩
    rw [Hm.out, if_neg (by rw [Hrr.out]; exact Hr.out)]
    exact bset H1.out.1 (i := 11) (.int .i64 1)
set_option maxRecDepth 100000 in
set_option maxHeartbeats 16000000 in
theorem mreset_calls (w : World) (b : Nat) (nr : Int) (s : Stp) (m : M) (hs : MayS s) (h : MtB w b nr s m) :
    Calls Try.prog 19 #[.pointer (some ⟨b, 0, none⟩)] w fun e w' => (∃ u, e = .returned u) ∧ MtB w' b nr s zeroM ∧ Kept (fun x => x ≠ b) w w' := by
  have hl := hs.ok.len
  have hN := mnone_calls w b nr s m h
  rw [show (s.len == 0) = false from beq_eq_false_iff_ne.2 (by omega)] at hN
  have HN := Lib.hid hN
  have HB := Lib.hid (built_mt0 nr s)
  have H0 := Lib.hid h
  clear h hs hl hN
  go_enter Try.func19, Try.ntmps19
  go_wp2_with fail
  refine HN.out.mono ?_
  rintro e w0 ⟨rfl, hb⟩
  have H := Lib.hid (H0.out.go hb)
  have HS := Lib.hid H.out.setup
  have Hb := Lib.hid hb
  clear hb
  go_wp2_with fail
  refine wp_region_held_drew (S := (fun Y => Y.cell? ⟨b, 0, none⟩ = some (.int .i64 nr) ∧ Y.cell? ⟨b, 1, none⟩ = some (.int .u64 (s.num : Int)) ∧ Y.cell? ⟨b, 2, none⟩ = some (.int .u64 (s.den : Int)) ∧ Y.cell? ⟨b, 3, none⟩ = some (.int .u32 (s.bound : Int)) ∧ Y.cell? ⟨b, 4, none⟩ = some (.int .i64 s.gap) ∧ Y.cell? ⟨b, 5, none⟩ = some (.int .i64 s.len))) (by kernel_rfl) HS.out (fun hHeld => ?_)
  refine wpAnyH_take (i := 0) (v := ?_) rfl (by kernel_rfl) (by kernel_rfl) (by kernel_rfl) (fun _ _ _ h => h) (Or.inl ⟨by kernel_rfl, ?_⟩) (by assumption) ?_
  rotate_left
  · intro w hSw; (try dsimp only at hSw); go_simp; try with_reducible rfl
  simp only [Act.put, List.getElem_toArray, List.getElem_cons_succ, List.getElem_cons_zero, List.setIfInBounds_toArray, List.set_cons_zero, List.set_cons_succ]
  refine wpAnyH_take (i := 1) (v := ?_) rfl (by kernel_rfl) (by kernel_rfl) (by kernel_rfl) (fun _ _ _ h => h) (Or.inl ⟨by kernel_rfl, ?_⟩) (by assumption) ?_
  rotate_left
  · intro w hSw; (try dsimp only at hSw); go_simp; try with_reducible rfl
  simp only [Act.put, List.getElem_toArray, List.getElem_cons_succ, List.getElem_cons_zero, List.setIfInBounds_toArray, List.set_cons_zero, List.set_cons_succ]
  refine wpAnyH_take (i := 2) (v := ?_) rfl (by kernel_rfl) (by kernel_rfl) (by kernel_rfl) (fun _ _ _ h => h) (Or.inl ⟨by kernel_rfl, ?_⟩) (by assumption) ?_
  rotate_left
  · intro w hSw; (try dsimp only at hSw); go_simp; try with_reducible rfl
  simp only [Act.put, List.getElem_toArray, List.getElem_cons_succ, List.getElem_cons_zero, List.setIfInBounds_toArray, List.set_cons_zero, List.set_cons_succ]
  refine wpAnyH_take (i := 3) (v := ?_) rfl (by kernel_rfl) (by kernel_rfl) (by kernel_rfl) (fun _ _ _ h => h) (Or.inl ⟨by kernel_rfl, ?_⟩) (by assumption) ?_
  rotate_left
  · intro w hSw; (try dsimp only at hSw); go_simp; try with_reducible rfl
  simp only [Act.put, List.getElem_toArray, List.getElem_cons_succ, List.getElem_cons_zero, List.setIfInBounds_toArray, List.set_cons_zero, List.set_cons_succ]
  refine wpAnyH_take (i := 4) (v := ?_) rfl (by kernel_rfl) (by kernel_rfl) (by kernel_rfl) (fun _ _ _ h => h) (Or.inl ⟨by kernel_rfl, ?_⟩) (by assumption) ?_
  rotate_left
  · intro w hSw; (try dsimp only at hSw); go_simp; try with_reducible rfl
  simp only [Act.put, List.getElem_toArray, List.getElem_cons_succ, List.getElem_cons_zero, List.setIfInBounds_toArray, List.set_cons_zero, List.set_cons_succ]
  refine wpAnyH_take (i := 5) (v := ?_) rfl (by kernel_rfl) (by kernel_rfl) (by kernel_rfl) (fun _ _ _ h => h) (Or.inl ⟨by kernel_rfl, ?_⟩) (by assumption) ?_
  rotate_left
  · intro w hSw; (try dsimp only at hSw); go_simp; try with_reducible rfl
  simp only [Act.put, List.getElem_toArray, List.getElem_cons_succ, List.getElem_cons_zero, List.setIfInBounds_toArray, List.set_cons_zero, List.set_cons_succ]
  refine wpAnyH_take (i := 6) (v := ?_) rfl (by kernel_rfl) (by kernel_rfl) (by kernel_rfl) (fun _ _ _ h => h) (Or.inl ⟨by kernel_rfl, ?_⟩) (by assumption) ?_
  rotate_left
  · intro w hSw; (try dsimp only at hSw); go_simp; try with_reducible rfl
  simp only [Act.put, List.getElem_toArray, List.getElem_cons_succ, List.getElem_cons_zero, List.setIfInBounds_toArray, List.set_cons_zero, List.set_cons_succ]
  refine wpAnyH_take (i := 7) (v := ?_) rfl (by kernel_rfl) (by kernel_rfl) (by kernel_rfl) (fun _ _ _ h => h) (Or.inl ⟨by kernel_rfl, ?_⟩) (by assumption) ?_
  rotate_left
  · intro w hSw; (try dsimp only at hSw); go_simp; try with_reducible rfl
  simp only [Act.put, List.getElem_toArray, List.getElem_cons_succ, List.getElem_cons_zero, List.setIfInBounds_toArray, List.set_cons_zero, List.set_cons_succ]
  refine wpAnyH_take (i := 8) (v := ?_) rfl (by kernel_rfl) (by kernel_rfl) (by kernel_rfl) (fun _ _ _ h => h) (Or.inl ⟨by kernel_rfl, ?_⟩) (by assumption) ?_
  rotate_left
  · intro w hSw; (try dsimp only at hSw); go_simp; try with_reducible rfl
  simp only [Act.put, List.getElem_toArray, List.getElem_cons_succ, List.getElem_cons_zero, List.setIfInBounds_toArray, List.set_cons_zero, List.set_cons_succ]
  refine wpAnyH_take (i := 9) (v := (.agg (mtC nr s zeroM))) rfl (by kernel_rfl) (by kernel_rfl) (by kernel_rfl) (fun _ _ _ h => h) (Or.inl ⟨by kernel_rfl, ?_⟩) (by assumption) ?_
  · intro w hSw; (try dsimp only at hSw)
    refine build_op _ #[(0, .tmp 9), (1, .tmp 13)] rfl _ ?_ w
    simp only [List.map_toArray, List.map_cons, List.map_nil, Act.eval]
    exact HB.out
  simp only [Act.put, List.getElem_toArray, List.getElem_cons_succ, List.getElem_cons_zero, List.setIfInBounds_toArray, List.set_cons_zero, List.set_cons_succ]
  refine wpAnyH_take (i := 10) (v := ?_) rfl (by kernel_rfl) (by kernel_rfl) (by kernel_rfl) (fun _ _ _ h => h) (Or.inl ⟨by kernel_rfl, ?_⟩) (by assumption) ?_
  rotate_left
  · intro w hSw; (try dsimp only at hSw); go_simp; try with_reducible rfl
  simp only [Act.put, List.getElem_toArray, List.getElem_cons_succ, List.getElem_cons_zero, List.setIfInBounds_toArray, List.set_cons_zero, List.set_cons_succ]
  refine wpAnyH_ready (rs := [11]) (by kernel_rfl) (by simp) ?_
  refine AllReadyH.cons rfl (fun K hK => ?_) AllReadyH.nil
  rw [if_pos (by kernel_rfl)]
  simp only [List.getElem_toArray, List.getElem_cons_succ, List.getElem_cons_zero]
  refine wp_store_row 72 (.tmp 15) (.tmp 14) ?_ b (mtC nr s zeroM) ?_ ?_ 72 (mtC nr s m) ?_ ?_ ?_ ?_ ?_
  · rfl
  · rfl
  · rfl
  · exact H.out
  · rw [mtC_size]; exact eMtS
  · rfl
  · exact mtC_all _ _ _
  refine hK.out _ _ (MtB.row (W := w0.drew) H.out).setup (fun hHeld => ?_)
  clear hK K
  try simp only [Act.put, List.getElem_toArray, List.getElem_cons_succ, List.getElem_cons_zero, List.setIfInBounds_toArray, List.set_cons_zero, List.set_cons_succ]
  refine wpAnyH_done (by kernel_rfl) ?_ _
  go_wp2_with fail
  go_end0
  exact ⟨⟨_, rfl⟩, MtB.row (W := w0.drew) H.out, (Hb.out.keptS _).trans ((Kept.refl _ w0).drew.setRow (fun e => e rfl) _)⟩
theorem results_four {P : Program} {fn : Func} {a b c d : Tmp} (h : fn.results = #[.tmp a, .tmp b, .tmp c, .tmp d]) (tmps : Array Value) (w : World) : (results fn tmps).run P w = .ok (.tuple #[tmps.getD a undef, tmps.getD b undef, tmps.getD c undef, tmps.getD d undef]) w := by
  simp [results, h]
/-- What Last says. -/
theorem mlast_calls (w : World) (b : Nat) (nr : Int) (s : Stp) (m : M) (hs : MayS s) (h : MtB w b nr s m) (hz : m.bg = false → m = zeroM) :
    Calls Try.prog 18 #[.pointer (some ⟨b, 0, none⟩)] w fun e w' => e = .returned (.tuple #[.int .i64 m.t, .int .u32 (m.v : Int), .bool m.bg]) ∧ Below w.heap.size w w' := by
  have hl := hs.ok.len
  have hN := mnone_calls w b nr s m h
  rw [show (s.len == 0) = false from beq_eq_false_iff_ne.2 (by omega)] at hN
  have HN := Lib.hid hN
  have H0 := Lib.hid h
  clear h hs hl hN
  cases hbg : m.bg with
  | false =>
    have hz := Lib.hid (hz hbg)
    have H1 := Lib.hid (show m.bg = false from hbg)
    clear hbg
    go_enter Try.func18, Try.ntmps18
    go_wp2_with fail
    refine HN.out.mono ?_
    rintro e w0 ⟨rfl, hb⟩
    have c6 := (H0.out.go hb).cells.2.2.2.2.2.2.1
    rw [H1.out] at c6
    have Hb := Lib.hid hb
    clear hb
    go_wp2_with fail
    go_ret3
    exact ⟨by rw [hz.out]; rfl, Hb.out⟩
  | true =>
    have H1 := Lib.hid hbg
    clear hbg hz
    go_enter Try.func18, Try.ntmps18
    go_wp2_with fail
    refine HN.out.mono ?_
    rintro e w0 ⟨rfl, hb⟩
    obtain ⟨c0, c1, c2, c3, c4, c5, c6, c7, c8, c9, c10, c11, c12, c13⟩ := (H0.out.go hb).cells
    rw [H1.out] at c6
    have Hb := Lib.hid hb
    clear hb
    go_wp2_with fail
    go_quiet (fail)
    go_wp2_with fail
    go_ret3
    exact ⟨rfl, Hb.out.trans ((Below.refl _ w0).drewN _ |>.mono Hb.out.size)⟩
theorem mcounts_calls (w : World) (b : Nat) (nr : Int) (s : Stp) (m : M) (hs : MayS s) (h : MtB w b nr s m) :
    Calls Try.prog 16 #[.pointer (some ⟨b, 0, none⟩)] w fun e w' => e = .returned (.int .u64 (m.c : Int)) ∧ Below w.heap.size w w' := by
  have hl := hs.ok.len
  have hN := mnone_calls w b nr s m h
  rw [show (s.len == 0) = false from beq_eq_false_iff_ne.2 (by omega)] at hN
  have HN := Lib.hid hN
  have H0 := Lib.hid h
  clear h hs hl hN
  go_enter Try.func16, Try.ntmps16
  go_wp2_with fail
  refine HN.out.mono ?_
  rintro e w0 ⟨rfl, hb⟩
  obtain ⟨c0, c1, c2, c3, c4, c5, c6, c7, c8, c9, c10, c11, c12, c13⟩ := (H0.out.go hb).cells
  have Hb := Lib.hid hb
  clear hb
  go_wp2_with fail
  go_ret
  exact ⟨rfl, Hb.out⟩
theorem mcopy_calls (w : World) (b : Nat) (nr : Int) (s : Stp) (m : M) (hs : MayS s) (h : MtB w b nr s m) :
    Calls Try.prog 23 #[.pointer (some ⟨b, 0, none⟩)] w fun e w' => ∃ b', e = .returned (.pointer (some ⟨b', 0, none⟩)) ∧ w.heap.size ≤ b' ∧ MtB w' b' nr s m ∧ Below w.heap.size w w' := by
  have hl := hs.ok.len
  have hN := mnone_calls w b nr s m h
  rw [show (s.len == 0) = false from beq_eq_false_iff_ne.2 (by omega)] at hN
  have HN := Lib.hid hN
  have H0 := Lib.hid h
  clear h hs hl hN
  go_enter Try.func23, Try.ntmps23
  go_wp2_with fail
  refine HN.out.mono ?_
  rintro e w0 ⟨rfl, hb⟩
  obtain ⟨c0, c1, c2, c3, c4, c5, c6, c7, c8, c9, c10, c11, c12, c13⟩ := (H0.out.go hb).cells
  have Hb := Lib.hid hb
  clear hb
  go_wp2_with fail
  go_ret
  exact ⟨w0.heap.size, rfl, Hb.out.size, blk_new w0 _ _, bnext Hb.out (bstep w0 _)⟩
theorem mnew_calls (w : World) (nr : Int) (s : Stp) (hs : MayS s) (hn : 0 ≤ nr ∧ nr ≤ 63) :
    Calls Try.prog 13 #[.int .i64 nr, setV (s.num : Int) (s.den : Int) (s.bound : Int) s.gap s.len] w fun e w' => ∃ b, e = .returned (.tuple #[.pointer (some ⟨b, 0, none⟩), .int .i64 0]) ∧ w.heap.size ≤ b ∧ MtB w' b nr s zeroM ∧ Below w.heap.size w w' := by
  have HC := fun w => check_calls (s.num : Int) (s.den : Int) (s.bound : Int) s.gap s.len w
  simp only [if_pos hs.may] at HC
  have HC := Lib.hid HC
  have k0 : decide (nr < 0) = false := decide_eq_false (by omega)
  have k1 : decide (nr > 63) = false := decide_eq_false (by omega)
  obtain ⟨b0, hb0⟩ : ∃ b0, w.heap.size = b0 := ⟨_, rfl⟩
  obtain ⟨W1, hW1⟩ : ∃ W1, w.alloc (.cells #[.int .u64 (s.num : Int), .int .u64 (s.den : Int), .int .u32 (s.bound : Int), .int .i64 s.gap, .int .i64 s.len] 25) = W1 := ⟨_, rfl⟩
  have hst : Below w.heap.size w W1 := hW1 ▸ bstep w _
  have hr : W1.heap[b0]? = some (.cells #[.int .u64 (s.num : Int), .int .u64 (s.den : Int), .int .u32 (s.bound : Int), .int .i64 s.gap, .int .i64 s.len] 25 (0, 0)) := by rw [← hb0, ← hW1]; exact blk_new w _ _
  have H := Lib.hid (And.intro hst hr)
  have d0 := blk_cell hr 0 rfl
  have d1 := blk_cell hr 1 rfl
  have d2 := blk_cell hr 2 rfl
  have d3 := blk_cell hr 3 rfl
  have d4 := blk_cell hr 4 rfl
  clear hs hn hst hr
  unfold setV
  go_enter Try.func13, Try.ntmps13
  go_wp2_with fail
  clear hW1 hb0
  refine (HC.out W1).mono ?_
  rintro e W2 ⟨rfl, hb2⟩
  have hr2 := blk_below H.out.2 hb2
  have d0 := blk_cell hr2 0 rfl
  have d1 := blk_cell hr2 1 rfl
  have d2 := blk_cell hr2 2 rfl
  have d3 := blk_cell hr2 3 rfl
  have d4 := blk_cell hr2 4 rfl
  have Hb2 := Lib.hid (bnext H.out.1 hb2)
  clear hb2 hr2
  go_wp2_with fail
  go_ret2
  exact ⟨W2.heap.size, rfl, Hb2.out.size, blk_new W2 _ _, bnext Hb2.out (bstep W2 _)⟩
set_option maxRecDepth 100000 in
set_option maxHeartbeats 16000000 in
/-- Open, of one that has begun. -/
theorem mopen_yes (w : World) (b : Nat) (nr : Int) (s : Stp) (m : M) (hs : MayS s) (h : MtB w b nr s m) (hbg : m.bg = true) (hc : m.c < 9223372036854775808)
    (h1 : 0 ≤ m.fr ∧ m.fr ≤ (eng s m.c : Int)) (h2 : 0 ≤ m.k ∧ m.k + (eng s m.c : Int) ≤ 2305843009213693952) (h3 : 0 ≤ m.o * s.len ∧ m.o * s.len < 4611686018427387904) :
    Calls Try.prog 15 #[.pointer (some ⟨b, 0, none⟩)] w fun e w' => e = .returned (.tuple #[.int .i64 (m.o * s.len), .int .i64 (m.k + (eng s m.c : Int) - m.fr), .int .i64 (m.f : Int), .bool true]) ∧ Below w.heap.size w w' := by
  have hl := hs.ok.len
  have hN := mnone_calls w b nr s m h
  rw [show (s.len == 0) = false from beq_eq_false_iff_ne.2 (by omega)] at hN
  have HN := Lib.hid hN
  have H0 := Lib.hid h
  have HE := energy_calls m.c s.num s.den (s.bound : Int) s.gap s.len (by omega)
  have he := enV_ok m.c s.num s.den s.gap s.len hs.may (by have := h1; have := h2; unfold eng at *; omega)
  rw [he] at HE
  unfold setV at HE
  obtain ⟨E, hE⟩ : ∃ E : Nat, m.c * s.num / s.den = E := ⟨_, rfl⟩
  have hEn : eng s m.c = E := hE
  rw [hE] at HE
  rw [hEn] at h1 h2 ⊢
  have HE := Lib.hid HE
  have X1 := Lib.hid (wrap64_at (m.o * s.len) (by omega))
  have X2 := Lib.hid (wrap64_at (m.k + (E : Int)) (by omega))
  have X3 := Lib.hid (wrap64_at (m.k + (E : Int) - m.fr) (by omega))
  have Hbg := Lib.hid hbg
  clear h hs hl hN hbg hc h1 h2 h3 he hE hEn
  go_enter Try.func15, Try.ntmps15
  go_wp2_with fail
  refine HN.out.mono ?_
  rintro e w0 ⟨rfl, hb⟩
  have c6 := (H0.out.go hb).cells.2.2.2.2.2.2.1
  rw [Hbg.out] at c6
  have H1 := Lib.hid (H0.out.go hb)
  have Hb := Lib.hid hb
  have HS := Lib.hid (show ∀ Y, Kept (fun x => x = b) w0 Y → (Y.cell? ⟨b, 1, none⟩ = some (.int .u64 (s.num : Int)) ∧ Y.cell? ⟨b, 2, none⟩ = some (.int .u64 (s.den : Int)) ∧ Y.cell? ⟨b, 3, none⟩ = some (.int .u32 (s.bound : Int)) ∧ Y.cell? ⟨b, 4, none⟩ = some (.int .i64 s.gap) ∧ Y.cell? ⟨b, 5, none⟩ = some (.int .i64 s.len) ∧ Y.cell? ⟨b, 9, none⟩ = some (.int .u64 (m.c : Int))) from fun Y hY => by
    obtain ⟨c0, c1, c2, c3, c4, c5, c6, c7, c8, c9, c10, c11, c12, c13⟩ := (H1.out.kept hY rfl).cells
    exact ⟨c1, c2, c3, c4, c5, c9⟩)
  clear hb
  go_wp2_with fail
  refine wp_region_held_drew (S := (fun Y => Y.cell? ⟨b, 1, none⟩ = some (.int .u64 (s.num : Int)) ∧ Y.cell? ⟨b, 2, none⟩ = some (.int .u64 (s.den : Int)) ∧ Y.cell? ⟨b, 3, none⟩ = some (.int .u32 (s.bound : Int)) ∧ Y.cell? ⟨b, 4, none⟩ = some (.int .i64 s.gap) ∧ Y.cell? ⟨b, 5, none⟩ = some (.int .i64 s.len) ∧ Y.cell? ⟨b, 9, none⟩ = some (.int .u64 (m.c : Int)))) (by kernel_rfl) (HS.out _ (Kept.refl _ _).drew) (fun hHeld => ?_)
  refine wpAnyH_take (i := 0) (v := ?_) rfl (by kernel_rfl) (by kernel_rfl) (by kernel_rfl) (fun _ _ _ h => h) (Or.inl ⟨by kernel_rfl, ?_⟩) (by assumption) ?_
  rotate_left
  · intro w hSw; (try dsimp only at hSw); go_simp; try with_reducible rfl
  simp only [Act.put, List.getElem_toArray, List.getElem_cons_succ, List.getElem_cons_zero, List.setIfInBounds_toArray, List.set_cons_zero, List.set_cons_succ]
  refine wpAnyH_take (i := 1) (v := ?_) rfl (by kernel_rfl) (by kernel_rfl) (by kernel_rfl) (fun _ _ _ h => h) (Or.inl ⟨by kernel_rfl, ?_⟩) (by assumption) ?_
  rotate_left
  · intro w hSw; (try dsimp only at hSw); go_simp; try with_reducible rfl
  simp only [Act.put, List.getElem_toArray, List.getElem_cons_succ, List.getElem_cons_zero, List.setIfInBounds_toArray, List.set_cons_zero, List.set_cons_succ]
  refine wpAnyH_take (i := 2) (v := ?_) rfl (by kernel_rfl) (by kernel_rfl) (by kernel_rfl) (fun _ _ _ h => h) (Or.inl ⟨by kernel_rfl, ?_⟩) (by assumption) ?_
  rotate_left
  · intro w hSw; (try dsimp only at hSw); go_simp; try with_reducible rfl
  simp only [Act.put, List.getElem_toArray, List.getElem_cons_succ, List.getElem_cons_zero, List.setIfInBounds_toArray, List.set_cons_zero, List.set_cons_succ]
  refine wpAnyH_take (i := 3) (v := ?_) rfl (by kernel_rfl) (by kernel_rfl) (by kernel_rfl) (fun _ _ _ h => h) (Or.inl ⟨by kernel_rfl, ?_⟩) (by assumption) ?_
  rotate_left
  · intro w hSw; (try dsimp only at hSw); go_simp; try with_reducible rfl
  simp only [Act.put, List.getElem_toArray, List.getElem_cons_succ, List.getElem_cons_zero, List.setIfInBounds_toArray, List.set_cons_zero, List.set_cons_succ]
  refine wpAnyH_take (i := 4) (v := ?_) rfl (by kernel_rfl) (by kernel_rfl) (by kernel_rfl) (fun _ _ _ h => h) (Or.inl ⟨by kernel_rfl, ?_⟩) (by assumption) ?_
  rotate_left
  · intro w hSw; (try dsimp only at hSw); go_simp; try with_reducible rfl
  simp only [Act.put, List.getElem_toArray, List.getElem_cons_succ, List.getElem_cons_zero, List.setIfInBounds_toArray, List.set_cons_zero, List.set_cons_succ]
  refine wpAnyH_take (i := 5) (v := ?_) rfl (by kernel_rfl) (by kernel_rfl) (by kernel_rfl) (fun _ _ _ h => h) (Or.inl ⟨by kernel_rfl, ?_⟩) (by assumption) ?_
  rotate_left
  · intro w hSw; (try dsimp only at hSw); go_simp; try with_reducible rfl
  simp only [Act.put, List.getElem_toArray, List.getElem_cons_succ, List.getElem_cons_zero, List.setIfInBounds_toArray, List.set_cons_zero, List.set_cons_succ]
  refine wpAnyH_take (i := 6) (v := ?_) rfl (by kernel_rfl) (by kernel_rfl) (by kernel_rfl) (fun _ _ _ h => h) (Or.inl ⟨by kernel_rfl, ?_⟩) (by assumption) ?_
  rotate_left
  · intro w hSw; (try dsimp only at hSw); go_simp; try with_reducible rfl
  simp only [Act.put, List.getElem_toArray, List.getElem_cons_succ, List.getElem_cons_zero, List.setIfInBounds_toArray, List.set_cons_zero, List.set_cons_succ]
  refine wpAnyH_take (i := 7) (v := ?_) rfl (by kernel_rfl) (by kernel_rfl) (by kernel_rfl) (fun _ _ _ h => h) (Or.inl ⟨by kernel_rfl, ?_⟩) (by assumption) ?_
  rotate_left
  · intro w hSw; (try dsimp only at hSw); go_simp; try with_reducible rfl
  simp only [Act.put, List.getElem_toArray, List.getElem_cons_succ, List.getElem_cons_zero, List.setIfInBounds_toArray, List.set_cons_zero, List.set_cons_succ]
  refine wpAnyH_ready (rs := [8]) (by kernel_rfl) (by simp) ?_
  refine AllReadyH.cons rfl (fun K hK => ?_) AllReadyH.nil
  go_simp
  refine (HE.out w0.drew).mono ?_
  rintro e w2 ⟨rfl, hb2⟩
  have H2 := Lib.hid (And.intro (bnext (Below.refl w0.heap.size w0).drew hb2) ((Kept.refl (fun x => x = b) w0).drew.trans (hb2.keptS _)))
  clear hb2
  try go_wp2_with fail
  refine hK.out _ _ (HS.out _ H2.out.2) (fun hHeld => ?_)
  clear hK K
  try simp only [Act.put, List.getElem_toArray, List.getElem_cons_succ, List.getElem_cons_zero, List.setIfInBounds_toArray, List.set_cons_zero, List.set_cons_succ]
  refine wpAnyH_take (i := 9) (v := ?_) rfl (by kernel_rfl) (by kernel_rfl) (by kernel_rfl) (fun _ _ _ h => h) (Or.inl ⟨by kernel_rfl, ?_⟩) (by assumption) ?_
  rotate_left
  · intro w hSw; (try dsimp only at hSw); go_simp; try with_reducible rfl
  simp only [Act.put, List.getElem_toArray, List.getElem_cons_succ, List.getElem_cons_zero, List.setIfInBounds_toArray, List.set_cons_zero, List.set_cons_succ]
  refine wpAnyH_take (i := 10) (v := ?_) rfl (by kernel_rfl) (by kernel_rfl) (by kernel_rfl) (fun _ _ _ h => h) (Or.inl ⟨by kernel_rfl, ?_⟩) (by assumption) ?_
  rotate_left
  · intro w hSw; (try dsimp only at hSw); go_simp; try with_reducible rfl
  simp only [Act.put, List.getElem_toArray, List.getElem_cons_succ, List.getElem_cons_zero, List.setIfInBounds_toArray, List.set_cons_zero, List.set_cons_succ]
  refine wpAnyH_take (i := 11) (v := ?_) rfl (by kernel_rfl) (by kernel_rfl) (by kernel_rfl) (fun _ _ _ h => h) (Or.inl ⟨by kernel_rfl, ?_⟩) (by assumption) ?_
  rotate_left
  · intro w hSw; (try dsimp only at hSw); go_simp; try with_reducible rfl
  simp only [Act.put, List.getElem_toArray, List.getElem_cons_succ, List.getElem_cons_zero, List.setIfInBounds_toArray, List.set_cons_zero, List.set_cons_succ]
  refine wpAnyH_take (i := 12) (v := ?_) rfl (by kernel_rfl) (by kernel_rfl) (by kernel_rfl) (fun _ _ _ h => h) (Or.inl ⟨by kernel_rfl, ?_⟩) (by assumption) ?_
  rotate_left
  · intro w hSw; (try dsimp only at hSw); go_simp; try with_reducible rfl
  simp only [Act.put, List.getElem_toArray, List.getElem_cons_succ, List.getElem_cons_zero, List.setIfInBounds_toArray, List.set_cons_zero, List.set_cons_succ]
  refine wpAnyH_take (i := 13) (v := ?_) rfl (by kernel_rfl) (by kernel_rfl) (by kernel_rfl) (fun _ _ _ h => h) (Or.inl ⟨by kernel_rfl, ?_⟩) (by assumption) ?_
  rotate_left
  · intro w hSw; (try dsimp only at hSw); go_simp; try with_reducible rfl
  simp only [Act.put, List.getElem_toArray, List.getElem_cons_succ, List.getElem_cons_zero, List.setIfInBounds_toArray, List.set_cons_zero, List.set_cons_succ]
  refine wpAnyH_done (by kernel_rfl) ?_ _
  obtain ⟨c0, c1, c2, c3, c4, c5, c6, c7, c8, c9, c10, c11, c12, c13⟩ := (H1.out.go H2.out.1).cells
  clear hHeld c0 c1 c2 c3 c4 c6 c7 c8 c9
  go_wp2_with fail
  go_quiet (fail)
  go_wp2_with fail
  rw [X1.out, X2.out, X3.out]
  refine bodyPost_ret (results_four rfl _ _) rfl ?_
  exact ⟨rfl, (bnext Hb.out H2.out.1).trans ((Below.refl _ w2).drewN _ |>.mono (bnext Hb.out H2.out.1).size)⟩
/-- Open, of one that has not. -/
theorem mopen_no (w : World) (b : Nat) (nr : Int) (s : Stp) (m : M) (hs : MayS s) (h : MtB w b nr s m) (hbg : m.bg = false) :
    Calls Try.prog 15 #[.pointer (some ⟨b, 0, none⟩)] w fun e w' => e = .returned (.tuple #[.int .i64 0, .int .i64 0, .int .i64 0, .bool false]) ∧ Below w.heap.size w w' := by
  have hl := hs.ok.len
  have hN := mnone_calls w b nr s m h
  rw [show (s.len == 0) = false from beq_eq_false_iff_ne.2 (by omega)] at hN
  have HN := Lib.hid hN
  have H0 := Lib.hid h
  have Hbg := Lib.hid hbg
  clear h hs hl hN hbg
  go_enter Try.func15, Try.ntmps15
  go_wp2_with fail
  refine HN.out.mono ?_
  rintro e w0 ⟨rfl, hb⟩
  have c6 := (H0.out.go hb).cells.2.2.2.2.2.2.1
  rw [Hbg.out] at c6
  have Hb := Lib.hid hb
  clear hb
  go_wp2_with fail
  refine bodyPost_ret (results_four rfl _ _) rfl ?_
  exact ⟨rfl, Hb.out⟩
end Go.Proofs.Ytjmkbpgakfeceaa
