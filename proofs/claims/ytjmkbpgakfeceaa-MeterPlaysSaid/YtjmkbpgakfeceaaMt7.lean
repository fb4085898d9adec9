/-
  A meter: what Sample does behind a first sample, walked. Conditions stand at each theorem. (Printed by gen_mt7.py.)
-/
import Derived.Test.YtjmkbpgakfeceaaMt6
namespace Go.Proofs.Ytjmkbpgakfeceaa
open Go Go.RowKit Go.Kw Go.Kw.Mt
set_option linter.unusedVariables false
set_option linter.unusedSimpArgs false

theorem spC_size (t' : Int) (d fl : Nat) : (spC t' d fl).size = 3 := rfl
theorem eSpS : (Try.prog.info? 81).map (·.size) = some 3 := by kernel_rfl
theorem spC_all (t' : Int) (d fl : Nat) : (spC t' d fl).all (·.oneCell') = true := by simp [spC, Value.oneCell']
set_option maxRecDepth 100000 in
theorem built_sus (nr st : Int) (c : Nat) : Try.prog.built 45 [(0, .int .i64 2), (1, .int .i64 nr), (2, .int .i64 st), (8, .int .u32 (c : Int))] = some (enC nr ⟨2, st, 0, 0, c⟩) := by
  obtain ⟨i, hi, hz⟩ := Option.map_eq_some_iff.1 eEn
  have hf : ∃ fs, Try.prog.underlying 45 = some (.struct fs) ∧ fs.toList.mapM (fun f => (Try.prog.info? f.type).map fun i => (f.offset, i.size)) = some [(0, 1), (1, 1), (2, 1), (3, 1), (4, 1), (5, 1), (6, 1), (7, 1), (8, 1), (9, 1), (10, 32)] := ⟨_, rfl, by kernel_rfl⟩
  obtain ⟨fs, hu, hm⟩ := hf
  unfold Program.built
  rw [hi, hu]
  dsimp only
  rw [hz, hm]
  dsimp only
  unfold enC
  rfl
set_option maxRecDepth 100000 in
theorem built_sp (t' : Int) (d : Nat) : Try.prog.built 81 [(0, .int .i64 t'), (1, .int .u32 (d : Int))] = some (spC t' d 0) := by
  have hz : (Try.prog.info? 81).map (fun i => i.zero) = some (some (.agg #[.int .i64 0, .int .u32 0, .int .i64 0])) := by kernel_rfl
  obtain ⟨i, hi, hz⟩ := Option.map_eq_some_iff.1 hz
  have hf : ∃ fs, Try.prog.underlying 81 = some (.struct fs) ∧ fs.toList.mapM (fun f => (Try.prog.info? f.type).map fun i => (f.offset, i.size)) = some [(0, 1), (1, 1), (2, 1)] := ⟨_, rfl, by kernel_rfl⟩
  obtain ⟨fs, hu, hm⟩ := hf
  unfold Program.built
  rw [hi, hu]
  dsimp only
  rw [hz, hm]
  rfl

/-- What a sample behind a first one leaves. -/
def SmpP (w : World) (b : Nat) (nr : Int) (s : Stp) (m : M) (t : Int) (v : Nat) (e : Ending) (w' : World) : Prop :=
  (¬ max t m.t / s.len - m.o > 1000 → ∃ A k c, e = .returned (.tuple #[.slice A k c, .int .i64 0]) ∧ w'.ownsRow w.heap.size 45 42 (.slice A k c) k (ensC nr (passE s (backM m t) (max t m.t) (smD s m v) (passF s (backM m t) (max t m.t) (smF s m v)) (many s (backM m t) (max t m.t)) ++ (if difV m v > s.bound then [⟨2, max t m.t, 0, 0, difV m v⟩] else []))) ∧
    MtB w' b nr s { passZ s (backM m t) (max t m.t) (smD s m v) (smF s m v) with v := v } ∧ Kept (fun x => x ≠ b) w w' ∧ k = many s (backM m t) (max t m.t) + (if difV m v > s.bound then 1 else 0)) ∧
  (max t m.t / s.len - m.o > 1000 → ∃ u, e = .returned (.tuple #[u, .int .i64 242]) ∧ (∃ m', MtB w' b nr s m') ∧ Kept (fun x => x ≠ b) w w')
set_option maxRecDepth 100000 in
set_option maxHeartbeats 64000000 in
/-- A sample behind a first one. -/
theorem smp_next (w : World) (b : Nat) (nr : Int) (s : Stp) (m : M) (i : Nat) (hs : MayS s) (hok : Ok s m i) (hi : i ≤ 200) (hB : MtB w b nr s m) (hbg : m.bg = true) (t : Int) (v : Nat) (hv : v < 4294967296) (ht : 0 ≤ t ∧ t < 253402300800) (b0 b1 b2 : Nat) (hx : Box3 b0 b1 b2 b t v w) (hne : b0 ≠ b ∧ b1 ≠ b ∧ b2 ≠ b) :
    Calls Try.prog 32 #[.pointer (some ⟨b0, 0, none⟩), .pointer (some ⟨b1, 0, none⟩), .pointer (some ⟨b2, 0, none⟩)] w (SmpP w b nr s m t v) := by
  obtain ⟨T, hT⟩ : ∃ T : Int, max t m.t = T := ⟨_, rfl⟩
  have HT := Lib.hid (show (if t < m.t then m.t else t) = T by rw [← hT]; split <;> omega)
  obtain ⟨D, hD⟩ : ∃ D : Nat, difV m v = D := ⟨_, rfl⟩
  have hDl : D < 4294967296 := hD ▸ dif_lt v
  have HW := Lib.hid (show ∀ W : World, Calls Try.prog 34 #[.int .u32 (m.v : Int), .int .u32 (v : Int)] W fun e w' => e = .returned (.int .u32 (D : Int)) ∧ w' = W from fun W => by rw [← hD]; exact wrap_calls m.v v hok.v hv W)
  have hT1 : m.t ≤ T ∧ T < 253402300800 := by have := hok.t; omega
  have e6 := hB.cells.2.2.2.2.2.2.1
  rw [hbg] at e6
  obtain ⟨b5, hb5⟩ : ∃ b5, w.heap.size = b5 := ⟨_, rfl⟩
  obtain ⟨x1, hx1⟩ : ∃ x, w.alloc (.cells #[.int .i64 0, .int .u32 0, .int .i64 0] 81) = x := ⟨_, rfl⟩
  have hst : Below w.heap.size w x1 := hx1 ▸ bstep w _
  have hr5 : x1.heap[b5]? = some (.cells #[.int .i64 0, .int .u32 0, .int .i64 0] 81 (0, 0)) := by rw [← hb5, ← hx1]; exact blk_new w _ _
  have HS := Lib.hid (show ∀ Y, Below w.heap.size w Y → (Y.cell? ⟨b0, 0, none⟩ = some (.pointer (some ⟨b, 0, none⟩)) ∧ Y.cell? ⟨b1, 0, none⟩ = some (.int .i64 t) ∧ Y.cell? ⟨b2, 0, none⟩ = some (.int .u32 (v : Int)) ∧ Y.cell? ⟨b, 7, none⟩ = some (.int .i64 m.t) ∧ Y.cell? ⟨b, 8, none⟩ = some (.int .u32 (m.v : Int))) from fun Y hY => by
    have h3 := (hx.kept (hY.keptS (fun _ => True)) trivial trivial trivial).cells
    obtain ⟨c0, c1, c2, c3, c4, c5, c6, c7, c8, c9, c10, c11, c12, c13⟩ := (hB.go hY).cells
    exact ⟨h3.1, h3.2.1, h3.2.2, c7, c8⟩)
  have HX := Lib.hid (And.intro hst (And.intro hr5 (show b < b5 ∧ b0 < b5 ∧ b1 < b5 ∧ b2 < b5 from hb5 ▸ ⟨hB.lt, blk_lt hx.1, blk_lt hx.2.1, blk_lt hx.2.2⟩)))
  have HBb := Lib.hid (show built_sp T D = built_sp T D from rfl)
  obtain ⟨d0, d1, d2⟩ := hx.cells
  have HH := Lib.hid (And.intro hs (And.intro hok (And.intro hi (And.intro hbg (And.intro hv (And.intro ht (And.intro hT (And.intro hD (And.intro hDl (And.intro hT1 (And.intro hne hb5)))))))))))
  have H0 := Lib.hid (And.intro hB hx)
  clear hs hok hi hB hbg hv ht hT hD hDl hT1 hx hne hst hr5 HBb
  go_enter Try.func32, Try.ntmps32
  go_upto_region 4 with fail
  clear e6 d0 d1 d2
  go_cut [5] from 9 (fun s5 wx => s5 = .pointer (some ⟨b5, 0, none⟩) ∧ wx.heap[b5]? = some (.cells (spC T D 0) 81 (0, 0)) ∧ Below w.heap.size w wx)
  case first =>
    refine wp_region_held_drew (S := (fun Y => Y.cell? ⟨b0, 0, none⟩ = some (.pointer (some ⟨b, 0, none⟩)) ∧ Y.cell? ⟨b1, 0, none⟩ = some (.int .i64 t) ∧ Y.cell? ⟨b2, 0, none⟩ = some (.int .u32 (v : Int)) ∧ Y.cell? ⟨b, 7, none⟩ = some (.int .i64 m.t) ∧ Y.cell? ⟨b, 8, none⟩ = some (.int .u32 (m.v : Int)))) (by kernel_rfl) (HS.out _ (Below.refl _ w).drew) (fun hHeld => ?_)
    refine wpAnyH_take (i := 0) (v := ?_) rfl (by kernel_rfl) (by kernel_rfl) (by kernel_rfl) (fun _ _ _ h => h) (Or.inl ⟨by kernel_rfl, ?_⟩) (by assumption) ?_
    rotate_left
    · intro w hSw; (try dsimp only at hSw); go_simp; try with_reducible rfl
    simp only [Act.put, List.getElem_toArray, List.getElem_cons_succ, List.getElem_cons_zero, List.setIfInBounds_toArray, List.set_cons_zero, List.set_cons_succ]
    refine wpAnyH_take (i := 1) (v := ?_) rfl (by kernel_rfl) (by kernel_rfl) (by kernel_rfl) (fun _ _ _ h => h) (Or.inl ⟨by kernel_rfl, ?_⟩) (by assumption) ?_
    rotate_left
    · intro w hSw; (try dsimp only at hSw); go_simp; try with_reducible rfl
    simp only [Act.put, List.getElem_toArray, List.getElem_cons_succ, List.getElem_cons_zero, List.setIfInBounds_toArray, List.set_cons_zero, List.set_cons_succ]
    refine wpAnyH_take (i := 2) (v := ?_) rfl (by kernel_rfl) (by kernel_rfl) (by kernel_rfl) (fun _ _ _ h => h) (Or.inl ⟨by kernel_rfl, ?_⟩) (by assumption) ?_
    rotate_left
    · intro w hSw; (try dsimp only at hSw); go_simp; try with_reducible rfl
    simp only [Act.put, List.getElem_toArray, List.getElem_cons_succ, List.getElem_cons_zero, List.setIfInBounds_toArray, List.set_cons_zero, List.set_cons_succ]
    refine wpAnyH_take (i := 3) (v := ?_) rfl (by kernel_rfl) (by kernel_rfl) (by kernel_rfl) (fun _ _ _ h => h) (Or.inl ⟨by kernel_rfl, ?_⟩) (by assumption) ?_
    rotate_left
    · intro w hSw; (try dsimp only at hSw); go_simp; try with_reducible rfl
    simp only [Act.put, List.getElem_toArray, List.getElem_cons_succ, List.getElem_cons_zero, List.setIfInBounds_toArray, List.set_cons_zero, List.set_cons_succ]
    refine wpAnyH_take (i := 4) (v := ?_) rfl (by kernel_rfl) (by kernel_rfl) (by kernel_rfl) (fun _ _ _ h => h) (Or.inl ⟨by kernel_rfl, ?_⟩) (by assumption) ?_
    rotate_left
    · intro w hSw; (try dsimp only at hSw); go_simp; try with_reducible rfl
    simp only [Act.put, List.getElem_toArray, List.getElem_cons_succ, List.getElem_cons_zero, List.setIfInBounds_toArray, List.set_cons_zero, List.set_cons_succ]
    refine wpAnyH_take (i := 6) (v := ?_) rfl (by kernel_rfl) (by kernel_rfl) (by kernel_rfl) (fun _ _ _ h => h) (Or.inl ⟨by kernel_rfl, ?_⟩) (by assumption) ?_
    rotate_left
    · intro w hSw; (try dsimp only at hSw); go_simp; try with_reducible rfl
    simp only [Act.put, List.getElem_toArray, List.getElem_cons_succ, List.getElem_cons_zero, List.setIfInBounds_toArray, List.set_cons_zero, List.set_cons_succ]
    refine wpAnyH_take (i := 7) (v := ?_) rfl (by kernel_rfl) (by kernel_rfl) (by kernel_rfl) (fun _ _ _ h => h) (Or.inl ⟨by kernel_rfl, ?_⟩) (by assumption) ?_
    rotate_left
    · intro w hSw; (try dsimp only at hSw); go_simp; try with_reducible rfl
    simp only [Act.put, List.getElem_toArray, List.getElem_cons_succ, List.getElem_cons_zero, List.setIfInBounds_toArray, List.set_cons_zero, List.set_cons_succ]
    refine wpAnyH_take (i := 8) (v := ?_) rfl (by kernel_rfl) (by kernel_rfl) (by kernel_rfl) (fun _ _ _ h => h) (Or.inl ⟨by kernel_rfl, ?_⟩) (by assumption) ?_
    rotate_left
    · intro w hSw; (try dsimp only at hSw); go_simp; try with_reducible rfl
    simp only [Act.put, List.getElem_toArray, List.getElem_cons_succ, List.getElem_cons_zero, List.setIfInBounds_toArray, List.set_cons_zero, List.set_cons_succ]
    refine wpAnyH_take (i := 9) (v := ?_) rfl (by kernel_rfl) (by kernel_rfl) (by kernel_rfl) (fun _ _ _ h => h) (Or.inl ⟨by kernel_rfl, ?_⟩) (by assumption) ?_
    rotate_left
    · intro w hSw; (try dsimp only at hSw); go_simp; try with_reducible rfl
    simp only [Act.put, List.getElem_toArray, List.getElem_cons_succ, List.getElem_cons_zero, List.setIfInBounds_toArray, List.set_cons_zero, List.set_cons_succ]
    refine wpAnyH_take (i := 10) (v := ?_) rfl (by kernel_rfl) (by kernel_rfl) (by kernel_rfl) (fun _ _ _ h => h) (Or.inl ⟨by kernel_rfl, ?_⟩) (by assumption) ?_
    rotate_left
    · intro w hSw; (try dsimp only at hSw); go_simp; try with_reducible rfl
    simp only [Act.put, List.getElem_toArray, List.getElem_cons_succ, List.getElem_cons_zero, List.setIfInBounds_toArray, List.set_cons_zero, List.set_cons_succ]
    refine wpAnyH_ready (rs := [5, 11, 13]) (by kernel_rfl) (by simp) ?_
    refine (AllReadyH.cons rfl (fun K hK => ?_) (AllReadyH.cons rfl (fun K hK => ?_) (AllReadyH.cons rfl (fun K hK => ?_) AllReadyH.nil)))
    ·
      go_simp
      rw [HT.out]
      refine hK.out _ _ (HS.out _ (Below.refl _ w).drew) (fun hHeld => ?_)
      clear hK K
      try simp only [Act.put, List.getElem_toArray, List.getElem_cons_succ, List.getElem_cons_zero, List.setIfInBounds_toArray, List.set_cons_zero, List.set_cons_succ]
      refine wpAnyH_ready (rs := [11, 13]) (by kernel_rfl) (by simp) ?_
      refine (AllReadyH.cons rfl (fun K hK => ?_) (AllReadyH.cons rfl (fun K hK => ?_) AllReadyH.nil))
      ·
        go_simp
        refine (HW.out _).mono ?_
        rintro e w9 ⟨rfl, rfl⟩
        try go_wp2_with fail
        refine hK.out _ _ (HS.out _ (Below.refl _ w).drew) (fun hHeld => ?_)
        clear hK K
        try simp only [Act.put, List.getElem_toArray, List.getElem_cons_succ, List.getElem_cons_zero, List.setIfInBounds_toArray, List.set_cons_zero, List.set_cons_succ]
        refine wpAnyH_take (i := 12) (v := .agg (spC T D 0)) rfl (by kernel_rfl) (by kernel_rfl) (by kernel_rfl) (fun _ _ _ h => h) (Or.inl ⟨by kernel_rfl, ?_⟩) (by assumption) ?_
        · intro w hSw; (try dsimp only at hSw)
          exact build_op 81 #[(0, .tmp 23), (1, .tmp 29)] (by rfl) _ (by simp only [List.map_toArray, List.map_cons, List.map_nil, Act.eval]; exact built_sp T D) w
        simp only [Act.put, List.getElem_toArray, List.getElem_cons_succ, List.getElem_cons_zero, List.setIfInBounds_toArray, List.set_cons_zero, List.set_cons_succ]
        refine wpAnyH_ready (rs := [13]) (by kernel_rfl) (by simp) ?_
        refine AllReadyH.cons rfl (fun K hK => ?_) AllReadyH.nil
        go_simp
        refine hK.out _ _ (HS.out _ (bnext HX.out.1 (Below.refl _ x1).drew)) (fun hHeld => ?_)
        clear hK K
        try simp only [Act.put, List.getElem_toArray, List.getElem_cons_succ, List.getElem_cons_zero, List.setIfInBounds_toArray, List.set_cons_zero, List.set_cons_succ]
        refine wpAnyH_ready (rs := [14]) (by kernel_rfl) (by simp) ?_
        refine AllReadyH.cons rfl (fun K hK => ?_) AllReadyH.nil
        rw [if_pos (by kernel_rfl)]
        simp only [List.getElem_toArray, List.getElem_cons_succ, List.getElem_cons_zero]
        refine wp_store_row 81 (.tmp 5) (.tmp 30) ?_ b5 (spC T D 0) ?_ ?_ 81 #[.int .i64 0, .int .u32 0, .int .i64 0] ?_ ?_ ?_ ?_ ?_
        · rfl
        · rfl
        · rfl
        · exact HX.out.2.1
        · rw [spC_size]; exact eSpS
        · rw [spC_size]; rfl
        · exact spC_all _ _ _
        refine hK.out _ _ (HS.out _ (belowSetRow (bnext HX.out.1 (Below.refl _ x1).drew) (by have := HH.out.2.2.2.2.2.2.2.2.2.2.2; omega) _)) (fun hHeld => ?_)
        clear hK K
        try simp only [Act.put, List.getElem_toArray, List.getElem_cons_succ, List.getElem_cons_zero, List.setIfInBounds_toArray, List.set_cons_zero, List.set_cons_succ]
        refine wpAnyH_done (by kernel_rfl) ?_ _
        go_wp2_with fail
        go_meet
        exact ⟨rfl, setRow_heap _ _ _ _ _ _ HX.out.2.1, belowSetRow (bnext HX.out.1 (Below.refl _ x1).drew) (by have := HH.out.2.2.2.2.2.2.2.2.2.2.2; omega) _⟩
      ·
        go_simp
        refine hK.out _ _ (HS.out _ (bnext HX.out.1 (Below.refl _ x1).drew)) (fun hHeld => ?_)
        clear hK K
        try simp only [Act.put, List.getElem_toArray, List.getElem_cons_succ, List.getElem_cons_zero, List.setIfInBounds_toArray, List.set_cons_zero, List.set_cons_succ]
        refine wpAnyH_ready (rs := [11]) (by kernel_rfl) (by simp) ?_
        refine AllReadyH.cons rfl (fun K hK => ?_) AllReadyH.nil
        go_simp
        refine (HW.out _).mono ?_
        rintro e w9 ⟨rfl, rfl⟩
        try go_wp2_with fail
        refine hK.out _ _ (HS.out _ (bnext HX.out.1 (Below.refl _ x1).drew)) (fun hHeld => ?_)
        clear hK K
        try simp only [Act.put, List.getElem_toArray, List.getElem_cons_succ, List.getElem_cons_zero, List.setIfInBounds_toArray, List.set_cons_zero, List.set_cons_succ]
        refine wpAnyH_take (i := 12) (v := .agg (spC T D 0)) rfl (by kernel_rfl) (by kernel_rfl) (by kernel_rfl) (fun _ _ _ h => h) (Or.inl ⟨by kernel_rfl, ?_⟩) (by assumption) ?_
        · intro w hSw; (try dsimp only at hSw)
          exact build_op 81 #[(0, .tmp 23), (1, .tmp 29)] (by rfl) _ (by simp only [List.map_toArray, List.map_cons, List.map_nil, Act.eval]; exact built_sp T D) w
        simp only [Act.put, List.getElem_toArray, List.getElem_cons_succ, List.getElem_cons_zero, List.setIfInBounds_toArray, List.set_cons_zero, List.set_cons_succ]
        refine wpAnyH_ready (rs := [14]) (by kernel_rfl) (by simp) ?_
        refine AllReadyH.cons rfl (fun K hK => ?_) AllReadyH.nil
        rw [if_pos (by kernel_rfl)]
        simp only [List.getElem_toArray, List.getElem_cons_succ, List.getElem_cons_zero]
        refine wp_store_row 81 (.tmp 5) (.tmp 30) ?_ b5 (spC T D 0) ?_ ?_ 81 #[.int .i64 0, .int .u32 0, .int .i64 0] ?_ ?_ ?_ ?_ ?_
        · rfl
        · rfl
        · rfl
        · exact HX.out.2.1
        · rw [spC_size]; exact eSpS
        · rw [spC_size]; rfl
        · exact spC_all _ _ _
        refine hK.out _ _ (HS.out _ (belowSetRow (bnext HX.out.1 (Below.refl _ x1).drew) (by have := HH.out.2.2.2.2.2.2.2.2.2.2.2; omega) _)) (fun hHeld => ?_)
        clear hK K
        try simp only [Act.put, List.getElem_toArray, List.getElem_cons_succ, List.getElem_cons_zero, List.setIfInBounds_toArray, List.set_cons_zero, List.set_cons_succ]
        refine wpAnyH_done (by kernel_rfl) ?_ _
        go_wp2_with fail
        go_meet
        exact ⟨rfl, setRow_heap _ _ _ _ _ _ HX.out.2.1, belowSetRow (bnext HX.out.1 (Below.refl _ x1).drew) (by have := HH.out.2.2.2.2.2.2.2.2.2.2.2; omega) _⟩
    ·
      go_simp
      refine (HW.out _).mono ?_
      rintro e w9 ⟨rfl, rfl⟩
      try go_wp2_with fail
      refine hK.out _ _ (HS.out _ (Below.refl _ w).drew) (fun hHeld => ?_)
      clear hK K
      try simp only [Act.put, List.getElem_toArray, List.getElem_cons_succ, List.getElem_cons_zero, List.setIfInBounds_toArray, List.set_cons_zero, List.set_cons_succ]
      refine wpAnyH_ready (rs := [5, 13]) (by kernel_rfl) (by simp) ?_
      refine (AllReadyH.cons rfl (fun K hK => ?_) (AllReadyH.cons rfl (fun K hK => ?_) AllReadyH.nil))
      ·
        go_simp
        rw [HT.out]
        refine hK.out _ _ (HS.out _ (Below.refl _ w).drew) (fun hHeld => ?_)
        clear hK K
        try simp only [Act.put, List.getElem_toArray, List.getElem_cons_succ, List.getElem_cons_zero, List.setIfInBounds_toArray, List.set_cons_zero, List.set_cons_succ]
        refine wpAnyH_take (i := 12) (v := .agg (spC T D 0)) rfl (by kernel_rfl) (by kernel_rfl) (by kernel_rfl) (fun _ _ _ h => h) (Or.inl ⟨by kernel_rfl, ?_⟩) (by assumption) ?_
        · intro w hSw; (try dsimp only at hSw)
          exact build_op 81 #[(0, .tmp 23), (1, .tmp 29)] (by rfl) _ (by simp only [List.map_toArray, List.map_cons, List.map_nil, Act.eval]; exact built_sp T D) w
        simp only [Act.put, List.getElem_toArray, List.getElem_cons_succ, List.getElem_cons_zero, List.setIfInBounds_toArray, List.set_cons_zero, List.set_cons_succ]
        refine wpAnyH_ready (rs := [13]) (by kernel_rfl) (by simp) ?_
        refine AllReadyH.cons rfl (fun K hK => ?_) AllReadyH.nil
        go_simp
        refine hK.out _ _ (HS.out _ (bnext HX.out.1 (Below.refl _ x1).drew)) (fun hHeld => ?_)
        clear hK K
        try simp only [Act.put, List.getElem_toArray, List.getElem_cons_succ, List.getElem_cons_zero, List.setIfInBounds_toArray, List.set_cons_zero, List.set_cons_succ]
        refine wpAnyH_ready (rs := [14]) (by kernel_rfl) (by simp) ?_
        refine AllReadyH.cons rfl (fun K hK => ?_) AllReadyH.nil
        rw [if_pos (by kernel_rfl)]
        simp only [List.getElem_toArray, List.getElem_cons_succ, List.getElem_cons_zero]
        refine wp_store_row 81 (.tmp 5) (.tmp 30) ?_ b5 (spC T D 0) ?_ ?_ 81 #[.int .i64 0, .int .u32 0, .int .i64 0] ?_ ?_ ?_ ?_ ?_
        · rfl
        · rfl
        · rfl
        · exact HX.out.2.1
        · rw [spC_size]; exact eSpS
        · rw [spC_size]; rfl
        · exact spC_all _ _ _
        refine hK.out _ _ (HS.out _ (belowSetRow (bnext HX.out.1 (Below.refl _ x1).drew) (by have := HH.out.2.2.2.2.2.2.2.2.2.2.2; omega) _)) (fun hHeld => ?_)
        clear hK K
        try simp only [Act.put, List.getElem_toArray, List.getElem_cons_succ, List.getElem_cons_zero, List.setIfInBounds_toArray, List.set_cons_zero, List.set_cons_succ]
        refine wpAnyH_done (by kernel_rfl) ?_ _
        go_wp2_with fail
        go_meet
        exact ⟨rfl, setRow_heap _ _ _ _ _ _ HX.out.2.1, belowSetRow (bnext HX.out.1 (Below.refl _ x1).drew) (by have := HH.out.2.2.2.2.2.2.2.2.2.2.2; omega) _⟩
      ·
        go_simp
        refine hK.out _ _ (HS.out _ (bnext HX.out.1 (Below.refl _ x1).drew)) (fun hHeld => ?_)
        clear hK K
        try simp only [Act.put, List.getElem_toArray, List.getElem_cons_succ, List.getElem_cons_zero, List.setIfInBounds_toArray, List.set_cons_zero, List.set_cons_succ]
        refine wpAnyH_ready (rs := [5]) (by kernel_rfl) (by simp) ?_
        refine AllReadyH.cons rfl (fun K hK => ?_) AllReadyH.nil
        go_simp
        rw [HT.out]
        refine hK.out _ _ (HS.out _ (bnext HX.out.1 (Below.refl _ x1).drew)) (fun hHeld => ?_)
        clear hK K
        try simp only [Act.put, List.getElem_toArray, List.getElem_cons_succ, List.getElem_cons_zero, List.setIfInBounds_toArray, List.set_cons_zero, List.set_cons_succ]
        refine wpAnyH_take (i := 12) (v := .agg (spC T D 0)) rfl (by kernel_rfl) (by kernel_rfl) (by kernel_rfl) (fun _ _ _ h => h) (Or.inl ⟨by kernel_rfl, ?_⟩) (by assumption) ?_
        · intro w hSw; (try dsimp only at hSw)
          exact build_op 81 #[(0, .tmp 23), (1, .tmp 29)] (by rfl) _ (by simp only [List.map_toArray, List.map_cons, List.map_nil, Act.eval]; exact built_sp T D) w
        simp only [Act.put, List.getElem_toArray, List.getElem_cons_succ, List.getElem_cons_zero, List.setIfInBounds_toArray, List.set_cons_zero, List.set_cons_succ]
        refine wpAnyH_ready (rs := [14]) (by kernel_rfl) (by simp) ?_
        refine AllReadyH.cons rfl (fun K hK => ?_) AllReadyH.nil
        rw [if_pos (by kernel_rfl)]
        simp only [List.getElem_toArray, List.getElem_cons_succ, List.getElem_cons_zero]
        refine wp_store_row 81 (.tmp 5) (.tmp 30) ?_ b5 (spC T D 0) ?_ ?_ 81 #[.int .i64 0, .int .u32 0, .int .i64 0] ?_ ?_ ?_ ?_ ?_
        · rfl
        · rfl
        · rfl
        · exact HX.out.2.1
        · rw [spC_size]; exact eSpS
        · rw [spC_size]; rfl
        · exact spC_all _ _ _
        refine hK.out _ _ (HS.out _ (belowSetRow (bnext HX.out.1 (Below.refl _ x1).drew) (by have := HH.out.2.2.2.2.2.2.2.2.2.2.2; omega) _)) (fun hHeld => ?_)
        clear hK K
        try simp only [Act.put, List.getElem_toArray, List.getElem_cons_succ, List.getElem_cons_zero, List.setIfInBounds_toArray, List.set_cons_zero, List.set_cons_succ]
        refine wpAnyH_done (by kernel_rfl) ?_ _
        go_wp2_with fail
        go_meet
        exact ⟨rfl, setRow_heap _ _ _ _ _ _ HX.out.2.1, belowSetRow (bnext HX.out.1 (Below.refl _ x1).drew) (by have := HH.out.2.2.2.2.2.2.2.2.2.2.2; omega) _⟩
    ·
      go_simp
      refine hK.out _ _ (HS.out _ (bnext HX.out.1 (Below.refl _ x1).drew)) (fun hHeld => ?_)
      clear hK K
      try simp only [Act.put, List.getElem_toArray, List.getElem_cons_succ, List.getElem_cons_zero, List.setIfInBounds_toArray, List.set_cons_zero, List.set_cons_succ]
      refine wpAnyH_ready (rs := [5, 11]) (by kernel_rfl) (by simp) ?_
      refine (AllReadyH.cons rfl (fun K hK => ?_) (AllReadyH.cons rfl (fun K hK => ?_) AllReadyH.nil))
      ·
        go_simp
        rw [HT.out]
        refine hK.out _ _ (HS.out _ (bnext HX.out.1 (Below.refl _ x1).drew)) (fun hHeld => ?_)
        clear hK K
        try simp only [Act.put, List.getElem_toArray, List.getElem_cons_succ, List.getElem_cons_zero, List.setIfInBounds_toArray, List.set_cons_zero, List.set_cons_succ]
        refine wpAnyH_ready (rs := [11]) (by kernel_rfl) (by simp) ?_
        refine AllReadyH.cons rfl (fun K hK => ?_) AllReadyH.nil
        go_simp
        refine (HW.out _).mono ?_
        rintro e w9 ⟨rfl, rfl⟩
        try go_wp2_with fail
        refine hK.out _ _ (HS.out _ (bnext HX.out.1 (Below.refl _ x1).drew)) (fun hHeld => ?_)
        clear hK K
        try simp only [Act.put, List.getElem_toArray, List.getElem_cons_succ, List.getElem_cons_zero, List.setIfInBounds_toArray, List.set_cons_zero, List.set_cons_succ]
        refine wpAnyH_take (i := 12) (v := .agg (spC T D 0)) rfl (by kernel_rfl) (by kernel_rfl) (by kernel_rfl) (fun _ _ _ h => h) (Or.inl ⟨by kernel_rfl, ?_⟩) (by assumption) ?_
        · intro w hSw; (try dsimp only at hSw)
          exact build_op 81 #[(0, .tmp 23), (1, .tmp 29)] (by rfl) _ (by simp only [List.map_toArray, List.map_cons, List.map_nil, Act.eval]; exact built_sp T D) w
        simp only [Act.put, List.getElem_toArray, List.getElem_cons_succ, List.getElem_cons_zero, List.setIfInBounds_toArray, List.set_cons_zero, List.set_cons_succ]
        refine wpAnyH_ready (rs := [14]) (by kernel_rfl) (by simp) ?_
        refine AllReadyH.cons rfl (fun K hK => ?_) AllReadyH.nil
        rw [if_pos (by kernel_rfl)]
        simp only [List.getElem_toArray, List.getElem_cons_succ, List.getElem_cons_zero]
        refine wp_store_row 81 (.tmp 5) (.tmp 30) ?_ b5 (spC T D 0) ?_ ?_ 81 #[.int .i64 0, .int .u32 0, .int .i64 0] ?_ ?_ ?_ ?_ ?_
        · rfl
        · rfl
        · rfl
        · exact HX.out.2.1
        · rw [spC_size]; exact eSpS
        · rw [spC_size]; rfl
        · exact spC_all _ _ _
        refine hK.out _ _ (HS.out _ (belowSetRow (bnext HX.out.1 (Below.refl _ x1).drew) (by have := HH.out.2.2.2.2.2.2.2.2.2.2.2; omega) _)) (fun hHeld => ?_)
        clear hK K
        try simp only [Act.put, List.getElem_toArray, List.getElem_cons_succ, List.getElem_cons_zero, List.setIfInBounds_toArray, List.set_cons_zero, List.set_cons_succ]
        refine wpAnyH_done (by kernel_rfl) ?_ _
        go_wp2_with fail
        go_meet
        exact ⟨rfl, setRow_heap _ _ _ _ _ _ HX.out.2.1, belowSetRow (bnext HX.out.1 (Below.refl _ x1).drew) (by have := HH.out.2.2.2.2.2.2.2.2.2.2.2; omega) _⟩
      ·
        go_simp
        refine (HW.out _).mono ?_
        rintro e w9 ⟨rfl, rfl⟩
        try go_wp2_with fail
        refine hK.out _ _ (HS.out _ (bnext HX.out.1 (Below.refl _ x1).drew)) (fun hHeld => ?_)
        clear hK K
        try simp only [Act.put, List.getElem_toArray, List.getElem_cons_succ, List.getElem_cons_zero, List.setIfInBounds_toArray, List.set_cons_zero, List.set_cons_succ]
        refine wpAnyH_ready (rs := [5]) (by kernel_rfl) (by simp) ?_
        refine AllReadyH.cons rfl (fun K hK => ?_) AllReadyH.nil
        go_simp
        rw [HT.out]
        refine hK.out _ _ (HS.out _ (bnext HX.out.1 (Below.refl _ x1).drew)) (fun hHeld => ?_)
        clear hK K
        try simp only [Act.put, List.getElem_toArray, List.getElem_cons_succ, List.getElem_cons_zero, List.setIfInBounds_toArray, List.set_cons_zero, List.set_cons_succ]
        refine wpAnyH_take (i := 12) (v := .agg (spC T D 0)) rfl (by kernel_rfl) (by kernel_rfl) (by kernel_rfl) (fun _ _ _ h => h) (Or.inl ⟨by kernel_rfl, ?_⟩) (by assumption) ?_
        · intro w hSw; (try dsimp only at hSw)
          exact build_op 81 #[(0, .tmp 23), (1, .tmp 29)] (by rfl) _ (by simp only [List.map_toArray, List.map_cons, List.map_nil, Act.eval]; exact built_sp T D) w
        simp only [Act.put, List.getElem_toArray, List.getElem_cons_succ, List.getElem_cons_zero, List.setIfInBounds_toArray, List.set_cons_zero, List.set_cons_succ]
        refine wpAnyH_ready (rs := [14]) (by kernel_rfl) (by simp) ?_
        refine AllReadyH.cons rfl (fun K hK => ?_) AllReadyH.nil
        rw [if_pos (by kernel_rfl)]
        simp only [List.getElem_toArray, List.getElem_cons_succ, List.getElem_cons_zero]
        refine wp_store_row 81 (.tmp 5) (.tmp 30) ?_ b5 (spC T D 0) ?_ ?_ 81 #[.int .i64 0, .int .u32 0, .int .i64 0] ?_ ?_ ?_ ?_ ?_
        · rfl
        · rfl
        · rfl
        · exact HX.out.2.1
        · rw [spC_size]; exact eSpS
        · rw [spC_size]; rfl
        · exact spC_all _ _ _
        refine hK.out _ _ (HS.out _ (belowSetRow (bnext HX.out.1 (Below.refl _ x1).drew) (by have := HH.out.2.2.2.2.2.2.2.2.2.2.2; omega) _)) (fun hHeld => ?_)
        clear hK K
        try simp only [Act.put, List.getElem_toArray, List.getElem_cons_succ, List.getElem_cons_zero, List.setIfInBounds_toArray, List.set_cons_zero, List.set_cons_succ]
        refine wpAnyH_done (by kernel_rfl) ?_ _
        go_wp2_with fail
        go_meet
        exact ⟨rfl, setRow_heap _ _ _ _ _ _ HX.out.2.1, belowSetRow (bnext HX.out.1 (Below.refl _ x1).drew) (by have := HH.out.2.2.2.2.2.2.2.2.2.2.2; omega) _⟩
  case rest =>
    obtain ⟨rfl, hr5, hbx⟩ := hcut
    obtain ⟨wa, rfl⟩ : ∃ x : World, x = wc := ⟨_, rfl⟩
    obtain ⟨gB, hgB⟩ : ∃ gB : Bool, decide (t < m.t) = gB := ⟨_, rfl⟩
    have HgB := Lib.hid hgB
    have HM := Lib.hid (And.intro (H0.out.1.go hbx) (H0.out.2.kept (hbx.keptS (fun _ => True)) trivial trivial trivial))
    have HR5 := Lib.hid (And.intro hr5 hbx)
    have HS5 := Lib.hid (show wa.drew.cell? ⟨b0, 0, none⟩ = some (.pointer (some ⟨b, 0, none⟩)) ∧ wa.drew.cell? ⟨b1, 0, none⟩ = some (.int .i64 t) ∧ wa.drew.cell? ⟨b, 7, none⟩ = some (.int .i64 m.t) from ⟨HM.out.2.cells.1, HM.out.2.cells.2.1, HM.out.1.cells.2.2.2.2.2.2.2.1⟩)
    clear hr5 hbx
    go_upto_region 5 with fail

    refine wp_region_held_drew (S := (fun Y => Y.cell? ⟨b0, 0, none⟩ = some (.pointer (some ⟨b, 0, none⟩)) ∧ Y.cell? ⟨b1, 0, none⟩ = some (.int .i64 t) ∧ Y.cell? ⟨b, 7, none⟩ = some (.int .i64 m.t))) (by kernel_rfl) HS5.out (fun hHeld => ?_)
    refine wpAnyH_take (i := 0) (v := ?_) rfl (by kernel_rfl) (by kernel_rfl) (by kernel_rfl) (fun _ _ _ h => h) (Or.inl ⟨by kernel_rfl, ?_⟩) (by assumption) ?_
    rotate_left
    · intro w hSw; (try dsimp only at hSw); go_simp; try with_reducible rfl
    simp only [Act.put, List.getElem_toArray, List.getElem_cons_succ, List.getElem_cons_zero, List.setIfInBounds_toArray, List.set_cons_zero, List.set_cons_succ]
    refine wpAnyH_take (i := 1) (v := ?_) rfl (by kernel_rfl) (by kernel_rfl) (by kernel_rfl) (fun _ _ _ h => h) (Or.inl ⟨by kernel_rfl, ?_⟩) (by assumption) ?_
    rotate_left
    · intro w hSw; (try dsimp only at hSw); go_simp; try with_reducible rfl
    simp only [Act.put, List.getElem_toArray, List.getElem_cons_succ, List.getElem_cons_zero, List.setIfInBounds_toArray, List.set_cons_zero, List.set_cons_succ]
    refine wpAnyH_take (i := 2) (v := ?_) rfl (by kernel_rfl) (by kernel_rfl) (by kernel_rfl) (fun _ _ _ h => h) (Or.inl ⟨by kernel_rfl, ?_⟩) (by assumption) ?_
    rotate_left
    · intro w hSw; (try dsimp only at hSw); go_simp; try with_reducible rfl
    simp only [Act.put, List.getElem_toArray, List.getElem_cons_succ, List.getElem_cons_zero, List.setIfInBounds_toArray, List.set_cons_zero, List.set_cons_succ]
    refine wpAnyH_take (i := 3) (v := ?_) rfl (by kernel_rfl) (by kernel_rfl) (by kernel_rfl) (fun _ _ _ h => h) (Or.inl ⟨by kernel_rfl, ?_⟩) (by assumption) ?_
    rotate_left
    · intro w hSw; (try dsimp only at hSw); go_simp; try with_reducible rfl
    simp only [Act.put, List.getElem_toArray, List.getElem_cons_succ, List.getElem_cons_zero, List.setIfInBounds_toArray, List.set_cons_zero, List.set_cons_succ]
    refine wpAnyH_take (i := 4) (v := ?_) rfl (by kernel_rfl) (by kernel_rfl) (by kernel_rfl) (fun _ _ _ h => h) (Or.inl ⟨by kernel_rfl, ?_⟩) (by assumption) ?_
    rotate_left
    · intro w hSw; (try dsimp only at hSw); go_simp; try with_reducible rfl
    simp only [Act.put, List.getElem_toArray, List.getElem_cons_succ, List.getElem_cons_zero, List.setIfInBounds_toArray, List.set_cons_zero, List.set_cons_succ]
    refine wpAnyH_take (i := 5) (v := .bool gB) rfl (by kernel_rfl) (by kernel_rfl) (by kernel_rfl) (fun _ _ _ h => h) (Or.inl ⟨by kernel_rfl, ?_⟩) (by assumption) ?_
    · intro w hSw; (try dsimp only at hSw)
      have g := HgB.out; go_simp
    simp only [Act.put, List.getElem_toArray, List.getElem_cons_succ, List.getElem_cons_zero, List.setIfInBounds_toArray, List.set_cons_zero, List.set_cons_succ]
    refine wpAnyH_done (by kernel_rfl) ?_ _
    clear hHeld hgB
    go_upto_if 36 with fail
    go_cut [5] from 9 (fun s5 wx => s5 = .pointer (some ⟨b5, 0, none⟩) ∧ MtB wx b nr s (backM m t) ∧ Kept (fun x => x ≠ b) wa wx)
    case first =>
      obtain ⟨d0, d1, d2⟩ := HM.out.2.cells
      cases gB with
      | true =>
        have hbk : backM m t = { m with f := m.f ||| 2 } := if_pos (of_decide_eq_true HgB.out)
        have X4 : bits .or .i64 (m.f : Int) 2 = ((m.f ||| 2 : Nat) : Int) := i64_or_nat m.f 2 (by have := HH.out.2.1.f; omega) (by omega)
        obtain ⟨F2, hF2⟩ : ∃ F2 : Nat, m.f ||| 2 = F2 := ⟨_, rfl⟩
        rw [hF2] at X4 hbk
        have Hbk := Lib.hid hbk
        have c11 := HM.out.1.cells.2.2.2.2.2.2.2.2.2.2.2.1
        have f11 := HM.out.1.fr 11
        clear hbk hF2
        go_wp2_with fail
        go_meet
        refine ⟨rfl, ?_, ((Kept.refl _ wa).drew).setCell (p := ⟨b, 11, none⟩) (fun hh => hh rfl) _⟩
        rw [Hbk.out]
        exact bset (W := wa.drew) HM.out.1 (i := 11) (.int .i64 (F2 : Int))
      | false =>
        have Hbk := Lib.hid (show backM m t = m from if_neg (of_decide_eq_false HgB.out))
        go_wp2_with fail
        go_meet
        refine ⟨rfl, ?_, (Kept.refl _ wa).drew⟩
        rw [Hbk.out]
        exact HM.out.1
    case rest =>
      obtain ⟨rfl, hM1, hk1⟩ := hcut
      obtain ⟨wd, rfl⟩ : ∃ x : World, x = wc := ⟨_, rfl⟩
      obtain ⟨mb, hmb⟩ : ∃ mb, backM m t = mb := ⟨_, rfl⟩
      rw [hmb] at hM1
      obtain ⟨gS, hgS⟩ : ∃ gS : Bool, decide (D > s.bound) = gS := ⟨_, rfl⟩
      have HgS := Lib.hid hgS
      have HgS2 : decide (s.bound < D) = gS := hgS
      obtain ⟨D1, hD1⟩ : ∃ D1, smD s m v = D1 := ⟨_, rfl⟩
      obtain ⟨F1, hF1⟩ : ∃ F1, smF s m v = F1 := ⟨_, rfl⟩
      have HD1 := Lib.hid (And.intro hmb (And.intro hD1 hF1))
      have hl := HX.out.2.2
      have hne := HH.out.2.2.2.2.2.2.2.2.2.2.1
      have hx1' := HM.out.2.kept hk1 hne.1 hne.2.1 hne.2.2
      have hr1 := heap_kept hk1 HR5.out.1 (by omega : b5 ≠ b)
      have H1 := Lib.hid (And.intro hM1 (And.intro hx1' (And.intro hr1 hk1)))
      have d0 := hx1'.cells.1
      have c3 := hM1.cells.2.2.2.1
      have r1 : wd.cell? ⟨b5, 1, none⟩ = some (.int .u32 (D : Int)) := blk_cell hr1 1 rfl
      clear hM1 hk1 hmb hgS hD1 hF1 hl hne hx1' hr1 HgB
      go_upto_if 52 with fail
      clear d0 c3 r1 HgS2
      go_cut [5] from 9 (fun s5 wx => s5 = .pointer (some ⟨b5, 0, none⟩) ∧ wx.heap[b5]? = some (.cells (spC T D1 F1) 81 (0, 0)) ∧ Kept (fun x => x ≠ b5) wd wx)
      case first =>
        have r1 : wd.cell? ⟨b5, 1, none⟩ = some (.int .u32 (D : Int)) := blk_cell H1.out.2.2.1 1 rfl
        have r2 : wd.cell? ⟨b5, 2, none⟩ = some (.int .i64 0) := blk_cell H1.out.2.2.1 2 rfl
        have f1 := blk_frozen H1.out.2.2.1 1
        have f2 := blk_frozen H1.out.2.2.1 2
        cases gS with
        | true =>
          have HE := Lib.hid (show D1 = 0 ∧ F1 = 4 by
            have h1 : difV m v > s.bound := by rw [HH.out.2.2.2.2.2.2.2.1]; exact of_decide_eq_true HgS.out
            exact ⟨by rw [← HD1.out.2.1]; exact if_pos h1, by rw [← HD1.out.2.2]; exact if_pos h1⟩)
          go_wp2_with fail
          go_meet
          refine ⟨rfl, ?_, ((Kept.refl _ wd).setCell (p := ⟨b5, 1, none⟩) (fun hh => hh rfl) _).setCell (p := ⟨b5, 2, none⟩) (fun hh => hh rfl) _⟩
          rw [HE.out.1, HE.out.2]
          exact bset (bset (W := wd) H1.out.2.2.1 (i := 1) (.int .u32 0)) (i := 2) (.int .i64 4)
        | false =>
          have HE := Lib.hid (show D1 = D ∧ F1 = 0 by
            have h1 : ¬ difV m v > s.bound := by rw [HH.out.2.2.2.2.2.2.2.1]; exact of_decide_eq_false HgS.out
            exact ⟨by rw [← HD1.out.2.1, ← HH.out.2.2.2.2.2.2.2.1]; exact if_neg h1, by rw [← HD1.out.2.2]; exact if_neg h1⟩)
          go_wp2_with fail
          go_meet
          refine ⟨rfl, ?_, Kept.refl _ wd⟩
          rw [HE.out.1, HE.out.2]
          exact H1.out.2.2.1
      case rest =>
        obtain ⟨rfl, hr2, hk2⟩ := hcut
        obtain ⟨we, rfl⟩ : ∃ x : World, x = wc := ⟨_, rfl⟩
        have hl := HX.out.2.2
        have hM2 := H1.out.1.kept hk2 (by omega : b ≠ b5)
        have hx2 := H1.out.2.1.kept hk2 (by omega : b0 ≠ b5) (by omega : b1 ≠ b5) (by omega : b2 ≠ b5)
        have hkA : Kept (fun x => x ≠ b ∧ x ≠ b5) wa we := (H1.out.2.2.2.mono (fun x _ h => h.1)).trans (hk2.mono (fun x _ h => h.2))
        have H2 := Lib.hid (And.intro hM2 (And.intro hx2 (And.intro hr2 hkA)))
        have hokb : Ok s mb i := HD1.out.1 ▸ back_ok HH.out.2.1 HH.out.2.2.2.1
        have hbs := back_same (m := m) t
        rw [HD1.out.1] at hbs
        have hD1l : D1 < 4294967296 := HD1.out.2.1 ▸ smD_lt v
        have hF1l : F1 < 16 := HD1.out.2.2 ▸ smF_lt v
        have HP := Lib.hid (And.intro hokb (And.intro hbs (And.intro hD1l hF1l)))
        have d0 := hx2.cells.1
        have r0 : we.cell? ⟨b5, 0, none⟩ = some (.int .i64 T) := blk_cell hr2 0 rfl
        have r1 : we.cell? ⟨b5, 1, none⟩ = some (.int .u32 (D1 : Int)) := blk_cell hr2 1 rfl
        have r2 : we.cell? ⟨b5, 2, none⟩ = some (.int .i64 (F1 : Int)) := blk_cell hr2 2 rfl
        clear hl hM2 hx2 hr2 hk2 hkA hokb hbs hD1l hF1l
        by_cases hsp : T / s.len - m.o > 1000
        · have hno : ∀ W, MtB W b nr s mb → _ := fun W h => pass_span W b nr s mb T D1 F1 i HH.out.1 HP.out.1 h (by rw [HP.out.2.1.1]; exact HH.out.2.2.2.2.2.2.2.2.2.1.1) HH.out.2.2.2.2.2.2.2.2.2.1.2 HP.out.2.2.1 HP.out.2.2.2 (by rw [HP.out.2.1.2.2.2.1]; exact hsp)
          have HNo := Lib.hid hno
          have Hsp := Lib.hid hsp
          clear hno hsp
          go_wp2_with fail
          refine (HNo.out _ H2.out.1).mono ?_
          rintro e w5 ⟨rfl, hb⟩
          have hM5 := H2.out.1.go hb
          have hx5 := (H2.out.2.1.kept (hb.keptS (fun _ => True)) trivial trivial trivial)
          have d0 := hx5.cells.1
          have d2 := hx5.cells.2.2
          have f8 := hM5.fr 8
          have c8 := hM5.cells.2.2.2.2.2.2.2.2.1
          have H5 := Lib.hid (And.intro hM5 (And.intro hx5 hb))
          clear hM5 hx5 hb r0 r1 r2
          go_wp2_with fail
          go_ret2
          unfold SmpP
          rw [HH.out.2.2.2.2.2.2.1]
          refine ⟨fun h => absurd Hsp.out (by omega), fun _ => ⟨_, rfl, ⟨{ mb with v := v }, ?_⟩, ?_⟩⟩
          · exact bset H5.out.1 (i := 8) (.int .u32 (v : Int))
          · exact Kept.cut (HR5.out.2.keptS _) ((H2.out.2.2.2.trans (H5.out.2.2.keptS _)).setCell (p := ⟨b, 8, none⟩) (fun hh => hh.1 rfl) _) (fun k hk hs => ⟨hs, by have := HH.out.2.2.2.2.2.2.2.2.2.2.2; omega⟩)
        · have hyes : ∀ W, MtB W b nr s mb → _ := fun W h => pass_calls W b nr s mb T D1 F1 i HH.out.1 HP.out.1 HH.out.2.2.1 h (by rw [HP.out.2.1.2.2.2.2.2.2]; exact HH.out.2.2.2.1) (by rw [HP.out.2.1.1]; exact HH.out.2.2.2.2.2.2.2.2.2.1.1) HH.out.2.2.2.2.2.2.2.2.2.1.2 HP.out.2.2.1 HP.out.2.2.2 (by rw [HP.out.2.1.2.2.2.1]; exact hsp)
          have HYes := Lib.hid hyes
          have Hsp := Lib.hid hsp
          clear hyes hsp
          go_wp2_with fail
          refine (HYes.out _ H2.out.1).mono ?_
          rintro e w5 ⟨A, c, rfl, how, hm5, hk5⟩
          have hl := HX.out.2.2
          have hne := HH.out.2.2.2.2.2.2.2.2.2.2.1
          have hbe : b < we.heap.size := H2.out.1.lt
          have hx5 := H2.out.2.1.kept hk5 hne.1 hne.2.1 hne.2.2
          have hr5 := heap_kept hk5 H2.out.2.2.1 (by omega : b5 ≠ b)
          have hkS : Kept (fun x => x ≠ b) w5 (w5.setCell ⟨b, 8, none⟩ (.int .u32 (v : Int))) := (Kept.refl _ w5).setCell (p := ⟨b, 8, none⟩) (fun hh => hh rfl) _
          have hm6 := bset hm5 (i := 8) (.int .u32 (v : Int))
          obtain ⟨w6, hw6⟩ : ∃ X, w5.setCell ⟨b, 8, none⟩ (.int .u32 (v : Int)) = X := ⟨_, rfl⟩
          rw [hw6] at hkS hm6
          obtain ⟨mz, hmz⟩ : ∃ mz : M, { passZ s mb T D1 F1 with v := v } = mz := ⟨_, rfl⟩
          have hm6 : MtB w6 b nr s mz := by rw [← hmz]; exact hm6
          have how6 := own_keptM how hkS (fun g e => by have := how.lt g e; omega)
          obtain ⟨L, hL⟩ : ∃ L, passE s mb T D1 (passF s mb T F1) (many s mb T) = L := ⟨_, rfl⟩
          rw [hL] at how6
          have hmn : many s mb T ≤ 1000 := by unfold many; rw [HP.out.2.1.2.2.2.1]; have := Hsp.out; omega
          obtain ⟨k, hkm⟩ : ∃ k, many s mb T = k := ⟨_, rfl⟩
          rw [hkm] at how6 hmn
          have H6 := Lib.hid (And.intro hm6 (And.intro (hx5.kept hkS hne.1 hne.2.1 hne.2.2) (And.intro (heap_kept hkS hr5 (by omega : b5 ≠ b)) (And.intro how6 (And.intro (hk5.trans hkS) (And.intro hmn (And.intro hmz (And.intro hL hkm))))))))
          have d0 := hx5.cells.1
          have d2 := hx5.cells.2.2
          have f8 := hm5.fr 8
          have c8 := hm5.cells.2.2.2.2.2.2.2.2.1
          clear hl hne hbe hx5 hr5 hkS hm6 hmz how6 hL hmn how hm5 hk5 r0 r1 r2
          rw [hkm]
          clear hkm
          go_upto_region 12 with fail
          clear hw6 d0 d2 f8 c8
          have d0 := H6.out.2.1.cells.1
          have c3 := H6.out.1.cells.2.2.2.1
          have HgS2 : decide (s.bound < D) = gS := HgS.out
          go_upto_if 75 with fail
          clear d0 c3 HgS2
          cases gS with
          | false =>
            go_wp2_with fail
            go_ret2
            unfold SmpP
            rw [HH.out.2.2.2.2.2.2.1, HH.out.2.2.2.2.2.2.2.1, HD1.out.1, HD1.out.2.1, HD1.out.2.2, H6.out.2.2.2.2.2.2.1, H6.out.2.2.2.2.2.2.2.1, H6.out.2.2.2.2.2.2.2.2, if_neg (of_decide_eq_false HgS.out), if_neg (of_decide_eq_false HgS.out), List.append_nil]
            refine ⟨fun _ => ⟨A, k, c, rfl, own_lowerM H6.out.2.2.2.1 ?_, H6.out.1, ?_, rfl⟩, fun h => absurd h (by have := Hsp.out; omega)⟩
            · exact Nat.le_trans HR5.out.2.size H2.out.2.2.2.size
            · exact Kept.cut (HR5.out.2.keptS _) (H2.out.2.2.2.trans (H6.out.2.2.2.2.1.mono (fun x _ h => h.1))) (fun k hk hs => ⟨hs, by have := HH.out.2.2.2.2.2.2.2.2.2.2.2; omega⟩)
          | true =>
            obtain ⟨A', c', w7, hrun, how7, hg7, -⟩ := ent_append w6.drew we.heap.size (H6.out.2.2.2.1) ⟨2, T, 0, 0, D⟩ (Nat.le_trans H6.out.2.2.2.2.1.size (Nat.le_refl _)) (by have := H6.out.2.2.2.2.2.1; omega)
            have hkg : Kept (fun x => x < we.heap.size) w6 w7 := ((Kept.refl _ w6).drew.trans ((bstep w6.drew _).keptS _)).trans ((grownKept hg7).mono (fun x hx h e => by have := H6.out.2.2.2.1.lt x e.symm; omega))
            obtain ⟨en, hen⟩ : ∃ en, enC nr ⟨2, T, 0, 0, D⟩ = en := ⟨_, rfl⟩
            have HEN := Lib.hid (And.intro hen (show en.size = 42 by rw [← hen]; exact enC_size _ _))
            rw [hen] at hrun
            have HRun := Lib.hid hrun
            have H7 := Lib.hid (And.intro how7 hkg)
            have HBS := Lib.hid (built_ens en HEN.out.2 w6.drew)
            have HBu := Lib.hid (show Try.prog.built 45 [(0, .int .i64 2), (1, .int .i64 nr), (2, .int .i64 T), (8, .int .u32 (D : Int))] = some en by rw [built_sus, hen])
            have HS3 := Lib.hid (show ∀ Y, Kept (fun x => x < we.heap.size) w6 Y → (Y.cell? ⟨b0, 0, none⟩ = some (.pointer (some ⟨b, 0, none⟩)) ∧ Y.cell? ⟨b, 0, none⟩ = some (.int .i64 nr) ∧ Y.cell? ⟨b5, 0, none⟩ = some (.int .i64 T)) from fun Y hY => by
              have hb0 := blk_lt H2.out.2.1.1
              have hb1 := blk_lt H2.out.2.1.2.1
              have hb2 := blk_lt H2.out.2.1.2.2
              exact ⟨(H6.out.2.1.kept hY hb0 hb1 hb2).cells.1, (H6.out.1.kept hY H2.out.1.lt).cells.1, blk_cell (heap_kept hY H6.out.2.2.1 (blk_lt H2.out.2.2.1)) 0 rfl⟩)
            clear how7 hg7 hkg hen hrun
            go_upto_region 13 with fail

            refine wp_region_held_drew (S := (fun Y => Y.cell? ⟨b0, 0, none⟩ = some (.pointer (some ⟨b, 0, none⟩)) ∧ Y.cell? ⟨b, 0, none⟩ = some (.int .i64 nr) ∧ Y.cell? ⟨b5, 0, none⟩ = some (.int .i64 T))) (by kernel_rfl) (HS3.out _ (Kept.refl _ w6).drew) (fun hHeld => ?_)
            refine wpAnyH_take (i := 0) (v := ?_) rfl (by kernel_rfl) (by kernel_rfl) (by kernel_rfl) (fun _ _ _ h => h) (Or.inl ⟨by kernel_rfl, ?_⟩) (by assumption) ?_
            rotate_left
            · intro w hSw; (try dsimp only at hSw); go_simp; try with_reducible rfl
            simp only [Act.put, List.getElem_toArray, List.getElem_cons_succ, List.getElem_cons_zero, List.setIfInBounds_toArray, List.set_cons_zero, List.set_cons_succ]
            refine wpAnyH_take (i := 1) (v := ?_) rfl (by kernel_rfl) (by kernel_rfl) (by kernel_rfl) (fun _ _ _ h => h) (Or.inl ⟨by kernel_rfl, ?_⟩) (by assumption) ?_
            rotate_left
            · intro w hSw; (try dsimp only at hSw); go_simp; try with_reducible rfl
            simp only [Act.put, List.getElem_toArray, List.getElem_cons_succ, List.getElem_cons_zero, List.setIfInBounds_toArray, List.set_cons_zero, List.set_cons_succ]
            refine wpAnyH_take (i := 2) (v := ?_) rfl (by kernel_rfl) (by kernel_rfl) (by kernel_rfl) (fun _ _ _ h => h) (Or.inl ⟨by kernel_rfl, ?_⟩) (by assumption) ?_
            rotate_left
            · intro w hSw; (try dsimp only at hSw); go_simp; try with_reducible rfl
            simp only [Act.put, List.getElem_toArray, List.getElem_cons_succ, List.getElem_cons_zero, List.setIfInBounds_toArray, List.set_cons_zero, List.set_cons_succ]
            refine wpAnyH_take (i := 3) (v := ?_) rfl (by kernel_rfl) (by kernel_rfl) (by kernel_rfl) (fun _ _ _ h => h) (Or.inl ⟨by kernel_rfl, ?_⟩) (by assumption) ?_
            rotate_left
            · intro w hSw; (try dsimp only at hSw); go_simp; try with_reducible rfl
            simp only [Act.put, List.getElem_toArray, List.getElem_cons_succ, List.getElem_cons_zero, List.setIfInBounds_toArray, List.set_cons_zero, List.set_cons_succ]
            refine wpAnyH_take (i := 4) (v := ?_) rfl (by kernel_rfl) (by kernel_rfl) (by kernel_rfl) (fun _ _ _ h => h) (Or.inl ⟨by kernel_rfl, ?_⟩) (by assumption) ?_
            rotate_left
            · intro w hSw; (try dsimp only at hSw); go_simp; try with_reducible rfl
            simp only [Act.put, List.getElem_toArray, List.getElem_cons_succ, List.getElem_cons_zero, List.setIfInBounds_toArray, List.set_cons_zero, List.set_cons_succ]
            refine wpAnyH_take (i := 5) (v := ?_) rfl (by kernel_rfl) (by kernel_rfl) (by kernel_rfl) (fun _ _ _ h => h) (Or.inl ⟨by kernel_rfl, ?_⟩) (by assumption) ?_
            rotate_left
            · intro w hSw; (try dsimp only at hSw); go_simp; try with_reducible rfl
            simp only [Act.put, List.getElem_toArray, List.getElem_cons_succ, List.getElem_cons_zero, List.setIfInBounds_toArray, List.set_cons_zero, List.set_cons_succ]
            refine wpAnyH_take (i := 6) (v := ?_) rfl (by kernel_rfl) (by kernel_rfl) (by kernel_rfl) (fun _ _ _ h => h) (Or.inl ⟨by kernel_rfl, ?_⟩) (by assumption) ?_
            rotate_left
            · intro w hSw; (try dsimp only at hSw); go_simp; try with_reducible rfl
            simp only [Act.put, List.getElem_toArray, List.getElem_cons_succ, List.getElem_cons_zero, List.setIfInBounds_toArray, List.set_cons_zero, List.set_cons_succ]
            refine wpAnyH_take (i := 7) (v := ?_) rfl (by kernel_rfl) (by kernel_rfl) (by kernel_rfl) (fun _ _ _ h => h) (Or.inl ⟨by kernel_rfl, ?_⟩) (by assumption) ?_
            rotate_left
            · intro w hSw; (try dsimp only at hSw); go_simp; try with_reducible rfl
            simp only [Act.put, List.getElem_toArray, List.getElem_cons_succ, List.getElem_cons_zero, List.setIfInBounds_toArray, List.set_cons_zero, List.set_cons_succ]
            refine wpAnyH_take (i := 8) (v := .agg en) rfl (by kernel_rfl) (by kernel_rfl) (by kernel_rfl) (fun _ _ _ h => h) (Or.inl ⟨by kernel_rfl, ?_⟩) (by assumption) ?_
            · intro w hSw; (try dsimp only at hSw)
              exact build_op 45 #[(0, .const (.int .i64 2)), (1, .tmp 80), (2, .tmp 82), (8, .tmp 83)] (by rfl) _ (by simp only [List.map_toArray, List.map_cons, List.map_nil, Act.eval]; exact HBu.out) w
            simp only [Act.put, List.getElem_toArray, List.getElem_cons_succ, List.getElem_cons_zero, List.setIfInBounds_toArray, List.set_cons_zero, List.set_cons_succ]
            refine wpAnyH_ready (rs := [9]) (by kernel_rfl) (by simp) ?_
            refine AllReadyH.cons rfl (fun K hK => ?_) AllReadyH.nil
            refine wp_run (v := .slice (some ⟨w6.drew.heap.size, 0, none⟩) 1 1) (buildSlice_op 38 1 #[(0, .tmp 84)] (by rfl) (by simp only [List.map_toArray, List.map_cons, List.map_nil, Act.eval]; exact HBS.out)) ?_
            refine hK.out _ _ (HS3.out _ (((Kept.refl _ w6).drew).trans ((bstep w6.drew _).keptS _))) (fun hHeld => ?_)
            clear hK K
            try simp only [Act.put, List.getElem_toArray, List.getElem_cons_succ, List.getElem_cons_zero, List.setIfInBounds_toArray, List.set_cons_zero, List.set_cons_succ]
            refine wpAnyH_ready (rs := [10]) (by kernel_rfl) (by simp) ?_
            refine AllReadyH.cons rfl (fun K hK => ?_) AllReadyH.nil
            refine wp_run (v := .slice A' (k + 1) c') (append_op (by rfl) (by simp only [Act.eval]; exact HRun.out)) ?_
            refine hK.out _ _ (HS3.out _ H7.out.2) (fun hHeld => ?_)
            clear hK K
            try simp only [Act.put, List.getElem_toArray, List.getElem_cons_succ, List.getElem_cons_zero, List.setIfInBounds_toArray, List.set_cons_zero, List.set_cons_succ]
            refine wpAnyH_take (i := 11) (v := ?_) rfl (by kernel_rfl) (by kernel_rfl) (by kernel_rfl) (fun _ _ _ h => h) (Or.inl ⟨by kernel_rfl, ?_⟩) (by assumption) ?_
            rotate_left
            · intro w hSw; (try dsimp only at hSw); go_simp; try with_reducible rfl
            simp only [Act.put, List.getElem_toArray, List.getElem_cons_succ, List.getElem_cons_zero, List.setIfInBounds_toArray, List.set_cons_zero, List.set_cons_succ]
            refine wpAnyH_done (by kernel_rfl) ?_ _
            go_wp2_with fail
            go_ret2
            unfold SmpP
            rw [HH.out.2.2.2.2.2.2.1, HH.out.2.2.2.2.2.2.2.1, HD1.out.1, HD1.out.2.1, HD1.out.2.2, H6.out.2.2.2.2.2.2.1, H6.out.2.2.2.2.2.2.2.1, H6.out.2.2.2.2.2.2.2.2, if_pos (of_decide_eq_true HgS.out), if_pos (of_decide_eq_true HgS.out)]
            refine ⟨fun _ => ⟨A', k + 1, c', rfl, own_lowerM H7.out.1 ?_, H6.out.1.kept H7.out.2 H2.out.1.lt, ?_, rfl⟩, fun h => absurd h (by have := Hsp.out; omega)⟩
            · exact Nat.le_trans HR5.out.2.size H2.out.2.2.2.size
            · refine Kept.cut (HR5.out.2.keptS _) (Kept.cut (S' := fun x => x < we.heap.size) (H2.out.2.2.2.trans (H6.out.2.2.2.2.1.mono (fun x _ h => h.1))) H7.out.2 (fun k hk _ => Nat.lt_of_lt_of_le hk H2.out.2.2.2.size)) (fun k hk hs => ⟨hs, by have := HH.out.2.2.2.2.2.2.2.2.2.2.2; omega⟩)
end Go.Proofs.Ytjmkbpgakfeceaa
