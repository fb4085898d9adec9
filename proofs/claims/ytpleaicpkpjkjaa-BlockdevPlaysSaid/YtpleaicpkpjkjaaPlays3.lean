/-
  BlockdevPlays, walked: a device of any size answers what the document says. Conditions stand at each theorem. (Printed by gen_plays3.py.)
-/
import Derived.Test.YtpleaicpkpjkjaaPlays2
namespace Go.Proofs.Ytpleaicpkpjkjaa
open Go Go.RowKit Go.Kw
set_option linter.unusedVariables false
set_option linter.unusedSimpArgs false

theorem RefO.lower {W : World} {B B' r mb nn : Nat} {V : Value} {X : Nat → Prop} {D : Dv} (h : RefO W B r mb nn V X D) (hB : B' ≤ B) : RefO W B' r mb nn V X D := by
  refine ⟨h.ok, h.box, h.map, ?_, h.own, h.ne, by have := h.le; omega⟩
  obtain ⟨xs, h1, h2, h3⟩ := h.cac
  exact ⟨xs, h1, own_lower h2 hB, h3⟩
/-- Both are new. -/
theorem PL.new {w0 W W' : World} {d sb n r mb : Nat} (h1 : LD w0 d sb n (newV n) (fun _ => False) W) (h2 : RefO W' W.heap.size r mb 0 (.slice none 0 0) (fun b => W.heap.size ≤ b ∧ b < W'.heap.size) (newV n)) (hb : Below W.heap.size W W') : PL w0 d sb n r mb (newV n) (newV n) 0 (fun _ => False) W' := by
  have hw := h1.below.size
  exact ⟨_, _, (h1.more hb).less (fun b hb => hb.elim (fun h => .inr h) (fun h => h.elim)), h2.lower hw, fun b hb => by omega, fun b hb => hb.elim⟩
/-- A copy that lies beside both. -/
theorem PL.copy {w0 W : World} {d sb sc r mb m : Nat} {D D2 : Dv} (h : PL w0 d sb sc r mb D D2 m (fun _ => False) W) : Calls Try.prog 14 #[.pointer (some ⟨d, 0, none⟩)] W fun e W' => ∃ d' sb' sc' V', e = .returned (.pointer (some ⟨d', 0, none⟩)) ∧ DevO W' W.heap.size d' sb' sc' V' D ∧ PL w0 d sb sc r mb D D2 m (fun b => W.heap.size ≤ b ∧ b < W'.heap.size) W' := by
  obtain ⟨X, hL⟩ := h.ld
  refine hL.copy.mono ?_
  rintro e W' ⟨d', sb', sc', rfl, ⟨V', h1, -⟩, hb⟩
  exact ⟨d', sb', sc', V', rfl, h1, (h.more hb).less (fun b hb => .inr hb)⟩
theorem DevO.keptG {W W' : World} {B N d sb sc : Nat} {V : Value} {D : Dv} {G : Nat → Prop} (h : DevO W B d sb sc V D) (hG : ∀ b, B ≤ b → b < N → G b) (hN : d < N ∧ sb < N ∧ ∀ b, V.ownBlock = some b → b < N) (hk : Kept G W W') : DevO W' B d sb sc V D :=
  h.kept hk (hG d h.le.1 hN.1) (hG sb h.le.2.1 hN.2.1) (fun b hb => hG b (h.le.2.2 b hb) (hN.2.2 b hb))
set_option maxRecDepth 100000 in
set_option maxHeartbeats 64000000 in
theorem blockdevPlays_walk (a0 : Int) (v1 : Value) (x1 : OpX) (w : World) (hn0 : (Lit.int .i64 a0).wf = true) (hx1 : v1 = .slice x1.1 x1.2.1 x1.2.2.1 ∧ RdOps w x1.1 x1.2.1 x1.2.2.1 x1.2.2.2) :
    Calls Try.prog 5 #[.int .i64 a0, v1] w fun e w' => e = .returned (.bool true) ∧ Below w.heap.size w w' := by
  obtain ⟨A, n, c, g⟩ := x1
  obtain ⟨rfl, hR⟩ := hx1
  dsimp only at hR ⊢
  have HR := Lib.hid hR
  have HX := Lib.hid (great_calls w A n c g hR)
  clear hR hn0
  go_enter Try.func5, Try.ntmps5
  go_wp2_with fail
  refine HX.out.mono ?_
  rintro e w1 ⟨⟨G, rfl, hG, hGs⟩, hb1⟩
  have Hb := Lib.hid hb1
  clear HX hb1
  rcases hG with rfl | rfl
  rotate_left
  · clear hGs
    go_wp2_with fail
    go_ret
    exact ⟨rfl, Hb.out⟩
  have HG := Lib.hid (hGs.1 rfl)
  clear hGs
  by_cases hbad : a0 < 1 ∨ 65536 < a0
  · have HN := Lib.hid (fun X => dNew_bad X a0 hbad)
    have HN2 := Lib.hid (fun X => refNew_bad X a0 hbad)
    clear hbad
    go_wp2_with fail
    refine (HN.out w1).mono ?_
    rintro e w2 ⟨rfl, hb2⟩
    have Hb2 := Lib.hid (bnext Hb.out hb2)
    clear hb2
    go_wp2_with fail
    refine (HN2.out w2).mono ?_
    rintro e w3 ⟨rfl, hb3⟩
    have Hb3 := Lib.hid (bnext Hb2.out hb3)
    clear hb3
    go_wp2_with fail
    go_ret
    exact ⟨rfl, Hb3.out⟩
  obtain ⟨ns, hns⟩ : ∃ ns : Nat, a0 = ns := ⟨a0.toNat, by omega⟩
  subst hns
  have Hns := Lib.hid (show 1 ≤ ns ∧ ns ≤ 65536 by omega)
  clear hbad
  have HX := Lib.hid (LD_new w w1 Hb.out ns Hns.out.1 Hns.out.2)
  go_wp2_with fail
  refine HX.out.mono ?_
  rintro e w2 ⟨d, sb, rfl, hL, -⟩
  have HL := Lib.hid hL
  have HX := Lib.hid (refNew_calls w2 ns Hns.out.1 Hns.out.2)
  clear hL
  go_wp2_with fail
  refine HX.out.mono ?_
  rintro e w3 ⟨r, mb, rfl, hO, hb3⟩
  have HP := Lib.hid (PL.new HL.out hO hb3)
  have HX := Lib.hid HP.out.copy
  clear hO hb3
  go_wp2_with fail
  refine HX.out.mono ?_
  rintro e w4 ⟨d', sb', sc', V', rfl, hD, hP⟩
  have HP := Lib.hid hP
  have HD := Lib.hid (And.intro hD hD.lt)
  clear hD hP HX HL Hb
  go_wp2_with fail
  go_loopw [10, 42] (fun _ iv wr => ∃ i : Nat, i ≤ n ∧ iv = .int .i64 i ∧ ∃ D : Dv, PL w d sb ns r mb D D (256 * i) (fun b => w3.heap.size ≤ b ∧ b < w4.heap.size) wr ∧ D.S.length = ns ∧ 0 ≤ D.k ∧ D.k ≤ i ∧ DevO wr w3.heap.size d' sb' sc' V' (newV ns)) (fun _ iv _ => n - (intOf iv).toNat)
  case atStart => exact ⟨0, by omega, rfl, newV ns, HP.out, by simp [newV], by show (0 : Int) ≤ 0; omega, by show (0 : Int) ≤ ((0 : Nat) : Int); omega, HD.out.1⟩
  case round =>
    obtain ⟨i, hi, rfl, D, hP, hSl, hk0, hki, hD⟩ := hrel
    clear HP
    by_cases hlt : i < n
    · have hI : (i : Int) < (n : Int) := by omega
      have hi0 : (0 : Int) ≤ (i : Int) := by omega
      have hwb := hP.below
      obtain ⟨b, off, rfl, hbw, q0, q1, q2, q3, q4, q5, q6⟩ := HR.out.opC hwb hlt
      obtain ⟨z, hz⟩ : ∃ z, g i = z := ⟨_, rfl⟩
      rw [hz] at q0 q1 q2 q3 q4 q5 q6
      have hOk : OpOk w z := hz ▸ HR.out.2.2.2.2 i hlt
      have hL : z.L ≤ 300 := by rw [← hz]; exact (HG.out.2 i hlt).2
      obtain ⟨bx, hbx⟩ : ∃ bx, wr.heap.size = bx := ⟨_, rfl⟩
      obtain ⟨W1, hW1⟩ : ∃ W1, wr.alloc (.cells #[.int .i64 z.kd, .int .i64 z.N, .int .u8 (z.b.toNat : Int), .int .i64 z.L, .slice z.KA z.kp.length z.kc, .int .i64 z.to, .int .i64 z.at'] 34) = W1 := ⟨_, rfl⟩
      have hst : Below wr.heap.size wr W1 := hW1 ▸ bstep wr _
      have hbk : W1.heap[bx]? = some (.cells #[.int .i64 z.kd, .int .i64 z.N, .int .u8 (z.b.toNat : Int), .int .i64 z.L, .slice z.KA z.kp.length z.kc, .int .i64 z.to, .int .i64 z.at'] 34 (0, 0)) := by rw [← hbx, ← hW1]; exact blk_new wr _ _
      have HP1 := Lib.hid (And.intro ((hP.more hst).less (H := fun b => (w3.heap.size ≤ b ∧ b < w4.heap.size) ∨ b = bx) (fun b hb => hb.imp id (fun hb => by rw [hb]; exact ⟨by omega, blk_lt hbk⟩))) (And.intro hSl (And.intro hk0 (And.intro hki (And.intro (hD.go hst) (And.intro hbk (And.intro hOk (And.intro hL hlt))))))))
      clear hi hP hSl hk0 hki hD hlt hwb hbw hz hOk hL hst hbk
      go_upto_region 12 with fail
      clear hW1 hbx q0 q1 q2 q3 q4 q5 q6
      have HSS := Lib.hid (show ∀ Y, Kept (fun b => (w3.heap.size ≤ b ∧ b < w4.heap.size) ∨ b = bx) W1 Y → (Y.cell? ⟨bx, 0, none⟩ = some (.int .i64 z.kd) ∧ Y.cell? ⟨bx, 1, none⟩ = some (.int .i64 z.N) ∧ Y.cell? ⟨bx, 2, none⟩ = some (.int .u8 (z.b.toNat : Int)) ∧ Y.cell? ⟨bx, 3, none⟩ = some (.int .i64 z.L) ∧ Y.cell? ⟨bx, 4, none⟩ = some (.slice z.KA z.kp.length z.kc) ∧ Y.cell? ⟨bx, 5, none⟩ = some (.int .i64 z.to) ∧ Y.cell? ⟨bx, 6, none⟩ = some (.int .i64 z.at')) from fun Y hY =>
        have hB := heap_kept hY HP1.out.2.2.2.2.2.1 (.inr rfl)
        ⟨blk_cell hB 0 rfl, blk_cell hB 1 rfl, blk_cell hB 2 rfl, blk_cell hB 3 rfl, blk_cell hB 4 rfl, blk_cell hB 5 rfl, blk_cell hB 6 rfl⟩)
      go_cut [5, 71] from 49 to 71 (fun s5 s71 wx => s71 = .bool false ∧ s5 = .pointer (some ⟨d, 0, none⟩) ∧ ∃ D' : Dv, PL w d sb ns r mb D' D' (256 * i + 256) (fun b => (w3.heap.size ≤ b ∧ b < w4.heap.size) ∨ b = bx) wx ∧ DNext D D' ∧ Kept (fun b => (w3.heap.size ≤ b ∧ b < w4.heap.size) ∨ b = bx) W1 wx)
      case first =>
        refine wp_region_held_drew (S := (fun Y => Y.cell? ⟨bx, 0, none⟩ = some (.int .i64 z.kd) ∧ Y.cell? ⟨bx, 1, none⟩ = some (.int .i64 z.N) ∧ Y.cell? ⟨bx, 2, none⟩ = some (.int .u8 (z.b.toNat : Int)) ∧ Y.cell? ⟨bx, 3, none⟩ = some (.int .i64 z.L) ∧ Y.cell? ⟨bx, 4, none⟩ = some (.slice z.KA z.kp.length z.kc) ∧ Y.cell? ⟨bx, 5, none⟩ = some (.int .i64 z.to) ∧ Y.cell? ⟨bx, 6, none⟩ = some (.int .i64 z.at'))) (by kernel_rfl) (HSS.out _ (Kept.refl _ _).drew) (fun hHeld => ?_)
        refine wpAnyH_take (i := 0) (v := ?_) rfl (by kernel_rfl) (by kernel_rfl) (by kernel_rfl) (fun _ _ _ h => h) (Or.inl ⟨by kernel_rfl, ?_⟩) (by assumption) ?_
        rotate_left
        · intro w hSw; (try dsimp only at hSw); go_simp; try with_reducible rfl
        simp only [Act.put, List.getElem_toArray, List.getElem_cons_succ, List.getElem_cons_zero, List.setIfInBounds_toArray, List.set_cons_zero, List.set_cons_succ]
        refine wpAnyH_take (i := 1) (v := ?_) rfl (by kernel_rfl) (by kernel_rfl) (by kernel_rfl) (fun _ _ _ h => h) (Or.inl ⟨by kernel_rfl, ?_⟩) (by assumption) ?_
        rotate_left
        · intro w hSw; (try dsimp only at hSw); go_simp; try with_reducible rfl
        simp only [Act.put, List.getElem_toArray, List.getElem_cons_succ, List.getElem_cons_zero, List.setIfInBounds_toArray, List.set_cons_zero, List.set_cons_succ]
        refine wpAnyH_take (i := 2) (v := ?_) rfl (by kernel_rfl) (by kernel_rfl) (by kernel_rfl) (fun _ _ _ h => h) (Or.inl ⟨by kernel_rfl, ?_⟩) (by assumption) ?_
        rotate_left
        · intro w hSw; (try dsimp only at hSw); go_simp; try with_reducible rfl
        simp only [Act.put, List.getElem_toArray, List.getElem_cons_succ, List.getElem_cons_zero, List.setIfInBounds_toArray, List.set_cons_zero, List.set_cons_succ]
        refine wpAnyH_ready (rs := [3]) (by kernel_rfl) (by simp) ?_
        refine AllReadyH.cons rfl (fun K hK => ?_) AllReadyH.nil
        go_simp
        have HX := Lib.hid (show Calls Try.prog 23 #[.pointer (some ⟨d, 0, none⟩), .pointer (some ⟨r, 0, none⟩), .agg #[.int .i64 z.kd, .int .i64 z.N, .int .u8 (z.b.toNat : Int), .int .i64 z.L, .slice z.KA z.kp.length z.kc, .int .i64 z.to, .int .i64 z.at']] W1.drew _ from do_calls (HP1.out.1.go (Below.refl W1.heap.size W1).drew) (by have := HP1.out.2.2.1; have := HP1.out.2.2.2.1; have := HP1.out.2.2.2.2.2.2.2.2; have := HG.out.1; omega) (by have := HP1.out.2.2.2.2.2.2.2.2; have := HG.out.1; omega) z HP1.out.2.2.2.2.2.2.1 HP1.out.2.2.2.2.2.2.2.1)
        refine HX.out.mono ?_
        rintro e u5 ⟨rfl, D', hP', hnx, hkG⟩
        obtain ⟨dn, hdn⟩ : ∃ dn, D'.dn = dn := ⟨_, rfl⟩
        obtain ⟨kk, hkk⟩ : ∃ kk, D'.k = kk := ⟨_, rfl⟩
        have H5 := Lib.hid (And.intro hP' (And.intro hnx (And.intro ((Kept.refl _ W1).drew.trans hkG) (And.intro hdn hkk))))
        clear HX hP' hnx hkG hdn hkk
        try go_wp2_with fail
        refine hK.out _ _ (HSS.out _ H5.out.2.2.1) (fun hHeld => ?_)
        clear hK K
        try simp only [Act.put, List.getElem_toArray, List.getElem_cons_succ, List.getElem_cons_zero, List.setIfInBounds_toArray, List.set_cons_zero, List.set_cons_succ]
        refine wpAnyH_take (i := 4) (v := .bool false) rfl (by kernel_rfl) (by kernel_rfl) (by kernel_rfl) (fun _ _ _ h => h) (Or.inl ⟨by kernel_rfl, ?_⟩) (by assumption) ?_
        · intro w hSw; (try dsimp only at hSw)
          go_simp
        simp only [Act.put, List.getElem_toArray, List.getElem_cons_succ, List.getElem_cons_zero, List.setIfInBounds_toArray, List.set_cons_zero, List.set_cons_succ]
        refine wpAnyH_take (i := 5) (v := ?_) rfl (by kernel_rfl) (by kernel_rfl) (by kernel_rfl) (fun _ _ _ h => h) (Or.inl ⟨by kernel_rfl, ?_⟩) (by assumption) ?_
        rotate_left
        · intro w hSw; (try dsimp only at hSw); go_simp; try with_reducible rfl
        simp only [Act.put, List.getElem_toArray, List.getElem_cons_succ, List.getElem_cons_zero, List.setIfInBounds_toArray, List.set_cons_zero, List.set_cons_succ]
        refine wpAnyH_take (i := 6) (v := ?_) rfl (by kernel_rfl) (by kernel_rfl) (by kernel_rfl) (fun _ _ _ h => h) (Or.inl ⟨by kernel_rfl, ?_⟩) (by assumption) ?_
        rotate_left
        · intro w hSw; (try dsimp only at hSw); go_simp; try with_reducible rfl
        simp only [Act.put, List.getElem_toArray, List.getElem_cons_succ, List.getElem_cons_zero, List.setIfInBounds_toArray, List.set_cons_zero, List.set_cons_succ]
        refine wpAnyH_take (i := 8) (v := ?_) rfl (by kernel_rfl) (by kernel_rfl) (by kernel_rfl) (fun _ _ _ h => h) (Or.inl ⟨by kernel_rfl, ?_⟩) (by assumption) ?_
        rotate_left
        · intro w hSw; (try dsimp only at hSw); go_simp; try with_reducible rfl
        simp only [Act.put, List.getElem_toArray, List.getElem_cons_succ, List.getElem_cons_zero, List.setIfInBounds_toArray, List.set_cons_zero, List.set_cons_succ]
        refine wpAnyH_take (i := 9) (v := ?_) rfl (by kernel_rfl) (by kernel_rfl) (by kernel_rfl) (fun _ _ _ h => h) (Or.inl ⟨by kernel_rfl, ?_⟩) (by assumption) ?_
        rotate_left
        · intro w hSw; (try dsimp only at hSw); go_simp; try with_reducible rfl
        simp only [Act.put, List.getElem_toArray, List.getElem_cons_succ, List.getElem_cons_zero, List.setIfInBounds_toArray, List.set_cons_zero, List.set_cons_succ]
        refine wpAnyH_take (i := 10) (v := ?_) rfl (by kernel_rfl) (by kernel_rfl) (by kernel_rfl) (fun _ _ _ h => h) (Or.inl ⟨by kernel_rfl, ?_⟩) (by assumption) ?_
        rotate_left
        · intro w hSw; (try dsimp only at hSw); go_simp; try with_reducible rfl
        simp only [Act.put, List.getElem_toArray, List.getElem_cons_succ, List.getElem_cons_zero, List.setIfInBounds_toArray, List.set_cons_zero, List.set_cons_succ]
        refine wpAnyH_ready (rs := [7, 11]) (by kernel_rfl) (by simp) ?_
        refine (AllReadyH.cons rfl (fun K hK => ?_) (AllReadyH.cons rfl (fun K hK => ?_) AllReadyH.nil))
        ·
          obtain ⟨X, hL⟩ := H5.out.1.ld
          have hX := hL.down
          rw [H5.out.2.2.2.1] at hX
          have HX := Lib.hid hX
          clear hL hX
          go_simp
          refine HX.out.mono ?_
          rintro e u6 ⟨rfl, hb6⟩
          have H6 := Lib.hid (And.intro (H5.out.1.go hb6) (H5.out.2.2.1.trans (hb6.keptS _)))
          clear HX hb6
          try go_wp2_with fail
          refine hK.out _ _ (HSS.out _ H6.out.2) (fun hHeld => ?_)
          clear hK K
          try simp only [Act.put, List.getElem_toArray, List.getElem_cons_succ, List.getElem_cons_zero, List.setIfInBounds_toArray, List.set_cons_zero, List.set_cons_succ]
          refine wpAnyH_ready (rs := [11]) (by kernel_rfl) (by simp) ?_
          refine AllReadyH.cons rfl (fun K hK => ?_) AllReadyH.nil
          obtain ⟨V, X, hO⟩ := H6.out.1.ro
          have cv := hO.cells.2.2.2.2.1
          rw [H5.out.2.2.2.1] at cv
          clear hO
          go_simp
          clear cv
          refine hK.out _ _ (HSS.out _ H6.out.2) (fun hHeld => ?_)
          clear hK K
          try simp only [Act.put, List.getElem_toArray, List.getElem_cons_succ, List.getElem_cons_zero, List.setIfInBounds_toArray, List.set_cons_zero, List.set_cons_succ]
          refine wpAnyH_take (i := 12) (v := .bool false) rfl (by kernel_rfl) (by kernel_rfl) (by kernel_rfl) (fun _ _ _ h => h) (Or.inl ⟨by kernel_rfl, ?_⟩) (by assumption) ?_
          · intro w hSw; (try dsimp only at hSw)
            go_simp; try simp
          simp only [Act.put, List.getElem_toArray, List.getElem_cons_succ, List.getElem_cons_zero, List.setIfInBounds_toArray, List.set_cons_zero, List.set_cons_succ]
          refine wpAnyH_take (i := 13) (v := .bool false) rfl (by kernel_rfl) (by kernel_rfl) (by kernel_rfl) (fun _ _ _ h => h) (Or.inl ⟨by kernel_rfl, ?_⟩) (by assumption) ?_
          · intro w hSw; (try dsimp only at hSw)
            go_simp
          simp only [Act.put, List.getElem_toArray, List.getElem_cons_succ, List.getElem_cons_zero, List.setIfInBounds_toArray, List.set_cons_zero, List.set_cons_succ]
          refine wpAnyH_take (i := 14) (v := ?_) rfl (by kernel_rfl) (by kernel_rfl) (by kernel_rfl) (fun _ _ _ h => h) (Or.inl ⟨by kernel_rfl, ?_⟩) (by assumption) ?_
          rotate_left
          · intro w hSw; (try dsimp only at hSw); go_simp; try with_reducible rfl
          simp only [Act.put, List.getElem_toArray, List.getElem_cons_succ, List.getElem_cons_zero, List.setIfInBounds_toArray, List.set_cons_zero, List.set_cons_succ]
          refine wpAnyH_take (i := 15) (v := ?_) rfl (by kernel_rfl) (by kernel_rfl) (by kernel_rfl) (fun _ _ _ h => h) (Or.inl ⟨by kernel_rfl, ?_⟩) (by assumption) ?_
          rotate_left
          · intro w hSw; (try dsimp only at hSw); go_simp; try with_reducible rfl
          simp only [Act.put, List.getElem_toArray, List.getElem_cons_succ, List.getElem_cons_zero, List.setIfInBounds_toArray, List.set_cons_zero, List.set_cons_succ]
          refine wpAnyH_take (i := 17) (v := ?_) rfl (by kernel_rfl) (by kernel_rfl) (by kernel_rfl) (fun _ _ _ h => h) (Or.inl ⟨by kernel_rfl, ?_⟩) (by assumption) ?_
          rotate_left
          · intro w hSw; (try dsimp only at hSw); go_simp; try with_reducible rfl
          simp only [Act.put, List.getElem_toArray, List.getElem_cons_succ, List.getElem_cons_zero, List.setIfInBounds_toArray, List.set_cons_zero, List.set_cons_succ]
          refine wpAnyH_take (i := 18) (v := ?_) rfl (by kernel_rfl) (by kernel_rfl) (by kernel_rfl) (fun _ _ _ h => h) (Or.inl ⟨by kernel_rfl, ?_⟩) (by assumption) ?_
          rotate_left
          · intro w hSw; (try dsimp only at hSw); go_simp; try with_reducible rfl
          simp only [Act.put, List.getElem_toArray, List.getElem_cons_succ, List.getElem_cons_zero, List.setIfInBounds_toArray, List.set_cons_zero, List.set_cons_succ]
          refine wpAnyH_take (i := 19) (v := ?_) rfl (by kernel_rfl) (by kernel_rfl) (by kernel_rfl) (fun _ _ _ h => h) (Or.inl ⟨by kernel_rfl, ?_⟩) (by assumption) ?_
          rotate_left
          · intro w hSw; (try dsimp only at hSw); go_simp; try with_reducible rfl
          simp only [Act.put, List.getElem_toArray, List.getElem_cons_succ, List.getElem_cons_zero, List.setIfInBounds_toArray, List.set_cons_zero, List.set_cons_succ]
          refine wpAnyH_ready (rs := [16, 20]) (by kernel_rfl) (by simp) ?_
          refine (AllReadyH.cons rfl (fun K hK => ?_) (AllReadyH.cons rfl (fun K hK => ?_) AllReadyH.nil))
          ·
            obtain ⟨X, hL⟩ := H6.out.1.ld
            have hX := hL.calls
            rw [H5.out.2.2.2.2] at hX
            have HX := Lib.hid hX
            clear hL hX
            go_simp
            refine HX.out.mono ?_
            rintro e u7 ⟨rfl, hb7⟩
            have H7 := Lib.hid (And.intro (H6.out.1.go hb7) (H6.out.2.trans (hb7.keptS _)))
            clear HX hb7
            try go_wp2_with fail
            refine hK.out _ _ (HSS.out _ H7.out.2) (fun hHeld => ?_)
            clear hK K
            try simp only [Act.put, List.getElem_toArray, List.getElem_cons_succ, List.getElem_cons_zero, List.setIfInBounds_toArray, List.set_cons_zero, List.set_cons_succ]
            refine wpAnyH_ready (rs := [20]) (by kernel_rfl) (by simp) ?_
            refine AllReadyH.cons rfl (fun K hK => ?_) AllReadyH.nil
            obtain ⟨V, X, hO⟩ := H7.out.1.ro
            have cv := hO.cells.2.2.2.2.2
            rw [H5.out.2.2.2.2] at cv
            clear hO
            go_simp
            clear cv
            refine hK.out _ _ (HSS.out _ H7.out.2) (fun hHeld => ?_)
            clear hK K
            try simp only [Act.put, List.getElem_toArray, List.getElem_cons_succ, List.getElem_cons_zero, List.setIfInBounds_toArray, List.set_cons_zero, List.set_cons_succ]
            refine wpAnyH_take (i := 21) (v := .bool false) rfl (by kernel_rfl) (by kernel_rfl) (by kernel_rfl) (fun _ _ _ h => h) (Or.inl ⟨by kernel_rfl, ?_⟩) (by assumption) ?_
            · intro w hSw; (try dsimp only at hSw)
              go_simp; try simp
            simp only [Act.put, List.getElem_toArray, List.getElem_cons_succ, List.getElem_cons_zero, List.setIfInBounds_toArray, List.set_cons_zero, List.set_cons_succ]
            refine wpAnyH_take (i := 22) (v := .bool false) rfl (by kernel_rfl) (by kernel_rfl) (by kernel_rfl) (fun _ _ _ h => h) (Or.inl ⟨by kernel_rfl, ?_⟩) (by assumption) ?_
            · intro w hSw; (try dsimp only at hSw)
              go_simp
            simp only [Act.put, List.getElem_toArray, List.getElem_cons_succ, List.getElem_cons_zero, List.setIfInBounds_toArray, List.set_cons_zero, List.set_cons_succ]
            refine wpAnyH_done (by kernel_rfl) ?_ _
            go_wp2_with fail
            go_meet
            exact ⟨rfl, rfl, D', H7.out.1, H5.out.2.1, H7.out.2⟩
          ·
            obtain ⟨V, X, hO⟩ := H6.out.1.ro
            have cv := hO.cells.2.2.2.2.2
            rw [H5.out.2.2.2.2] at cv
            clear hO
            go_simp
            clear cv
            refine hK.out _ _ (HSS.out _ H6.out.2) (fun hHeld => ?_)
            clear hK K
            try simp only [Act.put, List.getElem_toArray, List.getElem_cons_succ, List.getElem_cons_zero, List.setIfInBounds_toArray, List.set_cons_zero, List.set_cons_succ]
            refine wpAnyH_ready (rs := [16]) (by kernel_rfl) (by simp) ?_
            refine AllReadyH.cons rfl (fun K hK => ?_) AllReadyH.nil
            obtain ⟨X, hL⟩ := H6.out.1.ld
            have hX := hL.calls
            rw [H5.out.2.2.2.2] at hX
            have HX := Lib.hid hX
            clear hL hX
            go_simp
            refine HX.out.mono ?_
            rintro e u7 ⟨rfl, hb7⟩
            have H7 := Lib.hid (And.intro (H6.out.1.go hb7) (H6.out.2.trans (hb7.keptS _)))
            clear HX hb7
            try go_wp2_with fail
            refine hK.out _ _ (HSS.out _ H7.out.2) (fun hHeld => ?_)
            clear hK K
            try simp only [Act.put, List.getElem_toArray, List.getElem_cons_succ, List.getElem_cons_zero, List.setIfInBounds_toArray, List.set_cons_zero, List.set_cons_succ]
            refine wpAnyH_take (i := 21) (v := .bool false) rfl (by kernel_rfl) (by kernel_rfl) (by kernel_rfl) (fun _ _ _ h => h) (Or.inl ⟨by kernel_rfl, ?_⟩) (by assumption) ?_
            · intro w hSw; (try dsimp only at hSw)
              go_simp; try simp
            simp only [Act.put, List.getElem_toArray, List.getElem_cons_succ, List.getElem_cons_zero, List.setIfInBounds_toArray, List.set_cons_zero, List.set_cons_succ]
            refine wpAnyH_take (i := 22) (v := .bool false) rfl (by kernel_rfl) (by kernel_rfl) (by kernel_rfl) (fun _ _ _ h => h) (Or.inl ⟨by kernel_rfl, ?_⟩) (by assumption) ?_
            · intro w hSw; (try dsimp only at hSw)
              go_simp
            simp only [Act.put, List.getElem_toArray, List.getElem_cons_succ, List.getElem_cons_zero, List.setIfInBounds_toArray, List.set_cons_zero, List.set_cons_succ]
            refine wpAnyH_done (by kernel_rfl) ?_ _
            go_wp2_with fail
            go_meet
            exact ⟨rfl, rfl, D', H7.out.1, H5.out.2.1, H7.out.2⟩
        ·
          obtain ⟨V, X, hO⟩ := H5.out.1.ro
          have cv := hO.cells.2.2.2.2.1
          rw [H5.out.2.2.2.1] at cv
          clear hO
          go_simp
          clear cv
          refine hK.out _ _ (HSS.out _ H5.out.2.2.1) (fun hHeld => ?_)
          clear hK K
          try simp only [Act.put, List.getElem_toArray, List.getElem_cons_succ, List.getElem_cons_zero, List.setIfInBounds_toArray, List.set_cons_zero, List.set_cons_succ]
          refine wpAnyH_ready (rs := [7]) (by kernel_rfl) (by simp) ?_
          refine AllReadyH.cons rfl (fun K hK => ?_) AllReadyH.nil
          obtain ⟨X, hL⟩ := H5.out.1.ld
          have hX := hL.down
          rw [H5.out.2.2.2.1] at hX
          have HX := Lib.hid hX
          clear hL hX
          go_simp
          refine HX.out.mono ?_
          rintro e u6 ⟨rfl, hb6⟩
          have H6 := Lib.hid (And.intro (H5.out.1.go hb6) (H5.out.2.2.1.trans (hb6.keptS _)))
          clear HX hb6
          try go_wp2_with fail
          refine hK.out _ _ (HSS.out _ H6.out.2) (fun hHeld => ?_)
          clear hK K
          try simp only [Act.put, List.getElem_toArray, List.getElem_cons_succ, List.getElem_cons_zero, List.setIfInBounds_toArray, List.set_cons_zero, List.set_cons_succ]
          refine wpAnyH_take (i := 12) (v := .bool false) rfl (by kernel_rfl) (by kernel_rfl) (by kernel_rfl) (fun _ _ _ h => h) (Or.inl ⟨by kernel_rfl, ?_⟩) (by assumption) ?_
          · intro w hSw; (try dsimp only at hSw)
            go_simp; try simp
          simp only [Act.put, List.getElem_toArray, List.getElem_cons_succ, List.getElem_cons_zero, List.setIfInBounds_toArray, List.set_cons_zero, List.set_cons_succ]
          refine wpAnyH_take (i := 13) (v := .bool false) rfl (by kernel_rfl) (by kernel_rfl) (by kernel_rfl) (fun _ _ _ h => h) (Or.inl ⟨by kernel_rfl, ?_⟩) (by assumption) ?_
          · intro w hSw; (try dsimp only at hSw)
            go_simp
          simp only [Act.put, List.getElem_toArray, List.getElem_cons_succ, List.getElem_cons_zero, List.setIfInBounds_toArray, List.set_cons_zero, List.set_cons_succ]
          refine wpAnyH_take (i := 14) (v := ?_) rfl (by kernel_rfl) (by kernel_rfl) (by kernel_rfl) (fun _ _ _ h => h) (Or.inl ⟨by kernel_rfl, ?_⟩) (by assumption) ?_
          rotate_left
          · intro w hSw; (try dsimp only at hSw); go_simp; try with_reducible rfl
          simp only [Act.put, List.getElem_toArray, List.getElem_cons_succ, List.getElem_cons_zero, List.setIfInBounds_toArray, List.set_cons_zero, List.set_cons_succ]
          refine wpAnyH_take (i := 15) (v := ?_) rfl (by kernel_rfl) (by kernel_rfl) (by kernel_rfl) (fun _ _ _ h => h) (Or.inl ⟨by kernel_rfl, ?_⟩) (by assumption) ?_
          rotate_left
          · intro w hSw; (try dsimp only at hSw); go_simp; try with_reducible rfl
          simp only [Act.put, List.getElem_toArray, List.getElem_cons_succ, List.getElem_cons_zero, List.setIfInBounds_toArray, List.set_cons_zero, List.set_cons_succ]
          refine wpAnyH_take (i := 17) (v := ?_) rfl (by kernel_rfl) (by kernel_rfl) (by kernel_rfl) (fun _ _ _ h => h) (Or.inl ⟨by kernel_rfl, ?_⟩) (by assumption) ?_
          rotate_left
          · intro w hSw; (try dsimp only at hSw); go_simp; try with_reducible rfl
          simp only [Act.put, List.getElem_toArray, List.getElem_cons_succ, List.getElem_cons_zero, List.setIfInBounds_toArray, List.set_cons_zero, List.set_cons_succ]
          refine wpAnyH_take (i := 18) (v := ?_) rfl (by kernel_rfl) (by kernel_rfl) (by kernel_rfl) (fun _ _ _ h => h) (Or.inl ⟨by kernel_rfl, ?_⟩) (by assumption) ?_
          rotate_left
          · intro w hSw; (try dsimp only at hSw); go_simp; try with_reducible rfl
          simp only [Act.put, List.getElem_toArray, List.getElem_cons_succ, List.getElem_cons_zero, List.setIfInBounds_toArray, List.set_cons_zero, List.set_cons_succ]
          refine wpAnyH_take (i := 19) (v := ?_) rfl (by kernel_rfl) (by kernel_rfl) (by kernel_rfl) (fun _ _ _ h => h) (Or.inl ⟨by kernel_rfl, ?_⟩) (by assumption) ?_
          rotate_left
          · intro w hSw; (try dsimp only at hSw); go_simp; try with_reducible rfl
          simp only [Act.put, List.getElem_toArray, List.getElem_cons_succ, List.getElem_cons_zero, List.setIfInBounds_toArray, List.set_cons_zero, List.set_cons_succ]
          refine wpAnyH_ready (rs := [16, 20]) (by kernel_rfl) (by simp) ?_
          refine (AllReadyH.cons rfl (fun K hK => ?_) (AllReadyH.cons rfl (fun K hK => ?_) AllReadyH.nil))
          ·
            obtain ⟨X, hL⟩ := H6.out.1.ld
            have hX := hL.calls
            rw [H5.out.2.2.2.2] at hX
            have HX := Lib.hid hX
            clear hL hX
            go_simp
            refine HX.out.mono ?_
            rintro e u7 ⟨rfl, hb7⟩
            have H7 := Lib.hid (And.intro (H6.out.1.go hb7) (H6.out.2.trans (hb7.keptS _)))
            clear HX hb7
            try go_wp2_with fail
            refine hK.out _ _ (HSS.out _ H7.out.2) (fun hHeld => ?_)
            clear hK K
            try simp only [Act.put, List.getElem_toArray, List.getElem_cons_succ, List.getElem_cons_zero, List.setIfInBounds_toArray, List.set_cons_zero, List.set_cons_succ]
            refine wpAnyH_ready (rs := [20]) (by kernel_rfl) (by simp) ?_
            refine AllReadyH.cons rfl (fun K hK => ?_) AllReadyH.nil
            obtain ⟨V, X, hO⟩ := H7.out.1.ro
            have cv := hO.cells.2.2.2.2.2
            rw [H5.out.2.2.2.2] at cv
            clear hO
            go_simp
            clear cv
            refine hK.out _ _ (HSS.out _ H7.out.2) (fun hHeld => ?_)
            clear hK K
            try simp only [Act.put, List.getElem_toArray, List.getElem_cons_succ, List.getElem_cons_zero, List.setIfInBounds_toArray, List.set_cons_zero, List.set_cons_succ]
            refine wpAnyH_take (i := 21) (v := .bool false) rfl (by kernel_rfl) (by kernel_rfl) (by kernel_rfl) (fun _ _ _ h => h) (Or.inl ⟨by kernel_rfl, ?_⟩) (by assumption) ?_
            · intro w hSw; (try dsimp only at hSw)
              go_simp; try simp
            simp only [Act.put, List.getElem_toArray, List.getElem_cons_succ, List.getElem_cons_zero, List.setIfInBounds_toArray, List.set_cons_zero, List.set_cons_succ]
            refine wpAnyH_take (i := 22) (v := .bool false) rfl (by kernel_rfl) (by kernel_rfl) (by kernel_rfl) (fun _ _ _ h => h) (Or.inl ⟨by kernel_rfl, ?_⟩) (by assumption) ?_
            · intro w hSw; (try dsimp only at hSw)
              go_simp
            simp only [Act.put, List.getElem_toArray, List.getElem_cons_succ, List.getElem_cons_zero, List.setIfInBounds_toArray, List.set_cons_zero, List.set_cons_succ]
            refine wpAnyH_done (by kernel_rfl) ?_ _
            go_wp2_with fail
            go_meet
            exact ⟨rfl, rfl, D', H7.out.1, H5.out.2.1, H7.out.2⟩
          ·
            obtain ⟨V, X, hO⟩ := H6.out.1.ro
            have cv := hO.cells.2.2.2.2.2
            rw [H5.out.2.2.2.2] at cv
            clear hO
            go_simp
            clear cv
            refine hK.out _ _ (HSS.out _ H6.out.2) (fun hHeld => ?_)
            clear hK K
            try simp only [Act.put, List.getElem_toArray, List.getElem_cons_succ, List.getElem_cons_zero, List.setIfInBounds_toArray, List.set_cons_zero, List.set_cons_succ]
            refine wpAnyH_ready (rs := [16]) (by kernel_rfl) (by simp) ?_
            refine AllReadyH.cons rfl (fun K hK => ?_) AllReadyH.nil
            obtain ⟨X, hL⟩ := H6.out.1.ld
            have hX := hL.calls
            rw [H5.out.2.2.2.2] at hX
            have HX := Lib.hid hX
            clear hL hX
            go_simp
            refine HX.out.mono ?_
            rintro e u7 ⟨rfl, hb7⟩
            have H7 := Lib.hid (And.intro (H6.out.1.go hb7) (H6.out.2.trans (hb7.keptS _)))
            clear HX hb7
            try go_wp2_with fail
            refine hK.out _ _ (HSS.out _ H7.out.2) (fun hHeld => ?_)
            clear hK K
            try simp only [Act.put, List.getElem_toArray, List.getElem_cons_succ, List.getElem_cons_zero, List.setIfInBounds_toArray, List.set_cons_zero, List.set_cons_succ]
            refine wpAnyH_take (i := 21) (v := .bool false) rfl (by kernel_rfl) (by kernel_rfl) (by kernel_rfl) (fun _ _ _ h => h) (Or.inl ⟨by kernel_rfl, ?_⟩) (by assumption) ?_
            · intro w hSw; (try dsimp only at hSw)
              go_simp; try simp
            simp only [Act.put, List.getElem_toArray, List.getElem_cons_succ, List.getElem_cons_zero, List.setIfInBounds_toArray, List.set_cons_zero, List.set_cons_succ]
            refine wpAnyH_take (i := 22) (v := .bool false) rfl (by kernel_rfl) (by kernel_rfl) (by kernel_rfl) (fun _ _ _ h => h) (Or.inl ⟨by kernel_rfl, ?_⟩) (by assumption) ?_
            · intro w hSw; (try dsimp only at hSw)
              go_simp
            simp only [Act.put, List.getElem_toArray, List.getElem_cons_succ, List.getElem_cons_zero, List.setIfInBounds_toArray, List.set_cons_zero, List.set_cons_succ]
            refine wpAnyH_done (by kernel_rfl) ?_ _
            go_wp2_with fail
            go_meet
            exact ⟨rfl, rfl, D', H7.out.1, H5.out.2.1, H7.out.2⟩
      obtain ⟨rfl, rfl, D', hP, hnx, hkG⟩ := hcut
      obtain ⟨wo, rfl⟩ : ∃ wo : World, wo = wc := ⟨_, rfl⟩
      have H5 := Lib.hid (And.intro hP (And.intro hnx hkG))
      obtain ⟨X, hL⟩ := hP.ld
      have HX := Lib.hid hL.cached
      clear hP hnx hkG hL
      go_wp2_with fail
      refine HX.out.mono ?_
      rintro e uc ⟨AC, cC, rfl, hoC, hbC⟩
      have HC := Lib.hid (And.intro hoC (And.intro (H5.out.1.go hbC) (H5.out.2.2.trans (hbC.keptS _))))
      obtain ⟨V, X, hO⟩ := HC.out.2.1.ro
      obtain ⟨RA, rc, hV, -⟩ := hO.slice
      have c2 := hO.cells.2.2.1
      obtain ⟨L, hL⟩ : ∃ L, D'.C.length = L := ⟨_, rfl⟩
      rw [hV, hL] at c2
      have hL256 := hO.ok.m
      rw [hL] at hL256 ⊢
      have HL := Lib.hid (And.intro hL hL256)
      clear hoC hbC hO hV hL hL256 HX
      go_wp2_with fail
      go_loopw [13, 84] (fun _ iv wr => ∃ k : Nat, k ≤ L ∧ iv = .int .i64 k ∧ Below uc.heap.size uc wr) (fun _ iv _ => L - (intOf iv).toNat)
      case atStart => exact ⟨0, by omega, rfl, Below.refl _ _⟩
      case round =>
        obtain ⟨k, hk, rfl, hb⟩ := hrel
        clear c2
        obtain ⟨V, X, hO⟩ := (HC.out.2.1.go hb).ro
        have c2 := hO.cells.2.2.1
        by_cases hlt : k < L
        · have hI : (k : Int) < (L : Int) := by omega
          have hi0 : (0 : Int) ≤ (k : Int) := by omega
          obtain ⟨g2, rc', A', c', hV', ce1, -, -, -, -⟩ := hO.ent k (by rw [HL.out.1]; exact hlt)
          rw [hV', HL.out.1] at c2
          obtain ⟨x, hx⟩ : ∃ x : Int, (((D'.C.getD k default).1 : Nat) : Int) = x := ⟨_, rfl⟩
          rw [hx] at ce1
          have hoC := own_below HC.out.1 hb
          rw [HL.out.1] at hoC
          obtain ⟨gC, hgC⟩ := own_some hoC (by omega)
          have cc1 : wr.cell? ⟨gC, k, none⟩ = some (.int .i64 x) := by
            rw [hgC] at hoC
            have hkC : k < D'.C.length := by rw [HL.out.1]; exact hlt
            rw [hoC.cellAt k (by omega), nv, ← hx]
            simp [List.getD_eq_getElem?_getD, hkC]
          have HS := Lib.hid (show wr.drew.cell? ⟨gC, k, none⟩ = some (.int .i64 x) ∧ wr.drew.cell? ⟨r, 2, none⟩ = some (.slice (some ⟨g2, 0, none⟩) L rc') ∧ wr.drew.cell? ⟨g2, k * 2, none⟩ = some (.int .i64 x) from ⟨cc1, c2, ce1⟩)
          have HB := Lib.hid (And.intro hlt (bnext hb (Below.refl wr.heap.size wr).drew))
          have X2 := Lib.hid (wrap64_in' ((k : Int) + 1) (by have := HL.out.2; omega))
          clear hk hb hO hlt hV' hx hoC cc1 c2 ce1
          subst hgC
          go_wp2_with fail
          refine wp_region_held_drew (S := (fun Y => Y.cell? ⟨gC, k, none⟩ = some (.int .i64 x) ∧ Y.cell? ⟨r, 2, none⟩ = some (.slice (some ⟨g2, 0, none⟩) L rc') ∧ Y.cell? ⟨g2, k * 2, none⟩ = some (.int .i64 x))) (by kernel_rfl) HS.out (fun hHeld => ?_)
          refine wpAnyH_take (i := 0) (v := ?_) rfl (by kernel_rfl) (by kernel_rfl) (by kernel_rfl) (fun _ _ _ h => h) (Or.inl ⟨by kernel_rfl, ?_⟩) (by assumption) ?_
          rotate_left
          · intro w hSw; (try dsimp only at hSw); go_simp; try with_reducible rfl
          simp only [Act.put, List.getElem_toArray, List.getElem_cons_succ, List.getElem_cons_zero, List.setIfInBounds_toArray, List.set_cons_zero, List.set_cons_succ]
          refine wpAnyH_take (i := 1) (v := ?_) rfl (by kernel_rfl) (by kernel_rfl) (by kernel_rfl) (fun _ _ _ h => h) (Or.inl ⟨by kernel_rfl, ?_⟩) (by assumption) ?_
          rotate_left
          · intro w hSw; (try dsimp only at hSw); go_simp; try with_reducible rfl
          simp only [Act.put, List.getElem_toArray, List.getElem_cons_succ, List.getElem_cons_zero, List.setIfInBounds_toArray, List.set_cons_zero, List.set_cons_succ]
          refine wpAnyH_take (i := 2) (v := ?_) rfl (by kernel_rfl) (by kernel_rfl) (by kernel_rfl) (fun _ _ _ h => h) (Or.inl ⟨by kernel_rfl, ?_⟩) (by assumption) ?_
          rotate_left
          · intro w hSw; (try dsimp only at hSw); go_simp; try with_reducible rfl
          simp only [Act.put, List.getElem_toArray, List.getElem_cons_succ, List.getElem_cons_zero, List.setIfInBounds_toArray, List.set_cons_zero, List.set_cons_succ]
          refine wpAnyH_take (i := 3) (v := ?_) rfl (by kernel_rfl) (by kernel_rfl) (by kernel_rfl) (fun _ _ _ h => h) (Or.inl ⟨by kernel_rfl, ?_⟩) (by assumption) ?_
          rotate_left
          · intro w hSw; (try dsimp only at hSw); go_simp; try with_reducible rfl
          simp only [Act.put, List.getElem_toArray, List.getElem_cons_succ, List.getElem_cons_zero, List.setIfInBounds_toArray, List.set_cons_zero, List.set_cons_succ]
          refine wpAnyH_take (i := 4) (v := ?_) rfl (by kernel_rfl) (by kernel_rfl) (by kernel_rfl) (fun _ _ _ h => h) (Or.inl ⟨by kernel_rfl, ?_⟩) (by assumption) ?_
          rotate_left
          · intro w hSw; (try dsimp only at hSw); go_simp; try with_reducible rfl
          simp only [Act.put, List.getElem_toArray, List.getElem_cons_succ, List.getElem_cons_zero, List.setIfInBounds_toArray, List.set_cons_zero, List.set_cons_succ]
          refine wpAnyH_take (i := 5) (v := ?_) rfl (by kernel_rfl) (by kernel_rfl) (by kernel_rfl) (fun _ _ _ h => h) (Or.inl ⟨by kernel_rfl, ?_⟩) (by assumption) ?_
          rotate_left
          · intro w hSw; (try dsimp only at hSw); go_simp; try with_reducible rfl
          simp only [Act.put, List.getElem_toArray, List.getElem_cons_succ, List.getElem_cons_zero, List.setIfInBounds_toArray, List.set_cons_zero, List.set_cons_succ]
          refine wpAnyH_take (i := 6) (v := ?_) rfl (by kernel_rfl) (by kernel_rfl) (by kernel_rfl) (fun _ _ _ h => h) (Or.inl ⟨by kernel_rfl, ?_⟩) (by assumption) ?_
          rotate_left
          · intro w hSw; (try dsimp only at hSw); go_simp; try with_reducible rfl
          simp only [Act.put, List.getElem_toArray, List.getElem_cons_succ, List.getElem_cons_zero, List.setIfInBounds_toArray, List.set_cons_zero, List.set_cons_succ]
          refine wpAnyH_take (i := 7) (v := ?_) rfl (by kernel_rfl) (by kernel_rfl) (by kernel_rfl) (fun _ _ _ h => h) (Or.inl ⟨by kernel_rfl, ?_⟩) (by assumption) ?_
          rotate_left
          · intro w hSw; (try dsimp only at hSw); go_simp; try with_reducible rfl
          simp only [Act.put, List.getElem_toArray, List.getElem_cons_succ, List.getElem_cons_zero, List.setIfInBounds_toArray, List.set_cons_zero, List.set_cons_succ]
          refine wpAnyH_take (i := 8) (v := ?_) rfl (by kernel_rfl) (by kernel_rfl) (by kernel_rfl) (fun _ _ _ h => h) (Or.inl ⟨by kernel_rfl, ?_⟩) (by assumption) ?_
          rotate_left
          · intro w hSw; (try dsimp only at hSw); go_simp; try with_reducible rfl
          simp only [Act.put, List.getElem_toArray, List.getElem_cons_succ, List.getElem_cons_zero, List.setIfInBounds_toArray, List.set_cons_zero, List.set_cons_succ]
          refine wpAnyH_take (i := 9) (v := ?_) rfl (by kernel_rfl) (by kernel_rfl) (by kernel_rfl) (fun _ _ _ h => h) (Or.inl ⟨by kernel_rfl, ?_⟩) (by assumption) ?_
          rotate_left
          · intro w hSw; (try dsimp only at hSw); go_simp; try with_reducible rfl
          simp only [Act.put, List.getElem_toArray, List.getElem_cons_succ, List.getElem_cons_zero, List.setIfInBounds_toArray, List.set_cons_zero, List.set_cons_succ]
          refine wpAnyH_take (i := 10) (v := ?_) rfl (by kernel_rfl) (by kernel_rfl) (by kernel_rfl) (fun _ _ _ h => h) (Or.inl ⟨by kernel_rfl, ?_⟩) (by assumption) ?_
          rotate_left
          · intro w hSw; (try dsimp only at hSw); go_simp; try with_reducible rfl
          simp only [Act.put, List.getElem_toArray, List.getElem_cons_succ, List.getElem_cons_zero, List.setIfInBounds_toArray, List.set_cons_zero, List.set_cons_succ]
          refine wpAnyH_take (i := 11) (v := ?_) rfl (by kernel_rfl) (by kernel_rfl) (by kernel_rfl) (fun _ _ _ h => h) (Or.inl ⟨by kernel_rfl, ?_⟩) (by assumption) ?_
          rotate_left
          · intro w hSw; (try dsimp only at hSw); go_simp; try with_reducible rfl
          simp only [Act.put, List.getElem_toArray, List.getElem_cons_succ, List.getElem_cons_zero, List.setIfInBounds_toArray, List.set_cons_zero, List.set_cons_succ]
          refine wpAnyH_take (i := 12) (v := .bool false) rfl (by kernel_rfl) (by kernel_rfl) (by kernel_rfl) (fun _ _ _ h => h) (Or.inl ⟨by kernel_rfl, ?_⟩) (by assumption) ?_
          · intro w hSw; (try dsimp only at hSw)
            go_simp; try simp
          simp only [Act.put, List.getElem_toArray, List.getElem_cons_succ, List.getElem_cons_zero, List.setIfInBounds_toArray, List.set_cons_zero, List.set_cons_succ]
          refine wpAnyH_done (by kernel_rfl) ?_ _
          go_wp2_with fail
          try rw [X2.out]
          exact ⟨⟨k + 1, HB.out.1, by push_cast; rfl, HB.out.2⟩, by have := HB.out.1; simp [intOf]; omega⟩
        · obtain rfl : k = L := by omega
          have HB := Lib.hid (HC.out.2.1.go hb)
          have HK := Lib.hid (HC.out.2.2.trans (hb.keptS _))
          clear hk hb hO hlt c2
          obtain ⟨X, hLd⟩ := HB.out.ld
          have hSl : D'.S.length = ns := by rw [H5.out.2.1.1]; exact HP1.out.2.1
          have q1 := (HSS.out _ HK.out).2.1
          have X1 := Lib.hid (wrap64_in' ((i : Int) + 1) (by have := HP1.out.2.2.2.2.2.2.2.2; have := HG.out.1; omega))
          have HE := Lib.hid (show ∀ u, PL w d sb ns r mb D' D' (256 * i + 256) (fun b => (w3.heap.size ≤ b ∧ b < w4.heap.size) ∨ b = bx) u → Kept (fun b => (w3.heap.size ≤ b ∧ b < w4.heap.size) ∨ b = bx) W1 u → ∃ D : Dv, PL w d sb ns r mb D D (256 * (i + 1)) (fun b => w3.heap.size ≤ b ∧ b < w4.heap.size) u ∧ D.S.length = ns ∧ 0 ≤ D.k ∧ D.k ≤ ((i + 1 : Nat) : Int) ∧ DevO u w3.heap.size d' sb' sc' V' (newV ns) from fun u hu hku =>
            ⟨D', (hu.less (fun b hb => .inl hb)).mono (by omega), hSl, by have := HP1.out.2.2.1; have := H5.out.2.1.2.1; omega, by have := HP1.out.2.2.2.1; have := H5.out.2.1.2.2; push_cast; omega, HP1.out.2.2.2.2.1.keptG (G := fun b => (w3.heap.size ≤ b ∧ b < w4.heap.size) ∨ b = bx) (N := w4.heap.size) (fun b h1 h2 => .inl ⟨h1, h2⟩) HD.out.2 hku⟩)
          by_cases hin : 0 ≤ z.N ∧ z.N < (ns : Int)
          · obtain ⟨nz, hnz⟩ : ∃ nz : Nat, z.N = nz := ⟨z.N.toNat, by omega⟩
            have hnl : nz < D'.S.length := by omega
            have hX := hLd.safe nz hnl
            obtain ⟨s, hs⟩ : ∃ s, D'.S.getD nz [] = s := ⟨_, rfl⟩
            have hs128 : s.length = 128 := by
              rw [← hs, List.getD_eq_getElem?_getD, List.getElem?_eq_getElem hnl]
              exact hLd.ok.s _ (List.getElem_mem hnl)
            rw [hs] at hX
            rw [← hnz] at hX
            have HX := Lib.hid hX
            have HN := Lib.hid (And.intro hnz (And.intro hnl (And.intro hs hs128)))
            have k1 : decide (z.N < 0) = false := decide_eq_false (by omega)
            have k2 : decide (z.N ≥ (ns : Int)) = false := decide_eq_false (by omega)
            clear hLd hSl hX hin hnz hnl hs hs128
            go_wp2_with fail
            refine HX.out.mono ?_
            rintro e us ⟨AS, cS, rfl, hoS, hbs⟩
            have HB2 := Lib.hid (And.intro (HB.out.go hbs) (HK.out.trans (hbs.keptS _)))
            have q1 := (HSS.out _ HB2.out.2).2.1
            have hASn : AS ≠ none := fun e => by
              obtain ⟨g, hg⟩ := own_some hoS (by omega)
              rw [e] at hg; cases hg
            have hRS := (rdB_own (own_below hoS (Below.refl us.heap.size us).drew)).1
            have s1 := run_string (P := Try.prog) (src := 23) (dst := 9) (e := 5) hRS cS (fun e => absurd e hASn) Try.underlying23 Try.underlying5 Try.underlying9
            rw [HN.out.2.2.2] at s1
            have HSB := Lib.hid (And.intro q1 (And.intro s1 (And.intro hRS hASn)))
            clear HX hbs hASn hRS s1 hoS
            go_wp2_with fail
            refine wp_region_held_drew (S := (fun Y => Y.cell? ⟨bx, 1, none⟩ = some (.int .i64 z.N) ∧ (convert 23 9 (.slice AS 128 cS)).run Try.prog Y = .ok (.string ⟨s.toArray⟩) Y)) (by kernel_rfl) ⟨HSB.out.1, HSB.out.2.1⟩ (fun hHeld => ?_)
            refine wpAnyH_take (i := 0) (v := ?_) rfl (by kernel_rfl) (by kernel_rfl) (by kernel_rfl) (fun _ _ _ h => h) (Or.inl ⟨by kernel_rfl, ?_⟩) (by assumption) ?_
            rotate_left
            · intro w hSw; (try dsimp only at hSw); go_simp; try with_reducible rfl
            simp only [Act.put, List.getElem_toArray, List.getElem_cons_succ, List.getElem_cons_zero, List.setIfInBounds_toArray, List.set_cons_zero, List.set_cons_succ]
            refine wpAnyH_take (i := 1) (v := .bool false) rfl (by kernel_rfl) (by kernel_rfl) (by kernel_rfl) (fun _ _ _ h => h) (Or.inl ⟨by kernel_rfl, ?_⟩) (by assumption) ?_
            · intro w hSw; (try dsimp only at hSw)
              go_simp
            simp only [Act.put, List.getElem_toArray, List.getElem_cons_succ, List.getElem_cons_zero, List.setIfInBounds_toArray, List.set_cons_zero, List.set_cons_succ]
            refine wpAnyH_take (i := 2) (v := ?_) rfl (by kernel_rfl) (by kernel_rfl) (by kernel_rfl) (fun _ _ _ h => h) (Or.inl ⟨by kernel_rfl, ?_⟩) (by assumption) ?_
            rotate_left
            · intro w hSw; (try dsimp only at hSw); go_simp; try with_reducible rfl
            simp only [Act.put, List.getElem_toArray, List.getElem_cons_succ, List.getElem_cons_zero, List.setIfInBounds_toArray, List.set_cons_zero, List.set_cons_succ]
            refine wpAnyH_take (i := 3) (v := ?_) rfl (by kernel_rfl) (by kernel_rfl) (by kernel_rfl) (fun _ _ _ h => h) (Or.inl ⟨by kernel_rfl, ?_⟩) (by assumption) ?_
            rotate_left
            · intro w hSw; (try dsimp only at hSw); go_simp; try with_reducible rfl
            simp only [Act.put, List.getElem_toArray, List.getElem_cons_succ, List.getElem_cons_zero, List.setIfInBounds_toArray, List.set_cons_zero, List.set_cons_succ]
            refine wpAnyH_take (i := 4) (v := ?_) rfl (by kernel_rfl) (by kernel_rfl) (by kernel_rfl) (fun _ _ _ h => h) (Or.inl ⟨by kernel_rfl, ?_⟩) (by assumption) ?_
            rotate_left
            · intro w hSw; (try dsimp only at hSw); go_simp; try with_reducible rfl
            simp only [Act.put, List.getElem_toArray, List.getElem_cons_succ, List.getElem_cons_zero, List.setIfInBounds_toArray, List.set_cons_zero, List.set_cons_succ]
            refine wpAnyH_take (i := 5) (v := ?_) rfl (by kernel_rfl) (by kernel_rfl) (by kernel_rfl) (fun _ _ _ h => h) (Or.inl ⟨by kernel_rfl, ?_⟩) (by assumption) ?_
            rotate_left
            · intro w hSw; (try dsimp only at hSw); go_simp; try with_reducible rfl
            simp only [Act.put, List.getElem_toArray, List.getElem_cons_succ, List.getElem_cons_zero, List.setIfInBounds_toArray, List.set_cons_zero, List.set_cons_succ]
            refine wpAnyH_take (i := 6) (v := ?_) rfl (by kernel_rfl) (by kernel_rfl) (by kernel_rfl) (fun _ _ _ h => h) (Or.inl ⟨by kernel_rfl, ?_⟩) (by assumption) ?_
            rotate_left
            · intro w hSw; (try dsimp only at hSw); go_simp; try with_reducible rfl
            simp only [Act.put, List.getElem_toArray, List.getElem_cons_succ, List.getElem_cons_zero, List.setIfInBounds_toArray, List.set_cons_zero, List.set_cons_succ]
            refine wpAnyH_take (i := 7) (v := ?_) rfl (by kernel_rfl) (by kernel_rfl) (by kernel_rfl) (fun _ _ _ h => h) (Or.inl ⟨by kernel_rfl, ?_⟩) (by assumption) ?_
            rotate_left
            · intro w hSw; (try dsimp only at hSw); go_simp; try with_reducible rfl
            simp only [Act.put, List.getElem_toArray, List.getElem_cons_succ, List.getElem_cons_zero, List.setIfInBounds_toArray, List.set_cons_zero, List.set_cons_succ]
            refine wpAnyH_ready (rs := [8]) (by kernel_rfl) (by simp) ?_
            refine AllReadyH.cons rfl (fun K hK => ?_) AllReadyH.nil
            obtain ⟨V, X, hO⟩ := HB2.out.1.ro
            have hX := refAt_calls (hO.go (Below.refl us.heap.size us).drew) nz HN.out.2.1
            rw [HN.out.2.2.1, ← HN.out.1] at hX
            have HX := Lib.hid hX
            clear hO hX
            go_simp
            refine HX.out.mono ?_
            rintro e ua ⟨AA, cA, rfl, hoA, hba⟩
            have hAn : AA ≠ none := fun e => by
              obtain ⟨g, hg⟩ := own_some hoA (by omega)
              rw [e] at hg; cases hg
            have s2 := run_string (P := Try.prog) (src := 23) (dst := 9) (e := 5) (rdB_own hoA).1 cA (fun e => absurd e hAn) Try.underlying23 Try.underlying5 Try.underlying9
            have s1 := run_string (P := Try.prog) (src := 23) (dst := 9) (e := 5) (HSB.out.2.2.1.go hba) cS (fun e => absurd e HSB.out.2.2.2) Try.underlying23 Try.underlying5 Try.underlying9
            rw [HN.out.2.2.2] at s1 s2
            have hbd := bnext (Below.refl us.heap.size us).drew hba
            have HB3 := Lib.hid (And.intro (HB2.out.1.go hbd) (HB2.out.2.trans (hbd.keptS _)))
            have HS2 := Lib.hid (And.intro s2 (And.intro (HSS.out _ HB3.out.2).2.1 s1))
            clear HX hoA hba hAn s1 s2 hbd
            try go_wp2_with fail
            refine hK.out _ _ HS2.out.2 (fun hHeld => ?_)
            clear hK K
            try simp only [Act.put, List.getElem_toArray, List.getElem_cons_succ, List.getElem_cons_zero, List.setIfInBounds_toArray, List.set_cons_zero, List.set_cons_succ]
            refine wpAnyH_ready (rs := [9]) (by kernel_rfl) (by simp) ?_
            refine AllReadyH.cons rfl (fun K hK => ?_) AllReadyH.nil
            have s2 := HS2.out.1
            go_simp
            clear s2
            refine hK.out _ _ HS2.out.2 (fun hHeld => ?_)
            clear hK K
            try simp only [Act.put, List.getElem_toArray, List.getElem_cons_succ, List.getElem_cons_zero, List.setIfInBounds_toArray, List.set_cons_zero, List.set_cons_succ]
            refine wpAnyH_take (i := 10) (v := .bool false) rfl (by kernel_rfl) (by kernel_rfl) (by kernel_rfl) (fun _ _ _ h => h) (Or.inl ⟨by kernel_rfl, ?_⟩) (by assumption) ?_
            · intro w hSw; (try dsimp only at hSw)
              go_simp; try simp
            simp only [Act.put, List.getElem_toArray, List.getElem_cons_succ, List.getElem_cons_zero, List.setIfInBounds_toArray, List.set_cons_zero, List.set_cons_succ]
            refine wpAnyH_take (i := 11) (v := .bool false) rfl (by kernel_rfl) (by kernel_rfl) (by kernel_rfl) (fun _ _ _ h => h) (Or.inl ⟨by kernel_rfl, ?_⟩) (by assumption) ?_
            · intro w hSw; (try dsimp only at hSw)
              go_simp
            simp only [Act.put, List.getElem_toArray, List.getElem_cons_succ, List.getElem_cons_zero, List.setIfInBounds_toArray, List.set_cons_zero, List.set_cons_succ]
            refine wpAnyH_done (by kernel_rfl) ?_ _
            go_wp2_with fail
            try rw [X1.out]
            exact ⟨⟨i + 1, HP1.out.2.2.2.2.2.2.2.2, by push_cast; rfl, HE.out ua HB3.out.1 HB3.out.2⟩, by have := HP1.out.2.2.2.2.2.2.2.2; simp [intOf]; omega⟩
          · have HX := Lib.hid (hLd.safeNo z.N (by rw [hSl]; omega))
            clear hLd hSl
            go_wp2_with fail
            refine HX.out.mono ?_
            rintro e us ⟨rfl, hbs⟩
            have HB2 := Lib.hid (And.intro (HB.out.go hbs) (HK.out.trans (hbs.keptS _)))
            have q1 := (HSS.out _ HB2.out.2).2.1
            clear HX hbs
            by_cases h0 : z.N < 0
            · have k1 : decide (z.N < 0) = true := decide_eq_true h0
              clear hin h0
              go_wp2_with fail
              try rw [X1.out]
              exact ⟨⟨i + 1, HP1.out.2.2.2.2.2.2.2.2, by push_cast; rfl, HE.out us HB2.out.1 HB2.out.2⟩, by have := HP1.out.2.2.2.2.2.2.2.2; simp [intOf]; omega⟩
            · have k1 : decide (z.N < 0) = false := decide_eq_false h0
              have k2 : decide (z.N ≥ (ns : Int)) = true := decide_eq_true (by omega)
              clear hin h0
              go_wp2_with fail
              try rw [X1.out]
              exact ⟨⟨i + 1, HP1.out.2.2.2.2.2.2.2.2, by push_cast; rfl, HE.out us HB2.out.1 HB2.out.2⟩, by have := HP1.out.2.2.2.2.2.2.2.2; simp [intOf]; omega⟩
    · obtain rfl : i = n := by omega
      have HP := Lib.hid hP
      have HDo := Lib.hid hD
      obtain ⟨X, hL⟩ := hP.ld
      have hX := hL.len
      rw [hSl] at hX
      have HX := Lib.hid hX
      have HBe := Lib.hid hP.below
      clear hi hP hSl hk0 hki hD hlt hL hX
      go_wp2_with fail
      refine HX.out.mono ?_
      rintro e y1 ⟨rfl, hb1⟩
      have HDo1 := Lib.hid (HDo.out.go hb1)
      have HBe1 := Lib.hid (HBe.out.trans (hb1.mono HBe.out.size))
      have HX := Lib.hid (dCalls_dev y1 _ d' sb' sc' V' _ HDo1.out)
      clear hb1
      go_wp2_with fail
      refine HX.out.mono ?_
      rintro e y2 ⟨rfl, hb2⟩
      have HDo2 := Lib.hid (HDo1.out.go hb2)
      have HBe2 := Lib.hid (HBe1.out.trans (hb2.mono HBe1.out.size))
      have HX := Lib.hid (dDown_dev y2 _ d' sb' sc' V' _ HDo2.out)
      clear hb2
      have kz : (newV ns).k = 0 := rfl
      have kd : (newV ns).dn = false := rfl
      go_wp2_with fail
      refine HX.out.mono ?_
      rintro e y3 ⟨rfl, hb3⟩
      have HDo3 := Lib.hid (HDo2.out.go hb3)
      have HBe3 := Lib.hid (HBe2.out.trans (hb3.mono HBe2.out.size))
      have HX := Lib.hid (dCached_calls y3 _ d' sb' sc' V' _ HDo3.out)
      clear hb3
      go_wp2_with fail
      refine HX.out.mono ?_
      rintro e y4 ⟨A4, c4, rfl, -, hb4⟩
      have HBe4 := Lib.hid (HBe3.out.trans (hb4.mono HBe3.out.size))
      have kl : (newV ns).C.length = 0 := rfl
      clear hb4
      go_wp2_with fail
      go_ret
      exact ⟨rfl, HBe4.out⟩
end Go.Proofs.Ytpleaicpkpjkjaa
