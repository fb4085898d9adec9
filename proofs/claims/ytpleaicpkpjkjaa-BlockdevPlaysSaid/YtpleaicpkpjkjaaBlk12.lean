/-
  A device of sectors: Flush, Plan, Pull, and what only reads it, at a device that is whole. Conditions stand at each theorem.
-/
import Derived.Test.YtpleaicpkpjkjaaBlk11
import Derived.Test.YtpleaicpkpjkjaaBlk4
namespace Go.Proofs.Ytpleaicpkpjkjaa
open Go Go.RowKit Go.Kw
set_option linter.unusedVariables false
set_option linter.unusedSimpArgs false

theorem flush1_calls (w : World) : Calls Try.prog 31 #[] w fun e W => (∃ u, e = .returned u) ∧ W = w := by
  go_enter Try.func31, Try.ntmps31
  go_wp2_with fail
  go_end0
  exact ⟨⟨_, rfl⟩, rfl⟩
section
variable {w w4 w5 w' : World} {B d sb sc : Nat} {V : Value} {D D' : Dv}
/-- A flush, seen from the device. -/
theorem dev_flush (hD : DevO w B d sb sc V D) (hb : Below w.heap.size w w4) (h5 : Kept (fun b => b ≠ d) w4 w5) (hok : DvOk D') (hS : D'.S.length = D.S.length) (hC : D'.C = [])
    (hP : FlB w5 B d sb sc D.S.length D'.S D'.p D'.dn D'.k w') : DevP w B d sb sc V D' w' := by
  obtain ⟨hd, ho, hk⟩ := hP
  refine ⟨.slice none 0 0, ⟨hok, ⟨none, 0, by rw [hC]; rfl, by rw [hS, hC]; exact hd⟩, by rw [hS]; exact ho, by rw [hC]; exact World.ownsRow_nil _ _ _ _, hD.ds, by simp [Value.ownBlock], by simp [Value.ownBlock], hD.bd⟩, ?_, .inr (.inl rfl)⟩
  exact ((hb.keptS (Ft d sb V)).trans (h5.mono (fun k _ hk => hk.1))).trans (hk.mono (fun k _ hk => ⟨hk.1, hk.2.1⟩))
/-- counted, at Flush's closures. -/
theorem cnt_flush (hD : DevO w B d sb sc V D) (hk : 0 ≤ D.k ∧ D.k < 4611686018427387904) (hb : Below w.heap.size w w4) (b0 : Nat) (h0 : w4.cell? ⟨b0, 0, none⟩ = some (.pointer (some ⟨d, 0, none⟩))) (n0 : Ft d sb V b0) :
    Calls Try.prog 30 #[.pointer (some ⟨d, 0, none⟩), .func (.func 31) #[] #[], .func (.func 32) #[] #[.pointer (some ⟨b0, 0, none⟩)]] w4
      fun e w' => e = .returned (.int .i64 (cntV D D { D with S := flS D.C D.S D.C.length, C := [] }).1) ∧ DevP w B d sb sc V (cntV D D { D with S := flS D.C D.S D.C.length, C := [] }).2 w' := by
  have hD4 := hD.go hb
  obtain ⟨CA, cc, e, hd⟩ := hD4.box
  have k4 := but_cells w4 d 4 (.int .i64 (D.k + 1))
  by_cases hp : D.p = 1
  · have ec : cntV D D { D with S := flS D.C D.S D.C.length, C := [] } = (120, { D with dn := true, p := 0, k := D.k + 1 }) := if_pos hp
    rw [ec]
    refine (cntF_last w4 d _ _ _ _ _ _ _ _ _ hd hk hD.ok.p _ (fun W => W = w4.setCell ⟨d, 4, none⟩ (.int .i64 (D.k + 1))) hp (flush1_calls _) (fun W e => ⟨_, _, _, e ▸ hd.set4 _⟩)).mono ?_
    rintro e' w' ⟨rfl, W, rfl, rfl⟩
    refine ⟨rfl, ?_⟩
    exact ((DevP.refl hD).next hb).small (.inr trivial) ⟨hD.ok.s, hD.ok.c, hD.ok.m, hD.ok.n, by simp⟩ rfl rfl (k4.trans ((but_cells _ _ _ _).trans (but_cells _ _ _ _))) (fun A c CA cc h => ((h.set4 _).set3 true).set2 0)
  · have ec : cntV D D { D with S := flS D.C D.S D.C.length, C := [] } = (0, { D with S := flS D.C D.S D.C.length, C := [], p := planN D.p, k := D.k + 1 }) := if_neg hp
    rw [ec]
    have k5 := k4.trans (but_cells _ d 2 (.int .i64 (planN D.p)))
    refine (cntF_goes w4 d _ _ _ _ _ _ _ _ _ hd hk hD.ok.p _ (fun W => FlB ((w4.setCell ⟨d, 4, none⟩ (.int .i64 (D.k + 1))).setCell ⟨d, 2, none⟩ (.int .i64 (planN D.p))) B d sb sc D.S.length (flS D.C D.S D.C.length) (planN D.p) D.dn (D.k + 1) W) hp ?_).mono ?_
    · refine flush2_calls _ B b0 d sb D.S.length sc CA cc _ _ _ D.S D.C ((hd.set4 _).set2 _) ?_ ?_ rfl hD.ok.s hD.ok.c hD.ok.m hD.ok.n.2 ?_ n0.2.1 hD.ds (by rw [← e]; exact hD.sv)
      · exact own_set_other (own_set_other hD4.saf d 4 (by simp [Value.ownBlock]; exact fun e => hD.ds e.symm) _) d 2 (by simp [Value.ownBlock]; exact fun e => hD.ds e.symm) _
      · rw [← e]; exact own_set_other (own_set_other hD4.cac d 4 hD.dv _) d 2 hD.dv _
      · exact (World.cell?_of_block (a := ⟨b0, 0, none⟩) (k5.block b0 (block_lt h0) n0.1)).trans h0
    · rintro e' w' ⟨rfl, hP⟩
      refine ⟨rfl, dev_flush (D' := { D with S := flS D.C D.S D.C.length, C := [], p := planN D.p, k := D.k + 1 }) hD hb k5 ⟨flS_128 (fun x hx => (hD.ok.c x hx).2) hD.ok.s _ (Nat.le_refl _), by simp, by simp, by rw [flS_length]; exact hD.ok.n, ?_⟩ (flS_length _ _ _) rfl hP⟩
      have := hD.ok.p
      simp only [planN]; split <;> omega
end
section
variable (w : World) (B d sb sc : Nat) (V : Value) (D : Dv) (hD : DevO w B d sb sc V D)
include hD
theorem dn0 : 0 < D.S.length := hD.ok.n.1
set_option maxHeartbeats 8000000 in
theorem dFlush_calls (hk : 0 ≤ D.k ∧ D.k < 4611686018427387904) :
    Calls Try.prog 12 #[.pointer (some ⟨d, 0, none⟩)] w fun e w' => e = .returned (.int .i64 (flushV D).1) ∧ DevP w B d sb sc V (flushV D).2 w' := by
  have hN0 : ¬ D.S.length = 0 := by have := hD.ok.n; omega
  have hb0 := bstep w (.cells #[.pointer (some ⟨d, 0, none⟩)] 28)
  have hU := dup_dev w B d sb sc V D hD 0 _ hb0
  have HB := Lib.hid hb0
  have HD := Lib.hid hD
  cases hdn : D.dn with
  | true =>
    have ep : flushV D = (120, D) := by unfold flushV; exact if_pos hdn
    rw [ep]
    rw [show upE D.S.length D.dn 0 = 120 by unfold upE; rw [if_neg hN0, if_pos hdn]] at hU
    have HU := Lib.hid hU
    clear hU hb0 hD hk hN0 ep hdn
    go_enter Try.func12, Try.ntmps12
    go_wp2_with fail
    refine HU.out.mono ?_
    rintro e w2 ⟨rfl, hb2⟩
    have HB2 := Lib.hid (bnext HB.out hb2)
    clear hb2
    go_wp2_with fail
    go_ret
    exact ⟨rfl, (DevP.refl HD.out).next HB2.out⟩
  | false =>
    have ep : flushV D = cntV D D { D with S := flS D.C D.S D.C.length, C := [] } := by unfold flushV; exact if_neg (by simp [hdn])
    rw [ep]
    rw [show upE D.S.length D.dn 0 = 0 by unfold upE; rw [if_neg hN0, if_neg (by simp [hdn]), if_pos (by omega)]] at hU
    have HU := Lib.hid hU
    have HC := Lib.hid (show ∀ w4, Below w.heap.size w w4 → w4.cell? ⟨w.heap.size, 0, none⟩ = some (.pointer (some ⟨d, 0, none⟩)) → _ from fun w4 hb4 hs => cnt_flush hD hk hb4 w.heap.size hs (hD.new (Nat.le_refl _)))
    have Hs := Lib.hid (show ∀ w2, Below (w.alloc (.cells #[.pointer (some ⟨d, 0, none⟩)] 28)).heap.size (w.alloc (.cells #[.pointer (some ⟨d, 0, none⟩)] 28)) w2 → w2.cell? ⟨w.heap.size, 0, none⟩ = some (.pointer (some ⟨d, 0, none⟩)) from fun w2 hb2 => blk_cell (blk_below (blk_new w _ _) hb2) 0 rfl)
    generalize (cntV D D { D with S := flS D.C D.S D.C.length, C := [] }) = R at *
    clear hU hb0 hD hk hN0 ep hdn
    go_enter Try.func12, Try.ntmps12
    go_wp2_with fail
    refine HU.out.mono ?_
    rintro e w2 ⟨rfl, hb2⟩
    have c0 := Hs.out _ hb2
    have HX := Lib.hid (HC.out w2 (bnext HB.out hb2) c0)
    clear hb2
    go_wp2_with fail
    refine HX.out.mono ?_
    rintro e w3 ⟨rfl, hP⟩
    have HP := Lib.hid hP
    clear hP c0
    go_wp2_with fail
    go_ret
    exact ⟨rfl, HP.out⟩
theorem dPull_dev : Calls Try.prog 15 #[.pointer (some ⟨d, 0, none⟩)] w fun e w' => e = .returned (.int .i64 0) ∧ DevP w B d sb sc V { D with dn := true } w' := by
  obtain ⟨CA, cc, e, hd⟩ := hD.box
  refine (dPull_calls w d _ _ _ _ _ _ _ _ _ hD.ok.n.1 hd).mono ?_
  rintro e' w' ⟨rfl, h, hk⟩
  refine ⟨rfl, V, ⟨pull_ok hD.ok, ⟨CA, cc, e, h⟩, own_keptV hD.saf hk (fun g hg => by simp [Value.ownBlock] at hg; exact fun e => hD.ds (e ▸ hg.symm)), own_keptV hD.cac hk (fun g hg e => hD.dv (e ▸ hg)), hD.ds, hD.dv, hD.sv, hD.bd⟩, hk.mono (fun k _ h => h.1), .inl rfl⟩
theorem dDown_dev : Calls Try.prog 19 #[.pointer (some ⟨d, 0, none⟩)] w fun e w' => e = .returned (.bool D.dn) ∧ Below w.heap.size w w' := by
  obtain ⟨CA, cc, e, hd⟩ := hD.box
  exact dDown_calls w d _ _ _ _ _ _ _ _ _ hD.ok.n.1 hd
theorem dCalls_dev : Calls Try.prog 17 #[.pointer (some ⟨d, 0, none⟩)] w fun e w' => e = .returned (.int .i64 D.k) ∧ Below w.heap.size w w' := by
  obtain ⟨CA, cc, e, hd⟩ := hD.box
  exact dCalls_calls w d _ _ _ _ _ _ _ _ _ hD.ok.n.1 hd
theorem dSafe_dev (i : Nat) (hi : i < D.S.length) : Calls Try.prog 21 #[.pointer (some ⟨d, 0, none⟩), .int .i64 (i : Int)] w (SafeB w (D.S.getD i [])) := by
  obtain ⟨CA, cc, e, hd⟩ := hD.box
  have hl : (D.S.getD i []).length = 128 := by rw [List.getD_eq_getElem?_getD, List.getElem?_eq_getElem hi]; exact hD.ok.s _ (List.getElem_mem hi)
  refine dSafe_calls w d sb 0 _ _ _ _ _ _ _ _ i hi hd _ hl (.inr ⟨sb, 0 + i * 128, rfl, hD.lt.2.1, fun j hj => ?_⟩)
  have hr := sec_range hD.saf hD.ok.s i hi j (.int .u8 (bAt (D.S.getD i []) j)) (by unfold bv; rw [List.getElem?_map, List.getElem?_eq_getElem hj]; simp only [Option.map_some, bAt, List.getD_eq_getElem?_getD (l := D.S.getD i []), List.getElem?_eq_getElem hj, Option.getD_some])
  rw [Nat.zero_add]
  exact hr
end
end Go.Proofs.Ytpleaicpkpjkjaa
