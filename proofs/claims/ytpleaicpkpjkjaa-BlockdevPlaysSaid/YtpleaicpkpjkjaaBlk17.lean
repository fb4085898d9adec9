/-
  A device of sectors: Restart, walked. Conditions stand at each theorem. (Printed by gen_blk17.py.)
-/
import Derived.Test.YtpleaicpkpjkjaaBlk16
import Derived.Deep.DrawnRows
namespace Go.Proofs.Ytpleaicpkpjkjaa
open Go Go.RowKit Go.Kw Go.Shelf
attribute [local go_sem] Oper.semAt_some
attribute [local go_sem ↓] Go.wp_at_zero Go.wp_at_succ
set_option linter.unusedVariables false
set_option linter.unusedSimpArgs false

theorem append_opC {P : Program} {o : Oper} {a : Act} {w w' : World} {s x : Operand} {t t' : TypeId} (ho : o.op = .call { callee := .builtin .copy, args := #[s, x], argTypes := #[t, t'] }) {v : Value} (h : (Builtin.copy_ #[t, t'] o.type #[a.eval s, a.eval x]).run P w = .ok v w') :
    (execOp a.eval o).run P w = .ok (.value v) w' := by
  unfold execOp
  simp only [ho, resolve, invoke, builtin, Sem.run_bind, Sem.run_pure, Result.andThen_ok, List.map_toArray, List.map_cons, List.map_nil, h]
/-- Restart's state in its rounds. -/
def RstI (b0 d sb sc B N : Nat) (w : World) (m : Nat → Nat) (C : List (Nat × List UInt8)) (S : List (List UInt8)) (xs : List Nat) (k : Nat) (W : World) : Prop :=
  Boxed W b0 28 (.pointer (some ⟨d, 0, none⟩)) ∧ W.cell? ⟨d, 0, none⟩ = some (.slice (some ⟨sb, 0, none⟩) N sc) ∧ W.ownsRow B 69 128 (.slice (some ⟨sb, 0, none⟩) N sc) N (secC (crL m C S (xs.take k))) ∧ Kept (fun b => b ≠ sb) w W
theorem rstI_own {b0 d sb sc B N : Nat} {w : World} {m : Nat → Nat} {C : List (Nat × List UInt8)} {S : List (List UInt8)} {xs : List Nat} {k B' : Nat} (hB : w.heap.size ≤ B') : OwnW B' (RstI b0 d sb sc B N w m C S xs k) :=
  (boxed_ownW _ _ _ _).and ((cell_own _ _ _).and (own_ownW.and (kept_own hB)))
theorem rstI_go {b0 d sb sc B N : Nat} {w : World} {m : Nat → Nat} {C : List (Nat × List UInt8)} {S : List (List UInt8)} {xs : List Nat} {k : Nat} {X Y : World} (h : RstI b0 d sb sc B N w m C S xs k X) (hb : Below X.heap.size X Y) : RstI b0 d sb sc B N w m C S xs k Y :=
  ⟨blk_below h.1 hb, (hb.cell (p := ⟨d, 0, none⟩) (block_lt h.2.1)).trans h.2.1, own_below h.2.2.1 hb, h.2.2.2.next hb⟩
theorem keepsO_setCells (g : Nat) : ∀ (vs : List Value) (o : Nat) (w : World), KeepsOthers w (w.setCells g o vs)
  | [], _, w => KeepsOthers.refl w
  | v :: r, o, w => (KeepsOthers.setCell w ⟨g, o, none⟩ v).trans (keepsO_setCells g r (o + 1) _)
theorem results_tmp4 {fn : Func} (hr : fn.results = #[.tmp 4]) (tmps : Array Value) (P : Program) (W : World) : (results fn tmps).run P W = .ok (tmps.getD 4 undef) W := by
  simp [results, hr, go_sem]
theorem rst_boxes (w : World) (pv : Option Addr) (KA : Option Addr) (kl kc : Nat) (to at' : Int) : ∃ w1, (w.alloc (.cells #[.pointer pv] 28)).alloc (.cells #[.slice KA kl kc, .int .i64 to, .int .i64 at'] 25) = w1 ∧ w1.heap[w.heap.size]? = some (.cells #[.pointer pv] 28 (0, 0)) ∧ w1.heap[w.heap.size + 1]? = some (.cells #[.slice KA kl kc, .int .i64 to, .int .i64 at'] 25 (0, 0)) ∧ Below w.heap.size w w1 ∧ w1.heap.size = w.heap.size + 2 := by
  refine ⟨_, rfl, blk_below (blk_new w _ _) (bstep _ _), ?_, bnext (bstep w _) (bstep _ _), by simp⟩
  have h := blk_new (w.alloc (.cells #[.pointer pv] 28)) #[.slice KA kl kc, .int .i64 to, .int .i64 at'] 25; rwa [World.size_alloc] at h
theorem dRest_none (w : World) (pv : Option Addr) (KA : Option Addr) (kl kc : Nat) (to at' : Int) (hN : ∀ w', Below w.heap.size w w' → Calls Try.prog 35 #[.pointer pv] w' fun e w2 => e = .returned (.bool true) ∧ Below w'.heap.size w' w2) :
    Calls Try.prog 16 #[.pointer pv, .agg #[.slice KA kl kc, .int .i64 to, .int .i64 at']] w fun e w' => e = .returned (.int .i64 1) ∧ Below w.heap.size w w' := by
  have hb := bnext (bstep w (.cells #[.pointer pv] 28)) (bstep _ (.cells #[.slice KA kl kc, .int .i64 to, .int .i64 at'] 25))
  have HN := Lib.hid (hN _ hb)
  have HB := Lib.hid hb
  have hF := wide_fn
  clear hN hb
  refine calls_of_marks Try.func16 rfl ?_
  simp only [Try.ntmps16, List.size_toArray, List.length_cons, List.length_nil, Nat.reduceAdd, Nat.reduceSub, Array.replicate_succ, Array.replicate_zero, List.push_toArray, List.append_toArray, List.nil_append, List.cons_append]
  gi_wp2_with (first | (refine wpIn_scope ?_) | (refine wpIn_label ?_))
  refine (callsIn_wide.2 HN.out).mono ?_
  rintro e w2 ⟨rfl, hb2⟩
  have HB2 := Lib.hid (bnext HB.out hb2)
  clear hb2
  gi_wp2_with (first | (refine wpIn_scope ?_) | (refine wpIn_label ?_))
  refine ⟨_, results_tmp4 rfl _ _ _, rfl, HB2.out⟩
set_option maxRecDepth 100000 in
set_option maxHeartbeats 16000000 in
theorem dRest_up (w : World) (B d sb sc : Nat) (V : Value) (D : Dv) (hD : DevO w B d sb sc V D) (KA : Option Addr) (kc : Nat) (kp : List UInt8) (to at' : Int) (hdn : D.dn = false) :
    Calls Try.prog 16 #[.pointer (some ⟨d, 0, none⟩), .agg #[.slice KA kp.length kc, .int .i64 to, .int .i64 at']] w fun e w' => e = .returned (.int .i64 (restV D kp to at').1) ∧ DevP w B d sb sc V (restV D kp to at').2 w' := by
  have hF := wide_fn
  rw [show restV D kp to at' = (2, D) by unfold restV; exact if_neg (by simp [hdn])]
  obtain ⟨CA, cc, eV, hd⟩ := hD.box
  subst eV
  obtain ⟨w1, e1, k0, k1, hb1, hs1⟩ := rst_boxes w (some ⟨d, 0, none⟩) KA kp.length kc to at'
  have hX := dnone_calls w1 d _ _ _ _ _ _ _ _ _ (hd.go hb1)
  rw [decide_eq_false (by have := hD.ok.n; omega)] at hX
  have HX := Lib.hid hX
  have HD := Lib.hid hD
  obtain ⟨b0, hb0⟩ : ∃ b0, w.heap.size = b0 := ⟨_, rfl⟩
  have Hb0 := Lib.hid hb0
  rw [hb0] at k0 k1 hs1
  have HK := Lib.hid (And.intro k0 (And.intro k1 (And.intro hb1 hs1)))
  have c0 := Boxed.cell k0
  have He := Lib.hid e1
  clear hX hD hd k0 k1 hb1 hs1
  refine calls_of_marks Try.func16 rfl ?_
  simp only [Try.ntmps16, List.size_toArray, List.length_cons, List.length_nil, Nat.reduceAdd, Nat.reduceSub, Array.replicate_succ, Array.replicate_zero, List.push_toArray, List.append_toArray, List.nil_append, List.cons_append]
  gi_wp2_with (first | (refine wpIn_scope ?_) | (refine wpIn_label ?_))
  clear c0
  refine (callsIn_wide.2 HX.out).mono ?_
  rintro e w2 ⟨rfl, hb2⟩
  obtain ⟨k0, k1, hb1, hs1⟩ := HK.out
  have hw2 := bnext hb1 hb2
  have k0 := blk_below k0 hb2
  have k1 := blk_below k1 hb2
  have hs2 : b0 + 2 ≤ w2.heap.size := by have := hb2.size; omega
  obtain ⟨CA2, cc2, eV, hd⟩ := (HD.out.go hw2).box
  injection eV with e5 e6 e7
  subst e5 e7
  obtain ⟨c0, c1, c2, c3, c4⟩ := hd.cells
  have cb := Boxed.cell k0
  have d0 := blk_cell k1 0 rfl
  have d1 := blk_cell k1 1 rfl
  have d2 := blk_cell k1 2 rfl
  have HK2 := Lib.hid (And.intro k0 (And.intro k1 (And.intro hw2 (And.intro hs2 hd))))
  clear k0 k1 hb1 hs1 hb2 hw2 hs2 hd e6
  rw [hdn] at c3
  gi_wp2_with (first | (refine wpIn_scope ?_) | (refine wpIn_label ?_))
  refine ⟨_, results_tmp4 rfl _ _ _, rfl, (DevP.refl HD.out).next HK2.out.2.2.1⟩
set_option maxRecDepth 100000 in
set_option maxHeartbeats 16000000 in
theorem dRest_down (w : World) (B d sb sc : Nat) (V : Value) (D : Dv) (hD : DevO w B d sb sc V D) (KA : Option Addr) (kc : Nat) (kp : List UInt8) (to at' : Int) (hdn : D.dn = true) (hB : B ≤ w.heap.size) (hK : RdY w (fun b => b ≠ sb) KA kp) :
    Calls Try.prog 16 #[.pointer (some ⟨d, 0, none⟩), .agg #[.slice KA kp.length kc, .int .i64 to, .int .i64 at']] w fun e w' => e = .returned (.int .i64 (restV D kp to at').1) ∧ DevP w B d sb sc V (restV D kp to at').2 w' := by
  have hF := wide_fn
  rw [show restV D kp to at' = (0, { S := crS (many kp to at') D.C D.S D.C.length, C := [], p := 0, dn := false, k := D.k }) by unfold restV; exact if_pos hdn]
  obtain ⟨CA, cc, eV, hd⟩ := hD.box
  subst eV
  obtain ⟨w1, e1, k0, k1, hb1, hs1⟩ := rst_boxes w (some ⟨d, 0, none⟩) KA kp.length kc to at'
  have hX := dnone_calls w1 d _ _ _ _ _ _ _ _ _ (hd.go hb1)
  rw [decide_eq_false (by have := hD.ok.n; omega)] at hX
  have HX := Lib.hid hX
  have HD := Lib.hid hD
  have HKp := Lib.hid hK
  obtain ⟨b0, hb0⟩ : ∃ b0, w.heap.size = b0 := ⟨_, rfl⟩
  have Hb0 := Lib.hid hb0
  rw [hb0] at k0 k1 hs1
  have HK := Lib.hid (And.intro k0 (And.intro k1 (And.intro hb1 hs1)))
  have c0 := Boxed.cell k0
  have He := Lib.hid e1
  clear hX hD hd k0 k1 hb1 hs1 hK
  refine calls_of_marks Try.func16 rfl ?_
  simp only [Try.ntmps16, List.size_toArray, List.length_cons, List.length_nil, Nat.reduceAdd, Nat.reduceSub, Array.replicate_succ, Array.replicate_zero, List.push_toArray, List.append_toArray, List.nil_append, List.cons_append]
  gi_wp2_with (first | (refine wpIn_scope ?_) | (refine wpIn_label ?_))
  clear c0
  refine (callsIn_wide.2 HX.out).mono ?_
  rintro e w2 ⟨rfl, hb2⟩
  obtain ⟨k0, k1, hb1, hs1⟩ := HK.out
  have hw2 := bnext hb1 hb2
  have k0 := blk_below k0 hb2
  have k1 := blk_below k1 hb2
  have hs2 : b0 + 2 ≤ w2.heap.size := by have := hb2.size; omega
  obtain ⟨CA2, cc2, eV, hd⟩ := (HD.out.go hw2).box
  injection eV with e5 e6 e7
  subst e5 e7
  obtain ⟨c0, c1, c2, c3, c4⟩ := hd.cells
  have cb := Boxed.cell k0
  have d0 := blk_cell k1 0 rfl
  have d1 := blk_cell k1 1 rfl
  have d2 := blk_cell k1 2 rfl
  have HK2 := Lib.hid (And.intro k0 (And.intro k1 (And.intro hw2 (And.intro hs2 hd))))
  clear k0 k1 hb1 hs1 hb2 hw2 hs2 hd e6
  rw [hdn] at c3
  gi_wp2_with (first | (refine wpIn_scope ?_) | (refine wpIn_label ?_))
  clear c0 c1 c2 c3 c4 cb d0 d1 d2
  refine (callsIn_wide.2 (comes_calls w2 d KA kp.length kc to at')).mono ?_
  rintro e w3 ⟨rfl, rfl⟩
  obtain ⟨k0, k1, hw2, hs2, hd⟩ := HK2.out
  obtain ⟨b2, hb2⟩ : ∃ b2, w2.heap.size = b2 := ⟨_, rfl⟩
  obtain ⟨w3, e3, j0, j1, hst, hs3⟩ := rst_boxes w2 (some ⟨d, 0, none⟩) KA kp.length kc to at'
  rw [hb2] at j0 j1 hs3
  rw [e3, hb2]
  have k0 := blk_below k0 hst
  have hw3 := bnext hw2 hst
  have hD3 := HD.out.go hw3
  have hd3 := hd.go hst
  have hlt := HD.out.lt
  have hsb : sb < w.heap.size := hlt.2.1
  have nb0 : b0 ≠ sb := by have := Hb0.out; omega
  have nb2 : b2 ≠ sb := by have := hw2.size; omega
  have nb3 : b2 + 1 ≠ sb := by have := hw2.size; omega
  have nds : d ≠ sb := HD.out.ds
  have hcb : ∀ g, CA = some g → g.block ≠ sb := fun g hg e => HD.out.sv (by subst hg; simp [Value.ownBlock, e])
  have hHold : HoldK b2 (b2 + 1) d sb CA cc D.C KA kc kp to at' w3 := by
    refine ⟨j0, j1, hd3.cells.2.1, ?_, ?_⟩
    · rcases holdC_of hD3.cac (Nat.le_refl _) with h | ⟨g, off, e, hg, hc⟩
      · exact .inl h
      · exact .inr ⟨g, off, e, hcb _ e, hg, hc⟩
    · exact HKp.out.go hw3
  have hm := HD.out.ok.m
  have hC128 : ∀ x ∈ D.C, x.2.length = 128 := fun x hx => (HD.out.ok.c x hx).2
  have hI0 : RstI b0 d sb sc B D.S.length w (many kp to at') D.C D.S (cxs kp to D.C.length) 0 w3 := ⟨k0, hd3.cells.1, hD3.saf, hw3.keptS _⟩
  have HQ := Lib.hid (And.intro nb0 (And.intro nb2 (And.intro nb3 (And.intro nds (And.intro hs3 (And.intro hw2.size (show b0 + 2 ≤ b2 by rw [← hb2]; exact hs2)))))))
  have HC := Lib.hid hC128
  have hw3s := hw3.size
  clear e3 k0 k1 hst hw2 hw3 hD3 hd hd3 hlt hcb hs2 j0 j1 hb2 nb0 nb2 nb3 nds hs3 hsb
  gi_wp2_with (first | (refine wpIn_scope ?_) | (refine wpIn_label ?_))
  refine wpIn_rangeV rfl (by decide) (gf := 45) (lb := #[.pointer (some ⟨b2, 0, none⟩), .pointer (some ⟨b2 + 1, 0, none⟩)]) rfl trivial (enters_of Try.func45 (by kernel_rfl) rfl)
    (seqX_late (comes_seq b2 (b2 + 1) d sb CA cc D.C KA kc kp to at' hC128 hm)) (fun A B h => keepsBel h) (fun k v W hv => by obtain ⟨x, -, rfl⟩ := hv; rfl)
    HoldK.own (fun _ => HoldK.own) (OwnW.const _) (fun _ => OwnW.const _) hHold
    (RstI b0 d sb sc B D.S.length w (many kp to at') D.C D.S (cxs kp to D.C.length)) (fun _ _ _ => False) (fun k => rstI_own hw3s) (fun c k => OwnW.const _) (fun k A B h hb => rstI_go h hb) (fun c k A B h hb => h)
    hI0 ?round ?done (fun D c k W hD hk h => h.elim)
  case round =>
    rintro lo k x W hk ⟨i, hxi, rfl⟩ hI hG
    have hi := cxs_lt (List.mem_of_getElem? hxi)
    obtain ⟨x, hxx⟩ : ∃ x, D.C.getD i default = x := ⟨_, rfl⟩
    have hxl := HD.out.ok.c _ (getD_mem' hi.1)
    obtain ⟨M, hM⟩ : ∃ M, many kp to at' i = M := ⟨_, rfl⟩
    have hM128 : M ≤ 128 := by rw [← hM]; exact many_le _ _ _ _
    unfold comE
    rw [hxx] at hxl ⊢
    rw [hM]
    obtain ⟨n, b⟩ := x
    have hb : b.length = 128 := hxl.2
    have hn : n < D.S.length := hxl.1
    obtain ⟨Z, hZ, hz⟩ := zero_write
    have HI := Lib.hid (show (Try.prog.info? 71).map (·.size) = some (cW (n, b)).toArray.size by rw [List.size_toArray, cW_len hb]; kernel_rfl)
    have HO := Lib.hid (show Z.size = (cW (n, b)).toArray.size by rw [hZ, List.size_toArray, cW_len hb])
    have H1 := Lib.hid (show (cW (n, b)).toArray.all (·.oneCell') = true from all_oneCell_toArray (cW_all (n, b)))
    obtain ⟨W1, hW1⟩ : ∃ W1, W.alloc (.cells (cW (n, b)).toArray 71) = W1 := ⟨_, rfl⟩
    have hst : Below W.heap.size W W1 := hW1 ▸ bstep W _
    obtain ⟨z, hzz⟩ : ∃ z, W.heap.size = z := ⟨_, rfl⟩
    have HZ := Lib.hid (show (W.alloc (.cells Z 71)).heap[z]? = some (.cells Z 71 (0, 0)) by rw [← hzz]; exact blk_new W Z _)
    have HSR := Lib.hid (show (W.alloc (.cells Z 71)).setRow z (cW (n, b)).toArray = W1 by rw [← hW1, ← hzz]; exact World.setRow_alloc_new _ _ _ _)
    have hr1 : W1.heap[z]? = some (.cells (cW (n, b)).toArray 71 (0, 0)) := by rw [← hzz, ← hW1]; exact World.alloc_heap_new W _
    have HI0 := Lib.hid hI
    have HG := Lib.hid (hG.go hst)
    have Hst := Lib.hid hst
    have Hr1 := Lib.hid hr1
    have HzS := Lib.hid (show z ≠ sb by have := (hI.2.2.1.lt sb (by simp [Value.ownBlock])).2; omega)
    have Hb := Lib.hid (And.intro hb (And.intro hn (And.intro hM128 (And.intro hxi (And.intro hxx (And.intro hM hi))))))
    clear hI hG hst hr1 hW1 hxl hb hn hM hM128 hxi hxx hi hZ hHold hI0 hC128 hm hw3s
    gi_wp2_with (first | (refine wpListIn_via (wide_round _) rfl (by intro c hc; cases hc) (fun K hK => wp_store_row _ _ _ rfl _ _ rfl rfl _ _ HZ.out HI.out HO.out H1.out (hK _ _ ?_)); clear hK K; rw [HSR.out]))
    refine ⟨keepsBel Hst.out, rstI_go HI0.out Hst.out, HG.out, fun X => X.heap[z]? = some (.cells (cW (n, b)).toArray 71 (0, 0)), block_ownW, Hr1.out, ?_⟩
    rintro X hrX ⟨hbx, hdc, hsec, hkp⟩ hGX hszX
    obtain ⟨hb, hn, hM128, hxi, hxx, hM, hi⟩ := Hb.out
    obtain ⟨nb0, nb2, nb3, nds, -, -⟩ := HQ.out
    obtain ⟨N, hN⟩ : ∃ N, D.S.length = N := ⟨_, rfl⟩
    rw [hN] at hdc hsec hn
    have HSS := Lib.hid (show ∀ Y, Kept (fun b => b ≠ sb) X Y → Y.cell? ⟨b0, 0, none⟩ = some (.pointer (some ⟨d, 0, none⟩)) ∧ Y.cell? ⟨d, 0, none⟩ = some (.slice (some ⟨sb, 0, none⟩) N sc) ∧ Y.cell? ⟨z, 0, none⟩ = some (.int .i64 (n : Int)) from fun Y hk =>
      ⟨Boxed.cell (heap_kept hk hbx nb0), (World.cell?_of_block (a := ⟨d, 0, none⟩) (hk.block d (block_lt hdc) nds)).trans hdc, blk_cell (heap_kept hk hrX HzS.out) 0 (by simp [cW])⟩)
    have hS128 := crL_128 (many_le kp to at') HD.out.ok.c ((cxs kp to D.C.length).take k) D.S rfl (fun j hj => (cxs_lt (List.mem_of_mem_take hj)).1) HD.out.ok.s
    have hSl : (crL (many kp to at') D.C D.S ((cxs kp to D.C.length).take k)).length = N := by rw [crL_length]; exact hN
    have hlt : ((bv b).take M).length = M := by rw [List.length_take, bv_length, hb]; omega
    have hthere := own_there (w := X.drew) hsec (n * 128) M (by have : (n + 1) * 128 ≤ N * 128 := Nat.mul_le_mul_right _ hn; omega)
    have hcp := run_copy_cells (P := Try.prog) X.drew 23 23 3 5 sb (n * 128) M 128 ⟨z, 1, none⟩ M 128 ((bv b).take M) Try.underlying23 (by kernel_rfl) (by rw [hlt]; exact (Nat.min_self M).symm)
      (fun j v hv => by
        have hj : j < M := by have := (List.getElem?_eq_some_iff.1 hv).1; rwa [hlt] at this
        rw [List.getElem?_take_of_lt hj] at hv
        rw [Go.WideShapes.add_plain]
        exact blk_cell (W := X.drew) hrX (1 + j) (by rw [Nat.add_comm]; simpa [cW] using hv))
      (fun j hj => (hthere j (by omega)).1) (fun j hj => (hthere j (by omega)).2) (fun v hv => bv_all b v (List.mem_of_mem_take hv))
    have hK5 : Kept (fun b => b ≠ sb) X (X.drew.setCells sb (n * 128) ((bv b).take M)) := ((Kept.refl _ X).drew).trans (kept_setCells (fun e => e rfl) _ _ _)
    have hsec5 : (X.drew.setCells sb (n * 128) ((bv b).take M)).ownsRow B 69 128 (.slice (some ⟨sb, 0, none⟩) N sc) N (secC (crL (many kp to at') D.C D.S ((cxs kp to D.C.length).take (k + 1)))) := by
      have := own_setCells ((bv b).take M) (n * 128) _ X.drew hsec
      rw [secC_part hS128 n (by omega) b M hb hM128] at this
      rw [crL_take _ _ _ _ _ _ hxi, crStep, hxx, hM]
      exact this
    have HCP := Lib.hid hcp
    have HK5 := Lib.hid hK5
    have HH := Lib.hid (show KeepsOthers X (X.drew.setCells sb (n * 128) ((bv b).take M)) ∧ HoldK b2 (b2 + 1) d sb CA cc D.C KA kc kp to at' (X.drew.setCells sb (n * 128) ((bv b).take M)) ∧ RstI b0 d sb sc B D.S.length w (many kp to at') D.C D.S (cxs kp to D.C.length) (k + 1) (X.drew.setCells sb (n * 128) ((bv b).take M)) from
      ⟨(KeepsOthers.drew X).trans (keepsO_setCells _ _ _ _), hGX.kept hK5 nb2 nb3 nds, heap_kept hK5 hbx nb0, by rw [hN]; exact ((World.cell?_of_block (a := ⟨d, 0, none⟩) (hK5.block d (block_lt hdc) nds)).trans hdc), by rw [hN]; exact hsec5, hkp.trans hK5⟩)
    have n0 : (0 : Int) ≤ (n : Int) := by omega
    have n1 : (n : Int) < (N : Int) := by omega
    have m0 : (0 : Int) ≤ (M : Int) := by omega
    have m1 : (M : Int) ≤ 128 := by omega
    have m2 : M ≤ 128 := hM128
    clear hb hn hM128 hxi hxx hM hi nb0 nb2 nb3 nds hN hS128 hSl hlt hthere hcp hK5 hsec5 hbx hdc hsec hkp hGX hszX hrX
    gi_wp2
    refine wpIn_region_held (S := (fun X => X.cell? ⟨b0, 0, none⟩ = some (.pointer (some ⟨d, 0, none⟩)) ∧ X.cell? ⟨d, 0, none⟩ = some (.slice (some ⟨sb, 0, none⟩) N sc) ∧ X.cell? ⟨z, 0, none⟩ = some (.int .i64 (n : Int)))) (by kernel_rfl) (HSS.out _ (Kept.refl _ _).drew) (by kernel_rfl) (fun hHeld => ?_)
    refine wpAnyH_take (i := 0) (v := ?_) rfl (by kernel_rfl) (by kernel_rfl) (by kernel_rfl) (fun _ _ _ h => h) (Or.inl ⟨by kernel_rfl, ?_⟩) (by assumption) ?_
    rotate_left
    · intro w hSw; (try dsimp only at hSw); go_simp; try with_reducible rfl
    simp only [Act.put, List.getElem_toArray, List.getElem_cons_succ, List.getElem_cons_zero, List.setIfInBounds_toArray, List.set_cons_zero, List.set_cons_succ]
    refine wpAnyH_take (i := 1) (v := ?_) rfl (by kernel_rfl) (by kernel_rfl) (by kernel_rfl) (fun _ _ _ h => h) (Or.inl ⟨by kernel_rfl, ?_⟩) (by assumption) ?_
    rotate_left
    · intro w hSw; (try dsimp only at hSw); go_simp; try with_reducible rfl
    simp only [Act.put, List.getElem_toArray, List.getElem_cons_succ, List.getElem_cons_zero, List.setIfInBounds_toArray, List.set_cons_zero, List.set_cons_succ]
    refine wpAnyH_take (i := 2) (v := ?_) rfl (by kernel_rfl) (by kernel_rfl) (by kernel_rfl) (fun _ _ _ h => h) (Or.inl ⟨by kernel_rfl, ?_⟩) (by assumption) ?_
    rotate_left
    · intro w hSw; (try dsimp only at hSw); go_simp; try with_reducible rfl
    simp only [Act.put, List.getElem_toArray, List.getElem_cons_succ, List.getElem_cons_zero, List.setIfInBounds_toArray, List.set_cons_zero, List.set_cons_succ]
    refine wpAnyH_take (i := 3) (v := ?_) rfl (by kernel_rfl) (by kernel_rfl) (by kernel_rfl) (fun _ _ _ h => h) (Or.inl ⟨by kernel_rfl, ?_⟩) (by assumption) ?_
    rotate_left
    · intro w hSw; (try dsimp only at hSw); go_simp; try with_reducible rfl
    simp only [Act.put, List.getElem_toArray, List.getElem_cons_succ, List.getElem_cons_zero, List.setIfInBounds_toArray, List.set_cons_zero, List.set_cons_succ]
    refine wpAnyH_take (i := 4) (v := ?_) rfl (by kernel_rfl) (by kernel_rfl) (by kernel_rfl) (fun _ _ _ h => h) (Or.inl ⟨by kernel_rfl, ?_⟩) (by assumption) ?_
    rotate_left
    · intro w hSw; (try dsimp only at hSw); go_simp; try with_reducible rfl
    simp only [Act.put, List.getElem_toArray, List.getElem_cons_succ, List.getElem_cons_zero, List.setIfInBounds_toArray, List.set_cons_zero, List.set_cons_succ]
    refine wpAnyH_take (i := 5) (v := ?_) rfl (by kernel_rfl) (by kernel_rfl) (by kernel_rfl) (fun _ _ _ h => h) (Or.inl ⟨by kernel_rfl, ?_⟩) (by assumption) ?_
    rotate_left
    · intro w hSw; (try dsimp only at hSw); go_simp; try with_reducible rfl
    simp only [Act.put, List.getElem_toArray, List.getElem_cons_succ, List.getElem_cons_zero, List.setIfInBounds_toArray, List.set_cons_zero, List.set_cons_succ]
    refine wpAnyH_take (i := 6) (v := ?_) rfl (by kernel_rfl) (by kernel_rfl) (by kernel_rfl) (fun _ _ _ h => h) (Or.inl ⟨by kernel_rfl, ?_⟩) (by assumption) ?_
    rotate_left
    · intro w hSw; (try dsimp only at hSw); go_simp; try with_reducible rfl
    simp only [Act.put, List.getElem_toArray, List.getElem_cons_succ, List.getElem_cons_zero, List.setIfInBounds_toArray, List.set_cons_zero, List.set_cons_succ]
    refine wpAnyH_take (i := 7) (v := ?_) rfl (by kernel_rfl) (by kernel_rfl) (by kernel_rfl) (fun _ _ _ h => h) (Or.inl ⟨by kernel_rfl, ?_⟩) (by assumption) ?_
    rotate_left
    · intro w hSw; (try dsimp only at hSw); go_simp; try with_reducible rfl
    simp only [Act.put, List.getElem_toArray, List.getElem_cons_succ, List.getElem_cons_zero, List.setIfInBounds_toArray, List.set_cons_zero, List.set_cons_succ]
    refine wpAnyH_take (i := 8) (v := ?_) rfl (by kernel_rfl) (by kernel_rfl) (by kernel_rfl) (fun _ _ _ h => h) (Or.inl ⟨by kernel_rfl, ?_⟩) (by assumption) ?_
    rotate_left
    · intro w hSw; (try dsimp only at hSw); go_simp; try with_reducible rfl
    simp only [Act.put, List.getElem_toArray, List.getElem_cons_succ, List.getElem_cons_zero, List.setIfInBounds_toArray, List.set_cons_zero, List.set_cons_succ]
    refine wpAnyH_take (i := 9) (v := ?_) rfl (by kernel_rfl) (by kernel_rfl) (by kernel_rfl) (fun _ _ _ h => h) (Or.inl ⟨by kernel_rfl, ?_⟩) (by assumption) ?_
    rotate_left
    · intro w hSw; (try dsimp only at hSw); go_simp; try with_reducible rfl
    simp only [Act.put, List.getElem_toArray, List.getElem_cons_succ, List.getElem_cons_zero, List.setIfInBounds_toArray, List.set_cons_zero, List.set_cons_succ]
    refine wpAnyH_take (i := 10) (v := ?_) rfl (by kernel_rfl) (by kernel_rfl) (by kernel_rfl) (fun _ _ _ h => h) (Or.inl ⟨by kernel_rfl, ?_⟩) (by assumption) ?_
    rotate_left
    · intro w hSw; (try dsimp only at hSw); go_simp; try with_reducible rfl
    simp only [Act.put, List.getElem_toArray, List.getElem_cons_succ, List.getElem_cons_zero, List.setIfInBounds_toArray, List.set_cons_zero, List.set_cons_succ]
    refine wpAnyH_take (i := 11) (v := ?_) rfl (by kernel_rfl) (by kernel_rfl) (by kernel_rfl) (fun _ _ _ h => h) (Or.inl ⟨by kernel_rfl, ?_⟩) (by assumption) ?_
    rotate_left
    · intro w hSw; (try dsimp only at hSw); go_simp; try with_reducible rfl
    simp only [Act.put, List.getElem_toArray, List.getElem_cons_succ, List.getElem_cons_zero, List.setIfInBounds_toArray, List.set_cons_zero, List.set_cons_succ]
    refine wpAnyH_ready (rs := [12]) (by kernel_rfl) (by simp) ?_
    refine AllReadyH.cons rfl (fun K hK => ?_) AllReadyH.nil
    refine wp_run (v := goInt ((bv b).take M).length) (append_opC rfl HCP.out) ?_
    try go_simp
    refine hK.out _ _ (HSS.out _ HK5.out) (fun hHeld => ?_)
    clear hK K
    try simp only [Act.put, List.getElem_toArray, List.getElem_cons_succ, List.getElem_cons_zero, List.setIfInBounds_toArray, List.set_cons_zero, List.set_cons_succ]
    refine wpAnyH_done (by kernel_rfl) ?_ _
    simp only [normalOnly]
    gi_wp2
    exact HH.out
  case done =>
    rintro Dd W hDd ⟨hbx, hdc, hsec, hkp⟩ _ hK
    obtain ⟨nb0, nb2, nb3, nds, hs3, hs4, hs5⟩ := HQ.out
    have hDb : b0 + 2 ≤ Dd := by omega
    rw [List.take_length, crS_cxs] at hsec
    obtain ⟨CA3, cc3, eV3, hd3⟩ := HD.out.box
    have hdW : DevH W d _ _ _ _ _ _ _ _ _ := heap_kept hkp hd3 nds
    obtain ⟨S', hS'⟩ : ∃ S', crS (many kp to at') D.C D.S D.C.length = S' := ⟨_, rfl⟩
    have hSl : S'.length = D.S.length := by rw [← hS']; exact crS_length _ _ _ _
    have hok : DvOk { S := S', C := [], p := 0, dn := false, k := D.k } := by
      have := rest_ok HD.out.ok kp to at'
      rw [show restV D kp to at' = (0, { S := crS (many kp to at') D.C D.S D.C.length, C := [], p := 0, dn := false, k := D.k }) by unfold restV; exact if_pos hdn, hS'] at this
      exact this
    rw [hS'] at hsec
    have c0 := Boxed.cell hbx
    have HSS := Lib.hid (show ∀ X, Kept (fun b => b ≠ d) W X → X.cell? ⟨b0, 0, none⟩ = some (.pointer (some ⟨d, 0, none⟩)) from fun X hk => Boxed.cell (heap_kept hk hbx (by have := HD.out.lt.1; have := Hb0.out; omega)))
    have f1 := hdW.fr 1
    have f2 := hdW.fr 2
    have f3 := hdW.fr 3
    obtain ⟨e0, e1', e2, e3, e4⟩ := hdW.cells
    have HW := Lib.hid (And.intro hdW (And.intro hsec (And.intro hkp (And.intro hK (And.intro hSl (And.intro hok (And.intro nds hDb)))))))
    have hg1 : ((W.drew.setCell ⟨d, 1, none⟩ (.slice none 0 0))).cell? ⟨d, 3, none⟩ = some (.bool D.dn) := (DevH.set1 (W := W.drew) hdW none 0 0).cells.2.2.2.1
    have hg2 : ((W.drew.setCell ⟨d, 1, none⟩ (.slice none 0 0)).setCell ⟨d, 3, none⟩ (.bool false)).cell? ⟨d, 2, none⟩ = some (.int .i64 D.p) := ((DevH.set1 (W := W.drew) hdW none 0 0).set3 false).cells.2.2.1
    have HS' := Lib.hid hS'
    clear hHold hI0 hC128 hm hw3s hbx hdc hsec hkp nb0 nb2 nb3 nds hs3 hs4 hs5 hd3 hSl hok hdW hS' eV3
    gi_wp2
    refine wpIn_normal (wpIn_wide.2 ?_)
    refine wp_region_held_drew (S := (fun X => X.cell? ⟨b0, 0, none⟩ = some (.pointer (some ⟨d, 0, none⟩)))) (by kernel_rfl) (HSS.out _ (Kept.refl _ _).drew) (fun hHeld => ?_)
    refine wpAnyH_take (i := 0) (v := ?_) rfl (by kernel_rfl) (by kernel_rfl) (by kernel_rfl) (fun _ _ _ h => h) (Or.inl ⟨by kernel_rfl, ?_⟩) (by assumption) ?_
    rotate_left
    · intro w hSw; (try dsimp only at hSw); go_simp; try with_reducible rfl
    simp only [Act.put, List.getElem_toArray, List.getElem_cons_succ, List.getElem_cons_zero, List.setIfInBounds_toArray, List.set_cons_zero, List.set_cons_succ]
    refine wpAnyH_take (i := 1) (v := ?_) rfl (by kernel_rfl) (by kernel_rfl) (by kernel_rfl) (fun _ _ _ h => h) (Or.inl ⟨by kernel_rfl, ?_⟩) (by assumption) ?_
    rotate_left
    · intro w hSw; (try dsimp only at hSw); go_simp; try with_reducible rfl
    simp only [Act.put, List.getElem_toArray, List.getElem_cons_succ, List.getElem_cons_zero, List.setIfInBounds_toArray, List.set_cons_zero, List.set_cons_succ]
    refine wpAnyH_take (i := 2) (v := ?_) rfl (by kernel_rfl) (by kernel_rfl) (by kernel_rfl) (fun _ _ _ h => h) (Or.inl ⟨by kernel_rfl, ?_⟩) (by assumption) ?_
    rotate_left
    · intro w hSw; (try dsimp only at hSw); go_simp; try with_reducible rfl
    simp only [Act.put, List.getElem_toArray, List.getElem_cons_succ, List.getElem_cons_zero, List.setIfInBounds_toArray, List.set_cons_zero, List.set_cons_succ]
    refine wpAnyH_take (i := 3) (v := ?_) rfl (by kernel_rfl) (by kernel_rfl) (by kernel_rfl) (fun _ _ _ h => h) (Or.inl ⟨by kernel_rfl, ?_⟩) (by assumption) ?_
    rotate_left
    · intro w hSw; (try dsimp only at hSw); go_simp; try with_reducible rfl
    simp only [Act.put, List.getElem_toArray, List.getElem_cons_succ, List.getElem_cons_zero, List.setIfInBounds_toArray, List.set_cons_zero, List.set_cons_succ]
    refine wpAnyH_take (i := 4) (v := ?_) rfl (by kernel_rfl) (by kernel_rfl) (by kernel_rfl) (fun _ _ _ h => h) (Or.inl ⟨by kernel_rfl, ?_⟩) (by assumption) ?_
    rotate_left
    · intro w hSw; (try dsimp only at hSw); go_simp; try with_reducible rfl
    simp only [Act.put, List.getElem_toArray, List.getElem_cons_succ, List.getElem_cons_zero, List.setIfInBounds_toArray, List.set_cons_zero, List.set_cons_succ]
    refine wpAnyH_ready (rs := [5]) (by kernel_rfl) (by simp) ?_
    refine AllReadyH.cons rfl (fun K hK => ?_) AllReadyH.nil
    go_simp
    refine hK.out _ _ (HSS.out _ ((Kept.refl _ W).drew.setCell (p := ⟨d, 1, none⟩) (fun h => h rfl) _)) (fun hHeld => ?_)
    clear hK K
    try simp only [Act.put, List.getElem_toArray, List.getElem_cons_succ, List.getElem_cons_zero, List.setIfInBounds_toArray, List.set_cons_zero, List.set_cons_succ]
    refine wpAnyH_take (i := 6) (v := ?_) rfl (by kernel_rfl) (by kernel_rfl) (by kernel_rfl) (fun _ _ _ h => h) (Or.inl ⟨by kernel_rfl, ?_⟩) (by assumption) ?_
    rotate_left
    · intro w hSw; (try dsimp only at hSw); go_simp; try with_reducible rfl
    simp only [Act.put, List.getElem_toArray, List.getElem_cons_succ, List.getElem_cons_zero, List.setIfInBounds_toArray, List.set_cons_zero, List.set_cons_succ]
    refine wpAnyH_take (i := 7) (v := ?_) rfl (by kernel_rfl) (by kernel_rfl) (by kernel_rfl) (fun _ _ _ h => h) (Or.inl ⟨by kernel_rfl, ?_⟩) (by assumption) ?_
    rotate_left
    · intro w hSw; (try dsimp only at hSw); go_simp; try with_reducible rfl
    simp only [Act.put, List.getElem_toArray, List.getElem_cons_succ, List.getElem_cons_zero, List.setIfInBounds_toArray, List.set_cons_zero, List.set_cons_succ]
    refine wpAnyH_ready (rs := [8]) (by kernel_rfl) (by simp) ?_
    refine AllReadyH.cons rfl (fun K hK => ?_) AllReadyH.nil
    go_simp
    refine hK.out _ _ (HSS.out _ (((Kept.refl _ W).drew.setCell (p := ⟨d, 1, none⟩) (fun h => h rfl) _).setCell (p := ⟨d, 3, none⟩) (fun h => h rfl) _)) (fun hHeld => ?_)
    clear hK K
    try simp only [Act.put, List.getElem_toArray, List.getElem_cons_succ, List.getElem_cons_zero, List.setIfInBounds_toArray, List.set_cons_zero, List.set_cons_succ]
    refine wpAnyH_take (i := 9) (v := ?_) rfl (by kernel_rfl) (by kernel_rfl) (by kernel_rfl) (fun _ _ _ h => h) (Or.inl ⟨by kernel_rfl, ?_⟩) (by assumption) ?_
    rotate_left
    · intro w hSw; (try dsimp only at hSw); go_simp; try with_reducible rfl
    simp only [Act.put, List.getElem_toArray, List.getElem_cons_succ, List.getElem_cons_zero, List.setIfInBounds_toArray, List.set_cons_zero, List.set_cons_succ]
    refine wpAnyH_take (i := 10) (v := ?_) rfl (by kernel_rfl) (by kernel_rfl) (by kernel_rfl) (fun _ _ _ h => h) (Or.inl ⟨by kernel_rfl, ?_⟩) (by assumption) ?_
    rotate_left
    · intro w hSw; (try dsimp only at hSw); go_simp; try with_reducible rfl
    simp only [Act.put, List.getElem_toArray, List.getElem_cons_succ, List.getElem_cons_zero, List.setIfInBounds_toArray, List.set_cons_zero, List.set_cons_succ]
    refine wpAnyH_ready (rs := [11]) (by kernel_rfl) (by simp) ?_
    refine AllReadyH.cons rfl (fun K hK => ?_) AllReadyH.nil
    go_simp
    refine hK.out _ _ (HSS.out _ ((((Kept.refl _ W).drew.setCell (p := ⟨d, 1, none⟩) (fun h => h rfl) _).setCell (p := ⟨d, 3, none⟩) (fun h => h rfl) _).setCell (p := ⟨d, 2, none⟩) (fun h => h rfl) _)) (fun hHeld => ?_)
    clear hK K
    try simp only [Act.put, List.getElem_toArray, List.getElem_cons_succ, List.getElem_cons_zero, List.setIfInBounds_toArray, List.set_cons_zero, List.set_cons_succ]
    refine wpAnyH_done (by kernel_rfl) ?_ _
    simp only [normalOnly]
    gi_wp2
    obtain ⟨hdW, hsec, hkp, hK, hSl, hok, nds, hDb⟩ := HW.out
    have hkk : Kept (fun b => b ≠ d) W (((W.setCell ⟨d, 1, none⟩ (.slice none 0 0)).setCell ⟨d, 3, none⟩ (.bool false)).setCell ⟨d, 2, none⟩ (.int .i64 0)).drew := ((((Kept.refl _ W).setCell (p := ⟨d, 1, none⟩) (fun h => h rfl) _).setCell (p := ⟨d, 3, none⟩) (fun h => h rfl) _).setCell (p := ⟨d, 2, none⟩) (fun h => h rfl) _).drew
    have hdf : DevH (((W.setCell ⟨d, 1, none⟩ (.slice none 0 0)).setCell ⟨d, 3, none⟩ (.bool false)).setCell ⟨d, 2, none⟩ (.int .i64 0)).drew d _ _ _ _ _ _ _ _ _ := ((hdW.set1 none 0 0).set3 false).set2 0
    have hsf := own_keptV hsec hkk (fun g hg => by simp [Value.ownBlock] at hg; exact fun e => nds (e ▸ hg.symm))
    have hdl : d < w.heap.size := HD.out.lt.1
    have hKf := (hkk.block Dd (Array.getElem?_eq_some_iff.1 hK).1 (by have := Hb0.out; omega)).trans hK
    obtain ⟨Wf, hWf⟩ : ∃ Wf, (((W.setCell ⟨d, 1, none⟩ (.slice none 0 0)).setCell ⟨d, 3, none⟩ (.bool false)).setCell ⟨d, 2, none⟩ (.int .i64 0)).drew = Wf := ⟨_, rfl⟩
    rw [hWf] at hkk hdf hsf hKf
    rw [hWf]
    refine ⟨by simp, .inl ⟨_, _, rfl, run_takeDeferred hKf, ?_⟩⟩
    refine ⟨_, results_tmp4 rfl _ _ _, rfl, ?_⟩
    rw [HS'.out]
    refine ⟨.slice none 0 0, ⟨hok, ⟨none, 0, rfl, ?_⟩, ?_, World.ownsRow_nil _ _ _ _, HD.out.ds, by simp [Value.ownBlock], by simp [Value.ownBlock], HD.out.bd⟩, ?_, .inr (.inl rfl)⟩
    · rw [show ({ S := S', C := [], p := 0, dn := false, k := D.k } : Dv).S.length = D.S.length from hSl]
      exact (World.putObj_heap_other (by have := Hb0.out; omega)).trans hdf
    · rw [show ({ S := S', C := [], p := 0, dn := false, k := D.k } : Dv).S.length = D.S.length from hSl]
      exact (own_ownW (B := b0)).putObj (.deferred none) hsf (by omega) hKf rfl
    · exact ((hkp.mono (S' := Ft d sb _) (fun k _ h => h.2.1)).trans (hkk.mono (fun k _ h => h.1))).putObj (by rw [Hb0.out]; omega) _
end Go.Proofs.Ytpleaicpkpjkjaa
