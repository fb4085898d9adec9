/-
  A device of sectors: Read, walked. Conditions stand at each theorem. (Printed by gen_blk15.py.)
-/
import Derived.Test.YtpleaicpkpjkjaaBlk14
import Derived.Shelf.RegionOpen
namespace Go.Proofs.Ytpleaicpkpjkjaa
open Go Go.RowKit Go.Kw Go.Shelf
attribute [local go_sem] Oper.semAt_some
set_option linter.unusedVariables false
set_option linter.unusedSimpArgs false

/-- The newest k writes are of other sectors. -/
def Miss (C : List (Nat × List UInt8)) (n k : Nat) : Prop := ∀ j, j < k → (C.getD (C.length - 1 - j) default).1 ≠ n
theorem seen_none {D : Dv} {n : Nat} (h : Miss D.C n D.C.length) : seenD D n = D.S.getD n [] := by
  have : D.C.filter (fun x => x.1 == n) = [] := by
    rw [List.filter_eq_nil_iff]
    intro x hx
    obtain ⟨i, hi, rfl⟩ := List.mem_iff_getElem.1 hx
    have := h (D.C.length - 1 - i) (by omega)
    rw [show D.C.length - 1 - (D.C.length - 1 - i) = i by omega] at this
    simpa [hi] using this
  unfold seenD
  rw [this]; rfl
theorem seen_hit {D : Dv} {n k : Nat} (hk : k < D.C.length) (h : Miss D.C n k) (hn : (D.C.getD (D.C.length - 1 - k) default).1 = n) : seenD D n = (D.C.getD (D.C.length - 1 - k) default).2 := by
  obtain ⟨q, hq⟩ : ∃ q, D.C.length - 1 - k = q := ⟨_, rfl⟩
  rw [hq] at hn ⊢
  have hql : q < D.C.length := by omega
  have hs : D.C = D.C.take q ++ D.C[q] :: D.C.drop (q + 1) := by rw [List.getElem_cons_drop, List.take_append_drop]
  have hd : (D.C.drop (q + 1)).filter (fun x => x.1 == n) = [] := by
    rw [List.filter_eq_nil_iff]
    intro x hx
    obtain ⟨i, hi, rfl⟩ := List.mem_iff_getElem.1 hx
    rw [List.length_drop] at hi
    rw [List.getElem_drop]
    have := h (D.C.length - 1 - (q + 1 + i)) (by omega)
    rw [show D.C.length - 1 - (D.C.length - 1 - (q + 1 + i)) = q + 1 + i by omega] at this
    simpa [show q + 1 + i < D.C.length by omega] using this
  have hg : D.C.getD q default = D.C[q] := by simp [hql]
  rw [hg] at hn ⊢
  have hf : D.C.filter (fun x => x.1 == n) = (D.C.take q).filter (fun x => x.1 == n) ++ [D.C[q]] := by
    conv => lhs; rw [hs]
    rw [List.filter_append, List.filter_cons, if_pos (by simp [hn]), hd]
  unfold seenD
  rw [hf, List.getLast?_append]; simp
theorem keepsBel {W W' : World} (h : Below W.heap.size W W') : KeepsOthers W W' := ⟨h.size, fun k o hk _ => (h.block k (Array.getElem?_eq_some_iff.1 hk).1).trans hk⟩
theorem sizeOwn (B₀ n : Nat) : OwnW B₀ (fun W => n ≤ W.heap.size) := fun _ _ _ h hg _ => Nat.le_trans h hg.size
theorem seqX_late {α : Type} {F : Fence} {n : Nat} {P : Program} {g : Nat} {lb : Array Value} {encs : α → Array Value} {xs : List α} {Ab : World → World → Prop} {Gi : World → Prop} {G : Nat → World → Prop} {Gd : World → Prop} {Gs : Nat → World → Prop}
    (h : SeqX F n P g lb encs xs Ab Gi G Gd Gs) : SeqV F n P g lb xs.length (fun k v _ => ∃ x, xs[k]? = some x ∧ v = encs x) Ab Gi G Gd Gs :=
  fun l J Jx hJ hJx hY W hG h0 => h l J Jx hJ hJx (fun k x W1 hx hj hg => hY k (encs x) W1 (List.getElem?_eq_some_iff.1 hx).1 ⟨x, hx, rfl⟩ hj hg) W hG h0
/-- Read's state in its rounds, and behind the one that finds the sector. -/
def RdI0 (b0 n : Nat) (w : World) (C : List (Nat × List UInt8)) (k : Nat) (W : World) : Prop :=
  Miss C n k ∧ Boxed W b0 3 (.int .i64 (n : Int)) ∧ Boxed W (b0 + 1) 23 (.slice none 0 0) ∧ Boxed W (b0 + 1 + 1) 29 (.int .i64 0) ∧ Below b0 w W ∧ b0 + 3 ≤ W.heap.size
def RdX0 (b0 n : Nat) (w : World) (C : List (Nat × List UInt8)) (c : Code) (k : Nat) (W : World) : Prop :=
  c = .ret ∧ (∃ q, k = q + 1 ∧ q < C.length ∧ Miss C n q ∧ (C.getD (C.length - 1 - q) default).1 = n ∧ ∃ A' c', Boxed W (b0 + 1) 23 (.slice A' 128 c') ∧ Boxed W (b0 + 1 + 1) 29 (.int .i64 0) ∧ W.ownsRow (b0 + 3) 5 1 (.slice A' 128 c') 128 (bv (C.getD (C.length - 1 - q) default).2)) ∧ Below b0 w W ∧ b0 + 3 ≤ W.heap.size
theorem rdI0_own {b0 n : Nat} {w : World} {C : List (Nat × List UInt8)} {k B : Nat} (hB : b0 ≤ B) : OwnW B (RdI0 b0 n w C k) :=
  (OwnW.const _).and ((boxed_ownW _ _ _ _).and ((boxed_ownW _ _ _ _).and ((boxed_ownW _ _ _ _).and (fun W W' row h hg hr => ⟨h.1.grown hg (by have := h.2; omega) (fun k e => Nat.le_trans hB (hr k e).1), Nat.le_trans h.2 hg.size⟩))))
theorem rdX0_own {b0 n : Nat} {w : World} {C : List (Nat × List UInt8)} {c : Code} {k B : Nat} (hB : b0 ≤ B) : OwnW B (RdX0 b0 n w C c k) :=
  (OwnW.const _).and ((OwnW.ex fun q => (OwnW.const _).and ((OwnW.const _).and ((OwnW.const _).and ((OwnW.const _).and (OwnW.ex fun A' => OwnW.ex fun c' => (boxed_ownW _ _ _ _).and ((boxed_ownW _ _ _ _).and own_ownW)))))).and (fun W W' row h hg hr => ⟨h.1.grown hg (by have := h.2; omega) (fun k e => Nat.le_trans hB (hr k e).1), Nat.le_trans h.2 hg.size⟩))
theorem rdI0_go {b0 n : Nat} {w : World} {C : List (Nat × List UInt8)} {k : Nat} {A B : World} (h : RdI0 b0 n w C k A) (hb : Below A.heap.size A B) : RdI0 b0 n w C k B :=
  ⟨h.1, blk_below h.2.1 hb, blk_below h.2.2.1 hb, blk_below h.2.2.2.1 hb, h.2.2.2.2.1.trans (hb.mono (by have := h.2.2.2.2.2; omega)), Nat.le_trans h.2.2.2.2.2 hb.size⟩
theorem rdX0_go {b0 n : Nat} {w : World} {C : List (Nat × List UInt8)} {c : Code} {k : Nat} {A B : World} (h : RdX0 b0 n w C c k A) (hb : Below A.heap.size A B) : RdX0 b0 n w C c k B := by
  obtain ⟨h1, ⟨q, h2, h3, h4, h5, A', c', h6, h7, h8⟩, h9, h10⟩ := h
  exact ⟨h1, ⟨q, h2, h3, h4, h5, A', c', blk_below h6 hb, blk_below h7 hb, own_below h8 hb⟩, h9.trans (hb.mono (by omega)), Nat.le_trans h10 hb.size⟩
theorem results_cells45 {fn : Func} (hr : fn.results = #[.cell 4 23, .cell 5 29]) (tmps : Array Value) (W : World) {a b : Nat} (h4 : tmps.getD 4 undef = .pointer (some ⟨a, 0, none⟩)) (h5 : tmps.getD 5 undef = .pointer (some ⟨b, 0, none⟩))
    {A' : Option Addr} {m' c' : Nat} {e : Int} (ha : W.cell? ⟨a, 0, none⟩ = some (.slice A' m' c')) (hb : W.cell? ⟨b, 0, none⟩ = some (.int .i64 e)) : (results fn tmps).run Try.prog W = .ok (.tuple #[.slice A' m' c', .int .i64 e]) W := by
  rw [Array.getD_eq_getD_getElem?] at h4 h5
  simp [results, hr, h4, h5, go_sem, ha, hb]

set_option maxHeartbeats 4000000 in
theorem dRead_no (w : World) (pv : Option Addr) (n : Int) (x : Int) (hx : x ≠ 0) (hN : ∀ w', Below w.heap.size w w' → Calls Try.prog 28 #[.pointer pv, .int .i64 n] w' fun e w2 => e = .returned (.int .i64 x) ∧ Below w'.heap.size w' w2) :
    Calls Try.prog 13 #[.pointer pv, .int .i64 n] w fun e w' => e = .returned (.tuple #[.slice none 0 0, .int .i64 x]) ∧ Below w.heap.size w w' := by
  obtain ⟨w1, e1⟩ : ∃ w1, ((w.alloc (.cells #[.int .i64 n] 3)).alloc (.cells #[.slice none 0 0] 23)).alloc (.cells #[.int .i64 0] 29) = w1 := ⟨_, rfl⟩
  have hb := bnext (bnext (bstep w (.cells #[.int .i64 n] 3)) (bstep _ (.cells #[.slice none 0 0] 23))) (bstep _ (.cells #[.int .i64 0] 29))
  rw [e1] at hb
  have k1 : w1.heap[w.heap.size]? = some (.cells #[.int .i64 n] 3 (0, 0)) := by rw [← e1]; exact blk_below (blk_below (blk_new w _ _) (bstep _ _)) (bstep _ _)
  have k2 : w1.heap[w.heap.size + 1]? = some (.cells #[.slice none 0 0] 23 (0, 0)) := by
    rw [← e1]; have h := blk_below (blk_new (w.alloc (.cells #[.int .i64 n] 3)) #[.slice none 0 0] 23) (bstep _ (.cells #[.int .i64 0] 29)); rwa [World.size_alloc] at h
  have k3 : w1.heap[w.heap.size + 1 + 1]? = some (.cells #[.int .i64 0] 29 (0, 0)) := by
    rw [← e1]; have h := blk_new ((w.alloc (.cells #[.int .i64 n] 3)).alloc (.cells #[.slice none 0 0] 23)) #[.int .i64 0] 29; rwa [World.size_alloc, World.size_alloc] at h
  have HN := Lib.hid (hN _ hb)
  have HK := Lib.hid (And.intro k1 (And.intro k2 (And.intro k3 hb)))
  have c0 := blk_cell k1 0 rfl
  have kx : (x != 0) = true := by simp [hx]
  have He := Lib.hid e1
  clear hN hb hx k1 k2 k3
  go_enter Try.func13, Try.ntmps13
  go_wp2_with fail
  clear c0
  refine HN.out.mono ?_
  rintro e w2 ⟨rfl, hb2⟩
  obtain ⟨k1, k2, k3, hb⟩ := HK.out
  have k2' := blk_below k2 hb2
  have k3' := blk_below k3 hb2
  have c1 := blk_cell k2' 0 rfl
  have c2 := blk_cell k3' 0 rfl
  have f1 := blk_frozen k2' 0
  have f2 := blk_frozen k3' 0
  have HB2 := Lib.hid (And.intro k2' (And.intro k3' (bnext hb hb2)))
  clear hb2 k1 k2 k3 hb k2' k3'
  go_wp2_with fail
  obtain ⟨k2', k3', hb3⟩ := HB2.out
  refine bodyPost_ret (v := .tuple #[.slice none 0 0, .int .i64 x]) ?_ rfl ⟨rfl, ?_⟩
  · simp [results, go_sem, c1, c2, f1, f2]
  · exact (hb3.setCell (p := ⟨w.heap.size + 1, 0, none⟩) (by show w.heap.size ≤ w.heap.size + 1; omega) _).setCell (p := ⟨w.heap.size + 1 + 1, 0, none⟩) (by show w.heap.size ≤ w.heap.size + 1 + 1; omega) _

theorem rd_boxes (w : World) (n : Int) : ∃ w1, ((w.alloc (.cells #[.int .i64 n] 3)).alloc (.cells #[.slice none 0 0] 23)).alloc (.cells #[.int .i64 0] 29) = w1 ∧ Boxed w1 w.heap.size 3 (.int .i64 n) ∧ Boxed w1 (w.heap.size + 1) 23 (.slice none 0 0) ∧ Boxed w1 (w.heap.size + 1 + 1) 29 (.int .i64 0) ∧ Below w.heap.size w w1 ∧ w1.heap.size = w.heap.size + 3 := by
  refine ⟨_, rfl, ?_, ?_, ?_, bnext (bnext (bstep w (.cells #[.int .i64 n] 3)) (bstep _ (.cells #[.slice none 0 0] 23))) (bstep _ (.cells #[.int .i64 0] 29)), by simp⟩
  · exact blk_below (blk_below (blk_new w _ _) (bstep _ _)) (bstep _ _)
  · have h := blk_below (blk_new (w.alloc (.cells #[.int .i64 n] 3)) #[.slice none 0 0] 23) (bstep _ (.cells #[.int .i64 0] 29)); rwa [World.size_alloc] at h
  · have h := blk_new ((w.alloc (.cells #[.int .i64 n] 3)).alloc (.cells #[.slice none 0 0] 23)) #[.int .i64 0] 29; rwa [World.size_alloc, World.size_alloc] at h
theorem seen_len {D : Dv} (h : DvOk D) {n : Nat} (hn : n < D.S.length) : (D.S.getD n []).length = 128 := by
  rw [List.getD_eq_getElem?_getD, List.getElem?_eq_getElem hn]; exact h.s _ (List.getElem_mem hn)
set_option maxRecDepth 100000 in
set_option maxHeartbeats 16000000 in
theorem dRead_calls (w : World) (B d sb sc : Nat) (V : Value) (D : Dv) (hD : DevO w B d sb sc V D) (n : Nat) (hn : n < D.S.length) (hdn : D.dn = false) :
    Calls Try.prog 13 #[.pointer (some ⟨d, 0, none⟩), .int .i64 (n : Int)] w (SafeB w (seenD D n)) := by
  have hF := wide_fn
  obtain ⟨CA, cc, eV, hd⟩ := hD.box
  subst eV
  obtain ⟨w1, e1, k0, k1, k2, hb1, hs1⟩ := rd_boxes w n
  have hX := dup_dev w B d sb sc _ D hD n w1 hb1
  rw [show upE D.S.length D.dn n = 0 by unfold upE; rw [if_neg (by omega), if_neg (by simp [hdn]), if_pos (by omega)]] at hX
  have HX := Lib.hid hX
  have HD := Lib.hid hD
  have Hn := Lib.hid hn
  obtain ⟨b0, hb0⟩ : ∃ b0, w.heap.size = b0 := ⟨_, rfl⟩
  have Hb0 := Lib.hid hb0
  rw [hb0] at k0 k1 k2 hs1
  have HK := Lib.hid (And.intro k0 (And.intro k1 (And.intro k2 (And.intro hb1 hs1))))
  have c0 := k0.cell
  have He := Lib.hid e1
  clear hX hD hd hn hdn k0 k1 k2 hb1 hs1
  refine calls_of_marks Try.func13 rfl ?_
  simp only [Try.ntmps13, List.size_toArray, List.length_cons, List.length_nil, Nat.reduceAdd, Nat.reduceSub, Array.replicate_succ, Array.replicate_zero, List.push_toArray, List.append_toArray, List.nil_append, List.cons_append]
  gi_wp2_with (first | (refine wpIn_scope ?_) | (refine wpIn_label ?_))
  clear c0
  refine (callsIn_wide.2 HX.out).mono ?_
  rintro e w2 ⟨rfl, hb2⟩
  obtain ⟨k0, k1, k2, hb1, hs1⟩ := HK.out
  have hw2 := bnext hb1 hb2
  have k0 := blk_below k0 hb2
  have k1 := blk_below k1 hb2
  have k2 := blk_below k2 hb2
  have hs2 : b0 + 3 ≤ w2.heap.size := by have := hb2.size; omega
  obtain ⟨CA2, cc2, eV, hd⟩ := (HD.out.go hw2).box
  injection eV with e5 e6 e7
  subst e5 e7
  obtain ⟨c0, c1, c2, c3, c4⟩ := hd.cells
  have HK2 := Lib.hid (And.intro k0 (And.intro k1 (And.intro k2 (And.intro hw2 hs2))))
  clear k0 k1 k2 hb1 hs1 hb2 hw2 hs2 hd e6
  gi_wp2_with (first | (refine wpIn_scope ?_) | (refine wpIn_label ?_))
  clear c0 c1 c2 c3 c4
  refine (callsIn_wide.2 (backward_calls w2 CA D.C.length cc)).mono ?_
  rintro e w3 ⟨rfl, rfl⟩
  obtain ⟨k0, k1, k2, hw2, hs2⟩ := HK2.out
  have hst := bstep w2 (.cells #[.slice CA D.C.length cc] 65)
  have bS : Boxed (w2.alloc (.cells #[.slice CA D.C.length cc] 65)) w2.heap.size 65 (.slice CA D.C.length cc) := Boxed.new w2 _ _
  have k0 := blk_below k0 hst
  have k1 := blk_below k1 hst
  have k2 := blk_below k2 hst
  have hw3 := bnext hw2 hst
  have hs3 : b0 + 3 ≤ (w2.alloc (.cells #[.slice CA D.C.length cc] 65)).heap.size := by simp; omega
  have hR0 : Rd w w.heap.size CA (D.C.length * 129) (fun i => (cacC D.C).getD i undef) := holdC_of HD.out.cac (Nat.le_refl _)
  have hR3 := Rd.below hR0 hw3
  obtain ⟨b1, hb1⟩ : ∃ b1, w2.heap.size = b1 := ⟨_, rfl⟩
  obtain ⟨w3, e3⟩ : ∃ w3, w2.alloc (.cells #[.slice CA D.C.length cc] 65) = w3 := ⟨_, rfl⟩
  rw [e3] at bS k0 k1 k2 hw3 hs3 hR3
  rw [hb1] at bS
  rw [e3, hb1]
  rw [Hb0.out] at hw3 hR3
  have hC128 : ∀ x ∈ D.C, x.2.length = 128 := fun x hx => (HD.out.ok.c x hx).2
  have hm := HD.out.ok.m
  have HC := Lib.hid hC128
  have Hb1 := Lib.hid (show b1 ≠ b0 + 1 ∧ b1 ≠ b0 + 1 + 1 by constructor <;> omega)
  clear hst e3 hw2 hs2 hR0 hb1
  gi_wp2_with (first | (refine wpIn_scope ?_) | (refine wpIn_label ?_))
  refine wpIn_rangeV rfl (by decide) (gf := 44) (lb := #[.pointer (some ⟨b1, 0, none⟩)]) rfl trivial (enters_of Try.func44 (by kernel_rfl) rfl)
    (seqX_late (back_seq b1 b0 CA cc D.C hC128 hm)) (fun A B h => keepsBel h) (fun k v W hv => by obtain ⟨x, -, rfl⟩ := hv; rfl)
    (HoldC.own.and (sizeOwn _ _)) (fun _ => HoldC.own.and (sizeOwn _ _)) (OwnW.const _) (fun _ => OwnW.const _) ⟨⟨bS, hR3⟩, by omega⟩
    (RdI0 b0 n w D.C) (RdX0 b0 n w D.C) (fun k => rdI0_own (by omega)) (fun c k => rdX0_own (by omega)) (fun k A B h hb => rdI0_go h hb) (fun c k A B h hb => rdX0_go h hb)
    ⟨fun j hj => absurd hj (by omega), k0, k1, k2, hw3, hs3⟩ ?round ?done ?stop
  case round =>
    rintro lo k x W hk ⟨q, hx, rfl⟩ hI hG
    rw [List.length_reverse, List.length_range] at hk
    rw [back_at _ _ hk] at hx
    injection hx with hx
    obtain ⟨x, hxx⟩ : ∃ x, D.C.getD q default = x := ⟨_, rfl⟩
    have hql : q < D.C.length := by omega
    have hxl := HC.out _ (getD_mem' hql)
    unfold backE
    rw [hxx] at hxl ⊢
    obtain ⟨m, b⟩ := x
    have hb : b.length = 128 := hxl
    obtain ⟨Z, hZ, hz⟩ := zero_write
    have HI := Lib.hid (show (Try.prog.info? 71).map (·.size) = some (cW (m, b)).toArray.size by rw [List.size_toArray, cW_len hb]; kernel_rfl)
    have HO := Lib.hid (show Z.size = (cW (m, b)).toArray.size by rw [hZ, List.size_toArray, cW_len hb])
    have H1 := Lib.hid (show (cW (m, b)).toArray.all (·.oneCell') = true from all_oneCell_toArray (cW_all (m, b)))
    obtain ⟨W1, hW1⟩ : ∃ W1, W.alloc (.cells (cW (m, b)).toArray 71) = W1 := ⟨_, rfl⟩
    have hst : Below W.heap.size W W1 := hW1 ▸ bstep W _
    obtain ⟨z, hzz⟩ : ∃ z, W.heap.size = z := ⟨_, rfl⟩
    have HZ := Lib.hid (show (W.alloc (.cells Z 71)).heap[z]? = some (.cells Z 71 (0, 0)) by rw [← hzz]; exact blk_new W Z _)
    have HSR := Lib.hid (show (W.alloc (.cells Z 71)).setRow z (cW (m, b)).toArray = W1 by rw [← hW1, ← hzz]; exact World.setRow_alloc_new _ _ _ _)
    have Hq := Lib.hid hzz
    have hr1 : W1.heap[z]? = some (.cells (cW (m, b)).toArray 71 (0, 0)) := by rw [← hzz, ← hW1]; exact World.alloc_heap_new W _
    have HI0 := Lib.hid hI
    have HG := Lib.hid (show HoldC b1 b0 CA cc D.C W1 ∧ b0 ≤ W1.heap.size from ⟨⟨blk_below hG.1.1 hst, Rd.below hG.1.2 (hst.mono hG.2)⟩, Nat.le_trans hG.2 hst.size⟩)
    have Hst := Lib.hid hst
    have Hr1 := Lib.hid hr1
    have HW1 := Lib.hid hW1
    have Hb := Lib.hid (And.intro hb (And.intro hk (And.intro hx hxx)))
    clear bS k0 k1 k2 hw3 hs3 hR3 hC128 hm hI hG hst hr1 hW1 hxl hb hk hx hxx hql hZ
    gi_wp2_with (first | (refine wpListIn_via (wide_round _) rfl (by intro c hc; cases hc) (fun K hK => wp_store_row _ _ _ rfl _ _ rfl rfl _ _ HZ.out HI.out HO.out H1.out (hK _ _ ?_)); clear hK K; rw [HSR.out]))
    try rw [HSR.out]
    refine ⟨keepsBel Hst.out, rdI0_go HI0.out Hst.out, HG.out, fun X => X.heap[z]? = some (.cells (cW (m, b)).toArray 71 (0, 0)), block_ownW, Hr1.out, ?_⟩
    rintro X hrX ⟨hmiss, hbN, hbR, hbE, hbw, hbs⟩ hGX hszX
    have cN := hbN.cell
    have c0 := blk_cell hrX 0 (v := .int .i64 (m : Int)) (by simp [cW])
    obtain ⟨hb, hk, hx, hxx⟩ := Hb.out
    by_cases hmn : m = n
    · subst hmn
      have cR := hbR.cell
      have cE := hbE.cell
      have fR := hbR.frozen
      have fE := hbE.frozen
      have hrb : RdB X X.heap.size (some ⟨z, 1, none⟩) b := by
        refine .inr ⟨z, 1, rfl, blk_lt hrX, fun i hi => blk_cell hrX (1 + i) ?_⟩
        rw [Nat.add_comm]; simp [cW, bv, bAt, hi]
      have HCl := Lib.hid (clone_n (some ⟨z, 1, none⟩) 128 128 b hb.symm (by omega) X hrb (fun e => by cases e))
      have HX2 := Lib.hid (And.intro hmiss (And.intro hbN (And.intro hbR (And.intro hbE (And.intro hbw (And.intro hbs hGX))))))
      clear hmiss hbN hbR hbE hbw hbs hGX hrb hb hk hx hxx hrX
      gi_wp2
      clear cR cE fR fE
      refine (callsIn_wide.2 HCl.out).mono ?_
      rintro e X2 ⟨A', c', rfl, ho, hb2⟩
      obtain ⟨hmiss, hbN, hbR, hbE, hbw, hbs, hGX⟩ := HX2.out
      have hbR2 := blk_below hbR hb2
      have hbE2 := blk_below hbE hb2
      have cR := Boxed.cell hbR2
      have cE := Boxed.cell hbE2
      have fR := Boxed.frozen hbR2
      have fE := Boxed.frozen hbE2
      obtain ⟨hb, hk, hx, hxx⟩ := Hb.out
      have hgo : ∀ g, (Value.slice A' 128 c').ownBlock = some g → X.heap.size ≤ g := fun g hg => (ho.lt g hg).1
      have HH := Lib.hid (show KeepsOthers X ((X2.setCell ⟨b0 + 1, 0, none⟩ (.slice A' 128 c')).setCell ⟨b0 + 1 + 1, 0, none⟩ (.int .i64 0)) ∧ (HoldC b1 b0 CA cc D.C ((X2.setCell ⟨b0 + 1, 0, none⟩ (.slice A' 128 c')).setCell ⟨b0 + 1 + 1, 0, none⟩ (.int .i64 0)) ∧ b0 ≤ ((X2.setCell ⟨b0 + 1, 0, none⟩ (.slice A' 128 c')).setCell ⟨b0 + 1 + 1, 0, none⟩ (.int .i64 0)).heap.size) ∧ RdX0 b0 m w D.C .ret (k + 1) ((X2.setCell ⟨b0 + 1, 0, none⟩ (.slice A' 128 c')).setCell ⟨b0 + 1 + 1, 0, none⟩ (.int .i64 0)) from by
        have e1 : b1 ≠ b0 + 1 := Hb1.out.1
        have e2 : b1 ≠ b0 + 1 + 1 := Hb1.out.2
        refine ⟨((keepsBel hb2).trans (KeepsOthers.setCell _ _ _)).trans (KeepsOthers.setCell _ _ _), ⟨⟨(heap_setCell_other _ ⟨b0 + 1 + 1, 0, none⟩ b1 _ e2).trans ((heap_setCell_other X2 ⟨b0 + 1, 0, none⟩ b1 _ e1).trans (blk_below hGX.1.1 hb2)), Rd.setCell (Rd.setCell (Rd.below hGX.1.2 (hb2.mono hGX.2)) (by show b0 ≤ b0 + 1; omega) _) (by show b0 ≤ b0 + 1 + 1; omega) _⟩, ?_⟩,
          rfl, ⟨k, rfl, hk, hmiss, by rw [hx, hxx], A', c', ?_, ?_, ?_⟩, ?_, ?_⟩
        · have := hb2.size; have := hGX.2; simp; omega
        · exact (heap_setCell_other _ ⟨b0 + 1 + 1, 0, none⟩ (b0 + 1) _ (by show b0 + 1 ≠ b0 + 1 + 1; omega)).trans ((show Boxed X2 (b0 + 1) 23 (.slice none 0 0) from hbR2).set _)
        · exact (show Boxed (X2.setCell ⟨b0 + 1, 0, none⟩ (.slice A' 128 c')) (b0 + 1 + 1) 29 (.int .i64 0) from (heap_setCell_other X2 ⟨b0 + 1, 0, none⟩ (b0 + 1 + 1) _ (by show b0 + 1 + 1 ≠ b0 + 1; omega)).trans hbE2).set _
        · rw [hx, hxx]
          refine own_mono (base' := X.heap.size) ?_ hbs
          exact own_set_other (own_set_other ho (b0 + 1) 0 (fun e => by have := hgo _ e; omega) _) (b0 + 1 + 1) 0 (fun e => by have := hgo _ e; omega) _
        · exact ((hbw.trans (hb2.mono (by omega))).setCell (p := ⟨b0 + 1, 0, none⟩) (by show b0 ≤ b0 + 1; omega) _).setCell (p := ⟨b0 + 1 + 1, 0, none⟩) (by show b0 ≤ b0 + 1 + 1; omega) _
        · have := hb2.size; simp; omega)
      clear hmiss hbN hbR hbE hbw hbs hGX hb2 hbR2 hbE2 ho hgo hb hk hx hxx hszX
      gi_wp2
      exact HH.out
    · have kn : ((m : Int) == (n : Int)) = false := beq_eq_false_iff_ne.2 (by omega)
      have HH := Lib.hid (show KeepsOthers X X ∧ (HoldC b1 b0 CA cc D.C X ∧ b0 ≤ X.heap.size) ∧ RdI0 b0 n w D.C (k + 1) X from
        ⟨KeepsOthers.refl _, hGX, fun j hj => by
          by_cases e : j = k
          · rw [e, hx, hxx]; exact hmn
          · exact hmiss j (by omega), hbN, hbR, hbE, hbw, hbs⟩)
      clear hmiss hbN hbR hbE hbw hbs hGX hszX hrX hmn hb hk hx hxx
      gi_wp2
      exact HH.out
  case done =>
    rintro Dd W hDd ⟨hmiss, hbN, hbR, hbE, hbw, hbs⟩ _ hK
    rw [List.length_reverse, List.length_range] at hmiss
    have HDd := Lib.hid (show b0 + 3 ≤ Dd by omega)
    have hDb : b0 ≤ Dd := by omega
    have hv := seen_none hmiss
    have hbw' : Below w.heap.size w W := by rw [Hb0.out]; exact hbw
    obtain ⟨CA3, cc3, eV3, hd3⟩ := (HD.out.go hbw').box
    obtain ⟨q0, -, -, -, -⟩ := hd3.cells
    have cN := hbN.cell
    have hdl := (HD.out.go hbw').lt.1
    have n0 : (0 : Int) ≤ (n : Int) := by omega
    have n1 : (n : Int) < (D.S.length : Int) := by have := Hn.out; omega
    have HSS := Lib.hid (show ∀ X, Kept (fun b => b ≠ b0 + 1 ∧ b ≠ b0 + 1 + 1) W X → X.cell? ⟨d, 0, none⟩ = some (.slice (some ⟨sb, 0, none⟩) D.S.length sc) ∧ X.cell? ⟨b0, 0, none⟩ = some (.int .i64 (n : Int)) from fun X hb => ⟨(World.cell?_of_block (a := ⟨d, 0, none⟩) (hb.block d hdl ⟨by have := HD.out.lt.1; omega, by have := HD.out.lt.1; omega⟩)).trans q0, (World.cell?_of_block (a := ⟨b0, 0, none⟩) (hb.block b0 (block_lt cN) ⟨by omega, by omega⟩)).trans cN⟩)
    have HE2 := Lib.hid (show ∀ (X : World) (v : Value), X.heap[b0 + 1 + 1]? = some (.cells #[.int .i64 0] 29 (0, 0)) → Boxed (X.setCell ⟨b0 + 1, 0, none⟩ v) (b0 + 1 + 1) 29 (.int .i64 0) from fun X v h => (heap_setCell_other X ⟨b0 + 1, 0, none⟩ (b0 + 1 + 1) v (by show b0 + 1 + 1 ≠ b0 + 1; omega)).trans h)
    have hl := seen_len HD.out.ok Hn.out
    have hrd : RdB W.drew W.drew.heap.size (some ⟨sb, n * 128, none⟩) (D.S.getD n []) := by
      refine .inr ⟨sb, n * 128, rfl, (HD.out.go hbw').lt.2.1, fun j hj => ?_⟩
      exact sec_range (HD.out.go hbw').saf HD.out.ok.s n Hn.out j (.int .u8 (bAt (D.S.getD n []) j)) (by unfold bv; rw [List.getElem?_map, List.getElem?_eq_getElem hj]; simp only [Option.map_some, bAt, List.getD_eq_getElem?_getD (l := D.S.getD n []), List.getElem?_eq_getElem hj, Option.getD_some])
    have HCl := Lib.hid (clone_n (some ⟨sb, n * 128, none⟩) 128 128 (D.S.getD n []) hl.symm (by omega) W.drew hrd (fun e => by cases e))
    have HX2 := Lib.hid (And.intro hmiss (And.intro hbR (And.intro hbE (And.intro hbw hbs))))
    have HV := Lib.hid hv
    clear hmiss hbN hbR hbE hbw hbs hbw' hd3 eV3 q0 cN hdl hrd hl bS k0 k1 k2 hw3 hs3 hR3 hC128 hm hv hDb
    gi_wp2
    refine wpIn_normal (wpIn_wide.2 ?_)
    refine wp_region_held_drew (S := (fun X => X.cell? ⟨d, 0, none⟩ = some (.slice (some ⟨sb, 0, none⟩) D.S.length sc) ∧ X.cell? ⟨b0, 0, none⟩ = some (.int .i64 (n : Int)))) (by kernel_rfl) (HSS.out _ (Kept.refl _ _).drew) (fun hHeld => ?_)
    refine wpAnyH_take (i := 0) (v := ?_) rfl (by kernel_rfl) (by kernel_rfl) (by kernel_rfl) (fun _ _ _ h => h) (Or.inl ⟨by kernel_rfl, ?_⟩) (by assumption) ?_
    rotate_left
    · intro w hSw; (try dsimp only at hSw); go_simp; try with_reducible rfl
    simp only [Act.put, List.getElem_toArray, List.getElem_cons_succ, List.getElem_cons_zero, List.setIfInBounds_toArray, List.set_cons_zero, List.set_cons_succ]
    refine wpAnyH_take (i := 1) (v := ?_) rfl (by kernel_rfl) (by kernel_rfl) (by kernel_rfl) (fun _ _ _ h => h) (Or.inl ⟨by kernel_rfl, ?_⟩) (by assumption) ?_
    rotate_left
    · intro w hSw; (try dsimp only at hSw); go_simp; try with_reducible rfl
    simp only [Act.put, List.getElem_toArray, List.getElem_cons_succ, List.getElem_cons_zero, List.setIfInBounds_toArray, List.set_cons_zero, List.set_cons_succ]
    refine wpAnyH_take (i := 2) (v := ?_) rfl (by kernel_rfl) (by kernel_rfl) (by kernel_rfl) (fun _ _ _ h => h) (Or.inl ⟨by kernel_rfl, ?_⟩) (by assumption) ?_
    rotate_left
    · intro w hSw; (try dsimp only at hSw); go_simp; try with_reducible rfl
    simp only [Act.put, List.getElem_toArray, List.getElem_cons_succ, List.getElem_cons_zero, List.setIfInBounds_toArray, List.set_cons_zero, List.set_cons_succ]
    refine wpAnyH_take (i := 3) (v := ?_) rfl (by kernel_rfl) (by kernel_rfl) (by kernel_rfl) (fun _ _ _ h => h) (Or.inl ⟨by kernel_rfl, ?_⟩) (by assumption) ?_
    rotate_left
    · intro w hSw; (try dsimp only at hSw); go_simp; try with_reducible rfl
    simp only [Act.put, List.getElem_toArray, List.getElem_cons_succ, List.getElem_cons_zero, List.setIfInBounds_toArray, List.set_cons_zero, List.set_cons_succ]
    refine wpAnyH_take (i := 4) (v := ?_) rfl (by kernel_rfl) (by kernel_rfl) (by kernel_rfl) (fun _ _ _ h => h) (Or.inl ⟨by kernel_rfl, ?_⟩) (by assumption) ?_
    rotate_left
    · intro w hSw; (try dsimp only at hSw); go_simp; try with_reducible rfl
    simp only [Act.put, List.getElem_toArray, List.getElem_cons_succ, List.getElem_cons_zero, List.setIfInBounds_toArray, List.set_cons_zero, List.set_cons_succ]
    refine wpAnyH_take (i := 5) (v := ?_) rfl (by kernel_rfl) (by kernel_rfl) (by kernel_rfl) (fun _ _ _ h => h) (Or.inl ⟨by kernel_rfl, ?_⟩) (by assumption) ?_
    rotate_left
    · intro w hSw; (try dsimp only at hSw); go_simp; try with_reducible rfl
    simp only [Act.put, List.getElem_toArray, List.getElem_cons_succ, List.getElem_cons_zero, List.setIfInBounds_toArray, List.set_cons_zero, List.set_cons_succ]
    refine wpAnyH_take (i := 6) (v := ?_) rfl (by kernel_rfl) (by kernel_rfl) (by kernel_rfl) (fun _ _ _ h => h) (Or.inl ⟨by kernel_rfl, ?_⟩) (by assumption) ?_
    rotate_left
    · intro w hSw; (try dsimp only at hSw); go_simp; try with_reducible rfl
    simp only [Act.put, List.getElem_toArray, List.getElem_cons_succ, List.getElem_cons_zero, List.setIfInBounds_toArray, List.set_cons_zero, List.set_cons_succ]
    refine wpAnyH_ready (rs := [7]) (by kernel_rfl) (by simp) ?_
    refine AllReadyH.cons rfl (fun K hK => ?_) AllReadyH.nil
    go_simp
    refine HCl.out.mono ?_
    rintro e X2 ⟨A', c', rfl, ho, hb2⟩
    obtain ⟨hmiss, hbR, hbE, hbw, hbs⟩ := HX2.out
    have hb3 := (Below.refl W.heap.size W).drew.trans hb2
    have hbR2 := blk_below hbR hb3
    have hbE2 := blk_below hbE hb3
    have HY := Lib.hid (And.intro ho (And.intro hb3 (And.intro hbR2 hbE2)))
    clear ho hb2 hb3 hbR hbE hbR2 hbE2 hmiss hbw hbs
    try go_wp2_with fail
    refine hK.out _ _ (HSS.out _ (HY.out.2.1.keptS _)) (fun hHeld => ?_)
    clear hK K
    try simp only [Act.put, List.getElem_toArray, List.getElem_cons_succ, List.getElem_cons_zero, List.setIfInBounds_toArray, List.set_cons_zero, List.set_cons_succ]
    refine wpAnyH_ready (rs := [8]) (by kernel_rfl) (by simp) ?_
    refine AllReadyH.cons rfl (fun K hK => ?_) AllReadyH.nil
    have cR := Boxed.cell HY.out.2.2.1
    have fR := Boxed.frozen HY.out.2.2.1
    go_simp
    clear cR fR
    refine hK.out _ _ (HSS.out _ ((HY.out.2.1.keptS _).setCell (fun h => h.1 rfl) _)) (fun hHeld => ?_)
    clear hK K
    try simp only [Act.put, List.getElem_toArray, List.getElem_cons_succ, List.getElem_cons_zero, List.setIfInBounds_toArray, List.set_cons_zero, List.set_cons_succ]
    refine wpAnyH_ready (rs := [9]) (by kernel_rfl) (by simp) ?_
    refine AllReadyH.cons rfl (fun K hK => ?_) AllReadyH.nil
    have cE := Boxed.cell (HE2.out X2 (.slice A' 128 c') HY.out.2.2.2)
    have fE := Boxed.frozen (HE2.out X2 (.slice A' 128 c') HY.out.2.2.2)
    go_simp
    clear cE fE
    refine hK.out _ _ (HSS.out _ (((HY.out.2.1.keptS _).setCell (fun h => h.1 rfl) _).setCell (p := ⟨b0 + 1 + 1, 0, none⟩) (fun h => h.2 rfl) _)) (fun hHeld => ?_)
    clear hK K
    try simp only [Act.put, List.getElem_toArray, List.getElem_cons_succ, List.getElem_cons_zero, List.setIfInBounds_toArray, List.set_cons_zero, List.set_cons_succ]
    refine wpAnyH_done (by kernel_rfl) ?_ _
    simp only [normalOnly]
    gi_wp2
    have hKf : ((X2.setCell ⟨b0 + 1, 0, none⟩ (.slice A' 128 c')).setCell ⟨b0 + 1 + 1, 0, none⟩ (.int .i64 0)).heap[Dd]? = some (.deferred (some [])) := (heap_setCell_other _ ⟨b0 + 1 + 1, 0, none⟩ Dd _ (by show Dd ≠ b0 + 1 + 1; have := HDd.out; omega)).trans ((heap_setCell_other _ ⟨b0 + 1, 0, none⟩ Dd _ (by show Dd ≠ b0 + 1; have := HDd.out; omega)).trans ((HY.out.2.1.block Dd (Array.getElem?_eq_some_iff.1 hK).1).trans hK))
    obtain ⟨ho, hb3, hbR2, hbE2⟩ := HY.out
    obtain ⟨-, -, -, hbw, hbs⟩ := HX2.out
    have hgo : ∀ g, (Value.slice A' 128 c').ownBlock = some g → W.heap.size ≤ g := fun g hg => (ho.lt g hg).1
    have hbRf : Boxed ((X2.setCell ⟨b0 + 1, 0, none⟩ (.slice A' 128 c')).setCell ⟨b0 + 1 + 1, 0, none⟩ (.int .i64 0)) (b0 + 1) 23 (.slice A' 128 c') := (heap_setCell_other _ ⟨b0 + 1 + 1, 0, none⟩ (b0 + 1) _ (by show b0 + 1 ≠ b0 + 1 + 1; omega)).trans ((show Boxed X2 (b0 + 1) 23 (.slice none 0 0) from hbR2).set _)
    have hbEf : Boxed ((X2.setCell ⟨b0 + 1, 0, none⟩ (.slice A' 128 c')).setCell ⟨b0 + 1 + 1, 0, none⟩ (.int .i64 0)) (b0 + 1 + 1) 29 (.int .i64 0) := (HE2.out X2 (.slice A' 128 c') hbE2).set _
    have hof := own_set_other (own_set_other ho (b0 + 1) 0 (fun e => by have := hgo _ e; omega) (.slice A' 128 c')) (b0 + 1 + 1) 0 (fun e => by have := hgo _ e; omega) (.int .i64 0)
    have hBf : Below b0 w ((X2.setCell ⟨b0 + 1, 0, none⟩ (.slice A' 128 c')).setCell ⟨b0 + 1 + 1, 0, none⟩ (.int .i64 0)) := ((hbw.trans (hb3.mono (by show b0 ≤ W.heap.size; omega))).setCell (p := ⟨b0 + 1, 0, none⟩) (by show b0 ≤ b0 + 1; omega) _).setCell (p := ⟨b0 + 1 + 1, 0, none⟩) (by show b0 ≤ b0 + 1 + 1; omega) _
    obtain ⟨Wf, hWf⟩ : ∃ Wf, (X2.setCell ⟨b0 + 1, 0, none⟩ (.slice A' 128 c')).setCell ⟨b0 + 1 + 1, 0, none⟩ (.int .i64 0) = Wf := ⟨_, rfl⟩
    rw [hWf] at hKf hbRf hbEf hof hBf
    have hlf : b0 + 3 ≤ Wf.heap.size := by rw [← hWf]; have := hb3.size; simp; omega
    rw [hWf]
    have hR1 := (boxed_ownW (b0 + 3) _ _ _).putObj (.deferred none) hbRf HDd.out hKf rfl
    have hE1 := (boxed_ownW (b0 + 3) _ _ _).putObj (.deferred none) hbEf HDd.out hKf rfl
    have ho1 := (own_ownW (B := b0 + 3)).putObj (.deferred none) hof HDd.out hKf rfl
    refine ⟨by simp, .inl ⟨_, _, rfl, run_takeDeferred hKf, ?_⟩⟩
    refine ⟨_, results_cells45 rfl _ _ rfl rfl hR1.cell hE1.cell, A', c', rfl, ?_, ?_⟩
    · rw [HV.out]; exact own_mono ho1 (by rw [Hb0.out]; show b0 ≤ W.heap.size; omega)
    · rw [Hb0.out]; exact hBf.putObj (by have := HDd.out; omega) (by omega) _
  case stop =>
    rintro Dd c k W hDd hk ⟨rfl, ⟨q, hkq, hq, hmiss, hn0, A', c', hbR, hbE, ho⟩, hbw, hbs⟩ _ hK
    have HDd := Lib.hid (show b0 + 3 ≤ Dd by omega)
    have HBX := Lib.hid (And.intro hbR hbE)
    have hDb : b0 ≤ Dd := by have := hDd; omega
    have hv : seenD D n = (D.C.getD (D.C.length - 1 - q) default).2 := seen_hit hq hmiss hn0
    rw [← hv] at ho
    have HV := Lib.hid (And.intro ho (And.intro hbw (And.intro hbs hDb)))
    have cR := hbR.cell
    have cE := hbE.cell
    clear hv hmiss hn0 hbR hbE bS k0 k1 k2 hw3 hs3 hR3 hC128 hm ho hbw hbs
    gi_wp2
    obtain ⟨ho, hbw, hbs, hDb⟩ := HV.out
    have hR1 := (boxed_ownW (b0 + 3) _ _ _).putObj (.deferred none) HBX.out.1 HDd.out hK rfl
    have hE1 := (boxed_ownW (b0 + 3) _ _ _).putObj (.deferred none) HBX.out.2 HDd.out hK rfl
    have ho1 := (own_ownW (B := b0 + 3)).putObj (.deferred none) ho HDd.out hK rfl
    refine ⟨by simp, .inl ⟨_, _, rfl, run_takeDeferred hK, ?_⟩⟩
    refine ⟨_, results_cells45 rfl _ _ rfl rfl hR1.cell hE1.cell, A', c', rfl, ?_, ?_⟩
    · exact own_mono ho1 (by rw [Hb0.out]; omega)
    · rw [Hb0.out]; exact hbw.putObj hDb (by omega) _

end Go.Proofs.Ytpleaicpkpjkjaa
