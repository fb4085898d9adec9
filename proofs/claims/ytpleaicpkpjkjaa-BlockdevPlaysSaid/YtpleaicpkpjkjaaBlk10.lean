/-
  A device of sectors: Write, walked. Conditions stand at each theorem.
-/
import Derived.Test.YtpleaicpkpjkjaaBlk9
namespace Go.Proofs.Ytpleaicpkpjkjaa
open Go Go.RowKit Go.Kw
set_option linter.unusedVariables false
set_option linter.unusedSimpArgs false

set_option maxHeartbeats 4000000 in
/-- Write at a pointer of which 'up' says e. -/
theorem dWrite_no (w : World) (pv : Option Addr) (n : Int) (A : Option Addr) (m c : Nat) (x : Int) (hx : x ≠ 0)
    (hU : ∀ w, Below w.heap.size w w → True) (hN : ∀ w', Below w.heap.size w w' → Calls Try.prog 28 #[.pointer pv, .int .i64 n] w' fun e w2 => e = .returned (.int .i64 x) ∧ Below w'.heap.size w' w2) :
    Calls Try.prog 10 #[.pointer pv, .int .i64 n, .slice A m c] w fun e w' => e = .returned (.int .i64 x) ∧ Below w.heap.size w w' := by
  have hb := bnext (bnext (bstep w (.cells #[.pointer pv] 28)) (bstep _ (.cells #[.int .i64 n] 3))) (bstep _ (.cells #[.slice A m c] 23))
  have HN := Lib.hid (hN _ hb)
  have HB := Lib.hid hb
  have kx : (x != 0) = true := by simp [hx]
  clear hN hb hx hU
  go_enter Try.func10, Try.ntmps10
  go_wp2_with fail
  refine HN.out.mono ?_
  rintro e w2 ⟨rfl, hb2⟩
  have HB2 := Lib.hid (bnext HB.out hb2)
  clear hb2
  go_wp2_with fail
  go_ret
  exact ⟨rfl, HB2.out⟩
/-- Write's three boxes. -/
theorem wr_boxes (w : World) (pv : Value) (n : Int) (A : Option Addr) (m c : Nat) (w2 : World) (hb : Below (((w.alloc (.cells #[pv] 28)).alloc (.cells #[.int .i64 n] 3)).alloc (.cells #[.slice A m c] 23)).heap.size (((w.alloc (.cells #[pv] 28)).alloc (.cells #[.int .i64 n] 3)).alloc (.cells #[.slice A m c] 23)) w2) :
    w2.cell? ⟨w.heap.size, 0, none⟩ = some pv ∧ w2.cell? ⟨w.heap.size + 1, 0, none⟩ = some (.int .i64 n) ∧ w2.cell? ⟨w.heap.size + 1 + 1, 0, none⟩ = some (.slice A m c) := by
  obtain ⟨w1, e1⟩ : ∃ w1, w.alloc (.cells #[pv] 28) = w1 := ⟨_, rfl⟩
  obtain ⟨w1', e2⟩ : ∃ w1', w1.alloc (.cells #[.int .i64 n] 3) = w1' := ⟨_, rfl⟩
  have s1 : w1.heap.size = w.heap.size + 1 := by rw [← e1, World.size_alloc]
  have s2 : w1'.heap.size = w.heap.size + 1 + 1 := by rw [← e2, World.size_alloc, s1]
  rw [e1, e2] at hb
  have h0 : w1.heap[w.heap.size]? = some (.cells #[pv] 28 (0, 0)) := by rw [← e1]; exact blk_new w _ _
  have h1 : w1'.heap[w1.heap.size]? = some (.cells #[.int .i64 n] 3 (0, 0)) := by rw [← e2]; exact blk_new w1 _ _
  have h0' : w1'.heap[w.heap.size]? = some (.cells #[pv] 28 (0, 0)) := by rw [← e2]; exact blk_below h0 (bstep w1 _)
  have b3 := bstep w1' (.cells #[.slice A m c] 23)
  refine ⟨blk_cell (blk_below (blk_below h0' b3) hb) 0 rfl, ?_, ?_⟩
  · rw [← s1]; exact blk_cell (blk_below (blk_below h1 b3) hb) 0 rfl
  · rw [← s2]; exact blk_cell (blk_below (blk_new w1' _ _) hb) 0 rfl
section
variable {w w4 : World} {B d sb sc : Nat} {V : Value} {D : Dv}
/-- counted, at Write's closure. -/
theorem cnt_put (hD : DevO w B d sb sc V D) (hk : 0 ≤ D.k ∧ D.k < 4611686018427387904) (hB : B ≤ w.heap.size) (n : Nat) (hn : n < D.S.length) (l : List UInt8) (hl : l.length = 128) (hc : D.C.length < 256) (hb : Below w.heap.size w w4) (b0 b1 b2 bb off bc : Nat)
    (h0 : w4.cell? ⟨b0, 0, none⟩ = some (.pointer (some ⟨d, 0, none⟩))) (h1 : w4.cell? ⟨b1, 0, none⟩ = some (.int .i64 (n : Int))) (h2 : w4.cell? ⟨b2, 0, none⟩ = some (.slice (some ⟨bb, off, none⟩) 128 bc)) (hr : w4.rangeAt bb off (bv l))
    (n0 : Ft d sb V b0) (n1 : Ft d sb V b1) (n2 : Ft d sb V b2) (nb : Ft d sb V bb) :
    Calls Try.prog 30 #[.pointer (some ⟨d, 0, none⟩), .func (.func 29) #[] #[.pointer (some ⟨b0, 0, none⟩), .pointer (some ⟨b1, 0, none⟩), .pointer (some ⟨b2, 0, none⟩)], .func (.func 29) #[] #[.pointer (some ⟨b0, 0, none⟩), .pointer (some ⟨b1, 0, none⟩), .pointer (some ⟨b2, 0, none⟩)]] w4
      fun e w' => e = .returned (.int .i64 (cntV D { D with C := D.C ++ [(n, l)] } { D with C := D.C ++ [(n, l)] }).1) ∧ DevP w B d sb sc V (cntV D { D with C := D.C ++ [(n, l)] } { D with C := D.C ++ [(n, l)] }).2 w' := by
  have hD4 := hD.go hb
  obtain ⟨CA, cc, e, hd⟩ := hD4.box
  have hdC : ∀ x ∈ D.C, x.2.length = 128 := fun x hx => (hD.ok.c x hx).2
  have hok1 : DvOk { D with C := D.C ++ [(n, l)] } := ⟨hD.ok.s, fun x hx => by
    rcases List.mem_append.1 hx with hx | hx
    · exact hD.ok.c x hx
    · obtain rfl := List.mem_singleton.1 hx; exact ⟨hn, hl⟩, by simp; omega, hD.ok.n, hD.ok.p⟩
  have hW : ∀ w5, Kept (fun b => b ≠ d) w4 w5 → ∀ p' k', DevH w5 d (some ⟨sb, 0, none⟩) D.S.length sc CA D.C.length cc p' D.dn k' → w5.ownsRow B 71 129 V D.C.length (cacC D.C) →
      Calls Try.prog 29 #[.pointer (some ⟨b0, 0, none⟩), .pointer (some ⟨b1, 0, none⟩), .pointer (some ⟨b2, 0, none⟩)] w5 fun e W => (∃ u, e = .returned u) ∧ PutB w5 B d (some ⟨sb, 0, none⟩) D.S.length sc V (D.C ++ [(n, l)]) p' D.dn k' W := fun w5 h5 p' k' hd5 ho5 => by
    have hx : ∀ b, b ≠ d → ∀ i v, w4.cell? ⟨b, i, none⟩ = some v → w5.cell? ⟨b, i, none⟩ = some v := fun b hne i v hv => (World.cell?_of_block (a := ⟨b, i, none⟩) (h5.block b (block_lt hv) hne)).trans hv
    rw [e] at ho5 n0 n1 n2 nb ⊢
    have hdv := hD.dv
    rw [e] at hdv
    exact write1_calls w5 B b0 b1 b2 d _ _ _ CA _ cc p' D.dn k' hd5 D.C ho5 hdC rfl n l hl bb off bc (hx b0 n0.1 _ _ h0) (hx b1 n1.1 _ _ h1) (hx b2 n2.1 _ _ h2) (fun j v hv => hx bb nb.1 _ _ (hr j v hv))
      (Nat.le_trans hB (Nat.le_trans hb.size h5.size)) (by omega) hdv (fun b hb => by
        simp at hb
        rcases hb with rfl | rfl | rfl | rfl
        · exact ⟨n0.1, n0.2.2⟩
        · exact ⟨n1.1, n1.2.2⟩
        · exact ⟨n2.1, n2.2.2⟩
        · exact ⟨nb.1, nb.2.2⟩)
  have k4 := but_cells w4 d 4 (.int .i64 (D.k + 1))
  by_cases hp : D.p = 1
  · have ec : cntV D { D with C := D.C ++ [(n, l)] } { D with C := D.C ++ [(n, l)] } = (120, { D with C := D.C ++ [(n, l)], dn := true, p := 0, k := D.k + 1 }) := if_pos hp
    rw [ec]
    refine (cntW_last w4 d _ _ _ _ _ _ _ _ _ hd hk hD.ok.p _ _ hp (hW _ k4 _ _ (hd.set4 _) (own_set_other hD4.cac d 4 hD.dv _)) ?_).mono ?_
    · rintro W ⟨C', c', h, -⟩; exact ⟨_, _, _, h⟩
    · rintro e' w' ⟨rfl, W, hP, rfl⟩
      refine ⟨rfl, ?_⟩
      have h6 := dev_put (D' := { D with C := D.C ++ [(n, l)], k := D.k + 1 }) hD hb k4 (n, l) ⟨hok1.s, hok1.c, hok1.m, hok1.n, hok1.p⟩ rfl rfl hP
      exact h6.small (.inr trivial) ⟨hok1.s, hok1.c, hok1.m, hok1.n, by simp⟩ rfl rfl ((but_cells _ _ _ _).trans (but_cells _ _ _ _)) (fun A c CA cc h => (h.set3 true).set2 0)
  · have ec : cntV D { D with C := D.C ++ [(n, l)] } { D with C := D.C ++ [(n, l)] } = (0, { D with C := D.C ++ [(n, l)], p := planN D.p, k := D.k + 1 }) := if_neg hp
    rw [ec]
    have k5 := k4.trans (but_cells _ d 2 (.int .i64 (planN D.p)))
    refine (cntW_goes w4 d _ _ _ _ _ _ _ _ _ hd hk hD.ok.p _ _ hp (hW _ k5 _ _ ((hd.set4 _).set2 _) (own_set_other (own_set_other hD4.cac d 4 hD.dv _) d 2 hD.dv _))).mono ?_
    rintro e' w' ⟨rfl, hP⟩
    refine ⟨rfl, dev_put (D' := { D with C := D.C ++ [(n, l)], p := planN D.p, k := D.k + 1 }) hD hb k5 (n, l) ⟨hok1.s, hok1.c, hok1.m, hok1.n, ?_⟩ rfl rfl hP⟩
    have := hD.ok.p
    simp only [planN]; split <;> omega
end
section
variable (w : World) (B d sb sc : Nat) (V : Value) (D : Dv) (hD : DevO w B d sb sc V D)
include hD
/-- up, at a device. -/
theorem dup_dev (i : Int) (w' : World) (hb : Below w.heap.size w w') : Calls Try.prog 28 #[.pointer (some ⟨d, 0, none⟩), .int .i64 i] w' fun e w2 => e = .returned (.int .i64 (upE D.S.length D.dn i)) ∧ Below w'.heap.size w' w2 := by
  obtain ⟨CA, cc, e, hd⟩ := (hD.go hb).box
  exact dup_calls w' d _ _ _ _ _ _ _ _ _ i hd
set_option maxHeartbeats 8000000 in
theorem dWrite_calls (hk : 0 ≤ D.k ∧ D.k < 4611686018427387904) (hB : B ≤ w.heap.size) (n : Int) (A : Option Addr) (m c : Nat) (l : List UInt8) (hm : m = l.length) (hR : RdY w (Ft d sb V) A l) :
    Calls Try.prog 10 #[.pointer (some ⟨d, 0, none⟩), .int .i64 n, .slice A m c] w fun e w' => e = .returned (.int .i64 (putV D n l).1) ∧ DevP w B d sb sc V (putV D n l).2 w' := by
  have hN0 : ¬ D.S.length = 0 := by have := hD.ok.n; omega
  have hb0 := bnext (bnext (bstep w (.cells #[.pointer (some ⟨d, 0, none⟩)] 28)) (bstep _ (.cells #[.int .i64 n] 3))) (bstep _ (.cells #[.slice A m c] 23))
  rcases putE_cases D n l.length with ⟨hE, hdn⟩ | ⟨hdn, ⟨hE, hn⟩ | ⟨hn, ⟨hE, hl⟩ | ⟨hl, ⟨hE, hc⟩ | ⟨hc, hE⟩⟩⟩⟩
  · have ep : putV D n l = (120, D) := by unfold putV; rw [hE]; exact if_neg (by decide)
    rw [ep]
    exact (dWrite_no w _ n A m c 120 (by decide) (fun _ _ => trivial) (fun w' hb => by have h := dup_dev w B d sb sc V D hD n w' hb; rw [show upE D.S.length D.dn n = 120 by unfold upE; rw [if_neg hN0, if_pos hdn]] at h; exact h)).mono (fun e w' h => ⟨h.1, (DevP.refl hD).next h.2⟩)
  · have ep : putV D n l = (121, D) := by unfold putV; rw [hE]; exact if_neg (by decide)
    rw [ep]
    exact (dWrite_no w _ n A m c 121 (by decide) (fun _ _ => trivial) (fun w' hb => by have h := dup_dev w B d sb sc V D hD n w' hb; rw [show upE D.S.length D.dn n = 121 by unfold upE; rw [if_neg hN0, if_neg (by simp [hdn]), if_neg hn]] at h; exact h)).mono (fun e w' h => ⟨h.1, (DevP.refl hD).next h.2⟩)
  all_goals
    have hU := dup_dev w B d sb sc V D hD n
    rw [show upE D.S.length D.dn n = 0 by unfold upE; rw [if_neg hN0, if_neg (by simp [hdn]), if_pos hn]] at hU
  · have ep : putV D n l = (2, D) := by unfold putV; rw [hE]; exact if_neg (by decide)
    rw [ep]
    have HU := Lib.hid (hU _ hb0)
    have HB := Lib.hid hb0
    have HD := Lib.hid hD
    have kl : ((m : Int) != 128) = true := by simp; omega
    have Hs := Lib.hid (wr_boxes w (.pointer (some ⟨d, 0, none⟩)) n A m c)
    clear hU hb0 hD hk hB hm hR hN0 hE hl ep hdn hn
    go_enter Try.func10, Try.ntmps10
    go_wp2_with fail
    refine HU.out.mono ?_
    rintro e w2 ⟨rfl, hb2⟩
    obtain ⟨c0, c1, c2⟩ := Hs.out _ hb2
    have HB2 := Lib.hid (bnext HB.out hb2)
    clear hb2
    go_wp2_with fail
    go_ret
    exact ⟨rfl, (DevP.refl HD.out).next HB2.out⟩
  · have ep : putV D n l = (122, D) := by unfold putV; rw [hE]; exact if_neg (by decide)
    rw [ep]
    have HU := Lib.hid (hU _ hb0)
    have HB := Lib.hid hb0
    have HD := Lib.hid hD
    obtain rfl : m = 128 := by omega
    have kc : decide ((D.C.length : Int) ≥ 256) = true := decide_eq_true (by omega)
    have Hs := Lib.hid (wr_boxes w (.pointer (some ⟨d, 0, none⟩)) n A 128 c)
    clear hU hb0 hD hk hB hm hR hN0 hE hl ep hdn hn hc
    go_enter Try.func10, Try.ntmps10
    go_wp2_with fail
    refine HU.out.mono ?_
    rintro e w2 ⟨rfl, hb2⟩
    obtain ⟨c0, c1, c2⟩ := Hs.out _ hb2
    have hb3 := bnext HB.out hb2
    have HB2 := Lib.hid hb3
    obtain ⟨CA, cc, -, hd⟩ := (HD.out.go hb3).box
    obtain ⟨e0, e1, e2, e3, e4⟩ := hd.cells
    clear hb2 hb3 hd
    go_wp2_with fail
    go_ret
    exact ⟨rfl, (DevP.refl HD.out).next HB2.out⟩
  · have ep : putV D n l = cntV D { D with C := D.C ++ [(n.toNat, l)] } { D with C := D.C ++ [(n.toNat, l)] } := if_pos hE
    rw [ep]
    have HU := Lib.hid (hU _ hb0)
    have HB := Lib.hid hb0
    have HD := Lib.hid hD
    obtain rfl : m = 128 := by omega
    have kc : decide ((D.C.length : Int) ≥ 256) = false := decide_eq_false (by omega)
    have Hs := Lib.hid (wr_boxes w (.pointer (some ⟨d, 0, none⟩)) n A 128 c)
    obtain ⟨N, rfl⟩ : ∃ N : Nat, n = N := ⟨n.toNat, by omega⟩
    rw [Int.toNat_natCast] at ep ⊢
    have HC := Lib.hid (show ∀ w4, Below w.heap.size w w4 → w4.cell? ⟨w.heap.size, 0, none⟩ = some (.pointer (some ⟨d, 0, none⟩)) ∧ w4.cell? ⟨w.heap.size + 1, 0, none⟩ = some (.int .i64 (N : Int)) ∧ w4.cell? ⟨w.heap.size + 1 + 1, 0, none⟩ = some (.slice A 128 c) →
        Calls Try.prog 30 #[.pointer (some ⟨d, 0, none⟩), .func (.func 29) #[] #[.pointer (some ⟨w.heap.size, 0, none⟩), .pointer (some ⟨w.heap.size + 1, 0, none⟩), .pointer (some ⟨w.heap.size + 1 + 1, 0, none⟩)], .func (.func 29) #[] #[.pointer (some ⟨w.heap.size, 0, none⟩), .pointer (some ⟨w.heap.size + 1, 0, none⟩), .pointer (some ⟨w.heap.size + 1 + 1, 0, none⟩)]] w4
          fun e w' => e = .returned (.int .i64 (cntV D { D with C := D.C ++ [(N, l)] } { D with C := D.C ++ [(N, l)] }).1) ∧ DevP w B d sb sc V (cntV D { D with C := D.C ++ [(N, l)] } { D with C := D.C ++ [(N, l)] }).2 w' from fun w4 hb4 hs => by
      rcases hR with h0 | ⟨bb, off, eA, hf, hlt, hcl⟩
      · omega
      subst eA
      refine cnt_put hD hk hB N (by omega) l hl hc hb4 _ _ _ bb off c hs.1 hs.2.1 hs.2.2 (fun j v hv => ?_) (hD.new (by omega)) (hD.new (by omega)) (hD.new (by omega)) hf
      have hj : j < l.length := by have := (List.getElem?_eq_some_iff.1 hv).1; rwa [bv_length] at this
      have hv2 : v = .int .u8 (bAt l j) := by
        unfold bv at hv; rw [List.getElem?_map, List.getElem?_eq_getElem hj] at hv; simp [bAt, hj] at hv ⊢; exact hv.symm
      rw [hv2]
      exact (World.cell?_of_block (a := ⟨bb, off + j, none⟩) (hb4.block bb hlt)).trans (hcl j hj))
    generalize (cntV D { D with C := D.C ++ [(N, l)] } { D with C := D.C ++ [(N, l)] }) = R at *
    clear hU hb0 hD hk hB hm hR hN0 hE hl ep hdn hn hc
    go_enter Try.func10, Try.ntmps10
    go_wp2_with fail
    refine HU.out.mono ?_
    rintro e w2 ⟨rfl, hb2⟩
    have hs := Hs.out _ hb2
    have hb3 := bnext HB.out hb2
    have HX := Lib.hid (HC.out w2 hb3 hs)
    obtain ⟨c0, c1, c2⟩ := hs
    obtain ⟨CA, cc, -, hd⟩ := (HD.out.go hb3).box
    obtain ⟨e0, e1, e2, e3, e4⟩ := hd.cells
    clear hb2 hb3 hd
    go_wp2_with fail
    refine HX.out.mono ?_
    rintro e w3 ⟨rfl, hP⟩
    have HP := Lib.hid hP
    clear hP c0 c1 c2 e0 e1 e2 e3 e4
    go_wp2_with fail
    go_ret
    exact ⟨rfl, HP.out⟩
end
end Go.Proofs.Ytpleaicpkpjkjaa
