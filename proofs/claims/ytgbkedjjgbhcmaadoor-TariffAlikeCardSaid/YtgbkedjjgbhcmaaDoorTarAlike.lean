/-
  TariffAlike, walked. Conditions stand at each theorem.
-/
import Derived.Test.YtgbkedjjgbhcmaaDoorTarM13
import Derived.Test.YtgbkedjjgbhcmaaDoorTarOpen
namespace Go.Proofs.YtgbkedjjgbhcmaaDoor
open Go Go.RowKit Go.Kw Go.Kw.Cv Go.Shelf
set_option linter.unusedVariables false
set_option linter.unusedSimpArgs false

theorem tatE_of {x : Tar} {t : Int} (h : tatE x t = 0) : tlE x t = 0 ∧ atB x.vf t x.nv = true := by
  unfold tatE at h
  split at h
  · rename_i h1
    split at h
    · rename_i h2; exact ⟨h1, h2⟩
    · cases h
  · contradiction
theorem tatE_err {x : Tar} {t : Int} (h : tlE x t ≠ 0) : tatE x t = tlE x t := if_neg h
theorem alike_band {x : Tar} {t u : Int} (ht : tatE x t = 0) (hu : tatE x u = 0) (hS : tlS x t = tlS x u) (hK : tlK x t = tlK x u) (hM : tlM x t = tlM x u) : tatB x t = tatB x u := by
  unfold tatB
  rw [if_pos ht, if_pos hu]
  unfold atBd atP
  rw [hS, hK, hM]
theorem alike_price {x : Tar} {t u : Int} (ht : tatE x t = 0) (hu : tatE x u = 0) (hS : tlS x t = tlS x u) (hK : tlK x t = tlK x u) (hM : tlM x t = tlM x u) (hi : atI x.vf t x.nv = atI x.vf u x.nv) : tatP x t = tatP x u := by
  have hb := alike_band ht hu hS hK hM
  unfold tatB at hb
  rw [if_pos ht, if_pos hu] at hb
  unfold tatP
  rw [if_pos ht, if_pos hu, hb]
  have h1 := of_decide_eq_true (tatE_of ht).2
  have h2 := of_decide_eq_true (tatE_of hu).2
  unfold priV
  rw [if_pos h1, if_pos h2]
  unfold atI at hi
  rw [show verN x.vf t x.nv - 1 = verN x.vf u x.nv - 1 by omega]
set_option maxRecDepth 100000 in
set_option maxHeartbeats 32000000 in
theorem tariffAlike_walk (v : Value) (x : Tar) (t u : Int) (w : World) (hx : v = tarV x ∧ RdTar w x) (ht0 : (Lit.int .i64 t).wf = true) (hu0 : (Lit.int .i64 u).wf = true) (hL : Lens w) :
    Calls Tryd.prog 6 #[v, .int .i64 t, .int .i64 u] w fun e w' => e = .returned (.bool true) ∧ Below w.heap.size w w' := by
  obtain ⟨rfl, hT⟩ := hx
  obtain ⟨b0, hb0⟩ : ∃ b0, w.heap.size = b0 := ⟨_, rfl⟩
  have Hb0 := Lib.hid hb0
  obtain ⟨W1, hW1⟩ : ∃ W1, w.alloc (.cells (tarRow x) 54) = W1 := ⟨_, rfl⟩
  have hst : Below w.heap.size w W1 := hW1 ▸ bstep w _
  have hr : W1.heap[b0]? = some (.cells (tarRow x) 54 (0, 0)) := by rw [← hb0, ← hW1]; exact World.alloc_heap_new w _
  have HX := Lib.hid (And.intro (hT.go hst) (And.intro (hL.go hst) (And.intro hr hst)))
  have HA := Lib.hid (talive_calls W1 (hL.go hst))
  have HZ := Lib.hid (show ∀ W : World, Below W1.heap.size W1 W → RdTar W x ∧ Lens W ∧ W.heap[b0]? = some (.cells (tarRow x) 54 (0, 0)) ∧ Below w.heap.size w W from fun W hb => ⟨HX.out.1.go hb, HX.out.2.1.go hb, blk_below HX.out.2.2.1 hb, bnext HX.out.2.2.2 hb⟩)
  have HC := Lib.hid (show ∀ W : World, W.heap[b0]? = some (.cells (tarRow x) 54 (0, 0)) → W.cell? ⟨b0, 0, none⟩ = some (.int .i64 x.o) ∧ W.cell? ⟨b0, 1, none⟩ = some (.slice x.zA x.lr x.cr) ∧ W.cell? ⟨b0, 2, none⟩ = some (.slice x.hA x.la x.ca) ∧ W.cell? ⟨b0, 3, none⟩ = some (.slice x.sA x.lb x.cb) ∧ W.cell? ⟨b0, 4, none⟩ = some (.slice x.pA x.np x.cp) ∧ W.cell? ⟨b0, 5, none⟩ = some (.slice x.rA x.nr x.rc) ∧ W.cell? ⟨b0, 6, none⟩ = some (.slice x.vA x.nv x.cv) from
    fun W h => by
      unfold tarRow at h
      exact ⟨cell_of_row W b0 0 _ _ _ h, cell_of_row W b0 1 _ _ _ h, cell_of_row W b0 2 _ _ _ h, cell_of_row W b0 3 _ _ _ h, cell_of_row W b0 4 _ _ _ h, cell_of_row W b0 5 _ _ _ h, cell_of_row W b0 6 _ _ _ h⟩)
  have HG := Lib.hid (fun W (h : RdTar W x) => tgreat_calls x W h)
  have HLt := Lib.hid (fun W (h : RdTar W x) (hl : Lens W) => local_calls x t W h hl)
  have HLu := Lib.hid (fun W (h : RdTar W x) (hl : Lens W) => local_calls x u W h hl)
  have HAt := Lib.hid (fun W (h : RdTar W x) (hl : Lens W) => tarAt_calls x t W h hl)
  have HAu := Lib.hid (fun W (h : RdTar W x) (hl : Lens W) => tarAt_calls x u W h hl)
  have HRt := Lib.hid (fun (hok : TarOk x) W (h : RdTar W x) => ratAt_calls x.vA x.nv x.cv x.vf x.vF x.vp t hok.2.2.2.1 W h.2.2.2.2)
  have HRu := Lib.hid (fun (hok : TarOk x) W (h : RdTar W x) => ratAt_calls x.vA x.nv x.cv x.vf x.vF x.vp u hok.2.2.2.1 W h.2.2.2.2)
  have HP1 := Lib.hid (show (tlE x t = 0 ∨ tatE x t = tlE x t) ∧ (tlE x u = 0 ∨ tatE x u = tlE x u) from ⟨by by_cases h : tlE x t = 0; exact .inl h; exact .inr (tatE_err h), by by_cases h : tlE x u = 0; exact .inl h; exact .inr (tatE_err h)⟩)
  have HP2 := Lib.hid (show tatE x t = 0 → tatE x u = 0 → (TarOk x ∧ tlE x t = 0 ∧ tlE x u = 0) ∧ (0 ≤ tlM x t ∧ tlM x t < 1440) ∧ (tlS x t = tlS x u → tlK x t = tlK x u → tlM x t = tlM x u → tatB x t = tatB x u ∧ (atI x.vf t x.nv = atI x.vf u x.nv → tatP x t = tatP x u)) from
    fun h1 h2 => ⟨⟨(tlE_ok (tatE_of h1).1).1, (tatE_of h1).1, (tatE_of h2).1⟩, tlM_in x t, fun hS hK hM => ⟨alike_band h1 h2 hS hK hM, fun hi => alike_price h1 h2 hS hK hM hi⟩⟩)
  obtain ⟨S1, hS1⟩ : ∃ z, tlS x t = z := ⟨_, rfl⟩
  obtain ⟨K1, hK1⟩ : ∃ z, tlK x t = z := ⟨_, rfl⟩
  obtain ⟨M1, hM1⟩ : ∃ z, tlM x t = z := ⟨_, rfl⟩
  obtain ⟨E1, hE1⟩ : ∃ z, tlE x t = z := ⟨_, rfl⟩
  obtain ⟨S2, hS2⟩ : ∃ z, tlS x u = z := ⟨_, rfl⟩
  obtain ⟨K2, hK2⟩ : ∃ z, tlK x u = z := ⟨_, rfl⟩
  obtain ⟨M2, hM2⟩ : ∃ z, tlM x u = z := ⟨_, rfl⟩
  obtain ⟨E2, hE2⟩ : ∃ z, tlE x u = z := ⟨_, rfl⟩
  obtain ⟨B1, hB1⟩ : ∃ z, tatB x t = z := ⟨_, rfl⟩
  obtain ⟨P1, hP1⟩ : ∃ z, tatP x t = z := ⟨_, rfl⟩
  obtain ⟨G1, hG1⟩ : ∃ z, tatE x t = z := ⟨_, rfl⟩
  obtain ⟨B2, hB2⟩ : ∃ z, tatB x u = z := ⟨_, rfl⟩
  obtain ⟨P2, hP2⟩ : ∃ z, tatP x u = z := ⟨_, rfl⟩
  obtain ⟨G2, hG2⟩ : ∃ z, tatE x u = z := ⟨_, rfl⟩
  obtain ⟨I1, hI1⟩ : ∃ z, atI x.vf t x.nv = z := ⟨_, rfl⟩
  obtain ⟨I2, hI2⟩ : ∃ z, atI x.vf u x.nv = z := ⟨_, rfl⟩
  simp only [hS1, hK1, hM1, hE1] at HLt
  simp only [hS2, hK2, hM2, hE2] at HLu
  simp only [hB1, hP1, hG1] at HAt
  simp only [hB2, hP2, hG2] at HAu
  simp only [hI1] at HRt
  simp only [hI2] at HRu
  rw [hE1, hE2, hG1, hG2] at HP1
  rw [hS1, hK1, hM1, hE1, hS2, hK2, hM2, hE2, hB1, hP1, hG1, hB2, hP2, hG2, hI1, hI2] at HP2
  unfold tarV tarRow at HG HLt HLu HAt HAu
  unfold tarV tarRow
  unfold tarRow at hW1
  obtain ⟨c0, c1, c2, c3, c4, c5, c6⟩ := HC.out W1 hr
  clear hS1 hK1 hM1 hE1 hS2 hK2 hM2 hE2 hB1 hP1 hG1 hB2 hP2 hG2 hI1 hI2 hT hL hst hr ht0 hu0
  go_enter Tryd.func6, Tryd.ntmps6
  go_wp2_with fail
  refine HA.out.mono ?_
  rintro e w2 ⟨rfl, hb2⟩
  have HB2 := Lib.hid hb2
  have HY := Lib.hid (HG.out w2 (HZ.out w2 hb2).1)
  clear c0 c1 c2 c3 c4 c5 c6
  obtain ⟨c0, c1, c2, c3, c4, c5, c6⟩ := HC.out w2 (HZ.out w2 hb2).2.2.1
  clear hb2
  go_wp2_with fail
  refine HY.out.mono ?_
  rintro e w3 ⟨V, hV, rfl, hb3⟩
  have HB3 := Lib.hid (bnext HB2.out hb3)
  clear c0 c1 c2 c3 c4 c5 c6 HY
  obtain ⟨c0, c1, c2, c3, c4, c5, c6⟩ := HC.out w3 (HZ.out w3 HB3.out).2.2.1
  clear hb3
  rcases hV with rfl | rfl
  · have HY := Lib.hid (HLt.out w3 (HZ.out w3 HB3.out).1 (HZ.out w3 HB3.out).2.1)
    go_wp2_with fail
    refine HY.out.mono ?_
    rintro e w4 ⟨rfl, hb4⟩
    have HB4 := Lib.hid (bnext HB3.out hb4)
    clear c0 c1 c2 c3 c4 c5 c6 HY hb4
    obtain ⟨c0, c1, c2, c3, c4, c5, c6⟩ := HC.out w4 (HZ.out w4 HB4.out).2.2.1
    have HY := Lib.hid (HLu.out w4 (HZ.out w4 HB4.out).1 (HZ.out w4 HB4.out).2.1)
    go_wp2_with fail
    refine HY.out.mono ?_
    rintro e w5 ⟨rfl, hb5⟩
    have HB5 := Lib.hid (bnext HB4.out hb5)
    clear c0 c1 c2 c3 c4 c5 c6 HY hb5
    obtain ⟨c0, c1, c2, c3, c4, c5, c6⟩ := HC.out w5 (HZ.out w5 HB5.out).2.2.1
    have HY := Lib.hid (HAt.out w5 (HZ.out w5 HB5.out).1 (HZ.out w5 HB5.out).2.1)
    go_wp2_with fail
    refine HY.out.mono ?_
    rintro e w6 ⟨rfl, hb6⟩
    have HB6 := Lib.hid (bnext HB5.out hb6)
    clear c0 c1 c2 c3 c4 c5 c6 HY hb6
    obtain ⟨c0, c1, c2, c3, c4, c5, c6⟩ := HC.out w6 (HZ.out w6 HB6.out).2.2.1
    have HY := Lib.hid (HAu.out w6 (HZ.out w6 HB6.out).1 (HZ.out w6 HB6.out).2.1)
    go_wp2_with fail
    refine HY.out.mono ?_
    rintro e w7 ⟨rfl, hb7⟩
    have HB7 := Lib.hid (bnext HB6.out hb7)
    clear c0 c1 c2 c3 c4 c5 c6 HY hb7
    have HB8 := Lib.hid (HZ.out w7 HB7.out).2.2.2
    by_cases hg : G1 = 0 ∧ G2 = 0
    · obtain ⟨rfl, rfl⟩ := hg
      obtain ⟨⟨hok, rfl, rfl⟩, ⟨m0, m1⟩, hbp⟩ := HP2.out rfl rfl
      have km0 : decide (M1 < 0) = false := decide_eq_false (by omega)
      have km1 : decide (M1 ≥ 1440) = false := decide_eq_false (by omega)
      have Hok := Lib.hid hok
      have Hbp := Lib.hid hbp
      clear m0 m1 hbp hok
      by_cases hs : S1 = S2
      case neg =>
        have ks : (S1 != S2) = true := bne_iff_ne.2 hs
        clear hs
        go_wp2_with fail
        go_ret
        exact ⟨rfl, by first | exact HB8.out | (rw [Hb0.out]; exact HB8.out)⟩
      have ks : (S1 != S2) = false := by simp [hs]
      by_cases hk : K1 = K2
      case neg =>
        have kk : (K1 != K2) = true := bne_iff_ne.2 hk
        clear hs hk
        go_wp2_with fail
        go_ret
        exact ⟨rfl, by first | exact HB8.out | (rw [Hb0.out]; exact HB8.out)⟩
      have kk : (K1 != K2) = false := by simp [hk]
      by_cases hm : M1 = M2
      case neg =>
        have km : (M1 != M2) = true := bne_iff_ne.2 hm
        clear hs hk hm
        go_wp2_with fail
        go_ret
        exact ⟨rfl, by first | exact HB8.out | (rw [Hb0.out]; exact HB8.out)⟩
      have km : (M1 != M2) = false := by simp [hm]
      obtain ⟨hbb, hpp⟩ := Hbp.out hs hk hm
      have kb : (B1 == B2) = true := beq_iff_eq.2 hbb
      have Hpp := Lib.hid hpp
      clear hs hk hm hbb hpp
      obtain ⟨c0, c1, c2, c3, c4, c5, c6⟩ := HC.out w7 (HZ.out w7 HB7.out).2.2.1
      have HY := Lib.hid (HRt.out Hok.out w7 (HZ.out w7 HB7.out).1)
      clear c0 c1 c2 c3 c4 c5
      go_wp2_with fail
      refine HY.out.mono ?_
      rintro e w9 ⟨rfl, hb9⟩
      have HB9 := Lib.hid (bnext HB7.out hb9)
      clear c6 HY hb9
      obtain ⟨c0, c1, c2, c3, c4, c5, c6⟩ := HC.out w9 (HZ.out w9 HB9.out).2.2.1
      have HY := Lib.hid (HRu.out Hok.out w9 (HZ.out w9 HB9.out).1)
      clear c0 c1 c2 c3 c4 c5
      go_wp2_with fail
      refine HY.out.mono ?_
      rintro e w10 ⟨rfl, hb10⟩
      have HB10 := Lib.hid (HZ.out w10 (bnext HB9.out hb10)).2.2.2
      clear c6 HY hb10
      by_cases hi : I1 = I2
      · have ki : (I1 != I2) = false := by simp [hi]
        have kp : (P1 == P2) = true := beq_iff_eq.2 (Hpp.out hi)
        clear hi
        go_wp2_with fail
        go_ret
        exact ⟨rfl, by first | exact HB10.out | (rw [Hb0.out]; exact HB10.out)⟩
      · have ki : (I1 != I2) = true := bne_iff_ne.2 hi
        clear hi
        go_wp2_with fail
        go_ret
        exact ⟨rfl, by first | exact HB10.out | (rw [Hb0.out]; exact HB10.out)⟩
    · have Hg := Lib.hid hg
      obtain ⟨p1, p2⟩ := HP1.out
      have q1 : (E1 == 0) = true ∨ ((E1 == 0) = false ∧ (G1 == E1) = true) := by
        by_cases h : E1 = 0
        · exact .inl (beq_iff_eq.2 h)
        · exact .inr ⟨beq_eq_false_iff_ne.2 h, beq_iff_eq.2 (p1.resolve_left h)⟩
      have q2 : (E2 == 0) = true ∨ ((E2 == 0) = false ∧ (G2 == E2) = true) := by
        by_cases h : E2 = 0
        · exact .inl (beq_iff_eq.2 h)
        · exact .inr ⟨beq_eq_false_iff_ne.2 h, beq_iff_eq.2 (p2.resolve_left h)⟩
      have q3 : (G1 != 0) = true ∨ ((G1 != 0) = false ∧ (G2 != 0) = true) := by
        by_cases h : G1 = 0
        · exact .inr ⟨by simp [h], bne_iff_ne.2 (fun h2 => hg ⟨h, h2⟩)⟩
        · exact .inl (bne_iff_ne.2 h)
      clear hg p1 p2
      rcases q1 with q1 | ⟨q1, q1'⟩ <;> rcases q2 with q2 | ⟨q2, q2'⟩ <;> rcases q3 with q3 | ⟨q3, q3'⟩
      all_goals
        go_wp2_with fail
        go_ret
        exact ⟨rfl, by first | exact HB8.out | (rw [Hb0.out]; exact HB8.out)⟩
  · have HB4 := Lib.hid (HZ.out w3 HB3.out).2.2.2
    clear c0 c1 c2 c3 c4 c5 c6
    go_wp2_with fail
    go_ret
    exact ⟨rfl, by first | exact HB4.out | (rw [Hb0.out]; exact HB4.out)⟩
end Go.Proofs.YtgbkedjjgbhcmaaDoor
