/-
  TariffTells, walked. Conditions stand at each theorem. (Printed by gen_ttells.py.)
-/
import Derived.Test.YtgbkedjjgbhcmaaGreatDoorTelN7
import Derived.Test.YtgbkedjjgbhcmaaGreatDoorTelN6
import Derived.Test.YtgbkedjjgbhcmaaGreatDoorLens
import Derived.Deep.RegionHeld3
namespace Go.Proofs.YtgbkedjjgbhcmaaGreatDoor
open Go Go.RowKit Go.Kw Go.Kw.Cv Go.Shelf
set_option linter.unusedVariables false
set_option linter.unusedSimpArgs false

theorem tells_neg (x : Tar) (T : Int) (h : tarE x ≠ 0) : tlS x T = 0 ∧ tlK x T = 0 ∧ tlM x T = 0 ∧ tlE x T = tarE x ∧ tatB x T = 0 ∧ tatP x T = 0 ∧ tatE x T = tarE x := by
  have e1 : tlE x T = tarE x := if_neg h
  have e2 : tatE x T = tarE x := by unfold tatE; rw [if_neg (by rw [e1]; exact h), e1]
  refine ⟨if_neg (by rw [e1]; exact h), if_neg (by rw [e1]; exact h), if_neg (by rw [e1]; exact h), e1, if_neg (by rw [e2]; exact h), if_neg (by rw [e2]; exact h), e2⟩
set_option maxRecDepth 100000 in
set_option maxHeartbeats 32000000 in
theorem tariffTells_walk (v : Value) (x : Tar) (A : Option Addr) (len cap : Nat) (zs : List Int) (w : World) (hx : v = tarV x ∧ RdTar w x) (hrow : IsRow .i64 w A len cap zs) (hL : Lens w) :
    Calls Tryz.prog 3 #[v, .slice A len cap] w fun e w' => e = .returned (.bool true) ∧ Below w.heap.size w w' := by
  obtain ⟨rfl, hT⟩ := hx
  obtain ⟨b0, hb0⟩ : ∃ b0, w.heap.size = b0 := ⟨_, rfl⟩
  have Hb0 := Lib.hid hb0
  obtain ⟨W1, hW1⟩ : ∃ W1, w.alloc (.cells (tarRow x) 35) = W1 := ⟨_, rfl⟩
  have hst : Below w.heap.size w W1 := hW1 ▸ bstep w _
  have hr : W1.heap[b0]? = some (.cells (tarRow x) 35 (0, 0)) := by rw [← hb0, ← hW1]; exact World.alloc_heap_new w _
  have HRd := Lib.hid hrow.rd
  have HX := Lib.hid (And.intro (hT.go hst) (And.intro (hL.go hst) (And.intro hr hst)))
  have HZ := Lib.hid (show ∀ W : World, Below W1.heap.size W1 W → RdTar W x ∧ Lens W ∧ W.heap[b0]? = some (.cells (tarRow x) 35 (0, 0)) ∧ Below w.heap.size w W from fun W hb => ⟨HX.out.1.go hb, HX.out.2.1.go hb, blk_below HX.out.2.2.1 hb, bnext HX.out.2.2.2 hb⟩)
  have HC := Lib.hid (show ∀ W : World, W.heap[b0]? = some (.cells (tarRow x) 35 (0, 0)) → W.cell? ⟨b0, 0, none⟩ = some (.int .i64 x.o) ∧ W.cell? ⟨b0, 1, none⟩ = some (.slice x.zA x.lr x.cr) ∧ W.cell? ⟨b0, 2, none⟩ = some (.slice x.hA x.la x.ca) ∧ W.cell? ⟨b0, 3, none⟩ = some (.slice x.sA x.lb x.cb) ∧ W.cell? ⟨b0, 4, none⟩ = some (.slice x.pA x.np x.cp) ∧ W.cell? ⟨b0, 5, none⟩ = some (.slice x.rA x.nr x.rc) ∧ W.cell? ⟨b0, 6, none⟩ = some (.slice x.vA x.nv x.cv) from
    fun W h => by
      unfold tarRow at h
      exact ⟨cell_of_row W b0 0 _ _ _ h, cell_of_row W b0 1 _ _ _ h, cell_of_row W b0 2 _ _ _ h, cell_of_row W b0 3 _ _ _ h, cell_of_row W b0 4 _ _ _ h, cell_of_row W b0 5 _ _ _ h, cell_of_row W b0 6 _ _ _ h⟩)
  have HG := Lib.hid (tgreat2_calls x W1 HX.out.1)
  unfold GreatOut2 at HG
  have HCk := Lib.hid (fun W (h : RdTar W x) (hl : Lens W) => tarCheck_calls x W h hl)
  have HLc := Lib.hid (fun (T : Int) W (h : RdTar W x) (hl : Lens W) => local_calls x T W h hl)
  have HAc := Lib.hid (fun (T : Int) W (h : RdTar W x) (hl : Lens W) => tarAt_calls x T W h hl)
  have HN0 := Lib.hid (fun (h : tarE x ≠ 0) (T : Int) => tells_neg x T h)
  have HO0 := Lib.hid (fun (h : tarE x = 0) => (tarE_ok x).1 h)
  have hcap := hrow.caps
  obtain ⟨E, hE⟩ : ∃ E, tarE x = E := ⟨_, rfl⟩
  have HE := Lib.hid hE
  simp only [hE] at HCk HN0 HO0
  unfold tarV tarRow at HG HCk HLc HAc
  unfold tarV tarRow
  unfold tarRow at hW1
  obtain ⟨c0, c1, c2, c3, c4, c5, c6⟩ := HC.out W1 hr
  clear hT hL hst hr hrow hE
  by_cases hbig : len > 20
  · have kb : decide ((len : Int) > 20) = true := decide_eq_true (by omega)
    clear hbig hcap
    go_enter Tryz.func3, Tryz.ntmps3
    go_wp2_with fail
    refine HG.out.mono ?_
    rintro e w2 ⟨V, hV, rfl, hb2⟩
    have HF := Lib.hid (HZ.out w2 hb2).2.2.2
    clear hb2
    rcases hV with ⟨rfl, _⟩ | rfl
    all_goals
      go_wp2_with fail
      go_ret
      exact ⟨rfl, by first | exact HF.out | (rw [Hb0.out]; exact HF.out) | (rw [← Hb0.out]; exact HF.out)⟩
  have kb : decide ((len : Int) > 20) = false := decide_eq_false (by omega)
  have Hlen := Lib.hid (show len ≤ 20 by omega)
  clear hbig hcap
  by_cases h0 : E = 0
  case neg =>
    have k0 : (E != 0) = true := bne_iff_ne.2 h0
    have HN := Lib.hid (HN0.out h0)
    clear h0
    go_enter Tryz.func3, Tryz.ntmps3
    go_wp2_with fail
    refine HG.out.mono ?_
    rintro e w2 ⟨V, hV, rfl, hb2⟩
    have HB2 := Lib.hid hb2
    obtain ⟨c0, c1, c2, c3, c4, c5, c6⟩ := HC.out w2 (HZ.out w2 hb2).2.2.1
    rcases hV with ⟨rfl, hs⟩ | rfl
    case inr =>
      have HF := Lib.hid (HZ.out w2 hb2).2.2.2
      clear hb2
      go_wp2_with fail
      go_ret
      exact ⟨rfl, by first | exact HF.out | (rw [Hb0.out]; exact HF.out) | (rw [← Hb0.out]; exact HF.out)⟩
    have Hs := Lib.hid hs
    have HY := Lib.hid (HCk.out w2 (HZ.out w2 hb2).1 (HZ.out w2 hb2).2.1)
    clear hb2 hs
    go_wp2_with fail
    refine HY.out.mono ?_
    rintro e w3 ⟨rfl, hb3⟩
    have hb13 := bnext HB2.out hb3
    have HB3 := Lib.hid hb13
    clear c0 c1 c2 c3 c4 c5 c6 HY hb3
    obtain ⟨c0, c1, c2, c3, c4, c5, c6⟩ := HC.out w3 (HZ.out w3 hb13).2.2.1
    have hY := rtCheck_calls x Hs.out w3 (HZ.out w3 hb13).1
    rw [HE.out] at hY
    have HY := Lib.hid hY
    clear hb13 hY
    go_wp2_with fail
    refine HY.out.mono ?_
    rintro e w4 ⟨rfl, hb4⟩
    have HB4 := Lib.hid (bnext HB3.out hb4)
    clear c0 c1 c2 c3 c4 c5 c6 HY hb4
    go_wp2_with fail
    go_loopw [46] (fun iv wr => ∃ k : Nat, k ≤ len ∧ iv = .int .i64 k ∧ Below W1.heap.size W1 wr) (fun iv _ => len - (intOf iv).toNat)
    case atStart => exact ⟨0, by omega, rfl, HB4.out⟩
    case round =>
      obtain ⟨k, hk, rfl, hbr⟩ := hrel
      have HB := Lib.hid hbr
      by_cases hlt : k < len
      · obtain ⟨lb, lo, rfl, hlb, hc⟩ := (HRd.out.go (bnext HX.out.2.2.2 hbr)).at_ hlt
        obtain ⟨T, hT⟩ : ∃ T, zs.getD k 0 = T := ⟨_, rfl⟩
        rw [hT] at hc
        have HSR : Hid (∀ W, Below W1.heap.size W1 W → W.cell? ⟨lb, lo + k, none⟩ = some (.int .i64 T) ∧ W.cell? ⟨b0, 0, none⟩ = some (.int .i64 x.o) ∧ W.cell? ⟨b0, 1, none⟩ = some (.slice x.zA x.lr x.cr) ∧ W.cell? ⟨b0, 2, none⟩ = some (.slice x.hA x.la x.ca) ∧ W.cell? ⟨b0, 3, none⟩ = some (.slice x.sA x.lb x.cb) ∧ W.cell? ⟨b0, 4, none⟩ = some (.slice x.pA x.np x.cp) ∧ W.cell? ⟨b0, 5, none⟩ = some (.slice x.rA x.nr x.rc) ∧ W.cell? ⟨b0, 6, none⟩ = some (.slice x.vA x.nv x.cv)) := Lib.hid (fun W hb => by
          refine ⟨?_, HC.out W (HZ.out W hb).2.2.1⟩
          obtain ⟨lb2, lo2, e2, _, y1⟩ := (HRd.out.go (bnext HX.out.2.2.2 hb)).at_ hlt
          rw [hT] at y1
          injection e2 with e2
          injection e2 with e3 e4
          subst e3; subst e4
          exact y1)
        have hI : (k : Int) < (len : Int) := by omega
        have hk0 : (0 : Int) ≤ (k : Int) := by omega
        have hk1 : ((k : Int) + 1) = ((k + 1 : Nat) : Int) := by push_cast; rfl
        have Hlt := Lib.hid hlt
        have X := Lib.hid (show wrap64 ((k : Int) + 1) = (k : Int) + 1 from wrap64_in _ (by have := Hlen.out; omega))
        have HL := Lib.hid (fun W (hb : Below W1.heap.size W1 W) => HLc.out T W (HZ.out W hb).1 (HZ.out W hb).2.1)
        have HA := Lib.hid (fun W (hb : Below W1.heap.size W1 W) => HAc.out T W (HZ.out W hb).1 (HZ.out W hb).2.1)
        obtain ⟨z1, z2, z3, z4, z5, z6, z7⟩ := HN.out T
        simp only [z1, z2, z3, z4] at HL
        simp only [z5, z6, z7] at HA
        clear z1 z2 z3 z4 z5 z6 z7 hT
        clear hbr hlt hlb hc hk hk1
        go_wp2_with fail
        go_region_held3 (fun W => W.cell? ⟨lb, lo + k, none⟩ = some (.int .i64 T) ∧ W.cell? ⟨b0, 0, none⟩ = some (.int .i64 x.o) ∧ W.cell? ⟨b0, 1, none⟩ = some (.slice x.zA x.lr x.cr) ∧ W.cell? ⟨b0, 2, none⟩ = some (.slice x.hA x.la x.ca) ∧ W.cell? ⟨b0, 3, none⟩ = some (.slice x.sA x.lb x.cb) ∧ W.cell? ⟨b0, 4, none⟩ = some (.slice x.pA x.np x.cp) ∧ W.cell? ⟨b0, 5, none⟩ = some (.slice x.rA x.nr x.rc) ∧ W.cell? ⟨b0, 6, none⟩ = some (.slice x.vA x.nv x.cv))
          (first | exact HSR.out _ HB.out | exact HSR.out _ HB.out.drew | exact HSR.out _ hb4)
          (first | (go_at_call_of 7 (Value.int .i64 T); refine (HL.out _ HB.out.drew).mono ?_; rintro e w4 ⟨rfl, hq4⟩; have hb4 := bnext HB.out.drew hq4))
        have HB4 := Lib.hid hb4
        clear hq4 hb4
        skip
        go_wp2_with fail
        go_region_held3 (fun W => W.cell? ⟨lb, lo + k, none⟩ = some (.int .i64 T) ∧ W.cell? ⟨b0, 0, none⟩ = some (.int .i64 x.o) ∧ W.cell? ⟨b0, 1, none⟩ = some (.slice x.zA x.lr x.cr) ∧ W.cell? ⟨b0, 2, none⟩ = some (.slice x.hA x.la x.ca) ∧ W.cell? ⟨b0, 3, none⟩ = some (.slice x.sA x.lb x.cb) ∧ W.cell? ⟨b0, 4, none⟩ = some (.slice x.pA x.np x.cp) ∧ W.cell? ⟨b0, 5, none⟩ = some (.slice x.rA x.nr x.rc) ∧ W.cell? ⟨b0, 6, none⟩ = some (.slice x.vA x.nv x.cv))
          (first | exact HSR.out _ HB4.out | exact HSR.out _ HB4.out.drew | exact HSR.out _ hb5)
          (first | (go_at_call_of 8 (Value.int .i64 T); refine (HA.out _ HB4.out.drew).mono ?_; rintro e w5 ⟨rfl, hq5⟩; have hb5 := bnext HB4.out.drew hq5))
        have HB5 := Lib.hid hb5
        clear hq5 hb5
        have xk := X.out
        go_wp2_with fail
        clear xk
        try rw [X.out]
        exact ⟨⟨k + 1, Hlt.out, by push_cast; rfl, HB5.out⟩, meas_z len k Hlt.out⟩
      · obtain rfl : k = len := by omega
        have hI1 : ¬ ((k : Int) < (k : Int)) := by omega
        have HF := Lib.hid (bnext HX.out.2.2.2 hbr)
        clear hlt hk hbr
        go_wp2_with fail
        go_ret
        exact ⟨rfl, by first | exact HF.out | (rw [Hb0.out]; exact HF.out) | (rw [← Hb0.out]; exact HF.out)⟩
  case pos =>
    have Hok := Lib.hid (HO0.out h0)
    subst h0
    go_enter Tryz.func3, Tryz.ntmps3
    go_wp2_with fail
    refine HG.out.mono ?_
    rintro e w2 ⟨V, hV, rfl, hb2⟩
    have HB2 := Lib.hid hb2
    obtain ⟨c0, c1, c2, c3, c4, c5, c6⟩ := HC.out w2 (HZ.out w2 hb2).2.2.1
    rcases hV with ⟨rfl, hs⟩ | rfl
    case inr =>
      have HF := Lib.hid (HZ.out w2 hb2).2.2.2
      clear hb2
      go_wp2_with fail
      go_ret
      exact ⟨rfl, by first | exact HF.out | (rw [Hb0.out]; exact HF.out) | (rw [← Hb0.out]; exact HF.out)⟩
    have Hs := Lib.hid hs
    have HY := Lib.hid (HCk.out w2 (HZ.out w2 hb2).1 (HZ.out w2 hb2).2.1)
    clear hb2 hs
    go_wp2_with fail
    refine HY.out.mono ?_
    rintro e w3 ⟨rfl, hb3⟩
    have hb13 := bnext HB2.out hb3
    have HB3 := Lib.hid hb13
    clear c0 c1 c2 c3 c4 c5 c6 HY hb3
    obtain ⟨c0, c1, c2, c3, c4, c5, c6⟩ := HC.out w3 (HZ.out w3 hb13).2.2.1
    have hY := rtCheck_calls x Hs.out w3 (HZ.out w3 hb13).1
    rw [HE.out] at hY
    have HY := Lib.hid hY
    clear hb13 hY
    go_wp2_with fail
    refine HY.out.mono ?_
    rintro e w4 ⟨rfl, hb4⟩
    have HB4 := Lib.hid (bnext HB3.out hb4)
    clear c0 c1 c2 c3 c4 c5 c6 HY hb4
    have HLd := Lib.hid (fun (T : Int) (W : World) (h : RdTar W x) => rtLocal_calls x T Hok.out W h)
    have HAd := Lib.hid (fun (T : Int) (W : World) (h : RdTar W x) => rtAt_calls x T Hok.out Hs.out W h)
    go_wp2_with fail
    go_loopw [46] (fun iv wr => ∃ k : Nat, k ≤ len ∧ iv = .int .i64 k ∧ Below W1.heap.size W1 wr) (fun iv _ => len - (intOf iv).toNat)
    case atStart => exact ⟨0, by omega, rfl, HB4.out⟩
    case round =>
      obtain ⟨k, hk, rfl, hbr⟩ := hrel
      have HB := Lib.hid hbr
      by_cases hlt : k < len
      · obtain ⟨lb, lo, rfl, hlb, hc⟩ := (HRd.out.go (bnext HX.out.2.2.2 hbr)).at_ hlt
        obtain ⟨T, hT⟩ : ∃ T, zs.getD k 0 = T := ⟨_, rfl⟩
        rw [hT] at hc
        have HSR : Hid (∀ W, Below W1.heap.size W1 W → W.cell? ⟨lb, lo + k, none⟩ = some (.int .i64 T) ∧ W.cell? ⟨b0, 0, none⟩ = some (.int .i64 x.o) ∧ W.cell? ⟨b0, 1, none⟩ = some (.slice x.zA x.lr x.cr) ∧ W.cell? ⟨b0, 2, none⟩ = some (.slice x.hA x.la x.ca) ∧ W.cell? ⟨b0, 3, none⟩ = some (.slice x.sA x.lb x.cb) ∧ W.cell? ⟨b0, 4, none⟩ = some (.slice x.pA x.np x.cp) ∧ W.cell? ⟨b0, 5, none⟩ = some (.slice x.rA x.nr x.rc) ∧ W.cell? ⟨b0, 6, none⟩ = some (.slice x.vA x.nv x.cv)) := Lib.hid (fun W hb => by
          refine ⟨?_, HC.out W (HZ.out W hb).2.2.1⟩
          obtain ⟨lb2, lo2, e2, _, y1⟩ := (HRd.out.go (bnext HX.out.2.2.2 hb)).at_ hlt
          rw [hT] at y1
          injection e2 with e2
          injection e2 with e3 e4
          subst e3; subst e4
          exact y1)
        have hI : (k : Int) < (len : Int) := by omega
        have hk0 : (0 : Int) ≤ (k : Int) := by omega
        have hk1 : ((k : Int) + 1) = ((k + 1 : Nat) : Int) := by push_cast; rfl
        have Hlt := Lib.hid hlt
        have X := Lib.hid (show wrap64 ((k : Int) + 1) = (k : Int) + 1 from wrap64_in _ (by have := Hlen.out; omega))
        have HL := Lib.hid (fun W (hb : Below W1.heap.size W1 W) => HLc.out T W (HZ.out W hb).1 (HZ.out W hb).2.1)
        have HA := Lib.hid (fun W (hb : Below W1.heap.size W1 W) => HAc.out T W (HZ.out W hb).1 (HZ.out W hb).2.1)
        have HL2 := Lib.hid (fun W (hb : Below W1.heap.size W1 W) => HLd.out T W (HZ.out W hb).1)
        have HA2 := Lib.hid (fun W (hb : Below W1.heap.size W1 W) => HAd.out T W (HZ.out W hb).1)
        obtain ⟨S, hS⟩ : ∃ S, tlS x T = S := ⟨_, rfl⟩
        obtain ⟨K, hK⟩ : ∃ K, tlK x T = K := ⟨_, rfl⟩
        obtain ⟨M, hM⟩ : ∃ M, tlM x T = M := ⟨_, rfl⟩
        obtain ⟨F, hF⟩ : ∃ F, tlE x T = F := ⟨_, rfl⟩
        obtain ⟨B, hB⟩ : ∃ B, tatB x T = B := ⟨_, rfl⟩
        obtain ⟨Pc, hP⟩ : ∃ P, tatP x T = P := ⟨_, rfl⟩
        obtain ⟨G, hG⟩ : ∃ G, tatE x T = G := ⟨_, rfl⟩
        simp only [hS, hK, hM, hF] at HL HL2
        simp only [hB, hP, hG] at HA HA2
        clear hS hK hM hF hB hP hG hT
        clear hbr hlt hlb hc hk hk1
        go_wp2_with fail
        go_region_held3 (fun W => W.cell? ⟨lb, lo + k, none⟩ = some (.int .i64 T) ∧ W.cell? ⟨b0, 0, none⟩ = some (.int .i64 x.o) ∧ W.cell? ⟨b0, 1, none⟩ = some (.slice x.zA x.lr x.cr) ∧ W.cell? ⟨b0, 2, none⟩ = some (.slice x.hA x.la x.ca) ∧ W.cell? ⟨b0, 3, none⟩ = some (.slice x.sA x.lb x.cb) ∧ W.cell? ⟨b0, 4, none⟩ = some (.slice x.pA x.np x.cp) ∧ W.cell? ⟨b0, 5, none⟩ = some (.slice x.rA x.nr x.rc) ∧ W.cell? ⟨b0, 6, none⟩ = some (.slice x.vA x.nv x.cv))
          (first | exact HSR.out _ HB.out | exact HSR.out _ HB.out.drew | exact HSR.out _ hb4)
          (first | (go_at_call_of 7 (Value.int .i64 T); refine (HL.out _ HB.out.drew).mono ?_; rintro e w4 ⟨rfl, hq4⟩; have hb4 := bnext HB.out.drew hq4))
        have HB4 := Lib.hid hb4
        clear hq4 hb4
        skip
        go_wp2_with fail
        go_region_held3 (fun W => W.cell? ⟨lb, lo + k, none⟩ = some (.int .i64 T) ∧ W.cell? ⟨b0, 0, none⟩ = some (.int .i64 x.o) ∧ W.cell? ⟨b0, 1, none⟩ = some (.slice x.zA x.lr x.cr) ∧ W.cell? ⟨b0, 2, none⟩ = some (.slice x.hA x.la x.ca) ∧ W.cell? ⟨b0, 3, none⟩ = some (.slice x.sA x.lb x.cb) ∧ W.cell? ⟨b0, 4, none⟩ = some (.slice x.pA x.np x.cp) ∧ W.cell? ⟨b0, 5, none⟩ = some (.slice x.rA x.nr x.rc) ∧ W.cell? ⟨b0, 6, none⟩ = some (.slice x.vA x.nv x.cv))
          (first | exact HSR.out _ HB4.out | exact HSR.out _ HB4.out.drew | exact HSR.out _ hb5)
          (first | (go_at_call_of 8 (Value.int .i64 T); refine (HA.out _ HB4.out.drew).mono ?_; rintro e w5 ⟨rfl, hq5⟩; have hb5 := bnext HB4.out.drew hq5))
        have HB5 := Lib.hid hb5
        clear hq5 hb5
        skip
        go_wp2_with fail
        go_region_held3 (fun W => W.cell? ⟨lb, lo + k, none⟩ = some (.int .i64 T) ∧ W.cell? ⟨b0, 0, none⟩ = some (.int .i64 x.o) ∧ W.cell? ⟨b0, 1, none⟩ = some (.slice x.zA x.lr x.cr) ∧ W.cell? ⟨b0, 2, none⟩ = some (.slice x.hA x.la x.ca) ∧ W.cell? ⟨b0, 3, none⟩ = some (.slice x.sA x.lb x.cb) ∧ W.cell? ⟨b0, 4, none⟩ = some (.slice x.pA x.np x.cp) ∧ W.cell? ⟨b0, 5, none⟩ = some (.slice x.rA x.nr x.rc) ∧ W.cell? ⟨b0, 6, none⟩ = some (.slice x.vA x.nv x.cv))
          (first | exact HSR.out _ HB5.out | exact HSR.out _ HB5.out.drew | exact HSR.out _ hb6)
          (first | (go_at_call_of 9 (Value.int .i64 T); refine (HL2.out _ HB5.out.drew).mono ?_; rintro e w6 ⟨rfl, hq6⟩; have hb6 := bnext HB5.out.drew hq6))
        have HB6 := Lib.hid hb6
        clear hq6 hb6
        skip
        go_wp2_with fail
        go_region_held3 (fun W => W.cell? ⟨lb, lo + k, none⟩ = some (.int .i64 T) ∧ W.cell? ⟨b0, 0, none⟩ = some (.int .i64 x.o) ∧ W.cell? ⟨b0, 1, none⟩ = some (.slice x.zA x.lr x.cr) ∧ W.cell? ⟨b0, 2, none⟩ = some (.slice x.hA x.la x.ca) ∧ W.cell? ⟨b0, 3, none⟩ = some (.slice x.sA x.lb x.cb) ∧ W.cell? ⟨b0, 4, none⟩ = some (.slice x.pA x.np x.cp) ∧ W.cell? ⟨b0, 5, none⟩ = some (.slice x.rA x.nr x.rc) ∧ W.cell? ⟨b0, 6, none⟩ = some (.slice x.vA x.nv x.cv))
          (first | exact HSR.out _ HB6.out | exact HSR.out _ HB6.out.drew | exact HSR.out _ hb7)
          (first | (go_at_call_of 10 (Value.int .i64 T); refine (HA2.out _ HB6.out.drew).mono ?_; rintro e w7 ⟨rfl, hq7⟩; have hb7 := bnext HB6.out.drew hq7))
        have HB7 := Lib.hid hb7
        clear hq7 hb7
        have xk := X.out
        go_wp2_with fail
        clear xk
        try rw [X.out]
        exact ⟨⟨k + 1, Hlt.out, by push_cast; rfl, HB7.out⟩, meas_z len k Hlt.out⟩
      · obtain rfl : k = len := by omega
        have hI1 : ¬ ((k : Int) < (k : Int)) := by omega
        have HF := Lib.hid (bnext HX.out.2.2.2 hbr)
        clear hlt hk hbr
        go_wp2_with fail
        go_ret
        exact ⟨rfl, by first | exact HF.out | (rw [Hb0.out]; exact HF.out) | (rw [← Hb0.out]; exact HF.out)⟩
end Go.Proofs.YtgbkedjjgbhcmaaGreatDoor
