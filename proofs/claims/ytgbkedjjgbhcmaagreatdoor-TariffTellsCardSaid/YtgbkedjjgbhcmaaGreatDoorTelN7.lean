/-
  Texts that the proof leans on, merged by program, part 7. Conditions stand at each theorem.
-/
import Derived.Test.YtgbkedjjgbhcmaaGreatDoorTelN2
import Derived.Test.YtgbkedjjgbhcmaaGreatDoorTelN4
import Derived.Test.YtgbkedjjgbhcmaaGreatDoorTelN6
import Derived.Test.YtgbkedjjgbhcmaaGreatDoorDays4
import Derived.Test.YtgbkedjjgbhcmaaGreatDoorZoneRef
import Derived.Test.YtgbkedjjgbhcmaaGreatDoorTelN3
import Derived.Test.YtgbkedjjgbhcmaaGreatDoorTelN10
import Derived.Test.YtgbkedjjgbhcmaaGreatDoorSeason
import Derived.Test.YtgbkedjjgbhcmaaGreatDoorTelN9
import Derived.Test.YtgbkedjjgbhcmaaGreatDoorTelN8
import Derived.Deep.RegionHeld3
/-
  The document's tariff: Check of package kilowattref11, walked. Conditions stand at each theorem.
-/
namespace Go.Proofs.YtgbkedjjgbhcmaaGreatDoor
open Go Go.RowKit Go.Kw Go.Kw.Cv Go.Shelf
set_option linter.unusedVariables false
set_option linter.unusedSimpArgs false

theorem tabOk_congr {np : Nat} {p q : Nat → Nat} {g : Nat → Nat → Nat → Int} {nr : Nat} {r : Nat → Nat → Int} (h : ∀ i, i < np → p i = q i) : tabOk np p g nr r ↔ tabOk np q g nr r := by
  unfold tabOk
  constructor
  · rintro ⟨h1, h2, h3⟩; exact ⟨h1, h2, fun i hi => by rw [← h i hi]; exact h3 i hi⟩
  · rintro ⟨h1, h2, h3⟩; exact ⟨h1, h2, fun i hi => by rw [h i hi]; exact h3 i hi⟩
/-- The three boxes of a call. -/
structure Tb3 (b0 : Nat) (w : World) (x : Tar) (W : World) : Prop where
  z : W.heap[b0]? = some (.cells #[.int .i64 x.o, .slice x.zA x.lr x.cr] 24 (0, 0))
  c : W.heap[b0 + 1]? = some (.cells #[.slice x.hA x.la x.ca, .slice x.sA x.lb x.cb] 28 (0, 0))
  b : W.heap[b0 + 1 + 1]? = some (.cells #[.slice x.pA x.np x.cp, .slice x.rA x.nr x.rc] 32 (0, 0))
  t : RdTar W x
  bel : Below w.heap.size w W
theorem Tb3.go {b0 : Nat} {w W W' : World} {x : Tar} (h : Tb3 b0 w x W) (hb : Below W.heap.size W W') : Tb3 b0 w x W' :=
  ⟨blk_below h.z hb, blk_below h.c hb, blk_below h.b hb, h.t.go hb, bnext h.bel hb⟩
theorem tb3_start (w : World) (x : Tar) (hT : RdTar w x) : Tb3 w.heap.size w x (((w.alloc (.cells #[.int .i64 x.o, .slice x.zA x.lr x.cr] 24)).alloc (.cells #[.slice x.hA x.la x.ca, .slice x.sA x.lb x.cb] 28)).alloc (.cells #[.slice x.pA x.np x.cp, .slice x.rA x.nr x.rc] 32)) := by
  have t1 := bstep w (.cells #[.int .i64 x.o, .slice x.zA x.lr x.cr] 24)
  have t2 := bstep (w.alloc (.cells #[.int .i64 x.o, .slice x.zA x.lr x.cr] 24)) (.cells #[.slice x.hA x.la x.ca, .slice x.sA x.lb x.cb] 28)
  have t3 := bstep ((w.alloc (.cells #[.int .i64 x.o, .slice x.zA x.lr x.cr] 24)).alloc (.cells #[.slice x.hA x.la x.ca, .slice x.sA x.lb x.cb] 28)) (.cells #[.slice x.pA x.np x.cp, .slice x.rA x.nr x.rc] 32)
  have r1 := World.alloc_heap_new w (.cells #[.int .i64 x.o, .slice x.zA x.lr x.cr] 24)
  have r2 := World.alloc_heap_new (w.alloc (.cells #[.int .i64 x.o, .slice x.zA x.lr x.cr] 24)) (.cells #[.slice x.hA x.la x.ca, .slice x.sA x.lb x.cb] 28)
  have r3 := World.alloc_heap_new ((w.alloc (.cells #[.int .i64 x.o, .slice x.zA x.lr x.cr] 24)).alloc (.cells #[.slice x.hA x.la x.ca, .slice x.sA x.lb x.cb] 28)) (.cells #[.slice x.pA x.np x.cp, .slice x.rA x.nr x.rc] 32)
  rw [World.size_alloc] at r2
  rw [World.size_alloc, World.size_alloc] at r3
  exact ⟨blk_below (blk_below r1 t2) t3, blk_below r2 t3, r3, hT.go (bnext (bnext t1 t2) t3), bnext (bnext t1 t2) t3⟩
set_option maxRecDepth 100000 in
set_option maxHeartbeats 32000000 in
theorem rtCheck_calls (x : Tar) (hs : SmallT x) (w : World) (hT : RdTar w x) :
    Calls Tryz.prog 6 #[.agg #[.int .i64 x.o, .slice x.zA x.lr x.cr], .agg #[.slice x.hA x.la x.ca, .slice x.sA x.lb x.cb], .agg #[.slice x.pA x.np x.cp, .slice x.rA x.nr x.rc], .slice x.vA x.nv x.cv] w fun e w' => e = .returned (.int .i64 (tarE x)) ∧ Below w.heap.size w w' := by
  obtain ⟨b0, hb0⟩ : ∃ b0, w.heap.size = b0 := ⟨_, rfl⟩
  have Hb0 := Lib.hid hb0
  have h3 := tb3_start w x hT
  rw [hb0] at h3
  obtain ⟨W1, hW1⟩ : ∃ W1, (((w.alloc (.cells #[.int .i64 x.o, .slice x.zA x.lr x.cr] 24)).alloc (.cells #[.slice x.hA x.la x.ca, .slice x.sA x.lb x.cb] 28)).alloc (.cells #[.slice x.pA x.np x.cp, .slice x.rA x.nr x.rc] 32)) = W1 := ⟨_, rfl⟩
  rw [hW1] at h3
  have hM := refMayZ_calls x.o x.zA x.lr x.cr x.zg W1 h3.t.1
  unfold zonC at hM
  have H1 := Lib.hid h3
  have Hs := Lib.hid hs
  obtain ⟨E, hE⟩ : ∃ E, tarE x = E := ⟨_, rfl⟩
  have HE := Lib.hid hE
  rw [hE]
  have d0 := cell_of_row W1 b0 0 _ _ _ h3.z
  have d1 := cell_of_row W1 b0 1 _ _ _ h3.z
  clear hE hT hs h3
  by_cases hz : zonOk x.o x.lr x.zg
  case neg =>
    rw [decide_eq_false hz] at hM
    have HM := Lib.hid hM
    have Hno := Lib.hid (show E = 70 by rw [← HE.out]; unfold tarE; rw [if_pos (by unfold tE1 zonE; rw [if_neg hz]; simp)]; unfold tE1 zonE; rw [if_neg hz])
    clear hM hz
    go_enter Tryz.func6, Tryz.ntmps6
    go_wp2_with fail
    refine HM.out.mono ?_
    rintro e w2 ⟨rfl, hb2⟩
    have HB := Lib.hid (bnext H1.out.bel hb2)
    clear hb2
    go_wp2_with fail
    go_ret
    rw [Hno.out]
    exact ⟨rfl, by first | exact HB.out | (rw [Hb0.out]; exact HB.out) | (rw [← Hb0.out]; exact HB.out)⟩
  rw [decide_eq_true hz] at hM
  have HM := Lib.hid hM
  have HC := Lib.hid (fun W (h : Tb3 b0 w x W) => refCal_calls x.hA x.la x.ca x.gh x.sA x.lb x.cb x.gs W h.t.2.1)
  unfold calC at HC
  have e1 : tE1 x = 0 := if_pos hz
  by_cases hc : calOk x.la x.gh x.lb x.gs
  case neg =>
    simp only [decide_eq_false hc] at HC
    have Hno := Lib.hid (show E = 80 by rw [← HE.out]; unfold tarE; rw [if_neg (by rw [e1]; simp), if_pos (by unfold tE2 calE; rw [if_neg hc]; simp)]; unfold tE2 calE; rw [if_neg hc])
    clear hM hz hc e1
    go_enter Tryz.func6, Tryz.ntmps6
    go_wp2_with fail
    refine HM.out.mono ?_
    rintro e w2 ⟨rfl, hb2⟩
    have h2 := H1.out.go hb2
    have HX := Lib.hid (HC.out w2 h2)
    have H2 := Lib.hid h2
    replace d0 := cell_of_row w2 (b0 + 1) 0 _ _ _ h2.c
    replace d1 := cell_of_row w2 (b0 + 1) 1 _ _ _ h2.c
    clear hb2 h2
    go_wp2_with fail
    refine HX.out.mono ?_
    rintro e w3 ⟨rfl, hb3⟩
    have HB := Lib.hid (bnext H2.out.bel hb3)
    clear hb3
    go_wp2_with fail
    go_ret
    rw [Hno.out]
    exact ⟨rfl, by first | exact HB.out | (rw [Hb0.out]; exact HB.out) | (rw [← Hb0.out]; exact HB.out)⟩
  simp only [decide_eq_true hc] at HC
  have e2 : tE2 x = 0 := if_pos hc
  have HTb := Lib.hid (fun W (h : Tb3 b0 w x W) => table_calls x.pA x.np x.cp x.pF x.gp x.rA x.nr x.rc x.rr ⟨Hs.out.1, Hs.out.2.1, Hs.out.2.2.2⟩ W h.t.2.2.1 h.t.2.2.2.1)
  have HE2 := Lib.hid (And.intro e1 e2)
  clear hM hz hc e1 e2
  go_enter Tryz.func6, Tryz.ntmps6
  go_wp2_with fail
  refine HM.out.mono ?_
  rintro e w2 ⟨rfl, hb2⟩
  have h2 := H1.out.go hb2
  have HX := Lib.hid (HC.out w2 h2)
  have H2 := Lib.hid h2
  replace d0 := cell_of_row w2 (b0 + 1) 0 _ _ _ h2.c
  replace d1 := cell_of_row w2 (b0 + 1) 1 _ _ _ h2.c
  clear hb2 h2
  go_wp2_with fail
  refine HX.out.mono ?_
  rintro e w3 ⟨rfl, hb3⟩
  have h3 := H2.out.go hb3
  have HY := Lib.hid (HTb.out w3 h3)
  have H3 := Lib.hid h3
  replace d0 := cell_of_row w3 (b0 + 1 + 1) 0 _ _ _ h3.b
  replace d1 := cell_of_row w3 (b0 + 1 + 1) 1 _ _ _ h3.b
  clear hb3 h3 HX
  go_wp2_with fail
  refine HY.out.mono ?_
  rintro e w4 ⟨A', c', F', R', cr', rfl, hpl, hFn, hru, hb4⟩
  have h4 := H3.out.go hb4
  have hX := rbCheck_calls A' x.np c' F' x.gp R' x.nr cr' x.rr w4 hpl hru
  have H4 := Lib.hid h4
  clear hb4 h4 HY d0 d1 hpl hru
  by_cases ht : tabOk x.np (fun i => (x.pF i).2.1) x.gp x.nr x.rr
  case neg =>
    rw [decide_eq_false (fun q => ht ((tabOk_congr hFn).1 q))] at hX
    have HX := Lib.hid hX
    have Hno := Lib.hid (show E = 90 by rw [← HE.out]; unfold tarE; rw [if_neg (by rw [HE2.out.1]; simp), if_neg (by rw [HE2.out.2]; simp), if_pos (by unfold tE3 tabE; rw [if_neg ht]; simp)]; unfold tE3 tabE; rw [if_neg ht])
    clear hX ht hFn
    go_wp2_with fail
    refine HX.out.mono ?_
    rintro e w5 ⟨rfl, hb5⟩
    have HB := Lib.hid (bnext H4.out.bel hb5)
    clear hb5
    go_wp2_with fail
    go_ret
    rw [Hno.out]
    exact ⟨rfl, by first | exact HB.out | (rw [Hb0.out]; exact HB.out) | (rw [← Hb0.out]; exact HB.out)⟩
  rw [decide_eq_true ((tabOk_congr hFn).2 ht)] at hX
  have HX := Lib.hid hX
  have He3 := Lib.hid (show tE3 x = 0 from if_pos ht)
  clear hX ht hFn
  go_wp2_with fail
  refine HX.out.mono ?_
  rintro e w5 ⟨rfl, hb5⟩
  have h5 := H4.out.go hb5
  have hY := rrCheck_calls x.vA x.nv x.cv x.vf x.vF x.vp w5 h5.t.2.2.2.2
  have H5 := Lib.hid h5
  obtain ⟨E4, hE4⟩ : ∃ E4, tE4 x = E4 := ⟨_, rfl⟩
  have hE4' : ratE x.nv x.vf (fun i => (x.vF i).2.1) x.vp = E4 := hE4
  rw [hE4'] at hY
  have HY := Lib.hid hY
  have HE4 := Lib.hid hE4
  clear hb5 h5 hY hE4 hE4'
  by_cases h4 : E4 = 0
  case neg =>
    have k4 : (E4 != 0) = true := bne_iff_ne.2 h4
    have Hno := Lib.hid (show E = E4 by rw [← HE.out]; unfold tarE; rw [if_neg (by rw [HE2.out.1]; simp), if_neg (by rw [HE2.out.2]; simp), if_neg (by rw [He3.out]; simp), HE4.out, if_pos h4])
    clear h4
    go_wp2_with fail
    refine HY.out.mono ?_
    rintro e w6 ⟨rfl, hb6⟩
    have HB := Lib.hid (bnext H5.out.bel hb6)
    clear hb6
    go_wp2_with fail
    go_ret
    rw [Hno.out]
    exact ⟨rfl, by first | exact HB.out | (rw [Hb0.out]; exact HB.out) | (rw [← Hb0.out]; exact HB.out)⟩
  subst h4
  have HE5 := Lib.hid (show E = tE5 x by rw [← HE.out]; unfold tarE; rw [if_neg (by rw [HE2.out.1]; simp), if_neg (by rw [HE2.out.2]; simp), if_neg (by rw [He3.out]; simp), HE4.out, if_neg (by simp)])
  by_cases h0 : x.nv = 0
  · have k0 : ((x.nv : Int) == 0) = true := beq_iff_eq.2 (by omega)
    have Hno := Lib.hid (show E = 110 by rw [HE5.out]; exact if_pos h0)
    clear h0
    go_wp2_with fail
    refine HY.out.mono ?_
    rintro e w6 ⟨rfl, hb6⟩
    have HB := Lib.hid (bnext H5.out.bel hb6)
    clear hb6
    go_wp2_with fail
    go_ret
    rw [Hno.out]
    exact ⟨rfl, by first | exact HB.out | (rw [Hb0.out]; exact HB.out) | (rw [← Hb0.out]; exact HB.out)⟩
  have k0 : ((x.nv : Int) == 0) = false := beq_eq_false_iff_ne.2 (by omega)
  have HE6 := Lib.hid (show E = if noEight x = true then 110 else 0 by rw [HE5.out]; exact if_neg h0)
  clear h0
  go_wp2_with fail
  refine HY.out.mono ?_
  rintro e w6 ⟨rfl, hb6⟩
  have H6 := Lib.hid (H5.out.go hb6)
  clear hb6
  go_wp2_with fail
  go_loop [11] (fun i => ∃ k : Nat, k ≤ x.nv ∧ i = .int .i64 k ∧ ∀ j, j < k → (x.vF j).2.1 = 8) (fun i => x.nv - (intOf i).toNat)
  case atStart => exact ⟨0, by omega, rfl, fun j hj => absurd hj (by omega)⟩
  case round =>
    obtain ⟨k, hk, rfl, hA⟩ := hrel
    by_cases hlt : k < x.nv
    · have hI : (k : Int) < (x.nv : Int) := by omega
      have hk0 : (0 : Int) ≤ (k : Int) := by omega
      obtain ⟨sb, off, hva, hsb, -, q1⟩ := H6.out.t.2.2.2.2.at_ hlt
      unfold slV at q1
      obtain ⟨P1, hP1⟩ : ∃ z, (x.vF k).1 = z := ⟨_, rfl⟩
      obtain ⟨P2, hP2⟩ : ∃ z, (x.vF k).2.1 = z := ⟨_, rfl⟩
      obtain ⟨P3, hP3⟩ : ∃ z, (x.vF k).2.2 = z := ⟨_, rfl⟩
      rw [hP1, hP2, hP3] at q1
      have HP2 := Lib.hid hP2
      have Hlt := Lib.hid hlt
      have HA := Lib.hid hA
      have wk : IntKind.i64.wrap ((k : Int) + 1) = (k : Int) + 1 := i64_same _ (by have := Hs.out.2.2.1; omega)
      have X := Lib.hid (wrap64_in ((k : Int) + 1) (by have := Hs.out.2.2.1; omega))
      clear hsb hP1 hP2 hP3 hlt hA hk
      by_cases h8 : P2 = 8
      · have k8 : ((P2 : Int) != 8) = false := by simp [h8]
        have Hst := Lib.hid (show ∀ j, j < k + 1 → (x.vF j).2.1 = 8 from fun j hj => by
          by_cases e : j = k
          · rw [e, HP2.out]; exact h8
          · exact HA.out j (by omega))
        clear h8
        have xk := X.out
        go_wp2_with fail
        clear xk
        exact ⟨⟨k + 1, Hlt.out, by push_cast; rfl, Hst.out⟩, meas_z x.nv k Hlt.out⟩
      · have k8 : ((P2 : Int) != 8) = true := bne_iff_ne.2 (by omega)
        have Hno := Lib.hid (show E = 110 by
          rw [HE6.out, if_pos]
          rw [← Bool.not_eq_false]
          intro q
          exact h8 (by rw [← HP2.out]; exact (noEight_iff x).1 q k Hlt.out))
        clear h8
        go_wp2_with fail
        go_ret
        rw [Hno.out]
        exact ⟨rfl, by first | exact H6.out.bel | (rw [Hb0.out]; exact H6.out.bel) | (rw [← Hb0.out]; exact H6.out.bel)⟩
    · obtain rfl : k = x.nv := by omega
      have hI : ¬ ((x.nv : Int) < (x.nv : Int)) := by omega
      have Hyes := Lib.hid (show E = 0 by rw [HE6.out, if_neg (by rw [(noEight_iff x).2 hA]; simp)])
      clear hA hk hlt
      go_wp2_with fail
      go_ret
      rw [Hyes.out]
      exact ⟨rfl, by first | exact H6.out.bel | (rw [Hb0.out]; exact H6.out.bel) | (rw [← Hb0.out]; exact H6.out.bel)⟩
end Go.Proofs.YtgbkedjjgbhcmaaGreatDoor

/-
  An instant's season, kind of day, minute, band and price: tariff.Local, tariff.At, walked. Conditions stand at each theorem.
-/
namespace Go.Proofs.YtgbkedjjgbhcmaaGreatDoor
open Go Go.RowKit Go.Kw Go.Kw.Cv Go.Shelf
set_option linter.unusedVariables false
set_option linter.unusedSimpArgs false

theorem mxS_in {gs : Nat → Nat → Int} {lb : Nat} (h : seasAll gs lb) (p : Int) : ∀ k, k ≤ lb → 0 ≤ (mxS gs p k).2 ∧ (mxS gs p k).2 ≤ 99
  | 0, _ => by show (0 : Int) ≤ 0 ∧ (0 : Int) ≤ 99; omega
  | k + 1, hk => by
    have ih := mxS_in h p k (by omega)
    have h1 := (h k (by omega)).1
    unfold seaOk at h1
    rw [mxS]
    split
    · exact ⟨by show 0 ≤ gs k 0; omega, by show gs k 0 ≤ 99; omega⟩
    · exact ih
theorem seasD_in {gs : Nat → Nat → Int} {lb : Nat} (h : seasAll gs lb) (n : Int) : 0 ≤ seasD gs lb n ∧ seasD gs lb n ≤ 99 := by
  unfold seasD seasN seasB
  split
  · exact mxS_in h _ _ (Nat.le_refl _)
  · exact mxS_in h _ _ (Nat.le_refl _)
theorem kindD_in (g : Nat → Nat → Int) (la : Nat) (n : Int) : 1 ≤ kindD g la n ∧ kindD g la n ≤ 4 := by
  unfold kindD kindB
  split
  · omega
  · split
    · omega
    · split <;> omega
/-- What an instant is told: the error, the day, season, kind, minute. -/
noncomputable def tlE (x : Tar) (t : Int) : Int := if tarE x = 0 then offE x.o x.lr x.zg t else tarE x
noncomputable def tlD (x : Tar) (t : Int) : Int := (t + offV x.o x.lr x.zg t) / 86400
noncomputable def tlS (x : Tar) (t : Int) : Int := if tlE x t = 0 then seasD x.gs x.lb (tlD x t) else 0
noncomputable def tlK (x : Tar) (t : Int) : Int := if tlE x t = 0 then kindD x.gh x.la (tlD x t) else 0
noncomputable def tlM (x : Tar) (t : Int) : Int := if tlE x t = 0 then (t + offV x.o x.lr x.zg t) % 86400 / 60 else 0
theorem tlE_ok {x : Tar} {t : Int} (h : tlE x t = 0) : TarOk x ∧ offE x.o x.lr x.zg t = 0 ∧ 0 ≤ tlD x t ∧ tlD x t ≤ 2932896 := by
  unfold tlE at h
  split at h
  · rename_i h1
    have hok := (tarE_ok x).1 h1
    refine ⟨hok, h, ?_⟩
    have hz := hok.1
    unfold tlD
    have hv : offV x.o x.lr x.zg t = x.o + extV x.zg x.lr (t + x.o) := if_pos h
    unfold offE at h
    rw [if_pos hz] at h
    split at h
    · rename_i h2
      have h3 := h2.2
      unfold secOk at h3
      rw [hv]
      omega
    · cases h
  · contradiction
theorem tlM_in (x : Tar) (t : Int) : 0 ≤ tlM x t ∧ tlM x t < 1440 := by
  unfold tlM
  split
  · omega
  · omega
set_option maxRecDepth 100000 in
set_option maxHeartbeats 16000000 in
theorem local_calls (x : Tar) (t : Int) (w : World) (hT : RdTar w x) (hL : Lens w) :
    Calls Tryz.prog 7 #[tarV x, .int .i64 t] w fun e w' => e = .returned (.tuple #[.int .i64 (tlS x t), .int .i64 (tlK x t), .int .i64 (tlM x t), .int .i64 (tlE x t)]) ∧ Below w.heap.size w w' := by
  obtain ⟨b0, hb0⟩ : ∃ b0, w.heap.size = b0 := ⟨_, rfl⟩
  have Hb0 := Lib.hid hb0
  obtain ⟨W1, hW1⟩ : ∃ W1, w.alloc (.cells (tarRow x) 35) = W1 := ⟨_, rfl⟩
  have hst : Below w.heap.size w W1 := hW1 ▸ bstep w _
  have hr : W1.heap[b0]? = some (.cells (tarRow x) 35 (0, 0)) := by rw [← hb0, ← hW1]; exact World.alloc_heap_new w _
  have hC := tarCheck_calls x W1 (hT.go hst) (hL.go hst)
  obtain ⟨E, hE⟩ : ∃ E, tarE x = E := ⟨_, rfl⟩
  rw [hE] at hC
  unfold tarV at hC
  have HX := Lib.hid (And.intro (hT.go hst) (And.intro (hL.go hst) (And.intro hr hst)))
  unfold tarRow at hW1 hC hr
  have c0 := cell_of_row W1 b0 0 _ _ _ hr
  have c1 := cell_of_row W1 b0 1 _ _ _ hr
  have c2 := cell_of_row W1 b0 2 _ _ _ hr
  have c3 := cell_of_row W1 b0 3 _ _ _ hr
  have c4 := cell_of_row W1 b0 4 _ _ _ hr
  have c5 := cell_of_row W1 b0 5 _ _ _ hr
  have c6 := cell_of_row W1 b0 6 _ _ _ hr
  have HC := Lib.hid hC
  unfold tarV tarRow
  clear hst hr hC hT hL
  by_cases h0 : E = 0
  case neg =>
    have hl : tlE x t = E := by unfold tlE; rw [hE, if_neg h0]
    have k0 : (E != 0) = true := by simp [h0]
    rw [show tlS x t = 0 from if_neg (by rw [hl]; exact h0), show tlK x t = 0 from if_neg (by rw [hl]; exact h0), show tlM x t = 0 from if_neg (by rw [hl]; exact h0), hl]
    clear h0 hl hE
    go_enter Tryz.func7, Tryz.ntmps7
    go_wp2_with fail
    refine HC.out.mono ?_
    rintro e w2 ⟨rfl, hb2⟩
    have HB := Lib.hid (bnext HX.out.2.2.2 hb2)
    clear hb2
    go_wp2_with fail
    refine bodyPost_ret (v := .tuple #[.int .i64 0, .int .i64 0, .int .i64 0, .int .i64 E]) (by simp [results, Tryz.results7, go_sem]) rfl ?_
    exact ⟨rfl, by first | exact HB.out | (rw [Hb0.out]; exact HB.out)⟩
  subst h0
  have hO : tlE x t = offE x.o x.lr x.zg t := if_pos hE
  by_cases h1 : tlE x t = 0
  case neg =>
    obtain ⟨F, hF⟩ : ∃ F, tlE x t = F := ⟨_, rfl⟩
    have hD := fun (W : World) (hb : Below W1.heap.size W1 W) => zDay_calls x.o x.zA x.lr x.cr x.zg t W (HX.out.1.1.go hb) (HX.out.2.1.go hb)
    rw [show tlS x t = 0 from if_neg h1, show tlK x t = 0 from if_neg h1, show tlM x t = 0 from if_neg h1]
    rw [hF] at h1 hO ⊢
    have k0 : (F != 0) = true := by simp [h1]
    have hz1 : dayQ x.o x.lr x.zg t = 0 := if_neg (by rw [← hO]; exact h1)
    have hz2 : minQ x.o x.lr x.zg t = 0 := if_neg (by rw [← hO]; exact h1)
    rw [hz1, hz2, ← hO] at hD
    unfold zonC at hD
    have HD := Lib.hid hD
    clear hz1 hz2 hD h1 hF hE hO
    go_enter Tryz.func7, Tryz.ntmps7
    go_wp2_with fail
    refine HC.out.mono ?_
    rintro e w2 ⟨rfl, hb2⟩
    have hr2 := blk_below HX.out.2.2.1 hb2
    unfold tarRow at hr2
    replace c0 := cell_of_row w2 b0 0 _ _ _ hr2
    replace c1 := cell_of_row w2 b0 1 _ _ _ hr2
    have HY := Lib.hid (HD.out w2 hb2)
    have HB := Lib.hid (bnext HX.out.2.2.2 hb2)
    clear hb2 hr2 c2 c3 c4 c5 c6
    go_wp2_with fail
    refine HY.out.mono ?_
    rintro e w3 ⟨rfl, hb3⟩
    have HB3 := Lib.hid (bnext HB.out hb3)
    clear hb3
    go_wp2_with fail
    refine bodyPost_ret (v := .tuple #[.int .i64 0, .int .i64 0, .int .i64 0, .int .i64 F]) (by simp [results, Tryz.results7, go_sem]) rfl ?_
    exact ⟨rfl, by first | exact HB3.out | (rw [Hb0.out]; exact HB3.out)⟩
  obtain ⟨hok, hoff, hd⟩ := tlE_ok h1
  rw [show tlS x t = seasD x.gs x.lb (tlD x t) from if_pos h1, show tlK x t = kindD x.gh x.la (tlD x t) from if_pos h1, show tlM x t = (t + offV x.o x.lr x.zg t) % 86400 / 60 from if_pos h1, h1]
  have hD := fun (W : World) (hb : Below W1.heap.size W1 W) => zDay_calls x.o x.zA x.lr x.cr x.zg t W (HX.out.1.1.go hb) (HX.out.2.1.go hb)
  have hS := fun (W : World) (hb : Below W1.heap.size W1 W) => season_ok x.hA x.la x.ca x.gh x.sA x.lb x.cb x.gs (tlD x t) hok.2.1 hd W (HX.out.1.2.1.go hb) (HX.out.2.1.go hb)
  have hK := fun (W : World) (hb : Below W1.heap.size W1 W) => daysKind_ok x.hA x.la x.ca x.gh x.sA x.lb x.cb x.gs (tlD x t) hok.2.1 hd W (HX.out.1.2.1.go hb) (HX.out.2.1.go hb)
  rw [show dayQ x.o x.lr x.zg t = tlD x t from if_pos hoff, show minQ x.o x.lr x.zg t = (t + offV x.o x.lr x.zg t) % 86400 / 60 from if_pos hoff, hoff] at hD
  unfold zonC at hD
  unfold calC at hS hK
  obtain ⟨D, hDe⟩ : ∃ D, tlD x t = D := ⟨_, rfl⟩
  obtain ⟨M, hM⟩ : ∃ M, (t + offV x.o x.lr x.zg t) % 86400 / 60 = M := ⟨_, rfl⟩
  rw [hDe, hM] at hD
  rw [hDe] at hS hK ⊢
  rw [hM]
  obtain ⟨S, hSe⟩ : ∃ S, seasD x.gs x.lb D = S := ⟨_, rfl⟩
  obtain ⟨K, hKe⟩ : ∃ K, kindD x.gh x.la D = K := ⟨_, rfl⟩
  rw [hSe] at hS ⊢
  rw [hKe] at hK ⊢
  have HD := Lib.hid hD
  have HS := Lib.hid hS
  have HK := Lib.hid hK
  clear hok hoff hd hD hS hK hDe hM hSe hKe h1 hO hE
  go_enter Tryz.func7, Tryz.ntmps7
  go_wp2_with fail
  refine HC.out.mono ?_
  rintro e w2 ⟨rfl, hb2⟩
  have hr2 := blk_below HX.out.2.2.1 hb2
  unfold tarRow at hr2
  replace c0 := cell_of_row w2 b0 0 _ _ _ hr2
  replace c1 := cell_of_row w2 b0 1 _ _ _ hr2
  have HY := Lib.hid (HD.out w2 hb2)
  have HB := Lib.hid hb2
  clear hb2 hr2 c2 c3 c4 c5 c6
  go_wp2_with fail
  refine HY.out.mono ?_
  rintro e w3 ⟨rfl, hb3⟩
  have HB3 := Lib.hid (bnext HB.out hb3)
  have hr3 := blk_below HX.out.2.2.1 HB3.out
  unfold tarRow at hr3
  have c2 := cell_of_row w3 b0 2 _ _ _ hr3
  have c3 := cell_of_row w3 b0 3 _ _ _ hr3
  have HY3 := Lib.hid (HS.out w3 HB3.out)
  clear hb3 hr3 c0 c1
  go_wp2_with fail
  refine HY3.out.mono ?_
  rintro e w4 ⟨rfl, hb4⟩
  have HB4 := Lib.hid (bnext HB3.out hb4)
  have hr4 := blk_below HX.out.2.2.1 HB4.out
  unfold tarRow at hr4
  replace c2 := cell_of_row w4 b0 2 _ _ _ hr4
  replace c3 := cell_of_row w4 b0 3 _ _ _ hr4
  have HY4 := Lib.hid (HK.out w4 HB4.out)
  clear hb4 hr4
  go_wp2_with fail
  refine HY4.out.mono ?_
  rintro e w5 ⟨rfl, hb5⟩
  have HB5 := Lib.hid (bnext HX.out.2.2.2 (bnext HB4.out hb5))
  clear hb5
  go_wp2_with fail
  refine bodyPost_ret (v := .tuple #[.int .i64 S, .int .i64 K, .int .i64 M, .int .i64 0]) (by simp [results, Tryz.results7, go_sem]) rfl ?_
  exact ⟨rfl, by first | exact HB5.out | (rw [Hb0.out]; exact HB5.out)⟩
/-- An instant's plan, band, price, error. -/
noncomputable def atP (x : Tar) (t : Int) : Nat := (planV x.rr x.nr (tlS x t) (tlK x t)).toNat
noncomputable def atBd (x : Tar) (t : Int) : Int := bandV (x.pF (atP x t)).2.1 (x.gp (atP x t)) (tlM x t)
noncomputable def tatE (x : Tar) (t : Int) : Int := if tlE x t = 0 then (if atB x.vf t x.nv = true then 0 else 110) else tlE x t
noncomputable def tatB (x : Tar) (t : Int) : Int := if tatE x t = 0 then atBd x t else 0
noncomputable def tatP (x : Tar) (t : Int) : Int := if tatE x t = 0 then priV x.vf x.vp t x.nv (atBd x t) else 0
theorem band_in {n : Nat} {g : Nat → Nat → Int} (h : planOk n g) (m : Int) (hm : 0 ≤ m) : 0 ≤ bandV n g m ∧ bandV n g m ≤ 7 := by
  unfold bandV
  have hl := (swAt_spec g m n ⟨0, by have := h.1.1; omega, by rw [h.1.2.2]; exact hm⟩).1
  have := h.2 _ hl
  unfold swOk at this
  omega
set_option maxRecDepth 100000 in
set_option maxHeartbeats 16000000 in
theorem tarAt_calls (x : Tar) (t : Int) (w : World) (hT : RdTar w x) (hL : Lens w) :
    Calls Tryz.prog 8 #[tarV x, .int .i64 t] w fun e w' => e = .returned (.tuple #[.int .i64 (tatB x t), .int .i64 (tatP x t), .int .i64 (tatE x t)]) ∧ Below w.heap.size w w' := by
  obtain ⟨b0, hb0⟩ : ∃ b0, w.heap.size = b0 := ⟨_, rfl⟩
  have Hb0 := Lib.hid hb0
  obtain ⟨W1, hW1⟩ : ∃ W1, w.alloc (.cells (tarRow x) 35) = W1 := ⟨_, rfl⟩
  have hst : Below w.heap.size w W1 := hW1 ▸ bstep w _
  have hr : W1.heap[b0]? = some (.cells (tarRow x) 35 (0, 0)) := by rw [← hb0, ← hW1]; exact World.alloc_heap_new w _
  have hC := local_calls x t W1 (hT.go hst) (hL.go hst)
  obtain ⟨S, hS⟩ : ∃ S, tlS x t = S := ⟨_, rfl⟩
  obtain ⟨K, hK⟩ : ∃ K, tlK x t = K := ⟨_, rfl⟩
  obtain ⟨M, hM⟩ : ∃ M, tlM x t = M := ⟨_, rfl⟩
  obtain ⟨E, hE⟩ : ∃ E, tlE x t = E := ⟨_, rfl⟩
  rw [hS, hK, hM, hE] at hC
  unfold tarV at hC
  have HX := Lib.hid (And.intro (hT.go hst) (And.intro (hL.go hst) (And.intro hr hst)))
  unfold tarRow at hW1 hC hr
  have c0 := cell_of_row W1 b0 0 _ _ _ hr
  have c1 := cell_of_row W1 b0 1 _ _ _ hr
  have c2 := cell_of_row W1 b0 2 _ _ _ hr
  have c3 := cell_of_row W1 b0 3 _ _ _ hr
  have c4 := cell_of_row W1 b0 4 _ _ _ hr
  have c5 := cell_of_row W1 b0 5 _ _ _ hr
  have c6 := cell_of_row W1 b0 6 _ _ _ hr
  have HC := Lib.hid hC
  unfold tarV tarRow
  clear hst hr hC hT hL
  by_cases h0 : E = 0
  case neg =>
    have hl : tatE x t = E := by unfold tatE; rw [hE, if_neg h0]
    have k0 : (E != 0) = true := by simp [h0]
    rw [show tatB x t = 0 from if_neg (by rw [hl]; exact h0), show tatP x t = 0 from if_neg (by rw [hl]; exact h0), hl]
    clear h0 hl hE hS hK hM
    go_enter Tryz.func8, Tryz.ntmps8
    go_wp2_with fail
    refine HC.out.mono ?_
    rintro e w2 ⟨rfl, hb2⟩
    have HB := Lib.hid (bnext HX.out.2.2.2 hb2)
    clear hb2
    go_wp2_with fail
    go_ret3
    exact ⟨rfl, by first | exact HB.out | (rw [Hb0.out]; exact HB.out)⟩
  subst h0
  obtain ⟨hok, hoff, hd⟩ := tlE_ok hE
  have hSv : tlS x t = seasD x.gs x.lb (tlD x t) := if_pos hE
  have hKv : tlK x t = kindD x.gh x.la (tlD x t) := if_pos hE
  have hSi : 0 ≤ S ∧ S ≤ 99 := by rw [← hS, hSv]; exact seasD_in hok.2.1.2.2.2 _
  have hKi : 1 ≤ K ∧ K ≤ 4 := by rw [← hK, hKv]; exact kindD_in _ _ _
  have hMi : 0 ≤ M ∧ M < 1440 := by rw [← hM]; exact tlM_in x t
  have hpi := planV_in hok.2.2.1 S K
  obtain ⟨q, hq⟩ : ∃ q : Nat, planV x.rr x.nr S K = (q : Int) := ⟨(planV x.rr x.nr S K).toNat, by omega⟩
  have hqn : q < x.np := by omega
  have hpq : planOk (x.pF q).2.1 (x.gp q) := hok.2.2.1.2.2 q hqn
  have hbi := band_in hpq M hMi.1
  have hatP : atP x t = q := by unfold atP; rw [hS, hK, hq]; rfl
  have hatB : atBd x t = bandV (x.pF q).2.1 (x.gp q) M := by unfold atBd; rw [hatP, hM]
  obtain ⟨B, hB⟩ : ∃ B, bandV (x.pF q).2.1 (x.gp q) M = B := ⟨_, rfl⟩
  rw [hB] at hbi hatB
  have hPl := fun (W : World) (hb : Below W1.heap.size W1 W) => plan_calls x.pA x.np x.cp x.pF x.gp x.rA x.nr x.rc x.rr S K hok.2.2.1 hSi hKi W (HX.out.1.2.2.1.go hb) (HX.out.1.2.2.2.1.go hb)
  have hBd := fun (W : World) (hb : Below W1.heap.size W1 W) => band_calls (x.pF q).1 (x.pF q).2.1 (x.pF q).2.2 (x.gp q) M hpq hMi W ((HX.out.1.2.2.1.go hb).2.2.2.2 q hqn)
  have hPr := fun (W : World) (hb : Below W1.heap.size W1 W) => price_calls x.vA x.nv x.cv x.vf x.vF x.vp t B hok.2.2.2.1 hok.2.2.2.2.2 hbi W (HX.out.1.2.2.2.2.go hb)
  rw [hq] at hPl
  rw [hB] at hBd
  obtain ⟨b, off, hpa, hpl, hpc⟩ := HX.out.1.2.2.1.2.2.2.1.at_ hqn
  unfold slV at hpc
  obtain ⟨P1, hP1⟩ : ∃ z, (x.pF q).1 = z := ⟨_, rfl⟩
  obtain ⟨P2, hP2⟩ : ∃ z, (x.pF q).2.1 = z := ⟨_, rfl⟩
  obtain ⟨P3, hP3⟩ : ∃ z, (x.pF q).2.2 = z := ⟨_, rfl⟩
  rw [hP1, hP2, hP3] at hpc hBd
  have hpA : Value.slice x.pA x.np x.cp = .slice (some ⟨b, off, none⟩) x.np x.cp := by rw [hpa]
  have hte : tatE x t = if atB x.vf t x.nv = true then 0 else 110 := if_pos hE
  have htb : tatB x t = if tatE x t = 0 then B else 0 := by unfold tatB; rw [hatB]
  have htp : tatP x t = if tatE x t = 0 then priV x.vf x.vp t x.nv B else 0 := by unfold tatP; rw [hatB]
  obtain ⟨V, hV⟩ : ∃ V, atB x.vf t x.nv = V := ⟨_, rfl⟩
  obtain ⟨R, hR⟩ : ∃ R, priV x.vf x.vp t x.nv B = R := ⟨_, rfl⟩
  rw [hV] at hte hPr
  rw [hR] at hPr htp
  have HPl := Lib.hid hPl
  have HBd := Lib.hid hBd
  have HPr := Lib.hid hPr
  have HHpc := Lib.hid hpc
  have HpA := Lib.hid hpA
  clear hpa hpA
  have hq0 : (0 : Int) ≤ (q : Int) := by omega
  have hq1 : (q : Int) < (x.np : Int) := by omega
  rw [htb, htp, hte]
  clear hok hoff hd hSv hKv hSi hKi hMi hpi hq hqn hpq hbi hatP hatB hB hPl hBd hPr hpl hP1 hP2 hP3 htb htp hte hV hR hS hK hM hE
  cases V
  all_goals
    first
    | rw [if_pos rfl, if_pos rfl, if_pos rfl]
    | rw [show (if (if false = true then (0 : Int) else 110) = 0 then B else 0) = 0 from rfl, show (if (if false = true then (0 : Int) else 110) = 0 then R else 0) = 0 from rfl, show (if false = true then (0 : Int) else 110) = 110 from rfl]
    go_enter Tryz.func8, Tryz.ntmps8
    go_wp2_with fail
    refine HC.out.mono ?_
    rintro e w2 ⟨rfl, hb2⟩
    have hr2 := blk_below HX.out.2.2.1 hb2
    unfold tarRow at hr2
    replace c4 := cell_of_row w2 b0 4 _ _ _ hr2
    replace c5 := cell_of_row w2 b0 5 _ _ _ hr2
    have HY := Lib.hid (HPl.out w2 hb2)
    have HB := Lib.hid hb2
    clear hb2 hr2 c0 c1 c2 c3 c6
    go_wp2_with fail
    refine HY.out.mono ?_
    rintro e w3 ⟨rfl, hb3⟩
    have HB3 := Lib.hid (bnext HB.out hb3)
    have hr3 := blk_below HX.out.2.2.1 HB3.out
    unfold tarRow at hr3
    rw [HpA.out] at hr3
    replace c4 := cell_of_row w3 b0 4 _ _ _ hr3
    have cp := cell_go HHpc.out HB3.out
    have HY3 := Lib.hid (HBd.out w3 HB3.out)
    clear hb3 hr3 c5 hpc
    go_wp2_with fail
    refine HY3.out.mono ?_
    rintro e w4 ⟨rfl, hb4⟩
    have HB4 := Lib.hid (bnext HB3.out hb4)
    have hr4 := blk_below HX.out.2.2.1 HB4.out
    unfold tarRow at hr4
    have c6 := cell_of_row w4 b0 6 _ _ _ hr4
    have HY4 := Lib.hid (HPr.out w4 HB4.out)
    clear hb4 hr4 c4 cp
    go_wp2_with fail
    refine HY4.out.mono ?_
    rintro e w5 ⟨rfl, hb5⟩
    have HB5 := Lib.hid (bnext HX.out.2.2.2 (bnext HB4.out hb5))
    clear hb5
    go_wp2_with fail
    go_ret3
    exact ⟨rfl, by first | exact HB5.out | (rw [Hb0.out]; exact HB5.out)⟩
end Go.Proofs.YtgbkedjjgbhcmaaGreatDoor

/-
  The document's tariff: Local of package kilowattref11, walked, at a tariff that may be. Conditions stand at each theorem.
-/
namespace Go.Proofs.YtgbkedjjgbhcmaaGreatDoor
open Go Go.RowKit Go.Kw Go.Kw.Cv Go.Shelf
set_option linter.unusedVariables false
set_option linter.unusedSimpArgs false

set_option maxRecDepth 100000 in
set_option maxHeartbeats 32000000 in
theorem rtLocal_calls (x : Tar) (t : Int) (hok : TarOk x) (w : World) (hT : RdTar w x) :
    Calls Tryz.prog 9 #[.agg #[.int .i64 x.o, .slice x.zA x.lr x.cr], .agg #[.slice x.hA x.la x.ca, .slice x.sA x.lb x.cb], .int .i64 t] w fun e w' => e = .returned (.tuple #[.int .i64 (tlS x t), .int .i64 (tlK x t), .int .i64 (tlM x t), .int .i64 (tlE x t)]) ∧ Below w.heap.size w w' := by
  obtain ⟨b0, hb0⟩ : ∃ b0, w.heap.size = b0 := ⟨_, rfl⟩
  have Hb0 := Lib.hid hb0
  have s1 := bstep w (.cells #[.int .i64 x.o, .slice x.zA x.lr x.cr] 24)
  have s2 := bstep (w.alloc (.cells #[.int .i64 x.o, .slice x.zA x.lr x.cr] 24)) (.cells #[.slice x.hA x.la x.ca, .slice x.sA x.lb x.cb] 28)
  have q1 := World.alloc_heap_new w (.cells #[.int .i64 x.o, .slice x.zA x.lr x.cr] 24)
  have q2 := World.alloc_heap_new (w.alloc (.cells #[.int .i64 x.o, .slice x.zA x.lr x.cr] 24)) (.cells #[.slice x.hA x.la x.ca, .slice x.sA x.lb x.cb] 28)
  rw [World.size_alloc] at q2
  have q1' := blk_below q1 s2
  rw [hb0] at q1' q2
  obtain ⟨W1, hW1⟩ : ∃ W1, ((w.alloc (.cells #[.int .i64 x.o, .slice x.zA x.lr x.cr] 24)).alloc (.cells #[.slice x.hA x.la x.ca, .slice x.sA x.lb x.cb] 28)) = W1 := ⟨_, rfl⟩
  have hst : Below w.heap.size w W1 := hW1 ▸ bnext s1 s2
  rw [hW1] at q1' q2
  have hE0 : tarE x = 0 := (tarE_ok x).2 hok
  have hO : tlE x t = offE x.o x.lr x.zg t := if_pos hE0
  have HO := refOffset_calls x.o x.zA x.lr x.cr x.zg t W1 (hT.go hst).1
  unfold zonC at HO
  have HX := Lib.hid (And.intro (hT.go hst) (And.intro q2 hst))
  have d0 := cell_of_row W1 b0 0 _ _ _ q1'
  have d1 := cell_of_row W1 b0 1 _ _ _ q1'
  clear hT hst s1 s2 q1 q2 q1'
  by_cases h1 : tlE x t = 0
  case neg =>
    obtain ⟨F, hF⟩ : ∃ F, tlE x t = F := ⟨_, rfl⟩
    rw [show tlS x t = 0 from if_neg h1, show tlK x t = 0 from if_neg h1, show tlM x t = 0 from if_neg h1]
    rw [hF] at h1 hO ⊢
    have k0 : (F != 0) = true := by simp [h1]
    rw [← hO] at HO
    replace HO := Lib.hid HO
    clear h1 hF hO hok hE0
    go_enter Tryz.func9, Tryz.ntmps9
    go_wp2_with fail
    refine HO.out.mono ?_
    rintro e w2 ⟨rfl, hb2⟩
    have HB := Lib.hid (bnext HX.out.2.2 hb2)
    clear hb2
    go_wp2_with fail
    refine bodyPost_ret (v := .tuple #[.int .i64 0, .int .i64 0, .int .i64 0, .int .i64 F]) (by simp [results, Tryz.results9, go_sem]) rfl ?_
    exact ⟨rfl, by first | exact HB.out | (rw [Hb0.out]; exact HB.out)⟩
  obtain ⟨_, hoff, hd⟩ := tlE_ok h1
  rw [show tlS x t = seasD x.gs x.lb (tlD x t) from if_pos h1, show tlK x t = kindD x.gh x.la (tlD x t) from if_pos h1, show tlM x t = (t + offV x.o x.lr x.zg t) % 86400 / 60 from if_pos h1, h1]
  have hs := off_sec hoff
  have hS := fun (W : World) (hb : Below W1.heap.size W1 W) => refSeason_calls x.hA x.la x.ca x.gh x.sA x.lb x.cb x.gs hok.2.1.2.2.2 hok.2.1.2.1 (tlD x t) hd W (HX.out.1.2.1.go hb)
  have hK := fun (W : World) (hb : Below W1.heap.size W1 W) => refKind_calls x.hA x.la x.ca x.gh x.sA x.lb x.cb x.gs hok.2.1.2.2.1 (tlD x t) hd W (HX.out.1.2.1.go hb)
  unfold calC at hS hK
  have hD : tlD x t = (t + offV x.o x.lr x.zg t) / 86400 := rfl
  obtain ⟨D, hDe⟩ : ∃ D, tlD x t = D := ⟨_, rfl⟩
  rw [hDe] at hS hK hd hD ⊢
  rw [hoff] at HO
  obtain ⟨n, hn⟩ : ∃ n, offV x.o x.lr x.zg t = n := ⟨_, rfl⟩
  rw [hn] at HO hs hD ⊢
  obtain ⟨u, hu⟩ : ∃ u, t + n = u := ⟨_, rfl⟩
  rw [hu] at hs hD ⊢
  unfold secOk at hs
  have w1 : IntKind.i64.wrap (t + n) = u := by rw [hu]; exact i64_same u (by omega)
  have X1 : Hid (wrap64 (t + n) = u) := by show _ = _; rw [hu]; exact wrap64_in u (by omega)
  have t1 : u.tdiv 86400 = D := by rw [hD]; exact Int.tdiv_eq_ediv_of_nonneg (by omega)
  have t2 : u.tmod 86400 = u % 86400 := Int.tmod_eq_emod_of_nonneg (by omega)
  have t3 : (u % 86400).tdiv 60 = u % 86400 / 60 := Int.tdiv_eq_ediv_of_nonneg (by omega)
  have a1 := i64_same D (by omega)
  have a2 := i64_same (u % 86400) (by omega)
  have a3 := i64_same (u % 86400 / 60) (by omega)
  obtain ⟨S, hSe⟩ : ∃ S, seasD x.gs x.lb D = S := ⟨_, rfl⟩
  obtain ⟨K, hKe⟩ : ∃ K, kindD x.gh x.la D = K := ⟨_, rfl⟩
  rw [hSe] at hS ⊢
  rw [hKe] at hK ⊢
  have HC : Hid (∀ W, Below W1.heap.size W1 W → W.cell? ⟨b0 + 1, 0, none⟩ = some (.slice x.hA x.la x.ca) ∧ W.cell? ⟨b0 + 1, 1, none⟩ = some (.slice x.sA x.lb x.cb)) := Lib.hid (fun W hb => ⟨cell_of_row W (b0 + 1) 0 _ _ _ (blk_below HX.out.2.1 hb), cell_of_row W (b0 + 1) 1 _ _ _ (blk_below HX.out.2.1 hb)⟩)
  have HS := Lib.hid hS
  have HK := Lib.hid hK
  replace HO := Lib.hid HO
  clear hS hK hSe hKe hD hDe hd hs hu hn hoff h1 hO hE0 hok
  have x1 := X1.out
  go_enter Tryz.func9, Tryz.ntmps9
  go_wp2_with fail
  refine HO.out.mono ?_
  rintro e w2 ⟨rfl, hb2⟩
  have HB2 := Lib.hid hb2
  have hc2 := HC.out w2 hb2
  clear d0 d1
  go_wp2_with fail
  clear x1 w1
  go_region_held3 (fun W => W.cell? ⟨b0 + 1, 0, none⟩ = some (.slice x.hA x.la x.ca) ∧ W.cell? ⟨b0 + 1, 1, none⟩ = some (.slice x.sA x.lb x.cb))
    (first | exact HC.out _ HB2.out | exact HC.out _ HB2.out.drew | exact HC.out _ hb4 | exact HC.out _ hb6)
    (first
      | (go_at_call_of 33 (Value.int .i64 D); first | (refine (HS.out _ hb4).mono ?_; rintro e w6 ⟨rfl, hb5⟩; have hb6 := bnext hb4 hb5) | (refine (HS.out _ HB2.out.drew).mono ?_; rintro e w4 ⟨rfl, hb3⟩; have hb4 := bnext HB2.out.drew hb3))
      | (go_at_call_of 34 (Value.int .i64 D); first | (refine (HK.out _ hb4).mono ?_; rintro e w6 ⟨rfl, hb5⟩; have hb6 := bnext hb4 hb5) | (refine (HK.out _ HB2.out.drew).mono ?_; rintro e w4 ⟨rfl, hb3⟩; have hb4 := bnext HB2.out.drew hb3)))
  all_goals
    go_wp2_with fail
    refine bodyPost_ret (v := .tuple #[.int .i64 S, .int .i64 K, .int .i64 (u % 86400 / 60), .int .i64 0]) (by simp [results, Tryz.results9, go_sem]) rfl ?_
    exact ⟨rfl, by first | exact bnext HX.out.2.2 hb6 | (rw [Hb0.out]; exact bnext HX.out.2.2 hb6)⟩
end Go.Proofs.YtgbkedjjgbhcmaaGreatDoor

/-
  The document's tariff: At of package kilowattref11, walked, at a tariff that may be. Conditions stand at each theorem.
-/
namespace Go.Proofs.YtgbkedjjgbhcmaaGreatDoor
open Go Go.RowKit Go.Kw Go.Kw.Cv Go.Shelf
set_option linter.unusedVariables false
set_option linter.unusedSimpArgs false

set_option maxRecDepth 100000 in
set_option maxHeartbeats 32000000 in
theorem rtAt_calls (x : Tar) (t : Int) (hok : TarOk x) (hs : SmallT x) (w : World) (hT : RdTar w x) :
    Calls Tryz.prog 10 #[.agg #[.int .i64 x.o, .slice x.zA x.lr x.cr], .agg #[.slice x.hA x.la x.ca, .slice x.sA x.lb x.cb], .agg #[.slice x.pA x.np x.cp, .slice x.rA x.nr x.rc], .slice x.vA x.nv x.cv, .int .i64 t] w fun e w' => e = .returned (.tuple #[.int .i64 (tatB x t), .int .i64 (tatP x t), .int .i64 (tatE x t)]) ∧ Below w.heap.size w w' := by
  obtain ⟨b0, hb0⟩ : ∃ b0, w.heap.size = b0 := ⟨_, rfl⟩
  have Hb0 := Lib.hid hb0
  have h3 := tb3_start w x hT
  rw [hb0] at h3
  obtain ⟨W1, hW1⟩ : ∃ W1, (((w.alloc (.cells #[.int .i64 x.o, .slice x.zA x.lr x.cr] 24)).alloc (.cells #[.slice x.hA x.la x.ca, .slice x.sA x.lb x.cb] 28)).alloc (.cells #[.slice x.pA x.np x.cp, .slice x.rA x.nr x.rc] 32)) = W1 := ⟨_, rfl⟩
  rw [hW1] at h3
  have hC := rtLocal_calls x t hok W1 h3.t
  have H1 := Lib.hid h3
  have d0 := cell_of_row W1 b0 0 _ _ _ h3.z
  have d1 := cell_of_row W1 b0 1 _ _ _ h3.z
  have d2 := cell_of_row W1 (b0 + 1) 0 _ _ _ h3.c
  have d3 := cell_of_row W1 (b0 + 1) 1 _ _ _ h3.c
  obtain ⟨S, hS⟩ : ∃ S, tlS x t = S := ⟨_, rfl⟩
  obtain ⟨K, hK⟩ : ∃ K, tlK x t = K := ⟨_, rfl⟩
  obtain ⟨M, hM⟩ : ∃ M, tlM x t = M := ⟨_, rfl⟩
  obtain ⟨E, hE⟩ : ∃ E, tlE x t = E := ⟨_, rfl⟩
  rw [hS, hK, hM, hE] at hC
  have HC := Lib.hid hC
  have Hs := Lib.hid hs
  clear hT h3 hC hs
  by_cases h0 : E = 0
  case neg =>
    have hl : tatE x t = E := by unfold tatE; rw [hE, if_neg h0]
    have k0 : (E != 0) = true := by simp [h0]
    rw [show tatB x t = 0 from if_neg (by rw [hl]; exact h0), show tatP x t = 0 from if_neg (by rw [hl]; exact h0), hl]
    clear h0 hl hE hS hK hM hok
    go_enter Tryz.func10, Tryz.ntmps10
    go_wp2_with fail
    refine HC.out.mono ?_
    rintro e w2 ⟨rfl, hb2⟩
    have HB := Lib.hid (bnext H1.out.bel hb2)
    clear hb2
    go_wp2_with fail
    go_ret3
    exact ⟨rfl, by first | exact HB.out | (rw [Hb0.out]; exact HB.out) | (rw [← Hb0.out]; exact HB.out)⟩
  subst h0
  obtain ⟨_, hoff, hd⟩ := tlE_ok hE
  have hSv : tlS x t = seasD x.gs x.lb (tlD x t) := if_pos hE
  have hKv : tlK x t = kindD x.gh x.la (tlD x t) := if_pos hE
  have hSi : 0 ≤ S ∧ S ≤ 99 := by rw [← hS, hSv]; exact seasD_in hok.2.1.2.2.2 _
  have hKi : 1 ≤ K ∧ K ≤ 4 := by rw [← hK, hKv]; exact kindD_in _ _ _
  have hMi : 0 ≤ M ∧ M < 1440 := by rw [← hM]; exact tlM_in x t
  have hpi := planV_in hok.2.2.1 S K
  obtain ⟨q, hq⟩ : ∃ q : Nat, planV x.rr x.nr S K = (q : Int) := ⟨(planV x.rr x.nr S K).toNat, by omega⟩
  have hqn : q < x.np := by omega
  have hpq : planOk (x.pF q).2.1 (x.gp q) := hok.2.2.1.2.2 q hqn
  have hbi := band_in hpq M hMi.1
  have hatP : atP x t = q := by unfold atP; rw [hS, hK, hq]; rfl
  have hatB : atBd x t = bandV (x.pF q).2.1 (x.gp q) M := by unfold atBd; rw [hatP, hM]
  obtain ⟨B, hB⟩ : ∃ B, bandV (x.pF q).2.1 (x.gp q) M = B := ⟨_, rfl⟩
  rw [hB] at hbi hatB
  have hte : tatE x t = if atB x.vf t x.nv = true then 0 else 110 := if_pos hE
  have htb : tatB x t = if tatE x t = 0 then B else 0 := by unfold tatB; rw [hatB]
  have htp : tatP x t = if tatE x t = 0 then priV x.vf x.vp t x.nv B else 0 := by unfold tatP; rw [hatB]
  have HTb := Lib.hid (fun W (h : Tb3 b0 w x W) => table_calls x.pA x.np x.cp x.pF x.gp x.rA x.nr x.rc x.rr ⟨Hs.out.1, Hs.out.2.1, Hs.out.2.2.2⟩ W h.t.2.2.1 h.t.2.2.2.1)
  have HPl := Lib.hid (fun (A' : Option Addr) (c' : Nat) (F' : Nat → SlX) (R' : Option Addr) (cr' : Nat) (W : World) (hpl : RdPl W A' x.np c' F' x.gp) (hru : IRows 3 kI W R' x.nr cr' x.rr) (hFn : ∀ i, i < x.np → (F' i).2.1 = (x.pF i).2.1) => hq ▸ rbPlan_calls A' x.np c' F' x.gp R' x.nr cr' x.rr S K ((tabOk_congr hFn).2 hok.2.2.1) hSi hKi W hpl hru)
  have HBd := Lib.hid (fun (P1 : Option Addr) (P3 : Nat) (W : World) (hR : IRows 2 kI W P1 (x.pF q).2.1 P3 (x.gp q)) => hB ▸ rbBand_calls P1 (x.pF q).2.1 P3 (x.gp q) M hpq hMi W hR)
  have HAt := Lib.hid (fun (W : World) (h : Tb3 b0 w x W) => rrAt_calls x.vA x.nv x.cv x.vf x.vF x.vp t hok.2.2.2.1.1 W h.t.2.2.2.2)
  have HQn := Lib.hid hqn
  have HBi := Lib.hid hbi
  obtain ⟨N2, hN2⟩ : ∃ N2, (x.pF q).2.1 = N2 := ⟨_, rfl⟩
  have HN2 := Lib.hid hN2
  have hq0 : (0 : Int) ≤ (q : Int) := by omega
  have hq1 : (q : Int) < (x.np : Int) := by omega
  rw [htb, htp, hte]
  unfold atB priV
  have hvn := verN_le x.vf t x.nv
  have h8 := hok.2.2.2.2.2
  obtain ⟨V, hV⟩ : ∃ V, verN x.vf t x.nv = V := ⟨_, rfl⟩
  rw [hV] at hvn ⊢
  have HV := Lib.hid hV
  clear hoff hd hSv hKv hSi hKi hMi hpi hq hqn hpq hbi hatP hatB hB htb htp hte hV hS hK hM hE hok hN2
  rcases V with _ | q'
  · rw [show (if decide (0 < 0) = true then (0 : Int) else 110) = 110 from rfl, if_neg (by omega), if_neg (by omega)]
    clear hvn h8
    go_enter Tryz.func10, Tryz.ntmps10
    go_wp2_with fail
    refine HC.out.mono ?_
    rintro e w2 ⟨rfl, hb2⟩
    have h2 := H1.out.go hb2
    have HX := Lib.hid (HTb.out w2 h2)
    have H2 := Lib.hid h2
    replace d0 := cell_of_row w2 (b0 + 1 + 1) 0 _ _ _ h2.b
    replace d1 := cell_of_row w2 (b0 + 1 + 1) 1 _ _ _ h2.b
    clear hb2 h2 d2 d3
    go_wp2_with fail
    refine HX.out.mono ?_
    rintro e w4 ⟨A', c', F', R', cr', rfl, hpl, hFn, hru, hb4⟩
    have h4 := H2.out.go hb4
    have hst5 := bstep w4 (.cells #[.slice A' x.np c', .slice R' x.nr cr'] 67)
    have hr5 := World.alloc_heap_new w4 (.cells #[.slice A' x.np c', .slice R' x.nr cr'] 67)
    obtain ⟨u0, hu0⟩ : ∃ u0, w4.heap.size = u0 := ⟨_, rfl⟩
    have hX := HPl.out A' c' F' R' cr' _ (hpl.go hst5) (hru.go hst5) hFn
    obtain ⟨ab, ao, rfl, hab, hpc⟩ := hpl.2.2.2.1.at_ HQn.out
    unfold slV at hpc
    have hPq := hpl.2.2.2.2 q HQn.out
    have hFq : (F' q).2.1 = (x.pF q).2.1 := hFn q HQn.out
    rw [hFq] at hpc hPq
    obtain ⟨P1, hP1⟩ : ∃ z, (F' q).1 = z := ⟨_, rfl⟩
    obtain ⟨P3, hP3⟩ : ∃ z, (F' q).2.2 = z := ⟨_, rfl⟩
    rw [hP1, hP3] at hpc hPq
    have H4 := Lib.hid (And.intro h4 (And.intro hpc hPq))
    rw [HN2.out] at hpc
    have HX5 := Lib.hid hX
    have HS5 := Lib.hid (And.intro hst5 hr5)
    clear HX d0 d1 h4 hX hst5 hr5 hb4 hpl hFn hru hP1 hP3 hpc hPq hab hFq
    go_wp2_with fail
    try rw [hu0]
    refine HX5.out.mono ?_
    rintro e w6 ⟨rfl, hb6⟩
    have hb46 := bnext HS5.out.1 hb6
    have hr6 := blk_below HS5.out.2 hb6
    rw [hu0] at hr6
    have g0 := cell_of_row w6 u0 0 _ _ _ hr6
    have g1 := cell_of_row w6 u0 1 _ _ _ hr6
    have cp := cell_go H4.out.2.1 hb46
    rw [HN2.out] at cp
    have hX := HBd.out P1 P3 w6 (H4.out.2.2.go hb46)
    rw [HN2.out] at hX
    have HX7 := Lib.hid hX
    have H6 := Lib.hid (H4.out.1.go hb46)
    clear hb6 hr6 hb46 hX
    go_wp2_with fail
    refine HX7.out.mono ?_
    rintro e w7 ⟨rfl, hb7⟩
    have h7 := H6.out.go hb7
    have hX := HAt.out w7 h7
    rw [HV.out] at hX
    rw [show (((0 : Nat) : Int) - 1) = -1 from rfl] at hX
    have HX8 := Lib.hid hX
    have H7 := Lib.hid h7
    clear hb7 h7 hX g0 g1 cp
    go_wp2_with fail
    refine HX8.out.mono ?_
    rintro e w8 ⟨rfl, hb8⟩
    have HB := Lib.hid (bnext H7.out.bel hb8)
    clear hb8
    go_wp2_with fail
    go_ret3
    exact ⟨rfl, by first | exact HB.out | (rw [Hb0.out]; exact HB.out) | (rw [← Hb0.out]; exact HB.out)⟩
  · rw [show (if decide (0 < q' + 1) = true then (0 : Int) else 110) = 0 from if_pos (decide_eq_true (by omega)), if_pos rfl, if_pos rfl, if_pos (by omega), show q' + 1 - 1 = q' by omega]
    have hqn' : q' < x.nv := by omega
    have hF8 := h8 q' hqn'
    have hB0 := HBi.out.1
    have hB1 : B < 8 := by have := HBi.out.2; omega
    have hv0 : (0 : Int) ≤ (q' : Int) := by omega
    have hv1 : (q' : Int) < (x.nv : Int) := by omega
    have hR1 := H1.out.t.2.2.2.2
    obtain ⟨sb, so, hva, hsb, z0, z1⟩ := hR1.at_ hqn'
    have hpr := hR1.2.2.2.2 q' hqn'
    obtain ⟨pb, po, hpe, hpl0, hpc0⟩ := prices_at (x := x.vF q') hpr (j := B.toNat) (by rw [hF8]; omega)
    unfold slV at z1
    rw [hpe, hF8] at z1
    obtain ⟨P9, hP9⟩ : ∃ z, (x.vF q').2.2 = z := ⟨_, rfl⟩
    rw [hP9] at z1
    have HvA := Lib.hid hva
    have HPr : Hid ((∀ W, Tb3 b0 w x W → W.cell? ⟨sb, so + q' * 2 + 1, none⟩ = some (.slice (some ⟨pb, po, none⟩) 8 P9)) ∧ ∀ W, Tb3 b0 w x W → W.cell? ⟨pb, po + B.toNat, none⟩ = some (.int .i64 (x.vp q' B.toNat))) := by
      have hqq := hqn'
      constructor
      · intro W h
        obtain ⟨sb2, so2, e2, _, _, y1⟩ := h.t.2.2.2.2.at_ hqq
        rw [hva] at e2
        injection e2 with e2
        injection e2 with e3 e4
        subst e3; subst e4
        unfold slV at y1
        rw [hpe, hF8, hP9] at y1
        exact y1
      · intro W h
        obtain ⟨pb2, po2, e2, _, y1⟩ := prices_at (x := x.vF q') (h.t.2.2.2.2.2.2.2.2 q' hqq) (j := B.toNat) (by rw [hF8]; omega)
        rw [hpe] at e2
        injection e2 with e2
        injection e2 with e3 e4
        subst e3; subst e4
        exact y1
    rw [hva]
    clear hvn h8 hF8 hqn' hR1 hpr hpl0 hpc0 z0 z1 hva hpe hP9 hsb
    go_enter Tryz.func10, Tryz.ntmps10
    go_wp2_with fail
    refine HC.out.mono ?_
    rintro e w2 ⟨rfl, hb2⟩
    have h2 := H1.out.go hb2
    have HX := Lib.hid (HTb.out w2 h2)
    have H2 := Lib.hid h2
    replace d0 := cell_of_row w2 (b0 + 1 + 1) 0 _ _ _ h2.b
    replace d1 := cell_of_row w2 (b0 + 1 + 1) 1 _ _ _ h2.b
    clear hb2 h2 d2 d3
    go_wp2_with fail
    refine HX.out.mono ?_
    rintro e w4 ⟨A', c', F', R', cr', rfl, hpl, hFn, hru, hb4⟩
    have h4 := H2.out.go hb4
    have hst5 := bstep w4 (.cells #[.slice A' x.np c', .slice R' x.nr cr'] 67)
    have hr5 := World.alloc_heap_new w4 (.cells #[.slice A' x.np c', .slice R' x.nr cr'] 67)
    obtain ⟨u0, hu0⟩ : ∃ u0, w4.heap.size = u0 := ⟨_, rfl⟩
    have hX := HPl.out A' c' F' R' cr' _ (hpl.go hst5) (hru.go hst5) hFn
    obtain ⟨ab, ao, rfl, hab, hpc⟩ := hpl.2.2.2.1.at_ HQn.out
    unfold slV at hpc
    have hPq := hpl.2.2.2.2 q HQn.out
    have hFq : (F' q).2.1 = (x.pF q).2.1 := hFn q HQn.out
    rw [hFq] at hpc hPq
    obtain ⟨P1, hP1⟩ : ∃ z, (F' q).1 = z := ⟨_, rfl⟩
    obtain ⟨P3, hP3⟩ : ∃ z, (F' q).2.2 = z := ⟨_, rfl⟩
    rw [hP1, hP3] at hpc hPq
    have H4 := Lib.hid (And.intro h4 (And.intro hpc hPq))
    rw [HN2.out] at hpc
    have HX5 := Lib.hid hX
    have HS5 := Lib.hid (And.intro hst5 hr5)
    clear HX d0 d1 h4 hX hst5 hr5 hb4 hpl hFn hru hP1 hP3 hpc hPq hab hFq
    go_wp2_with fail
    try rw [hu0]
    refine HX5.out.mono ?_
    rintro e w6 ⟨rfl, hb6⟩
    have hb46 := bnext HS5.out.1 hb6
    have hr6 := blk_below HS5.out.2 hb6
    rw [hu0] at hr6
    have g0 := cell_of_row w6 u0 0 _ _ _ hr6
    have g1 := cell_of_row w6 u0 1 _ _ _ hr6
    have cp := cell_go H4.out.2.1 hb46
    rw [HN2.out] at cp
    have hX := HBd.out P1 P3 w6 (H4.out.2.2.go hb46)
    rw [HN2.out] at hX
    have HX7 := Lib.hid hX
    have H6 := Lib.hid (H4.out.1.go hb46)
    clear hb6 hr6 hb46 hX
    go_wp2_with fail
    refine HX7.out.mono ?_
    rintro e w7 ⟨rfl, hb7⟩
    have h7 := H6.out.go hb7
    have hX := HAt.out w7 h7
    rw [HV.out] at hX
    rw [show (((q' + 1 : Nat) : Int) - 1) = (q' : Int) by omega] at hX
    have HX8 := Lib.hid hX
    have H7 := Lib.hid h7
    clear hb7 h7 hX g0 g1 cp
    rw [HvA.out] at HX8
    go_wp2_with fail
    refine HX8.out.mono ?_
    rintro e w8 ⟨rfl, hb8⟩
    have h8' := H7.out.go hb8
    have c1 := HPr.out.1 w8 h8'
    have c2 := HPr.out.2 w8 h8'
    have HB := Lib.hid h8'.bel
    clear hb8 h8'
    go_wp2_with fail
    try go_quiet (fail)
    try go_wp2_with fail
    go_ret3
    exact ⟨rfl, by first | exact HB.out.drewN _ | (rw [Hb0.out]; exact HB.out.drewN _) | (rw [← Hb0.out]; exact HB.out.drewN _) | exact HB.out | (rw [Hb0.out]; exact HB.out) | (rw [← Hb0.out]; exact HB.out)⟩
end Go.Proofs.YtgbkedjjgbhcmaaGreatDoor
