/-
  A day's season: days.SeasonOf, walked. Conditions stand at each theorem. (Printed by gen_season.py.)
-/
import Derived.Test.YtgbkedjjgbhcmaaGreatDoorMay
import Derived.Test.YtgbkedjjgbhcmaaGreatDoorSeasonPlain
namespace Go.Proofs.YtgbkedjjgbhcmaaGreatDoor
open Go Go.RowKit Go.Kw Go.Kw.Cv Go.Shelf
set_option linter.unusedVariables false
set_option linter.unusedSimpArgs false

theorem mxS_hit {gs : Nat → Nat → Int} {p : Int} {k : Nat} (h1 : plc gs k ≤ p) (h2 : plc gs k > (mxS gs p k).1) : mxS gs p (k + 1) = (plc gs k, gs k 0) := if_pos ⟨h1, h2⟩
theorem mxS_far {gs : Nat → Nat → Int} {p : Int} {k : Nat} (h1 : ¬ plc gs k ≤ p) : mxS gs p (k + 1) = mxS gs p k := if_neg (fun h => h1 h.1)
theorem mxS_low {gs : Nat → Nat → Int} {p : Int} {k : Nat} (h2 : ¬ plc gs k > (mxS gs p k).1) : mxS gs p (k + 1) = mxS gs p k := if_neg (fun h => h2 h.2)
theorem season_bd {gs : Nat → Nat → Int} {lb : Nat} (h : seasAll gs lb) {k : Nat} (hk : k < lb) : plc gs k ≤ 9999 := by have := sea_place (h k hk).1; omega
set_option maxRecDepth 100000 in
set_option maxHeartbeats 8000000 in
theorem season_ok (A : Option Addr) (la ca : Nat) (gh : Nat → Nat → Int) (B : Option Addr) (lb cb : Nat) (gs : Nat → Nat → Int) (n : Int) (hcal : calOk la gh lb gs) (hn : 0 ≤ n ∧ n ≤ 2932896) (w : World) (hR : RdCal w A la ca gh B lb cb gs) (hL : Lens w) :
    Calls Tryz.prog 27 #[calC A la ca B lb cb, .int .i64 n] w fun e w' => e = .returned (.tuple #[.int .i64 (seasD gs lb n), .int .i64 0]) ∧ Below w.heap.size w w' := by
  obtain ⟨b0, hb0⟩ : ∃ b0, w.heap.size = b0 := ⟨_, rfl⟩
  have Hb0 := Lib.hid hb0
  have hE := errA_ok hcal hn
  obtain ⟨hok, hday⟩ := dOf_spec n hn
  unfold seasD
  have hst := bstep w (.cells #[.slice A la ca, .slice B lb cb] 28)
  have hr0 := World.alloc_heap_new w (.cells #[.slice A la ca, .slice B lb cb] 28)
  have hM := may_calls A la ca gh B lb cb gs n _ (hR.go hst) (hL.go hst)
  rw [hb0] at hr0
  rw [mayV_ok hE, hE] at hM
  obtain ⟨T, hT⟩ : ∃ T, dOf n = T := ⟨_, rfl⟩
  rw [hT] at hM hok hday ⊢
  obtain ⟨y, m, d⟩ := T
  have hmd := dim_month hok
  have hdl := dim_lo y m hmd
  have hd31 : 1 ≤ d ∧ d ≤ 31 := by have := hok.2.2; dsimp only at this; omega
  dsimp only at hmd hok ⊢
  unfold dateV at hM
  unfold calC at hM ⊢
  have HM := Lib.hid hM
  have HP0 := place_calls m d
  rw [wrap64_in (100 * m) (by omega), wrap64_in (100 * m + d) (by omega)] at HP0
  unfold seasN
  obtain ⟨P, hP⟩ : ∃ P, 100 * m + d = P := ⟨_, rfl⟩
  rw [hP] at HP0 ⊢
  replace HP0 := Lib.hid HP0
  have hS : seasAll gs lb := hcal.2.2.2
  have HS := Lib.hid hS
  have Hlb := Lib.hid hcal.2.1
  have HX := Lib.hid (And.intro hst hr0)
  have HR := Lib.hid (And.intro hR.2 hb0)
  clear hM hT hE hst hr0 hR hL hcal hok hday hn hmd hdl hd31 hP hS
  go_enter Tryz.func27, Tryz.ntmps27
  go_wp2_with fail
  refine HM.out.mono ?_
  rintro e w3 ⟨rfl, hb3⟩
  have hr3 := blk_below HX.out.2 hb3
  have hbw := bnext HX.out.1 hb3
  have hs3 : b0 + 1 ≤ w3.heap.size := by have := (Array.getElem?_eq_some_iff.1 hr3).1; omega
  obtain ⟨s3, hs3e⟩ : ∃ s3, w3.heap.size = s3 := ⟨_, rfl⟩
  have t1 := bstep w3 (.cells #[.int .i64 y, .int .i64 m, .int .i64 d] 113)
  have rD := World.alloc_heap_new w3 (.cells #[.int .i64 y, .int .i64 m, .int .i64 d] 113)
  rw [hs3e] at rD
  have r0 := blk_below hr3 t1
  have hb4 := bnext hbw t1
  rw [Hb0.out] at hb4
  have e1 := cell_of_row _ b0 1 _ _ _ r0
  have s4 : s3 + 1 ≤ (w3.alloc (.cells #[.int .i64 y, .int .i64 m, .int .i64 d] 113)).heap.size := by simp [hs3e]
  rw [hs3e] at hs3
  have Hs3 := Lib.hid hs3
  clear hb3 hr3 hbw t1 hs3
  go_wp2_with fail
  clear e1
  go_loopw [8, 9, 10, 11, 27] (fun va vl vn vt vi wr => ∃ (k : Nat) (p q : Int × Int), k ≤ lb ∧ vi = .int .i64 k ∧ mxS gs P k = p ∧ mxS gs 9999 k = q ∧ va = .int .i64 p.1 ∧ vl = .int .i64 q.1 ∧ vn = .int .i64 p.2 ∧ vt = .int .i64 q.2 ∧ wr.heap[s3]? = some (.cells #[.int .i64 y, .int .i64 m, .int .i64 d] 113 (0, 0)) ∧ Below b0 w wr ∧ s3 + 1 ≤ wr.heap.size) (fun _ _ _ _ vi _ => lb - (intOf vi).toNat)
  case atStart => exact ⟨0, _, _, by omega, rfl, rfl, rfl, rfl, rfl, rfl, rfl, rD, hb4, s4⟩
  case round =>
    clear rD r0 hb4 s4
    obtain ⟨k, ⟨p1, p2⟩, ⟨q1, q2⟩, hk, rfl, hp, hq, rfl, rfl, rfl, rfl, rD, hBk, hsk⟩ := hrel
    by_cases hlt : k < lb
    · have hI : (k : Int) < lb := by omega
      obtain ⟨sb, off, rfl, hsb, hc⟩ := HR.out.1.at_ (by omega) hlt
      have hsb0 : sb < b0 := by have := HR.out.2; omega
      have hc' : ∀ j, j < 3 → wr.cell? ⟨sb, off + k * 3 + j, none⟩ = some (.int .i64 (gs k j)) := fun j hj => (hBk.cell (p := ⟨sb, off + k * 3 + j, none⟩) hsb0).trans (hc j hj)
      have c0 : wr.cell? ⟨sb, off + k * 3, none⟩ = some (.int .i64 (gs k 0)) := hc' 0 (by omega)
      have c1 := hc' 1 (by omega)
      have c2 := hc' 2 (by omega)
      have HP := place_calls (gs k 1) (gs k 2)
      rw [place_in (HS.out k hlt).1.2.2] at HP
      change ∀ w, Calls _ _ _ w fun e w' => e = .returned (.int .i64 (plc gs k)) ∧ w' = w at HP
      have h9 := season_bd HS.out hlt
      obtain ⟨Q, hQ⟩ : ∃ Q, plc gs k = Q := ⟨_, rfl⟩
      rw [hQ] at HP h9
      replace HP := Lib.hid HP
      obtain ⟨wa, hwa⟩ : ∃ wa, wr.alloc (.cells #[.int .i64 (gs k 0), .int .i64 (gs k 1), .int .i64 (gs k 2)] 97) = wa := ⟨_, rfl⟩
      have hst : Below wr.heap.size wr wa := hwa ▸ bstep wr _
      have hrS : wa.heap[wr.heap.size]? = some (.cells #[.int .i64 (gs k 0), .int .i64 (gs k 1), .int .i64 (gs k 2)] 97 (0, 0)) := hwa ▸ World.alloc_heap_new wr _
      obtain ⟨sx, hsx⟩ : ∃ sx, wr.heap.size = sx := ⟨_, rfl⟩
      rw [hsx] at hrS
      have a0 := cell_of_row _ sx 0 _ _ _ hrS
      have a1 := cell_of_row _ sx 1 _ _ _ hrS
      have a2 := cell_of_row _ sx 2 _ _ _ hrS
      have rDa := blk_below rD hst
      have g1 := cell_of_row _ s3 1 _ _ _ rDa
      have g2 := cell_of_row _ s3 2 _ _ _ rDa
      have hBa : Below b0 w wa := hBk.trans (hst.mono (by have := Hs3.out; omega))
      have hsa := Nat.le_trans hsk hst.size
      have w1 : IntKind.i64.wrap ((k : Int) + 1) = (k : Int) + 1 := i64_same _ (by have := Hlb.out; omega)
      have X1 := Lib.hid (wrap64_in ((k : Int) + 1) (by have := Hlb.out; omega))
      have Hk := Lib.hid (show k + 1 ≤ lb from hlt)
      have Hsh := Lib.hid (And.intro rDa (And.intro hBa hsa))
      have hs1 : (mxS gs P k).1 = p1 := by rw [hp]
      have hs2 : (mxS gs 9999 k).1 = q1 := by rw [hq]
      clear hc hc' rD hBk hsk hst hrS rDa hBa hsa hk hlt
      by_cases h1 : Q ≤ P
      · have bh1 : decide (Q ≤ P) = true := decide_eq_true h1
        by_cases h2 : Q > p1
        · have bh2 : decide (Q > p1) = true := decide_eq_true h2
          by_cases h3 : Q > q1
          · have bh3 : decide (Q > q1) = true := decide_eq_true h3
            have hP1 : mxS gs P (k + 1) = _ := mxS_hit (show plc gs k ≤ P by rw [hQ]; exact h1) (by rw [hQ, hs1]; exact h2)
            have hQ1 : mxS gs 9999 (k + 1) = _ := mxS_hit (show plc gs k ≤ 9999 by rw [hQ]; exact h9) (by rw [hQ, hs2]; exact h3)
            rw [hQ] at hP1
            rw [hQ] at hQ1
            have HN := Lib.hid (And.intro hP1 hQ1)
            clear hP1 hQ1 hp hq hQ h9 hs1 hs2 h1 h2 h3
            have x1 := X1.out
            go_wp2_with fail
            refine (HP.out _).mono ?_
            rintro e w5 ⟨rfl, rfl⟩
            go_wp2_with fail
            refine (HP0.out _).mono ?_
            rintro e w6 ⟨rfl, rfl⟩
            go_wp2_with fail
            go_quiet (fail)
            go_wp2_with fail
            go_quiet (fail)
            go_wp2_with fail
            clear x1
            refine ⟨⟨k + 1, _, _, Hk.out, by push_cast; rfl, HN.out.1, HN.out.2, rfl, rfl, rfl, rfl, ?_, ?_, ?_⟩, meas_step lb k Hk.out⟩
            · exact Hsh.out.1
            · first | exact (Hsh.out.2.1.drewN _).drewN _ | exact Hsh.out.2.1.drewN _ | exact Hsh.out.2.1
            · exact Hsh.out.2.2
          · have bh3 : decide (Q > q1) = false := decide_eq_false h3
            have hP1 : mxS gs P (k + 1) = _ := mxS_hit (show plc gs k ≤ P by rw [hQ]; exact h1) (by rw [hQ, hs1]; exact h2)
            have hQ1 : mxS gs 9999 (k + 1) = _ := mxS_low (by rw [hQ, hs2]; exact h3)
            rw [hQ] at hP1
            rw [hq] at hQ1
            have HN := Lib.hid (And.intro hP1 hQ1)
            clear hP1 hQ1 hp hq hQ h9 hs1 hs2 h1 h2 h3
            have x1 := X1.out
            go_wp2_with fail
            refine (HP.out _).mono ?_
            rintro e w5 ⟨rfl, rfl⟩
            go_wp2_with fail
            refine (HP0.out _).mono ?_
            rintro e w6 ⟨rfl, rfl⟩
            go_wp2_with fail
            go_quiet (fail)
            go_wp2_with fail
            clear x1
            refine ⟨⟨k + 1, _, _, Hk.out, by push_cast; rfl, HN.out.1, HN.out.2, rfl, rfl, rfl, rfl, ?_, ?_, ?_⟩, meas_step lb k Hk.out⟩
            · exact Hsh.out.1
            · first | exact Hsh.out.2.1.drewN _ | exact Hsh.out.2.1.drewN _ | exact Hsh.out.2.1
            · exact Hsh.out.2.2
        · have bh2 : decide (Q > p1) = false := decide_eq_false h2
          by_cases h3 : Q > q1
          · have bh3 : decide (Q > q1) = true := decide_eq_true h3
            have hP1 : mxS gs P (k + 1) = _ := mxS_low (by rw [hQ, hs1]; exact h2)
            have hQ1 : mxS gs 9999 (k + 1) = _ := mxS_hit (show plc gs k ≤ 9999 by rw [hQ]; exact h9) (by rw [hQ, hs2]; exact h3)
            rw [hp] at hP1
            rw [hQ] at hQ1
            have HN := Lib.hid (And.intro hP1 hQ1)
            clear hP1 hQ1 hp hq hQ h9 hs1 hs2 h1 h2 h3
            have x1 := X1.out
            go_wp2_with fail
            refine (HP.out _).mono ?_
            rintro e w5 ⟨rfl, rfl⟩
            go_wp2_with fail
            refine (HP0.out _).mono ?_
            rintro e w6 ⟨rfl, rfl⟩
            go_wp2_with fail
            go_quiet (fail)
            go_wp2_with fail
            clear x1
            refine ⟨⟨k + 1, _, _, Hk.out, by push_cast; rfl, HN.out.1, HN.out.2, rfl, rfl, rfl, rfl, ?_, ?_, ?_⟩, meas_step lb k Hk.out⟩
            · exact Hsh.out.1
            · first | exact Hsh.out.2.1.drewN _ | exact Hsh.out.2.1.drewN _ | exact Hsh.out.2.1
            · exact Hsh.out.2.2
          · have bh3 : decide (Q > q1) = false := decide_eq_false h3
            have hP1 : mxS gs P (k + 1) = _ := mxS_low (by rw [hQ, hs1]; exact h2)
            have hQ1 : mxS gs 9999 (k + 1) = _ := mxS_low (by rw [hQ, hs2]; exact h3)
            rw [hp] at hP1
            rw [hq] at hQ1
            have HN := Lib.hid (And.intro hP1 hQ1)
            clear hP1 hQ1 hp hq hQ h9 hs1 hs2 h1 h2 h3
            have x1 := X1.out
            go_wp2_with fail
            refine (HP.out _).mono ?_
            rintro e w5 ⟨rfl, rfl⟩
            go_wp2_with fail
            refine (HP0.out _).mono ?_
            rintro e w6 ⟨rfl, rfl⟩
            go_wp2_with fail
            clear x1
            refine ⟨⟨k + 1, _, _, Hk.out, by push_cast; rfl, HN.out.1, HN.out.2, rfl, rfl, rfl, rfl, ?_, ?_, ?_⟩, meas_step lb k Hk.out⟩
            · exact Hsh.out.1
            · first | exact Hsh.out.2.1 | exact Hsh.out.2.1.drewN _ | exact Hsh.out.2.1
            · exact Hsh.out.2.2
      · have bh1 : decide (Q ≤ P) = false := decide_eq_false h1
        by_cases h3 : Q > q1
        · have bh3 : decide (Q > q1) = true := decide_eq_true h3
          have hP1 : mxS gs P (k + 1) = _ := mxS_far (by rw [hQ]; exact h1)
          have hQ1 : mxS gs 9999 (k + 1) = _ := mxS_hit (show plc gs k ≤ 9999 by rw [hQ]; exact h9) (by rw [hQ, hs2]; exact h3)
          rw [hp] at hP1
          rw [hQ] at hQ1
          have HN := Lib.hid (And.intro hP1 hQ1)
          clear hP1 hQ1 hp hq hQ h9 hs1 hs2 h1 h3
          have x1 := X1.out
          go_wp2_with fail
          refine (HP.out _).mono ?_
          rintro e w5 ⟨rfl, rfl⟩
          go_wp2_with fail
          refine (HP0.out _).mono ?_
          rintro e w6 ⟨rfl, rfl⟩
          go_wp2_with fail
          go_quiet (fail)
          go_wp2_with fail
          clear x1
          refine ⟨⟨k + 1, _, _, Hk.out, by push_cast; rfl, HN.out.1, HN.out.2, rfl, rfl, rfl, rfl, ?_, ?_, ?_⟩, meas_step lb k Hk.out⟩
          · exact Hsh.out.1
          · first | exact Hsh.out.2.1.drewN _ | exact Hsh.out.2.1.drewN _ | exact Hsh.out.2.1
          · exact Hsh.out.2.2
        · have bh3 : decide (Q > q1) = false := decide_eq_false h3
          have hP1 : mxS gs P (k + 1) = _ := mxS_far (by rw [hQ]; exact h1)
          have hQ1 : mxS gs 9999 (k + 1) = _ := mxS_low (by rw [hQ, hs2]; exact h3)
          rw [hp] at hP1
          rw [hq] at hQ1
          have HN := Lib.hid (And.intro hP1 hQ1)
          clear hP1 hQ1 hp hq hQ h9 hs1 hs2 h1 h3
          have x1 := X1.out
          go_wp2_with fail
          refine (HP.out _).mono ?_
          rintro e w5 ⟨rfl, rfl⟩
          go_wp2_with fail
          refine (HP0.out _).mono ?_
          rintro e w6 ⟨rfl, rfl⟩
          go_wp2_with fail
          clear x1
          refine ⟨⟨k + 1, _, _, Hk.out, by push_cast; rfl, HN.out.1, HN.out.2, rfl, rfl, rfl, rfl, ?_, ?_, ?_⟩, meas_step lb k Hk.out⟩
          · exact Hsh.out.1
          · first | exact Hsh.out.2.1 | exact Hsh.out.2.1.drewN _ | exact Hsh.out.2.1
          · exact Hsh.out.2.2
    · obtain rfl : k = lb := by omega
      have hI : ¬ ((k : Int) < k) := by omega
      have HPQ := Lib.hid (And.intro hp hq)
      have HB := Lib.hid hBk
      clear hp hq hk hlt hsk rD hBk
      by_cases hneg : p1 < 0
      · have kn : decide (p1 < 0) = true := decide_eq_true hneg
        have HV := Lib.hid (show seasB (p1, p2) (q1, q2) = q2 from if_pos hneg)
        clear hneg
        go_wp2_with fail
        go_ret2
        exact ⟨by rw [HPQ.out.1, HPQ.out.2, HV.out]; rfl, by first | exact HB.out | (rw [Hb0.out]; exact HB.out)⟩
      · have kn : decide (p1 < 0) = false := decide_eq_false hneg
        have HV := Lib.hid (show seasB (p1, p2) (q1, q2) = p2 from if_neg hneg)
        clear hneg
        go_wp2_with fail
        go_ret2
        exact ⟨by rw [HPQ.out.1, HPQ.out.2, HV.out]; rfl, by first | exact HB.out | (rw [Hb0.out]; exact HB.out)⟩
set_option maxRecDepth 100000 in
set_option maxHeartbeats 8000000 in
theorem season_no (A : Option Addr) (la ca : Nat) (gh : Nat → Nat → Int) (B : Option Addr) (lb cb : Nat) (gs : Nat → Nat → Int) (n : Int) (hE : errA la gh lb gs n ≠ 0) (w : World) (hR : RdCal w A la ca gh B lb cb gs) (hL : Lens w) :
    Calls Tryz.prog 27 #[calC A la ca B lb cb, .int .i64 n] w fun e w' => e = .returned (.tuple #[.int .i64 0, .int .i64 (errA la gh lb gs n)]) ∧ Below w.heap.size w w' := by
  have hst := bstep w (.cells #[.slice A la ca, .slice B lb cb] 28)
  have hM := may_calls A la ca gh B lb cb gs n _ (hR.go hst) (hL.go hst)
  rw [mayV_no hE] at hM
  obtain ⟨E, hEe⟩ : ∃ E, errA la gh lb gs n = E := ⟨_, rfl⟩
  rw [hEe] at hM hE ⊢
  have k0 : (E == 0) = false := beq_eq_false_iff_ne.2 hE
  have k1 : (E != 0) = true := bne_iff_ne.2 hE
  unfold dateV at hM
  unfold calC at hM ⊢
  have HM := Lib.hid hM
  clear hR hL hE hEe hM
  go_enter Tryz.func27, Tryz.ntmps27
  go_wp2_with fail
  refine HM.out.mono ?_
  rintro e w2 ⟨rfl, hb2⟩
  have hbb := bnext (bnext hst hb2) (bstep w2 (.cells #[.int .i64 0, .int .i64 0, .int .i64 0] 113))
  clear hb2
  go_wp2_with fail
  go_ret2
  exact ⟨rfl, hbb⟩
end Go.Proofs.YtgbkedjjgbhcmaaGreatDoor
