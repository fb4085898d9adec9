/-
  MeterPlays, walked. Conditions stand at each theorem. (Printed by gen_mtplays.py.)
-/
import Derived.Test.YtjmkbpgakfeceaaPlM2
namespace Go.Proofs.Ytjmkbpgakfeceaa
open Go Go.RowKit Go.Kw Go.Kw.Mt Go.Kw.Nm
set_option linter.unusedVariables false
set_option linter.unusedSimpArgs false

set_option maxRecDepth 100000 in
set_option maxHeartbeats 64000000 in
theorem meterPlays_walk (nr : Int) (v1 : Value) (x1 : SetX) (v2 : Value) (x2 : Option Addr × Nat × Nat × (Nat → OpM)) (w : World) (w0 : (Lit.int .i64 nr).wf = true) (w1 : v1 = x1.v ∧ x1.Ok) (w2 : v2 = .slice x2.1 x2.2.1 x2.2.2.1 ∧ RdOpM w x2.1 x2.2.1 x2.2.2.2) :
    Calls Try.prog 7 #[.int .i64 nr, v1, v2] w fun e w' => e = .returned (.bool true) ∧ Below w.heap.size w w' := by
  obtain ⟨num, den, bound, gap, len⟩ := x1
  obtain ⟨A, n, c, g⟩ := x2
  obtain ⟨rfl, hx⟩ := w1
  obtain ⟨rfl, hl⟩ := w2
  obtain ⟨b4, hb4⟩ : ∃ b4, w.heap.size = b4 := ⟨_, rfl⟩
  obtain ⟨wa, hwa⟩ : ∃ x, w.alloc (.cells #[.int .u64 (num : Int), .int .u64 (den : Int), .int .u32 (bound : Int), .int .i64 gap, .int .i64 len] 25) = x := ⟨_, rfl⟩
  have hst : Below w.heap.size w wa := hwa ▸ bstep w _
  have hr : wa.heap[b4]? = some (.cells #[.int .u64 (num : Int), .int .u64 (den : Int), .int .u32 (bound : Int), .int .i64 gap, .int .i64 len] 25 (0, 0)) := by rw [← hb4, ← hwa]; exact blk_new w _ _
  have H1 := Lib.hid (And.intro hst hr)
  have HL := Lib.hid hl
  have Hb4 := Lib.hid hb4
  have HX := Lib.hid hx
  have HQ := Lib.hid (show ∀ Y, Below w.heap.size w Y → Y.heap[b4]? = some (.cells #[.int .u64 (num : Int), .int .u64 (den : Int), .int .u32 (bound : Int), .int .i64 gap, .int .i64 len] 25 (0, 0)) → (Y.cell? ⟨b4, 0, none⟩ = some (.int .u64 (num : Int)) ∧ Y.cell? ⟨b4, 1, none⟩ = some (.int .u64 (den : Int)) ∧ Y.cell? ⟨b4, 2, none⟩ = some (.int .u32 (bound : Int)) ∧ Y.cell? ⟨b4, 3, none⟩ = some (.int .i64 gap) ∧ Y.cell? ⟨b4, 4, none⟩ = some (.int .i64 len)) from fun Y _ h => ⟨blk_cell h 0 rfl, blk_cell h 1 rfl, blk_cell h 2 rfl, blk_cell h 3 rfl, blk_cell h 4 rfl⟩)
  show Calls Try.prog 7 #[.int .i64 nr, .agg #[.int .u64 (num : Int), .int .u64 (den : Int), .int .u32 (bound : Int), .int .i64 gap, .int .i64 len], .slice A n c] w _
  clear hx hl w0 hst hr
  by_cases hn : (n : Int) > 100
  · have k0 : decide ((n : Int) > 100) = true := decide_eq_true hn
    clear hn
    go_enter Try.func7, Try.ntmps7
    go_wp2_with fail
    go_ret
    exact ⟨rfl, by first | exact H1.out.1 | exact Hb4.out ▸ H1.out.1⟩
  have k0 : decide ((n : Int) > 100) = false := decide_eq_false hn
  have Hn := Lib.hid (show n ≤ 100 by omega)
  clear hn
  have HK := Lib.hid (fun W => check_calls (num : Int) (den : Int) (bound : Int) gap len W)
  have HMy := Lib.hid (fun W => may_calls (num : Int) (den : Int) (bound : Int) gap len W)
  by_cases hmay : mayP (num : Int) (den : Int) gap len
  rotate_left
  · have Hm := Lib.hid hmay
    by_cases hnr : nr < 0 ∨ nr > 63
    · have Hnr := Lib.hid hnr
      clear hmay hnr
      have HN1 := Lib.hid (fun W => mnew_arg W nr (num : Int) (den : Int) (bound : Int) gap len Hnr.out)
      have HN2 := Lib.hid (fun W => rnew_arg W nr (num : Int) (den : Int) (bound : Int) gap len Hnr.out)
      have HK2 := Lib.hid (show ∀ W, Calls Try.prog 21 #[.agg #[.int .u64 (num : Int), .int .u64 (den : Int), .int .u32 (bound : Int), .int .i64 gap, .int .i64 len]] W fun e w' => e = .returned (.int .i64 240) ∧ Below W.heap.size W w' from fun W => by have h := HK.out W; rw [if_neg Hm.out] at h; exact h)
      have HM2 := Lib.hid (show ∀ W, Calls Try.prog 22 #[.agg #[.int .u64 (num : Int), .int .u64 (den : Int), .int .u32 (bound : Int), .int .i64 gap, .int .i64 len]] W fun e w' => e = .returned (.bool false) ∧ Below W.heap.size W w' from fun W => by have h := HMy.out W; rw [decide_eq_false Hm.out] at h; exact h)
      unfold setV at HN1 HN2
      obtain ⟨q0, q1, q2, q3, q4⟩ := HQ.out _ H1.out.1 H1.out.2
      go_enter Try.func7, Try.ntmps7
      go_wp2_with fail
      clear hwa hb4 q0 q1 q2 q3 q4
      refine (HN1.out wa).mono ?_
      rintro e y1 ⟨rfl, hb⟩
      have Y1 := Lib.hid (And.intro (bnext H1.out.1 hb) (blk_below H1.out.2 hb))
      clear hb
      obtain ⟨q0, q1, q2, q3, q4⟩ := HQ.out _ Y1.out.1 Y1.out.2
      go_wp2_with fail
      clear q0 q1 q2 q3 q4
      refine (HN2.out y1).mono ?_
      rintro e y2 ⟨rfl, hb⟩
      have Y2 := Lib.hid (And.intro (bnext Y1.out.1 hb) (blk_below Y1.out.2 hb))
      clear hb
      obtain ⟨q0, q1, q2, q3, q4⟩ := HQ.out _ Y2.out.1 Y2.out.2
      go_wp2_with fail
      clear q0 q1 q2 q3 q4
      refine (HK2.out y2).mono ?_
      rintro e y3 ⟨rfl, hb⟩
      have Y3 := Lib.hid (And.intro (bnext Y2.out.1 hb) (blk_below Y2.out.2 hb))
      clear hb
      obtain ⟨q0, q1, q2, q3, q4⟩ := HQ.out _ Y3.out.1 Y3.out.2
      go_wp2_with fail
      clear q0 q1 q2 q3 q4
      refine (HM2.out y3).mono ?_
      rintro e y4 ⟨rfl, hb⟩
      have Y4 := Lib.hid (bnext Y3.out.1 hb)
      clear hb
      go_wp2_with fail
      go_ret
      exact ⟨rfl, Y4.out⟩
    · have Hnr := Lib.hid (show 0 ≤ nr ∧ nr ≤ 63 by omega)
      clear hmay hnr
      have HN1 := Lib.hid (fun W => mnew_set W nr (num : Int) (den : Int) (bound : Int) gap len Hnr.out Hm.out)
      have HN2 := Lib.hid (fun W => rnew_set W nr (num : Int) (den : Int) (bound : Int) gap len Hnr.out Hm.out)
      have HK2 := Lib.hid (show ∀ W, Calls Try.prog 21 #[.agg #[.int .u64 (num : Int), .int .u64 (den : Int), .int .u32 (bound : Int), .int .i64 gap, .int .i64 len]] W fun e w' => e = .returned (.int .i64 240) ∧ Below W.heap.size W w' from fun W => by have h := HK.out W; rw [if_neg Hm.out] at h; exact h)
      have HM2 := Lib.hid (show ∀ W, Calls Try.prog 22 #[.agg #[.int .u64 (num : Int), .int .u64 (den : Int), .int .u32 (bound : Int), .int .i64 gap, .int .i64 len]] W fun e w' => e = .returned (.bool false) ∧ Below W.heap.size W w' from fun W => by have h := HMy.out W; rw [decide_eq_false Hm.out] at h; exact h)
      unfold setV at HN1 HN2
      obtain ⟨q0, q1, q2, q3, q4⟩ := HQ.out _ H1.out.1 H1.out.2
      go_enter Try.func7, Try.ntmps7
      go_wp2_with fail
      clear hwa hb4 q0 q1 q2 q3 q4
      refine (HN1.out wa).mono ?_
      rintro e y1 ⟨rfl, hb⟩
      have Y1 := Lib.hid (And.intro (bnext H1.out.1 hb) (blk_below H1.out.2 hb))
      clear hb
      obtain ⟨q0, q1, q2, q3, q4⟩ := HQ.out _ Y1.out.1 Y1.out.2
      go_wp2_with fail
      clear q0 q1 q2 q3 q4
      refine (HN2.out y1).mono ?_
      rintro e y2 ⟨rfl, hb⟩
      have Y2 := Lib.hid (And.intro (bnext Y1.out.1 hb) (blk_below Y1.out.2 hb))
      clear hb
      obtain ⟨q0, q1, q2, q3, q4⟩ := HQ.out _ Y2.out.1 Y2.out.2
      go_wp2_with fail
      clear q0 q1 q2 q3 q4
      refine (HK2.out y2).mono ?_
      rintro e y3 ⟨rfl, hb⟩
      have Y3 := Lib.hid (And.intro (bnext Y2.out.1 hb) (blk_below Y2.out.2 hb))
      clear hb
      obtain ⟨q0, q1, q2, q3, q4⟩ := HQ.out _ Y3.out.1 Y3.out.2
      go_wp2_with fail
      clear q0 q1 q2 q3 q4
      refine (HM2.out y3).mono ?_
      rintro e y4 ⟨rfl, hb⟩
      have Y4 := Lib.hid (bnext Y3.out.1 hb)
      clear hb
      go_wp2_with fail
      go_ret
      exact ⟨rfl, Y4.out⟩
  have Hm := Lib.hid hmay
  by_cases hnr : nr < 0 ∨ nr > 63
  · have Hnr := Lib.hid hnr
    clear hmay hnr
    have HN1 := Lib.hid (fun W => mnew_arg W nr (num : Int) (den : Int) (bound : Int) gap len Hnr.out)
    have HN2 := Lib.hid (fun W => rnew_arg W nr (num : Int) (den : Int) (bound : Int) gap len Hnr.out)
    have HK2 := Lib.hid (show ∀ W, Calls Try.prog 21 #[.agg #[.int .u64 (num : Int), .int .u64 (den : Int), .int .u32 (bound : Int), .int .i64 gap, .int .i64 len]] W fun e w' => e = .returned (.int .i64 0) ∧ Below W.heap.size W w' from fun W => by have h := HK.out W; rw [if_pos Hm.out] at h; exact h)
    have HM2 := Lib.hid (show ∀ W, Calls Try.prog 22 #[.agg #[.int .u64 (num : Int), .int .u64 (den : Int), .int .u32 (bound : Int), .int .i64 gap, .int .i64 len]] W fun e w' => e = .returned (.bool true) ∧ Below W.heap.size W w' from fun W => by have h := HMy.out W; rw [decide_eq_true Hm.out] at h; exact h)
    unfold setV at HN1 HN2
    obtain ⟨q0, q1, q2, q3, q4⟩ := HQ.out _ H1.out.1 H1.out.2
    go_enter Try.func7, Try.ntmps7
    go_wp2_with fail
    clear hwa hb4 q0 q1 q2 q3 q4
    refine (HN1.out wa).mono ?_
    rintro e y1 ⟨rfl, hb⟩
    have Y1 := Lib.hid (And.intro (bnext H1.out.1 hb) (blk_below H1.out.2 hb))
    clear hb
    obtain ⟨q0, q1, q2, q3, q4⟩ := HQ.out _ Y1.out.1 Y1.out.2
    go_wp2_with fail
    clear q0 q1 q2 q3 q4
    refine (HN2.out y1).mono ?_
    rintro e y2 ⟨rfl, hb⟩
    have Y2 := Lib.hid (And.intro (bnext Y1.out.1 hb) (blk_below Y1.out.2 hb))
    clear hb
    obtain ⟨q0, q1, q2, q3, q4⟩ := HQ.out _ Y2.out.1 Y2.out.2
    go_wp2_with fail
    clear q0 q1 q2 q3 q4
    refine (HK2.out y2).mono ?_
    rintro e y3 ⟨rfl, hb⟩
    have Y3 := Lib.hid (And.intro (bnext Y2.out.1 hb) (blk_below Y2.out.2 hb))
    clear hb
    obtain ⟨q0, q1, q2, q3, q4⟩ := HQ.out _ Y3.out.1 Y3.out.2
    go_wp2_with fail
    clear q0 q1 q2 q3 q4
    refine (HM2.out y3).mono ?_
    rintro e y4 ⟨rfl, hb⟩
    have Y4 := Lib.hid (bnext Y3.out.1 hb)
    clear hb
    go_wp2_with fail
    go_ret
    exact ⟨rfl, Y4.out⟩
  have hnr2 : 0 ≤ nr ∧ nr ≤ 63 := by omega
  obtain ⟨s, hs⟩ : ∃ s : Stp, (⟨num, den, bound, gap, len⟩ : Stp) = s := ⟨_, rfl⟩
  have hms : MayS s := by rw [← hs]; exact ⟨hmay, HX.out.bound, HX.out.gap.2⟩
  have hN1 : ∀ W, Calls Try.prog 13 #[.int .i64 nr, .agg #[.int .u64 (num : Int), .int .u64 (den : Int), .int .u32 (bound : Int), .int .i64 gap, .int .i64 len]] W fun e w' => ∃ b, e = .returned (.tuple #[.pointer (some ⟨b, 0, none⟩), .int .i64 0]) ∧ W.heap.size ≤ b ∧ MtB w' b nr s zeroM ∧ Below W.heap.size W w' := fun W => by
    have h := mnew_calls W nr s hms hnr2
    rw [← hs] at h ⊢
    exact h
  have hN2 : ∀ W, Calls Try.prog 20 #[.int .i64 nr, .agg #[.int .u64 (num : Int), .int .u64 (den : Int), .int .u32 (bound : Int), .int .i64 gap, .int .i64 len]] W fun e w' => ∃ r, e = .returned (.tuple #[.pointer (some ⟨r, 0, none⟩), .int .i64 0]) ∧ W.heap.size ≤ r ∧ RtB w' r nr s zeroM ∧ Below W.heap.size W w' := fun W => by
    have h := rnew_calls W nr s hms hnr2
    rw [← hs] at h ⊢
    exact h
  have HN1 := Lib.hid hN1
  have HN2 := Lib.hid hN2
  have HS := Lib.hid hms
  have HK2 := Lib.hid (show ∀ W, Calls Try.prog 21 #[.agg #[.int .u64 (num : Int), .int .u64 (den : Int), .int .u32 (bound : Int), .int .i64 gap, .int .i64 len]] W fun e w' => e = .returned (.int .i64 0) ∧ Below W.heap.size W w' from fun W => by have h := HK.out W; rw [if_pos Hm.out] at h; exact h)
  have HM2 := Lib.hid (show ∀ W, Calls Try.prog 22 #[.agg #[.int .u64 (num : Int), .int .u64 (den : Int), .int .u32 (bound : Int), .int .i64 gap, .int .i64 len]] W fun e w' => e = .returned (.bool true) ∧ Below W.heap.size W w' from fun W => by have h := HMy.out W; rw [decide_eq_true Hm.out] at h; exact h)
  clear hmay hnr hnr2 hs hms hN1 hN2
  obtain ⟨q0, q1, q2, q3, q4⟩ := HQ.out _ H1.out.1 H1.out.2
  go_enter Try.func7, Try.ntmps7
  go_wp2_with fail
  clear hwa hb4 q0 q1 q2 q3 q4
  refine (HN1.out wa).mono ?_
  rintro e y1 ⟨b, rfl, hbb, hm, hb⟩
  have Y1 := Lib.hid (And.intro (bnext H1.out.1 hb) (And.intro (blk_below H1.out.2 hb) (And.intro hm (show w.heap.size ≤ b ∧ b < y1.heap.size from ⟨Nat.le_trans H1.out.1.size hbb, hm.lt⟩))))
  clear hb hbb hm
  obtain ⟨q0, q1, q2, q3, q4⟩ := HQ.out _ Y1.out.1 Y1.out.2.1
  go_wp2_with fail
  clear q0 q1 q2 q3 q4
  refine (HN2.out y1).mono ?_
  rintro e y2 ⟨r, rfl, hrr, hm, hb⟩
  have Y2 := Lib.hid (And.intro (bnext Y1.out.1 hb) (And.intro (blk_below Y1.out.2.1 hb) (And.intro (Y1.out.2.2.1.go hb) (And.intro hm (show b ≠ r ∧ w.heap.size ≤ b ∧ w.heap.size ≤ r by have := Y1.out.2.2.2; omega)))))
  clear hb hrr hm
  obtain ⟨q0, q1, q2, q3, q4⟩ := HQ.out _ Y2.out.1 Y2.out.2.1
  go_wp2_with fail
  clear q0 q1 q2 q3 q4
  refine (HK2.out y2).mono ?_
  rintro e y3 ⟨rfl, hb⟩
  have Y3 := Lib.hid (And.intro (bnext Y2.out.1 hb) (And.intro (blk_below Y2.out.2.1 hb) (And.intro (Y2.out.2.2.1.go hb) (Y2.out.2.2.2.1.go hb))))
  clear hb
  obtain ⟨q0, q1, q2, q3, q4⟩ := HQ.out _ Y3.out.1 Y3.out.2.1
  go_wp2_with fail
  clear q0 q1 q2 q3 q4
  refine (HM2.out y3).mono ?_
  rintro e y4 ⟨rfl, hb⟩
  have Y4 := Lib.hid (And.intro (bnext Y3.out.1 hb) (And.intro (Y3.out.2.2.1.go hb) (Y3.out.2.2.2.go hb)))
  clear hb
  go_wp2_with fail
  have HBel := Lib.hid (show ∀ Y, Kept (fun x => x ≠ b ∧ x ≠ r) y4 Y → Below w.heap.size w Y from fun Y hY => ⟨hY.os.trans Y4.out.1.os, hY.tape.trans Y4.out.1.tape, hY.output.trans Y4.out.1.output, Nat.le_trans Y4.out.1.size hY.size, fun k hk => (hY.block k (by have := Y4.out.1.size; omega) (by have := Y2.out.2.2.2.2; exact ⟨by omega, by omega⟩)).trans (Y4.out.1.block k hk)⟩)
  go_loopw [48] (fun iv wr => ∃ (i : Nat) (m : M), i ≤ n ∧ iv = .int .i64 i ∧ Ok s m i ∧ MtB wr b nr s m ∧ RtB wr r nr s m ∧ Kept (fun x => x ≠ b ∧ x ≠ r) y4 wr) (fun iv _ => n - (intOf iv).toNat)
  case atStart => exact ⟨0, zeroM, by omega, rfl, zero_ok HS.out.ok, Y4.out.2.1, Y4.out.2.2, Kept.refl _ _⟩
  case round =>
    obtain ⟨i, m, hi, rfl, hE, hm, hrt, hk⟩ := hrel
    obtain ⟨wo, rfl⟩ : ∃ wo : World, wo = wr := ⟨_, rfl⟩
    by_cases hlt : i < n
    · have hI : (i : Int) < (n : Int) := by omega
      have hi0 : (0 : Int) ≤ (i : Int) := by omega
      have HM := Lib.hid (And.intro hE (And.intro hm (And.intro hrt (And.intro hk (And.intro hlt (show i ≤ 99 by have := Hn.out; omega))))))
      have HCp := Lib.hid (mcopy_calls wo b nr s m HS.out hm)
      have X8 := Lib.hid (wrap64_at ((i : Int) + 1) (by have := Hn.out; omega))
      clear hE hm hrt hk hlt hi
      go_wp2_with fail
      refine HCp.out.mono ?_
      rintro e w6 ⟨bc, rfl, hbc, hmc, hb6⟩
      obtain ⟨bw, hbw⟩ : ∃ bw, w6.heap.size = bw := ⟨_, rfl⟩
      obtain ⟨w7, hw7⟩ : ∃ x, w6.alloc (.cells (rtC nr s m) 65) = x := ⟨_, rfl⟩
      have hst7 : Below w6.heap.size w6 w7 := hw7 ▸ bstep w6 _
      have hrw : RtB w7 bw nr s m := by rw [← hbw, ← hw7]; exact blk_new w6 _ _
      obtain ⟨hv3, ht3, lb, lo, rfl, hlb, d0, d1, d2⟩ := (HL.out.go (bnext (bnext (HBel.out _ HM.out.2.2.2.1) hb6) hst7)).2 i HM.out.2.2.2.2.1
      obtain ⟨op, hop⟩ : ∃ op, g i = op := ⟨_, rfl⟩
      rw [hop] at hv3 ht3 d0 d1 d2
      have hl1 := HM.out.2.1.lt
      have hl2 := HM.out.2.2.1.lt
      have hdo := do_calls w7 b r nr s m i HS.out HM.out.1 (by have := HM.out.2.2.2.2.2; omega) ((HM.out.2.1.go hb6).go hst7) ((HM.out.2.2.1.go hb6).go hst7) Y2.out.2.2.2.2.1 op.kd op.t op.v hv3
      have HDo := Lib.hid hdo
      have H7 := Lib.hid (And.intro (hmc.go hst7) (And.intro hrw (And.intro (HM.out.2.2.2.1.trans ((bnext hb6 hst7).keptS _)) (show bc ≠ b ∧ bc ≠ r ∧ bw ≠ b ∧ bw ≠ r by have := hb6.size; omega))))
      obtain ⟨c0, c1, c2, c3, c4, c5, c6, c7, c8, c9, c10, c11, c12, c13⟩ := (HM.out.2.2.1.go hb6).cells
      unfold rtC at hw7
      clear hbc hmc hb6 hst7 hrw hv3 ht3 hlb hop hl1 hl2 hdo
      go_wp2_with fail
      clear hw7 hbw c0 c1 c2 c3 c4 c5 c6 c7 c8 c9 c10 c11 c12 c13 d0 d1 d2
      refine HDo.out.mono ?_
      rintro e w8 ⟨rfl, m2, hm8, hr8, hok8, hk8⟩
      have H8 := Lib.hid (And.intro hm8 (And.intro hr8 (And.intro hok8 (And.intro (H7.out.2.2.1.trans hk8) (And.intro (H7.out.1.kept hk8 ⟨H7.out.2.2.2.1, H7.out.2.2.2.2.1⟩) (H7.out.2.1.kept hk8 ⟨H7.out.2.2.2.2.2.1, H7.out.2.2.2.2.2.2⟩))))))
      clear hm8 hr8 hok8 hk8
      go_wp2_with fail
      refine (alike_true w8 b r nr s m2 (i + 1) HS.out H8.out.2.2.1 (by have := HM.out.2.2.2.2.2; omega) H8.out.1 H8.out.2.1).mono ?_
      rintro e w9 ⟨rfl, hb9⟩
      have H9 := Lib.hid (And.intro (H8.out.1.go hb9) (And.intro (H8.out.2.1.go hb9) (And.intro (H8.out.2.2.2.1.trans (hb9.keptS _)) (And.intro (H8.out.2.2.2.2.1.go hb9) (H8.out.2.2.2.2.2.go hb9)))))
      clear hb9
      go_wp2_with fail
      refine (alike_true w9 bc bw nr s m i HS.out HM.out.1 (by have := HM.out.2.2.2.2.2; omega) H9.out.2.2.2.1 H9.out.2.2.2.2).mono ?_
      rintro e w10 ⟨rfl, hb10⟩
      have H10 := Lib.hid (And.intro (H9.out.1.go hb10) (And.intro (H9.out.2.1.go hb10) (H9.out.2.2.1.trans (hb10.keptS _))))
      clear hb10
      go_wp2_with fail
      rw [X8.out]
      exact ⟨⟨i + 1, m2, HM.out.2.2.2.2.1, by push_cast; rfl, H8.out.2.2.1, H10.out.1, H10.out.2.1, H10.out.2.2⟩, by have := HM.out.2.2.2.2.1; simp [intOf]; omega⟩
    · obtain rfl : i = n := by omega
      have HF2 := Lib.hid (HBel.out _ hk)
      clear hE hm hrt hk hi hlt
      go_wp2_with fail
      go_ret
      exact ⟨rfl, HF2.out⟩
end Go.Proofs.Ytjmkbpgakfeceaa
