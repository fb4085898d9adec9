/-
  MeterNames, walked. (Printed by gen_mtnames.py.)
-/
import Derived.Test.YtjmkbpgakfeceaaMtNames1
namespace Go.Proofs.Ytjmkbpgakfeceaa
open Go Go.RowKit Go.Kw Go.Kw.Mt
set_option linter.unusedVariables false
set_option linter.unusedSimpArgs false

set_option maxRecDepth 100000 in
set_option maxHeartbeats 64000000 in
theorem meterNames_walk (w : World) : Calls Try.prog 8 #[] w fun e w' => e = .returned (.bool true) ∧ Below w.heap.size w w' := by
  go_enter Try.func8, Try.ntmps8
  go_wp2_with fail
  refine (some_calls w).mono ?_
  rintro e w1 ⟨b, rfl, hb, hm, hbl⟩
  have H1 := Lib.hid (And.intro hm (And.intro hbl hb))
  clear hm hbl hb
  go_wp2_with fail
  have hc := mSample_calls w1 b 3 s0 ex2 2 may_s0 ok_ex2 (by decide) H1.out.1 1300 904 (by decide)
  rw [e_ex3] at hc
  refine hc.mono ?_
  clear hc
  rintro e w2 ⟨A2, k2, c2, rfl, ho, hm, hk, hkk⟩
  have hbw := H1.out.1.lt
  have H2 := Lib.hid (And.intro hm (below_kept H1.out.2.1 hk H1.out.2.2 (Nat.le_refl _)))
  obtain rfl := hkk
  clear ho hm hk hbw
  go_wp2_with fail
  refine (open_true w2 b 3 s0 ex3 3 may_s0 ok_ex3 (by decide) H2.out.1 (by kernel_rfl) 900 400 0 (by kernel_rfl) (by kernel_rfl) (by kernel_rfl)).mono ?_
  rintro e w3 ⟨rfl, hb⟩
  have hbB := bnext H2.out.2 hb
  have H3 := Lib.hid (And.intro (H2.out.1.go hb) hbB)
  clear hb hbB
  go_wp2_with fail
  have hc := mSample_calls w3 b 3 s0 ex3 3 may_s0 ok_ex3 (by decide) H3.out.1 1300 2905 (by decide)
  rw [e_ex4] at hc
  refine hc.mono ?_
  clear hc
  rintro e w4 ⟨A4, k4, c4, rfl, ho, hm, hk, hkk⟩
  have hbw := H3.out.1.lt
  have H4 := Lib.hid (And.intro hm (below_kept H3.out.2 hk H1.out.2.2 (Nat.le_refl _)))
  have R_a := Lib.hid ho
  have B_a := Lib.hid hbw
  obtain rfl := hkk
  clear ho hm hk hbw
  go_wp2_with fail
  have hc := mReplace_calls w4 b 3 s0 ex4 4 may_s0 ok_ex4 (by decide) H4.out.1 1500 7 (by decide)
  rw [e_ex5] at hc
  refine hc.mono ?_
  clear hc
  rintro e w5 ⟨A5, k5, c5, rfl, ho, hm, hk, hkk⟩
  have hbw := H4.out.1.lt
  have r_a := own_keptM R_a.out hk (fun g e => by have := R_a.out.lt g e; have := B_a.out; show g ≠ b; omega)
  clear R_a
  have R_a := Lib.hid r_a
  clear r_a
  have H5 := Lib.hid (And.intro hm (below_kept H4.out.2 hk H1.out.2.2 (Nat.le_refl _)))
  obtain rfl := hkk
  clear ho hm hk hbw
  go_wp2_with fail
  have HBu1 := built_sus 3 1300 2001
  have HBu2 := built_en 3 900 410 8
  have hc := mSample_calls w5 b 3 s0 ex5 5 may_s0 ok_ex5 (by decide) H5.out.1 1800 17 (by decide)
  rw [e_ex6] at hc
  refine hc.mono ?_
  clear hc
  rintro e w6 ⟨A6, k6, c6, rfl, ho, hm, hk, hkk⟩
  have hbw := H5.out.1.lt
  have r_a := own_keptM R_a.out hk (fun g e => by have := R_a.out.lt g e; have := B_a.out; show g ≠ b; omega)
  clear R_a
  have R_a := Lib.hid r_a
  clear r_a
  have H6 := Lib.hid (And.intro hm (below_kept H5.out.2 hk H1.out.2.2 (Nat.le_refl _)))
  have R_c := Lib.hid ho
  have B_c := Lib.hid hbw
  obtain rfl := hkk
  clear ho hm hk hbw
  go_wp2_with fail
  refine (same_yes (w6.alloc (.cells (enC 3 ⟨2, 1300, 0, 0, 2001⟩) 45)) A4 (some ⟨w6.heap.size, 0, none⟩) c4 1 3 [⟨2, 1300, 0, 0, 2001⟩] (by decide) (((own_rowE R_a.out rfl).go (bstep w6 _)).up (by rw [World.size_alloc]; omega)) (by rw [World.size_alloc]; exact rowE_one w6 3 _)).mono ?_
  rintro e w7 ⟨rfl, hb⟩
  have hbs := bstep w6 (.cells (enC 3 ⟨2, 1300, 0, 0, 2001⟩) 45)
  have r_c := own_below (own_below R_c.out hbs) hb
  clear R_c
  have R_c := Lib.hid r_c
  clear r_c
  have H7 := Lib.hid (And.intro ((H6.out.1.go hbs).go hb) (bnext (bnext H6.out.2 hbs) hb))
  clear hb hbs R_a B_a
  go_wp2_with fail
  refine (same_yes (w7.alloc (.cells (enC 3 ⟨1, 900, 410, 8, 0⟩) 45)) A6 (some ⟨w7.heap.size, 0, none⟩) c6 1 3 [⟨1, 900, 410, 8, 0⟩] (by decide) (((own_rowE R_c.out rfl).go (bstep w7 _)).up (by rw [World.size_alloc]; omega)) (by rw [World.size_alloc]; exact rowE_one w7 3 _)).mono ?_
  rintro e w8 ⟨rfl, hb⟩
  have hbs := bstep w7 (.cells (enC 3 ⟨1, 900, 410, 8, 0⟩) 45)
  have H8 := Lib.hid (And.intro ((H7.out.1.go hbs).go hb) (bnext (bnext H7.out.2 hbs) hb))
  clear hb hbs R_c B_c
  go_wp2_with fail
  clear HBu1 HBu2
  have hc := mReplace_calls w8 b 3 s0 ex6 6 may_s0 ok_ex6 (by decide) H8.out.1 1799 0 (by decide)
  rw [e_a] at hc
  refine hc.mono ?_
  clear hc
  rintro e w9 ⟨A9, k9, c9, rfl, ho, hm, hk, hkk⟩
  have hbw := H8.out.1.lt
  have H9 := Lib.hid (And.intro hm (below_kept H8.out.2 hk H1.out.2.2 (Nat.le_refl _)))
  obtain rfl := hkk
  clear ho hm hk hbw
  go_wp2_with fail
  have hc := mSample_calls w9 b 3 s0 ex6 6 may_s0 ok_ex6 (by decide) H9.out.1 (-1) 0 (by decide)
  rw [e_b] at hc
  refine hc.mono ?_
  clear hc
  rintro e w10 ⟨A10, k10, c10, rfl, ho, hm, hk, hkk⟩
  have hbw := H9.out.1.lt
  have H10 := Lib.hid (And.intro hm (below_kept H9.out.2 hk H1.out.2.2 (Nat.le_refl _)))
  obtain rfl := hkk
  clear ho hm hk hbw
  go_wp2_with fail
  have hc := mReplace_calls w10 b 3 s0 ex6 6 may_s0 ok_ex6 (by decide) H10.out.1 253402300800 0 (by decide)
  rw [e_c] at hc
  refine hc.mono ?_
  clear hc
  rintro e w11 ⟨A11, k11, c11, rfl, ho, hm, hk, hkk⟩
  have hbw := H10.out.1.lt
  have H11 := Lib.hid (And.intro hm (below_kept H10.out.2 hk H1.out.2.2 (Nat.le_refl _)))
  obtain rfl := hkk
  clear ho hm hk hbw
  go_wp2_with fail
  have hc := mSample_calls w11 b 3 s0 ex6 6 may_s0 ok_ex6 (by decide) H11.out.1 902800 17 (by decide)
  rw [e_d] at hc
  refine hc.mono ?_
  clear hc
  rintro e w12 ⟨A12, k12, c12, rfl, ho, hm, hk, hkk⟩
  have hbw := H11.out.1.lt
  have H12 := Lib.hid (And.intro hm (below_kept H11.out.2 hk H1.out.2.2 (Nat.le_refl _)))
  obtain rfl := hkk
  clear ho hm hk hbw
  go_wp2_with fail
  obtain ⟨E7, hE7, hL7, x7, hx7, hf7⟩ := e_ex7
  have HE7 := Lib.hid (And.intro hL7 (And.intro hx7 hf7))
  clear hL7 hx7 hf7
  have hc := mSample_calls w12 b 3 s0 ex6 6 may_s0 ok_ex6 (by decide) H12.out.1 901800 17 (by decide)
  rw [hE7] at hc
  refine hc.mono ?_
  clear hc
  rintro e w13 ⟨A13, k13, c13, rfl, ho, hm, hk, hkk⟩
  have hbw := H12.out.1.lt
  have H13 := Lib.hid (And.intro hm (below_kept H12.out.2 hk H1.out.2.2 (Nat.le_refl _)))
  have R_d := Lib.hid ho
  have B_d := Lib.hid hbw
  obtain rfl : k13 = 1000 := hkk.trans HE7.out.1
  clear ho hm hk hbw hkk
  go_wp2_with fail
  have hc := mSample_calls w13 b 3 s0 ex7 7 may_s0 ok_ex7 (by decide) H13.out.1 0 18 (by decide)
  rw [e_ex8] at hc
  refine hc.mono ?_
  clear hc
  rintro e w14 ⟨A14, k14, c14, rfl, ho, hm, hk, hkk⟩
  have hbw := H13.out.1.lt
  have r_d := own_keptM R_d.out hk (fun g e => by have := R_d.out.lt g e; have := B_d.out; show g ≠ b; omega)
  clear R_d
  have R_d := Lib.hid r_d
  clear r_d
  have H14 := Lib.hid (And.intro hm (below_kept H13.out.2 hk H1.out.2.2 (Nat.le_refl _)))
  obtain rfl := hkk
  clear ho hm hk hbw
  obtain ⟨g9, o9, rfl, -, hrr⟩ := (own_rowE R_d.out HE7.out.1.symm).at_ HE7.out.2.1
  have c9 := hrr 7 (.int .i64 (x7.f : Int)) rfl
  rw [HE7.out.2.2, Nat.add_assoc] at c9
  clear hrr R_d B_d
  go_wp2_with fail
  refine (open_true w14 b 3 s0 ex8 8 may_s0 ok_ex8 (by decide) H14.out.1 (by kernel_rfl) 901800 1 2 (by kernel_rfl) (by kernel_rfl) (by kernel_rfl)).mono ?_
  rintro e w15 ⟨rfl, hb⟩
  have hbB := bnext H14.out.2 hb
  have H15 := Lib.hid (And.intro (H14.out.1.go hb) hbB)
  clear hb hbB
  go_wp2_with fail
  clear c9
  have hc := check_calls 1 1 0 (0) 61 w15
  rw [if_neg (show ¬ mayP 1 1 (0) 61 by decide)] at hc
  refine hc.mono ?_
  clear hc
  rintro e w16 ⟨rfl, hb⟩
  have H16 := Lib.hid (And.intro (H15.out.1.go hb) (bnext H15.out.2 hb))
  clear hb
  go_wp2_with fail
  have hc := check_calls 0 1 0 (0) 60 w16
  rw [if_neg (show ¬ mayP 0 1 (0) 60 by decide)] at hc
  refine hc.mono ?_
  clear hc
  rintro e w17 ⟨rfl, hb⟩
  have H17 := Lib.hid (And.intro (H16.out.1.go hb) (bnext H16.out.2 hb))
  clear hb
  go_wp2_with fail
  have hc := check_calls 1 1048577 0 (0) 60 w17
  rw [if_neg (show ¬ mayP 1 1048577 (0) 60 by decide)] at hc
  refine hc.mono ?_
  clear hc
  rintro e w18 ⟨rfl, hb⟩
  have H18 := Lib.hid (And.intro (H17.out.1.go hb) (bnext H17.out.2 hb))
  clear hb
  go_wp2_with fail
  have hc := check_calls 1 1 0 (-1) 60 w18
  rw [if_neg (show ¬ mayP 1 1 (-1) 60 by decide)] at hc
  refine hc.mono ?_
  clear hc
  rintro e w19 ⟨rfl, hb⟩
  have H19 := Lib.hid (And.intro (H18.out.1.go hb) (bnext H18.out.2 hb))
  clear hb
  go_wp2_with fail
  have hc := check_calls 1 1 0 (0) 86400 w19
  rw [if_pos (show mayP 1 1 (0) 86400 by decide)] at hc
  refine hc.mono ?_
  clear hc
  rintro e w20 ⟨rfl, hb⟩
  have H20 := Lib.hid (And.intro (H19.out.1.go hb) (bnext H19.out.2 hb))
  clear hb
  go_wp2_with fail
  refine (mnew_many w20 64 1 1 0 0 60 (by decide)).mono ?_
  rintro e w21 ⟨rfl, hb⟩
  have hbB := bnext H20.out.2 hb
  have H21 := Lib.hid (And.intro (H20.out.1.go hb) hbB)
  clear hb hbB
  go_wp2_with fail
  have hc := energy_calls 4398046511105 1048576 1 0 0 60 (by decide) w21
  rw [enV_over 4398046511105 1048576 1 0 60 (by decide) (by decide)] at hc
  refine hc.mono ?_
  clear hc
  rintro e w22 ⟨rfl, hb⟩
  have H22 := Lib.hid (And.intro (H21.out.1.go hb) (bnext H21.out.2 hb))
  clear hb
  go_wp2_with fail
  refine (mreset_calls w22 b 3 s0 ex8 may_s0 H22.out.1).mono ?_
  rintro e w23 ⟨⟨u, rfl⟩, hm, hk⟩
  have H23 := Lib.hid (And.intro hm (below_kept H22.out.2 hk H1.out.2.2 (Nat.le_refl _)))
  clear hm hk
  go_wp2_with fail
  refine (mlast_calls w23 b 3 s0 zeroM may_s0 H23.out.1 (fun _ => rfl)).mono ?_
  rintro e w24 ⟨rfl, hb⟩
  have hbB := bnext H23.out.2 hb
  obtain ⟨bz, hbz⟩ : ∃ bz, w24.heap.size = bz := ⟨_, rfl⟩
  obtain ⟨wz, hwz⟩ : ∃ x, w24.alloc (.cells #[.int .i64 0, .int .u64 0, .int .u64 0, .int .u32 0, .int .i64 0, .int .i64 0, .bool false, .int .i64 0, .int .u32 0, .int .u64 0, .int .i64 0, .int .i64 0, .int .i64 0, .int .i64 0] 72) = x := ⟨_, rfl⟩
  have hst : Below w24.heap.size w24 wz := hwz ▸ bstep w24 _
  have hz : MtB wz bz 0 ⟨0, 0, 0, 0, 0⟩ zeroM := by rw [← hbz, ← hwz]; exact blk_new w24 (mtC 0 ⟨0, 0, 0, 0, 0⟩ zeroM) _
  have HZ := Lib.hid (And.intro hz (bnext hbB hst))
  have hzb : zeroM.bg = false := rfl
  clear hb hbB hst hz
  go_wp2_with fail
  clear hwz hbz
  refine (mSample_nil wz 0 0).mono ?_
  rintro e x1 ⟨rfl, hb⟩
  have Z1 := Lib.hid (And.intro (HZ.out.1.go hb) (bnext HZ.out.2 hb))
  clear hb
  go_wp2_with fail
  refine (mReplace_zero x1 bz 0 ⟨0, 0, 0, 0, 0⟩ zeroM Z1.out.1 rfl 0 0).mono ?_
  rintro e x2 ⟨rfl, hb⟩
  have Z2 := Lib.hid (bnext Z1.out.2 hb)
  clear hb
  go_wp2_with fail
  refine (mOpen_nil x2).mono ?_
  rintro e x3 ⟨rfl, hb⟩
  have Z3 := Lib.hid (bnext Z2.out hb)
  clear hb
  go_wp2_with fail
  refine (mReset_nil x3).mono ?_
  rintro e x4 ⟨⟨u, rfl⟩, hb⟩
  have Z4 := Lib.hid (bnext Z3.out hb)
  clear hb
  go_wp2_with fail
  refine (alive_calls x4).mono ?_
  rintro e x5 ⟨rfl, hb⟩
  have Z5 := Lib.hid (bnext Z4.out hb)
  clear hb
  go_wp2_with fail
  refine (mCounts_nil x5).mono ?_
  rintro e x6 ⟨rfl, hb⟩
  have Z6 := Lib.hid (bnext Z5.out hb)
  clear hb
  go_wp2_with fail
  refine (mCopy_nil x6).mono ?_
  rintro e x7 ⟨rfl, hb⟩
  have Z7 := Lib.hid (bnext Z6.out hb)
  clear hb
  go_wp2_with fail
  go_ret
  exact ⟨rfl, Z7.out⟩
end Go.Proofs.Ytjmkbpgakfeceaa
