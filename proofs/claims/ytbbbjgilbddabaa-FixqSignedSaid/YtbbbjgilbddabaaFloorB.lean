/-
  Floor of the document, in numbers of 200 bits, walked. Conditions stand at each theorem.
-/
import Derived.Test.YtbbbjgilbddabaaNumF
import Derived.Test.YtbbbjgilbddabaaNumG
import Derived.Test.YtbbbjgilbddabaaFloorPlain
namespace Go.Proofs.Ytbbbjgilbddabaa
open Go Go.RowKit Go.Kw Go.Kw.Nm
set_option linter.unusedVariables false
set_option linter.unusedSimpArgs false

theorem alloc_two (w : World) (f g : Nat → Nat) : ∃ V, (((w.alloc (.cells (numC false fun _ => 0) 68)).alloc (.cells (numC false fun _ => 0) 68)).setRow w.heap.size (numC false f)).setRow (w.heap.size + 1) (numC false g) = V ∧
    NB V w.heap.size false f ∧ NB V (w.heap.size + 1) false g ∧ (∀ b n h, NB w b n h → NB V b n h) ∧ (∀ B a, Below B a w → B ≤ w.heap.size → Below B a V) ∧
    NB ((w.alloc (.cells (numC false fun _ => 0) 68)).alloc (.cells (numC false fun _ => 0) 68)) w.heap.size false (fun _ => 0) ∧
    NB (((w.alloc (.cells (numC false fun _ => 0) 68)).alloc (.cells (numC false fun _ => 0) 68)).setRow w.heap.size (numC false f)) (w.heap.size + 1) false (fun _ => 0) ∧ V.heap.size = w.heap.size + 1 + 1 := by
  obtain ⟨W, hW, n0, n1, hb⟩ := nb2 w false false (fun _ => 0) (fun _ => 0)
  rw [hW]
  have hne : w.heap.size + 1 ≠ w.heap.size := by omega
  have m1 := n1.row w.heap.size hne (numC false f)
  refine ⟨_, rfl, (n0.put false f).row _ (Ne.symm hne) _, m1.put false g, fun b n h hb1 => ?_, fun B a h hB => ?_, n0, m1, ?_⟩
  · have := hb1.lt
    exact ((hb1.next hb).row _ (by omega) _).row _ (by omega) _
  · exact below_row (below_row (h.trans (hb.mono hB)) hB _) (by omega) _
  · rw [← hW]; simp

set_option maxRecDepth 100000 in
set_option maxHeartbeats 16000000 in
theorem refFloor_same (a b : Int) (A B : Nat) (sa sb vq vr is : Bool) (zq zr : Int) (im : Bool) (hA9 : A < 2 ^ 199) (hB : B < 2 ^ 199) (hB0 : 0 < B) (hb0 : b ≠ 0) (hd : (sa != sb) = false) (hvq : false = vq) (hvr : (sb && decide (0 < A % B)) = vr)
    (hSA : ∀ W, Calls Try.prog 30 #[.int .i64 a] W fun e w' => e = .returned (.agg (numC sa (bitF A))) ∧ Below W.heap.size W w')
    (hSB : ∀ W, Calls Try.prog 30 #[.int .i64 b] W fun e w' => e = .returned (.agg (numC sb (bitF B))) ∧ Below W.heap.size W w')
    (hIQ : ∀ W, Calls Try.prog 38 #[.agg (numC vq (bitF (A / B)))] W fun e w' => e = .returned (.tuple #[.int .i64 zq, .bool is]) ∧ Below W.heap.size W w')
    (hIR : ∀ W, Calls Try.prog 38 #[.agg (numC vr (bitF (A % B)))] W fun e w' => e = .returned (.tuple #[.int .i64 zr, .bool im]) ∧ Below W.heap.size W w') (w : World) :
    Calls Try.prog 15 #[.int .i64 a, .int .i64 b] w fun e w' => e = .returned (cond is (.tuple #[.int .i64 zq, .int .i64 zr, .int .i64 0]) (.tuple #[.int .i64 0, .int .i64 0, .int .i64 10])) ∧ Below w.heap.size w w' := by
  have hA : A < 2 ^ 200 := Nat.lt_trans hA9 (by decide)
  have hz := num_zero
  have hbd := num_build
  have hq200 : A / B < 2 ^ 200 := Nat.lt_of_le_of_lt (Nat.div_le_self _ _) hA
  have hml : A % B < B := Nat.mod_lt _ hB0
  have hr200 : A % B < 2 ^ 200 := Nat.lt_trans hml (Nat.lt_trans hB (by decide))
  have hR200 : (A % B) < 2 ^ 200 := Nat.lt_of_le_of_lt (show (A % B) ≤ B by omega) (Nat.lt_trans hB (by decide))
  have HP := Lib.hid (num_parts sa sb A B hA hB hB0)
  have HB1 := Lib.hid (num_bare false false (A % B) 0 hr200 (by decide))
  have HB3 := Lib.hid (num_bare false false (A % B) 0 hR200 (by decide))
  rw [bitF_z] at HB1 HB3
  have HA := Lib.hid hSA
  have HB := Lib.hid hSB
  have HIQ := Lib.hid hIQ
  have HIR := Lib.hid hIR
  have Hvq := Lib.hid hvq
  have Hvr := Lib.hid hvr
  have kb : (b == 0) = false := by simp; exact hb0
  have hd2 : (sa == sb) = true := by revert hd; cases sa <;> cases sb <;> decide
  obtain ⟨c1, hc1⟩ : ∃ c, cmpN (A % B) 0 = c := ⟨_, rfl⟩
  have kc1 : decide (c1 > 0) = decide (0 < A % B) := by rw [← hc1]; exact cmp_pos _
  rw [hc1] at HB1
  obtain ⟨c3, hc3⟩ : ∃ c, cmpN (A % B) 0 = c := ⟨_, rfl⟩
  have kc3 : decide (c3 > 0) = decide (0 < A % B) := by rw [← hc3]; exact cmp_pos _
  rw [hc3] at HB3
  obtain ⟨d3, hd3⟩ : ∃ d, decide (0 < A % B) = d := ⟨_, rfl⟩
  rw [hd3] at kc3
  have kc3' : decide (0 < c3) = d3 := kc3
  have Hvr3 : Hid ((sb && d3) = vr) := by rw [← hd3]; exact hvr
  obtain ⟨b0, hb0'⟩ : ∃ b0, w.heap.size = b0 := ⟨_, rfl⟩
  have Hb0 := Lib.hid hb0'
  have hB0 := Below.refl b0 w
  have hs0 : b0 ≤ w.heap.size := by omega
  clear hA9 hSA hSB hIQ hIR hvq hvr hc1 hc3 hd3 hq200 hml hr200 hR200 hA hB hb0' hb0 
  go_enter Try.func15, Try.ntmps15
  go_wp2_with fail
  refine (HA.out w).mono ?_
  rintro e w1 ⟨rfl, hb1⟩
  have hB1 := hB0.trans (hb1.mono hs0)
  have hs1 := Nat.le_trans hs0 hb1.size
  clear hB0 hb1 hs0 HA
  have m7 := NB.new w1 false (fun _ => 0)
  obtain ⟨W1, hW1, x7, -, hbx⟩ := alloc_put2 w1 sa (bitF A)
  have hB := hbx _ _ hB1 hs1
  have hl7 : b0 ≤ w1.heap.size := hs1
  clear hbx hB1 hs1
  subst hW1
  go_wp2_with (first | (refine' st_num (neg := _) (f := _) ?hh rfl _ _ rfl rfl _ _ rfl ?_; case hh => with_reducible first | exact m7))
  refine (HB.out _).mono ?_
  rintro e w2 ⟨rfl, hb2⟩
  clear m7
  generalize w1.heap.size = g7 at *
  replace hB := belowN hB x7 hl7 hb2
  replace x7 := x7.next hb2
  have hl8 : g7 < w2.heap.size := x7.lt
  have m8 := NB.new w2 false (fun _ => 0)
  obtain ⟨W2, hW2, x8, hx, hbx⟩ := alloc_put2 w2 sb (bitF B)
  replace hB := hbx _ _ hB (by omega)
  replace x7 := hx _ _ _ x7
  clear hbx hx hb2 HB
  subst hW2
  go_wp2_with (first | (refine' st_num (neg := _) (f := _) ?hh rfl _ _ rfl rfl _ _ rfl ?_; case hh => with_reducible first | exact m8) | (refine' ld_num (neg := _) (f := _) ?hh rfl _ rfl rfl ?_; case hh => with_reducible first | exact x7 | exact x8))
  refine (HP.out _).mono ?_
  rintro e w3 ⟨rfl, hb3⟩
  clear m8
  generalize w2.heap.size = g8 at *
  replace hB := belowN hB x7 hl7 hb3
  replace x7 := x7.next hb3
  replace x8 := x8.next hb3
  have hl9 : g8 < w3.heap.size := x8.lt
  obtain ⟨W3, hW3, x9, x10, hx, hbx, m9, m10, hs3⟩ := alloc_two w3 (bitF (A / B)) (bitF (A % B))
  replace hB := hbx _ _ hB (by omega)
  replace x7 := hx _ _ _ x7
  replace x8 := hx _ _ _ x8
  clear hbx hx hb3 HP
  have m11 := NB.new W3 false (fun _ => 0)
  obtain ⟨W4, hW4, x11, hx, hbx⟩ := alloc_put W3 (fun _ => 0)
  rw [hs3] at m11 x11
  replace hB := hbx _ _ hB (by have := x9.lt; omega)
  replace x7 := hx _ _ _ x7
  replace x8 := hx _ _ _ x8
  replace x9 := hx _ _ _ x9
  replace x10 := hx _ _ _ x10
  clear hx hbx
  rw [hs3] at hW4
  clear hs3
  subst hW4
  subst hW3
  go_wp2_with (first | (refine' st_num (neg := _) (f := _) ?hh rfl _ _ rfl rfl _ _ rfl ?_; case hh => with_reducible first | exact m9 | exact m10 | exact m11) | (refine' ld_num (neg := _) (f := _) ?hh rfl _ rfl rfl ?_; case hh => with_reducible first | exact x10 | exact x11))
  refine (HB1.out _).mono ?_
  rintro e w4 ⟨rfl, hb4⟩
  clear m9 m10 m11
  generalize w3.heap.size = g9 at *
  replace hB := belowN hB x7 hl7 hb4
  replace x7 := x7.next hb4
  replace x8 := x8.next hb4
  replace x9 := x9.next hb4
  replace x10 := x10.next hb4
  replace x11 := x11.next hb4
  clear hb4 HB1
  have c7 := x7.c0
  have c8 := x8.c0
  go_wp2_with (first | (refine' ld_num (neg := _) (f := _) ?hh rfl _ rfl rfl ?_; case hh => with_reducible first | exact x10 | exact x11))
  refine (HB3.out _).mono ?_
  rintro e w6 ⟨rfl, hb6⟩
  try clear c9 f9
  try clear c7 c8
  replace hB := belowN hB x7 hl7 hb6
  replace x7 := x7.next hb6
  replace x8 := x8.next hb6
  replace x9 := x9.next hb6
  replace x10 := x10.next hb6
  replace x11 := x11.next hb6
  clear hb6
  have c8 := x8.c0
  have c10 := x10.c0
  have f10 := x10.fr 0
  replace x7 := x7.far (p := ⟨g9 + 1, 0, none⟩) (by show g7 ≠ g9 + 1; omega) (.bool vr)
  replace x9 := x9.far (p := ⟨g9 + 1, 0, none⟩) (by show g9 ≠ g9 + 1; omega) (.bool vr)
  replace x10 := x10.setN vr
  replace hB := below_setC hB (p := ⟨g9 + 1, 0, none⟩) (by show b0 ≤ g9 + 1; omega) (.bool vr)
  clear x8 x11
  have hq9 := Hvq.out
  subst hq9
  cases sb
  all_goals
    have hvv := Hvr3.out
    simp only [Bool.false_and, Bool.true_and] at hvv
    subst hvv
    go_wp2_with (first | (refine' ld_num (neg := _) (f := _) ?hh rfl _ rfl rfl ?_; case hh => with_reducible first | exact x9))
    refine (HIQ.out _).mono ?_
    rintro e w7 ⟨rfl, hb7⟩
    replace hB := belowN hB x7 hl7 hb7
    replace x7 := x7.next hb7
    replace x10 := x10.next hb7
    clear hb7 x9 c8 c10 f10
    go_wp2_with (first | (refine' ld_num (neg := _) (f := _) ?hh rfl _ rfl rfl ?_; case hh => with_reducible first | exact x10))
    refine (HIR.out _).mono ?_
    rintro e w8 ⟨rfl, hb8⟩
    replace hB := belowN hB x7 hl7 hb8
    clear hb8 x7 x10
    cases is
    all_goals
      go_wp2_with fail
      go_ret3
      exact ⟨rfl, by rw [Hb0.out]; exact hB⟩
set_option maxRecDepth 100000 in
set_option maxHeartbeats 16000000 in
theorem refFloor_diff0 (a b : Int) (A B : Nat) (sa sb vq vr is : Bool) (zq zr : Int) (im : Bool) (hA9 : A < 2 ^ 199) (hB : B < 2 ^ 199) (hB0 : 0 < B) (hb0 : b ≠ 0) (hd : (sa != sb) = true) (hr : A % B = 0) (hvq : decide (0 < A / B) = vq) (hvr : (sb && decide (0 < A % B)) = vr)
    (hSA : ∀ W, Calls Try.prog 30 #[.int .i64 a] W fun e w' => e = .returned (.agg (numC sa (bitF A))) ∧ Below W.heap.size W w')
    (hSB : ∀ W, Calls Try.prog 30 #[.int .i64 b] W fun e w' => e = .returned (.agg (numC sb (bitF B))) ∧ Below W.heap.size W w')
    (hIQ : ∀ W, Calls Try.prog 38 #[.agg (numC vq (bitF (A / B)))] W fun e w' => e = .returned (.tuple #[.int .i64 zq, .bool is]) ∧ Below W.heap.size W w')
    (hIR : ∀ W, Calls Try.prog 38 #[.agg (numC vr (bitF (A % B)))] W fun e w' => e = .returned (.tuple #[.int .i64 zr, .bool im]) ∧ Below W.heap.size W w') (w : World) :
    Calls Try.prog 15 #[.int .i64 a, .int .i64 b] w fun e w' => e = .returned (cond is (.tuple #[.int .i64 zq, .int .i64 zr, .int .i64 0]) (.tuple #[.int .i64 0, .int .i64 0, .int .i64 10])) ∧ Below w.heap.size w w' := by
  have hA : A < 2 ^ 200 := Nat.lt_trans hA9 (by decide)
  have hz := num_zero
  have hbd := num_build
  have hq200 : A / B < 2 ^ 200 := Nat.lt_of_le_of_lt (Nat.div_le_self _ _) hA
  have hml : A % B < B := Nat.mod_lt _ hB0
  have hr200 : A % B < 2 ^ 200 := Nat.lt_trans hml (Nat.lt_trans hB (by decide))
  have hR200 : (A % B) < 2 ^ 200 := Nat.lt_of_le_of_lt (show (A % B) ≤ B by omega) (Nat.lt_trans hB (by decide))
  have HP := Lib.hid (num_parts sa sb A B hA hB hB0)
  have HB1 := Lib.hid (num_bare false false (A % B) 0 hr200 (by decide))
  have HB3 := Lib.hid (num_bare false false (A % B) 0 hR200 (by decide))
  rw [bitF_z] at HB1 HB3
  have HA := Lib.hid hSA
  have HB := Lib.hid hSB
  have HIQ := Lib.hid hIQ
  have HIR := Lib.hid hIR
  have Hvq := Lib.hid hvq
  have Hvr := Lib.hid hvr
  have hQ200 : (A / B) < 2 ^ 200 := hq200
  have HB2 := Lib.hid (num_bare false false (A / B) 0 hQ200 (by decide))
  rw [bitF_z] at HB2
  have kb : (b == 0) = false := by simp; exact hb0
  have hd2 : (sa == sb) = false := by revert hd; cases sa <;> cases sb <;> decide
  obtain ⟨c1, hc1⟩ : ∃ c, cmpN (A % B) 0 = c := ⟨_, rfl⟩
  have kc1 : decide (c1 > 0) = decide (0 < A % B) := by rw [← hc1]; exact cmp_pos _
  rw [hc1] at HB1
  obtain ⟨c3, hc3⟩ : ∃ c, cmpN (A % B) 0 = c := ⟨_, rfl⟩
  have kc3 : decide (c3 > 0) = decide (0 < A % B) := by rw [← hc3]; exact cmp_pos _
  rw [hc3] at HB3
  obtain ⟨c2, hc2⟩ : ∃ c, cmpN (A / B) 0 = c := ⟨_, rfl⟩
  have kc2 : decide (c2 > 0) = decide (0 < A / B) := by rw [← hc2]; exact cmp_pos _
  rw [hc2] at HB2
  replace kc2 : decide (c2 > 0) = vq := kc2.trans hvq
  have kc2' : decide (0 < c2) = vq := kc2
  replace kc1 : decide (c1 > 0) = false := by rw [kc1]; exact decide_eq_false (by omega)
  have kc1' : decide (0 < c1) = false := kc1
  obtain ⟨d3, hd3⟩ : ∃ d, decide (0 < A % B) = d := ⟨_, rfl⟩
  rw [hd3] at kc3
  have kc3' : decide (0 < c3) = d3 := kc3
  have Hvr3 : Hid ((sb && d3) = vr) := by rw [← hd3]; exact hvr
  obtain ⟨b0, hb0'⟩ : ∃ b0, w.heap.size = b0 := ⟨_, rfl⟩
  have Hb0 := Lib.hid hb0'
  have hB0 := Below.refl b0 w
  have hs0 : b0 ≤ w.heap.size := by omega
  clear hA9 hSA hSB hIQ hIR hvq hvr hc1 hc3 hd3 hq200 hml hr200 hR200 hA hB hb0' hb0 hc2 hr hQ200
  go_enter Try.func15, Try.ntmps15
  go_wp2_with fail
  refine (HA.out w).mono ?_
  rintro e w1 ⟨rfl, hb1⟩
  have hB1 := hB0.trans (hb1.mono hs0)
  have hs1 := Nat.le_trans hs0 hb1.size
  clear hB0 hb1 hs0 HA
  have m7 := NB.new w1 false (fun _ => 0)
  obtain ⟨W1, hW1, x7, -, hbx⟩ := alloc_put2 w1 sa (bitF A)
  have hB := hbx _ _ hB1 hs1
  have hl7 : b0 ≤ w1.heap.size := hs1
  clear hbx hB1 hs1
  subst hW1
  go_wp2_with (first | (refine' st_num (neg := _) (f := _) ?hh rfl _ _ rfl rfl _ _ rfl ?_; case hh => with_reducible first | exact m7))
  refine (HB.out _).mono ?_
  rintro e w2 ⟨rfl, hb2⟩
  clear m7
  generalize w1.heap.size = g7 at *
  replace hB := belowN hB x7 hl7 hb2
  replace x7 := x7.next hb2
  have hl8 : g7 < w2.heap.size := x7.lt
  have m8 := NB.new w2 false (fun _ => 0)
  obtain ⟨W2, hW2, x8, hx, hbx⟩ := alloc_put2 w2 sb (bitF B)
  replace hB := hbx _ _ hB (by omega)
  replace x7 := hx _ _ _ x7
  clear hbx hx hb2 HB
  subst hW2
  go_wp2_with (first | (refine' st_num (neg := _) (f := _) ?hh rfl _ _ rfl rfl _ _ rfl ?_; case hh => with_reducible first | exact m8) | (refine' ld_num (neg := _) (f := _) ?hh rfl _ rfl rfl ?_; case hh => with_reducible first | exact x7 | exact x8))
  refine (HP.out _).mono ?_
  rintro e w3 ⟨rfl, hb3⟩
  clear m8
  generalize w2.heap.size = g8 at *
  replace hB := belowN hB x7 hl7 hb3
  replace x7 := x7.next hb3
  replace x8 := x8.next hb3
  have hl9 : g8 < w3.heap.size := x8.lt
  obtain ⟨W3, hW3, x9, x10, hx, hbx, m9, m10, hs3⟩ := alloc_two w3 (bitF (A / B)) (bitF (A % B))
  replace hB := hbx _ _ hB (by omega)
  replace x7 := hx _ _ _ x7
  replace x8 := hx _ _ _ x8
  clear hbx hx hb3 HP
  have m11 := NB.new W3 false (fun _ => 0)
  obtain ⟨W4, hW4, x11, hx, hbx⟩ := alloc_put W3 (fun _ => 0)
  rw [hs3] at m11 x11
  replace hB := hbx _ _ hB (by have := x9.lt; omega)
  replace x7 := hx _ _ _ x7
  replace x8 := hx _ _ _ x8
  replace x9 := hx _ _ _ x9
  replace x10 := hx _ _ _ x10
  clear hx hbx
  rw [hs3] at hW4
  clear hs3
  subst hW4
  subst hW3
  go_wp2_with (first | (refine' st_num (neg := _) (f := _) ?hh rfl _ _ rfl rfl _ _ rfl ?_; case hh => with_reducible first | exact m9 | exact m10 | exact m11) | (refine' ld_num (neg := _) (f := _) ?hh rfl _ rfl rfl ?_; case hh => with_reducible first | exact x10 | exact x11))
  refine (HB1.out _).mono ?_
  rintro e w4 ⟨rfl, hb4⟩
  clear m9 m10 m11
  generalize w3.heap.size = g9 at *
  replace hB := belowN hB x7 hl7 hb4
  replace x7 := x7.next hb4
  replace x8 := x8.next hb4
  replace x9 := x9.next hb4
  replace x10 := x10.next hb4
  replace x11 := x11.next hb4
  clear hb4 HB1
  have c7 := x7.c0
  have c8 := x8.c0
  go_wp2_with (first | (refine' ld_num (neg := _) (f := _) ?hh rfl _ rfl rfl ?_; case hh => with_reducible first | exact x9 | exact x11))
  refine (HB2.out _).mono ?_
  rintro e w5 ⟨rfl, hb5⟩
  replace hB := belowN hB x7 hl7 hb5
  replace x7 := x7.next hb5
  replace x8 := x8.next hb5
  replace x9 := x9.next hb5
  replace x10 := x10.next hb5
  replace x11 := x11.next hb5
  clear hb5
  have c9 := x9.c0
  have f9 := x9.fr 0
  replace x7 := x7.far (p := ⟨g9, 0, none⟩) (by show g7 ≠ g9; omega) (.bool vq)
  replace x8 := x8.far (p := ⟨g9, 0, none⟩) (by show g8 ≠ g9; omega) (.bool vq)
  replace x10 := x10.far (p := ⟨g9, 0, none⟩) (by show g9 + 1 ≠ g9; omega) (.bool vq)
  replace x11 := x11.far (p := ⟨g9, 0, none⟩) (by show (g9 + 1 + 1) ≠ g9; omega) (.bool vq)
  replace x9 := x9.setN vq
  replace hB := below_setC hB (p := ⟨g9, 0, none⟩) (by show b0 ≤ g9; omega) (.bool vq)
  go_wp2_with (first | (refine' ld_num (neg := _) (f := _) ?hh rfl _ rfl rfl ?_; case hh => with_reducible first | exact x10 | exact x11))
  refine (HB3.out _).mono ?_
  rintro e w6 ⟨rfl, hb6⟩
  try clear c9 f9
  try clear c7 c8
  replace hB := belowN hB x7 hl7 hb6
  replace x7 := x7.next hb6
  replace x8 := x8.next hb6
  replace x9 := x9.next hb6
  replace x10 := x10.next hb6
  replace x11 := x11.next hb6
  clear hb6
  have c8 := x8.c0
  have c10 := x10.c0
  have f10 := x10.fr 0
  replace x7 := x7.far (p := ⟨g9 + 1, 0, none⟩) (by show g7 ≠ g9 + 1; omega) (.bool vr)
  replace x9 := x9.far (p := ⟨g9 + 1, 0, none⟩) (by show g9 ≠ g9 + 1; omega) (.bool vr)
  replace x10 := x10.setN vr
  replace hB := below_setC hB (p := ⟨g9 + 1, 0, none⟩) (by show b0 ≤ g9 + 1; omega) (.bool vr)
  clear x8 x11
  have hq9 := Hvq.out
  cases sb
  all_goals
    have hvv := Hvr3.out
    simp only [Bool.false_and, Bool.true_and] at hvv
    subst hvv
    go_wp2_with (first | (refine' ld_num (neg := _) (f := _) ?hh rfl _ rfl rfl ?_; case hh => with_reducible first | exact x9))
    refine (HIQ.out _).mono ?_
    rintro e w7 ⟨rfl, hb7⟩
    replace hB := belowN hB x7 hl7 hb7
    replace x7 := x7.next hb7
    replace x10 := x10.next hb7
    clear hb7 x9 c8 c10 f10
    go_wp2_with (first | (refine' ld_num (neg := _) (f := _) ?hh rfl _ rfl rfl ?_; case hh => with_reducible first | exact x10))
    refine (HIR.out _).mono ?_
    rintro e w8 ⟨rfl, hb8⟩
    replace hB := belowN hB x7 hl7 hb8
    clear hb8 x7 x10
    cases is
    all_goals
      go_wp2_with fail
      go_ret3
      exact ⟨rfl, by rw [Hb0.out]; exact hB⟩
set_option maxRecDepth 100000 in
set_option maxHeartbeats 16000000 in
theorem refFloor_diff1 (a b : Int) (A B : Nat) (sa sb vq vr is : Bool) (zq zr : Int) (im : Bool) (hA9 : A < 2 ^ 199) (hB : B < 2 ^ 199) (hB0 : 0 < B) (hb0 : b ≠ 0) (hd : (sa != sb) = true) (hr : 0 < A % B) (hvq : decide (0 < A / B + 1) = vq) (hvr : (sb && decide (0 < B - A % B)) = vr)
    (hSA : ∀ W, Calls Try.prog 30 #[.int .i64 a] W fun e w' => e = .returned (.agg (numC sa (bitF A))) ∧ Below W.heap.size W w')
    (hSB : ∀ W, Calls Try.prog 30 #[.int .i64 b] W fun e w' => e = .returned (.agg (numC sb (bitF B))) ∧ Below W.heap.size W w')
    (hIQ : ∀ W, Calls Try.prog 38 #[.agg (numC vq (bitF (A / B + 1)))] W fun e w' => e = .returned (.tuple #[.int .i64 zq, .bool is]) ∧ Below W.heap.size W w')
    (hIR : ∀ W, Calls Try.prog 38 #[.agg (numC vr (bitF (B - A % B)))] W fun e w' => e = .returned (.tuple #[.int .i64 zr, .bool im]) ∧ Below W.heap.size W w') (w : World) :
    Calls Try.prog 15 #[.int .i64 a, .int .i64 b] w fun e w' => e = .returned (cond is (.tuple #[.int .i64 zq, .int .i64 zr, .int .i64 0]) (.tuple #[.int .i64 0, .int .i64 0, .int .i64 10])) ∧ Below w.heap.size w w' := by
  have hA : A < 2 ^ 200 := Nat.lt_trans hA9 (by decide)
  have hz := num_zero
  have hbd := num_build
  have hq200 : A / B < 2 ^ 200 := Nat.lt_of_le_of_lt (Nat.div_le_self _ _) hA
  have hml : A % B < B := Nat.mod_lt _ hB0
  have hr200 : A % B < 2 ^ 200 := Nat.lt_trans hml (Nat.lt_trans hB (by decide))
  have hR200 : (B - A % B) < 2 ^ 200 := Nat.lt_of_le_of_lt (show (B - A % B) ≤ B by omega) (Nat.lt_trans hB (by decide))
  have HP := Lib.hid (num_parts sa sb A B hA hB hB0)
  have HB1 := Lib.hid (num_bare false false (A % B) 0 hr200 (by decide))
  have HB3 := Lib.hid (num_bare false false (B - A % B) 0 hR200 (by decide))
  rw [bitF_z] at HB1 HB3
  have HA := Lib.hid hSA
  have HB := Lib.hid hSB
  have HIQ := Lib.hid hIQ
  have HIR := Lib.hid hIR
  have Hvq := Lib.hid hvq
  have Hvr := Lib.hid hvr
  have hQ200 : (A / B + 1) < 2 ^ 200 := Nat.lt_of_le_of_lt (show A / B + 1 ≤ A + 1 by have := Nat.div_le_self A B; omega) (Nat.lt_of_lt_of_le (Nat.succ_lt_succ hA9) (by decide))
  have HB2 := Lib.hid (num_bare false false (A / B + 1) 0 hQ200 (by decide))
  rw [bitF_z] at HB2
  have HPL := Lib.hid (num_plus false false (A / B) 1)
  have HMI := Lib.hid (num_minus sb false B (A % B) (Nat.le_of_lt hml))
  have kb : (b == 0) = false := by simp; exact hb0
  have hd2 : (sa == sb) = false := by revert hd; cases sa <;> cases sb <;> decide
  obtain ⟨c1, hc1⟩ : ∃ c, cmpN (A % B) 0 = c := ⟨_, rfl⟩
  have kc1 : decide (c1 > 0) = decide (0 < A % B) := by rw [← hc1]; exact cmp_pos _
  rw [hc1] at HB1
  obtain ⟨c3, hc3⟩ : ∃ c, cmpN (B - A % B) 0 = c := ⟨_, rfl⟩
  have kc3 : decide (c3 > 0) = decide (0 < B - A % B) := by rw [← hc3]; exact cmp_pos _
  rw [hc3] at HB3
  obtain ⟨c2, hc2⟩ : ∃ c, cmpN (A / B + 1) 0 = c := ⟨_, rfl⟩
  have kc2 : decide (c2 > 0) = decide (0 < A / B + 1) := by rw [← hc2]; exact cmp_pos _
  rw [hc2] at HB2
  replace kc2 : decide (c2 > 0) = vq := kc2.trans hvq
  have kc2' : decide (0 < c2) = vq := kc2
  replace kc1 : decide (c1 > 0) = true := by rw [kc1]; exact decide_eq_true hr
  have kc1' : decide (0 < c1) = true := kc1
  obtain ⟨d3, hd3⟩ : ∃ d, decide (0 < B - A % B) = d := ⟨_, rfl⟩
  rw [hd3] at kc3
  have kc3' : decide (0 < c3) = d3 := kc3
  have Hvr3 : Hid ((sb && d3) = vr) := by rw [← hd3]; exact hvr
  obtain ⟨b0, hb0'⟩ : ∃ b0, w.heap.size = b0 := ⟨_, rfl⟩
  have Hb0 := Lib.hid hb0'
  have hB0 := Below.refl b0 w
  have hs0 : b0 ≤ w.heap.size := by omega
  clear hA9 hSA hSB hIQ hIR hvq hvr hc1 hc3 hd3 hq200 hml hr200 hR200 hA hB hb0' hb0 hc2 hr hQ200
  go_enter Try.func15, Try.ntmps15
  go_wp2_with fail
  refine (HA.out w).mono ?_
  rintro e w1 ⟨rfl, hb1⟩
  have hB1 := hB0.trans (hb1.mono hs0)
  have hs1 := Nat.le_trans hs0 hb1.size
  clear hB0 hb1 hs0 HA
  have m7 := NB.new w1 false (fun _ => 0)
  obtain ⟨W1, hW1, x7, -, hbx⟩ := alloc_put2 w1 sa (bitF A)
  have hB := hbx _ _ hB1 hs1
  have hl7 : b0 ≤ w1.heap.size := hs1
  clear hbx hB1 hs1
  subst hW1
  go_wp2_with (first | (refine' st_num (neg := _) (f := _) ?hh rfl _ _ rfl rfl _ _ rfl ?_; case hh => with_reducible first | exact m7))
  refine (HB.out _).mono ?_
  rintro e w2 ⟨rfl, hb2⟩
  clear m7
  generalize w1.heap.size = g7 at *
  replace hB := belowN hB x7 hl7 hb2
  replace x7 := x7.next hb2
  have hl8 : g7 < w2.heap.size := x7.lt
  have m8 := NB.new w2 false (fun _ => 0)
  obtain ⟨W2, hW2, x8, hx, hbx⟩ := alloc_put2 w2 sb (bitF B)
  replace hB := hbx _ _ hB (by omega)
  replace x7 := hx _ _ _ x7
  clear hbx hx hb2 HB
  subst hW2
  go_wp2_with (first | (refine' st_num (neg := _) (f := _) ?hh rfl _ _ rfl rfl _ _ rfl ?_; case hh => with_reducible first | exact m8) | (refine' ld_num (neg := _) (f := _) ?hh rfl _ rfl rfl ?_; case hh => with_reducible first | exact x7 | exact x8))
  refine (HP.out _).mono ?_
  rintro e w3 ⟨rfl, hb3⟩
  clear m8
  generalize w2.heap.size = g8 at *
  replace hB := belowN hB x7 hl7 hb3
  replace x7 := x7.next hb3
  replace x8 := x8.next hb3
  have hl9 : g8 < w3.heap.size := x8.lt
  obtain ⟨W3, hW3, x9, x10, hx, hbx, m9, m10, hs3⟩ := alloc_two w3 (bitF (A / B)) (bitF (A % B))
  replace hB := hbx _ _ hB (by omega)
  replace x7 := hx _ _ _ x7
  replace x8 := hx _ _ _ x8
  clear hbx hx hb3 HP
  have m11 := NB.new W3 false (fun _ => 0)
  obtain ⟨W4, hW4, x11, hx, hbx⟩ := alloc_put W3 (fun _ => 0)
  rw [hs3] at m11 x11
  replace hB := hbx _ _ hB (by have := x9.lt; omega)
  replace x7 := hx _ _ _ x7
  replace x8 := hx _ _ _ x8
  replace x9 := hx _ _ _ x9
  replace x10 := hx _ _ _ x10
  clear hx hbx
  rw [hs3] at hW4
  clear hs3
  subst hW4
  subst hW3
  go_wp2_with (first | (refine' st_num (neg := _) (f := _) ?hh rfl _ _ rfl rfl _ _ rfl ?_; case hh => with_reducible first | exact m9 | exact m10 | exact m11) | (refine' ld_num (neg := _) (f := _) ?hh rfl _ rfl rfl ?_; case hh => with_reducible first | exact x10 | exact x11))
  refine (HB1.out _).mono ?_
  rintro e w4 ⟨rfl, hb4⟩
  clear m9 m10 m11
  generalize w3.heap.size = g9 at *
  replace hB := belowN hB x7 hl7 hb4
  replace x7 := x7.next hb4
  replace x8 := x8.next hb4
  replace x9 := x9.next hb4
  replace x10 := x10.next hb4
  replace x11 := x11.next hb4
  clear hb4 HB1
  have c7 := x7.c0
  have c8 := x8.c0
  go_wp2_with fail
  clear c7 c8
  refine wp_region_any (by kernel_rfl) ?_
  have X7 : NB { w4 with drawn := w4.drawn + 1 } g7 sa (bitF A) := x7
  have X8 : NB { w4 with drawn := w4.drawn + 1 } g8 sb (bitF B) := x8
  have X9 : NB { w4 with drawn := w4.drawn + 1 } g9 false (bitF (A / B)) := x9
  have X10 : NB { w4 with drawn := w4.drawn + 1 } (g9 + 1) false (bitF (A % B)) := x10
  have X11 : NB { w4 with drawn := w4.drawn + 1 } (g9 + 1 + 1) false (fun _ => 0) := x11
  have hB : Below b0 w { w4 with drawn := w4.drawn + 1 } := hB.drew
  clear x7 x8 x9 x10 x11
  generalize ({ w4 with drawn := w4.drawn + 1 } : World) = W5 at *
  have x7 := X7
  have x8 := X8
  have x9 := X9
  have x10 := X10
  have x11 := X11
  clear X7 X8 X9 X10 X11
  refine wpAny_ready (rs := [0, 1]) (by kernel_rfl) (by simp) ?_
  refine AllReady.cons rfl (fun K0 hK0 => ?_) (AllReady.cons rfl (fun K0 hK0 => ?_) (AllReady.nil))
  · refine step_ldN x9 rfl (.tmp 9) rfl rfl ?_
    refine hK0 _ _ ?_
    simp only [Act.put, List.getElem_toArray, List.getElem_cons_succ, List.getElem_cons_zero, List.setIfInBounds_toArray, List.set_cons_zero, List.set_cons_succ]
    refine wpAny_ready (rs := [1]) (by kernel_rfl) (by simp) ?_
    refine AllReady.cons rfl (fun K1 hK1 => ?_) (AllReady.nil)
    refine step_callN rfl 36 #[.const (.int .u64 1)] _ rfl #[.int .u64 ((1 : Nat) : Int)] (by simp [Act.eval, Act.put]) (enters_of Try.func36 (by kernel_rfl) rfl) (num_of 1 (by omega) _) ?_
    rintro e wd ⟨rfl, hbd1⟩
    refine ⟨_, rfl, ?_⟩
    replace hB := belowN hB x7 hl7 hbd1
    replace x7 := x7.next hbd1
    replace x8 := x8.next hbd1
    replace x9 := x9.next hbd1
    replace x10 := x10.next hbd1
    replace x11 := x11.next hbd1
    refine hK1 _ _ ?_
    simp only [Act.put, List.getElem_toArray, List.getElem_cons_succ, List.getElem_cons_zero, List.setIfInBounds_toArray, List.set_cons_zero, List.set_cons_succ]
    refine wpAny_ready (rs := [2]) (by kernel_rfl) (by simp) ?_
    refine AllReady.cons rfl (fun K2 hK2 => ?_) (AllReady.nil)
    refine step_callN rfl 35 #[.tmp 41, .tmp 42] _ rfl #[.agg (numC false (bitF (A / B))), .agg (numC false (bitF 1))] (by simp [Act.eval, Act.put]) (enters_of Try.func35 (by kernel_rfl) rfl) (HPL.out _) ?_
    rintro e we ⟨rfl, hbe⟩
    refine ⟨_, rfl, ?_⟩
    replace hB := belowN hB x7 hl7 hbe
    replace x7 := x7.next hbe
    replace x8 := x8.next hbe
    replace x9 := x9.next hbe
    replace x10 := x10.next hbe
    replace x11 := x11.next hbe
    refine hK2 _ _ ?_
    simp only [Act.put, List.getElem_toArray, List.getElem_cons_succ, List.getElem_cons_zero, List.setIfInBounds_toArray, List.set_cons_zero, List.set_cons_succ]
    refine wpAny_ready (rs := [3]) (by kernel_rfl) (by simp) ?_
    refine AllReady.cons rfl (fun K3 hK3 => ?_) (AllReady.nil)
    refine step_stN x9 rfl (.tmp 9) (.tmp 43) rfl rfl _ _ rfl ?_
    replace x7 := x7.row g9 (by omega) (numC false (bitF (A / B + 1)))
    replace x8 := x8.row g9 (by omega) (numC false (bitF (A / B + 1)))
    replace x10 := x10.row g9 (by omega) (numC false (bitF (A / B + 1)))
    replace x11 := x11.row g9 (by omega) (numC false (bitF (A / B + 1)))
    replace x9 := x9.put false (bitF (A / B + 1))
    replace hB := below_row hB (g := g9) (by omega) (numC false (bitF (A / B + 1)))
    refine hK3 _ _ ?_
    simp only [Act.put, List.getElem_toArray, List.getElem_cons_succ, List.getElem_cons_zero, List.setIfInBounds_toArray, List.set_cons_zero, List.set_cons_succ]
    refine wpAny_done (by kernel_rfl) ?_ _
    go_wp2_with (first | (refine' ld_num (neg := _) (f := _) ?hh rfl _ rfl rfl ?_; case hh => with_reducible first | exact x8 | exact x10))
    refine (HMI.out _).mono ?_
    rintro e wm ⟨rfl, hbm⟩
    replace hB := belowN hB x7 hl7 hbm
    replace x7 := x7.next hbm
    replace x8 := x8.next hbm
    replace x9 := x9.next hbm
    replace x10 := x10.next hbm
    replace x11 := x11.next hbm
    clear hbm
    have m10 := x10
    replace x7 := x7.row (g9 + 1) (by omega) (numC false (bitF (B - A % B)))
    replace x8 := x8.row (g9 + 1) (by omega) (numC false (bitF (B - A % B)))
    replace x9 := x9.row (g9 + 1) (by omega) (numC false (bitF (B - A % B)))
    replace x11 := x11.row (g9 + 1) (by omega) (numC false (bitF (B - A % B)))
    replace x10 := x10.put false (bitF (B - A % B))
    replace hB := below_row hB (g := g9 + 1) (by omega) (numC false (bitF (B - A % B)))
    go_wp2_with (first | (refine' st_num (neg := _) (f := _) ?hh rfl _ _ rfl rfl _ _ rfl ?_; case hh => with_reducible first | exact m10) | (refine' ld_num (neg := _) (f := _) ?hh rfl _ rfl rfl ?_; case hh => with_reducible first | exact x9 | exact x11))
    clear m10
    refine (HB2.out _).mono ?_
    rintro e w5 ⟨rfl, hb5⟩
    replace hB := belowN hB x7 hl7 hb5
    replace x7 := x7.next hb5
    replace x8 := x8.next hb5
    replace x9 := x9.next hb5
    replace x10 := x10.next hb5
    replace x11 := x11.next hb5
    clear hb5
    have c9 := x9.c0
    have f9 := x9.fr 0
    replace x7 := x7.far (p := ⟨g9, 0, none⟩) (by show g7 ≠ g9; omega) (.bool vq)
    replace x8 := x8.far (p := ⟨g9, 0, none⟩) (by show g8 ≠ g9; omega) (.bool vq)
    replace x10 := x10.far (p := ⟨g9, 0, none⟩) (by show g9 + 1 ≠ g9; omega) (.bool vq)
    replace x11 := x11.far (p := ⟨g9, 0, none⟩) (by show (g9 + 1 + 1) ≠ g9; omega) (.bool vq)
    replace x9 := x9.setN vq
    replace hB := below_setC hB (p := ⟨g9, 0, none⟩) (by show b0 ≤ g9; omega) (.bool vq)
    go_wp2_with (first | (refine' ld_num (neg := _) (f := _) ?hh rfl _ rfl rfl ?_; case hh => with_reducible first | exact x10 | exact x11))
    refine (HB3.out _).mono ?_
    rintro e w6 ⟨rfl, hb6⟩
    try clear c9 f9
    try clear c7 c8
    replace hB := belowN hB x7 hl7 hb6
    replace x7 := x7.next hb6
    replace x8 := x8.next hb6
    replace x9 := x9.next hb6
    replace x10 := x10.next hb6
    replace x11 := x11.next hb6
    clear hb6
    have c8 := x8.c0
    have c10 := x10.c0
    have f10 := x10.fr 0
    replace x7 := x7.far (p := ⟨g9 + 1, 0, none⟩) (by show g7 ≠ g9 + 1; omega) (.bool vr)
    replace x9 := x9.far (p := ⟨g9 + 1, 0, none⟩) (by show g9 ≠ g9 + 1; omega) (.bool vr)
    replace x10 := x10.setN vr
    replace hB := below_setC hB (p := ⟨g9 + 1, 0, none⟩) (by show b0 ≤ g9 + 1; omega) (.bool vr)
    clear x8 x11
    have hq9 := Hvq.out
    cases sb
    all_goals
      have hvv := Hvr3.out
      simp only [Bool.false_and, Bool.true_and] at hvv
      subst hvv
      go_wp2_with (first | (refine' ld_num (neg := _) (f := _) ?hh rfl _ rfl rfl ?_; case hh => with_reducible first | exact x9))
      refine (HIQ.out _).mono ?_
      rintro e w7 ⟨rfl, hb7⟩
      replace hB := belowN hB x7 hl7 hb7
      replace x7 := x7.next hb7
      replace x10 := x10.next hb7
      clear hb7 x9 c8 c10 f10
      go_wp2_with (first | (refine' ld_num (neg := _) (f := _) ?hh rfl _ rfl rfl ?_; case hh => with_reducible first | exact x10))
      refine (HIR.out _).mono ?_
      rintro e w8 ⟨rfl, hb8⟩
      replace hB := belowN hB x7 hl7 hb8
      clear hb8 x7 x10
      cases is
      all_goals
        go_wp2_with fail
        go_ret3
        exact ⟨rfl, by rw [Hb0.out]; exact hB⟩
  · refine step_callN rfl 36 #[.const (.int .u64 1)] _ rfl #[.int .u64 ((1 : Nat) : Int)] (by simp [Act.eval, Act.put]) (enters_of Try.func36 (by kernel_rfl) rfl) (num_of 1 (by omega) _) ?_
    rintro e wd ⟨rfl, hbd1⟩
    refine ⟨_, rfl, ?_⟩
    replace hB := belowN hB x7 hl7 hbd1
    replace x7 := x7.next hbd1
    replace x8 := x8.next hbd1
    replace x9 := x9.next hbd1
    replace x10 := x10.next hbd1
    replace x11 := x11.next hbd1
    refine hK0 _ _ ?_
    simp only [Act.put, List.getElem_toArray, List.getElem_cons_succ, List.getElem_cons_zero, List.setIfInBounds_toArray, List.set_cons_zero, List.set_cons_succ]
    refine wpAny_ready (rs := [0]) (by kernel_rfl) (by simp) ?_
    refine AllReady.cons rfl (fun K1 hK1 => ?_) (AllReady.nil)
    refine step_ldN x9 rfl (.tmp 9) rfl rfl ?_
    refine hK1 _ _ ?_
    simp only [Act.put, List.getElem_toArray, List.getElem_cons_succ, List.getElem_cons_zero, List.setIfInBounds_toArray, List.set_cons_zero, List.set_cons_succ]
    refine wpAny_ready (rs := [2]) (by kernel_rfl) (by simp) ?_
    refine AllReady.cons rfl (fun K2 hK2 => ?_) (AllReady.nil)
    refine step_callN rfl 35 #[.tmp 41, .tmp 42] _ rfl #[.agg (numC false (bitF (A / B))), .agg (numC false (bitF 1))] (by simp [Act.eval, Act.put]) (enters_of Try.func35 (by kernel_rfl) rfl) (HPL.out _) ?_
    rintro e we ⟨rfl, hbe⟩
    refine ⟨_, rfl, ?_⟩
    replace hB := belowN hB x7 hl7 hbe
    replace x7 := x7.next hbe
    replace x8 := x8.next hbe
    replace x9 := x9.next hbe
    replace x10 := x10.next hbe
    replace x11 := x11.next hbe
    refine hK2 _ _ ?_
    simp only [Act.put, List.getElem_toArray, List.getElem_cons_succ, List.getElem_cons_zero, List.setIfInBounds_toArray, List.set_cons_zero, List.set_cons_succ]
    refine wpAny_ready (rs := [3]) (by kernel_rfl) (by simp) ?_
    refine AllReady.cons rfl (fun K3 hK3 => ?_) (AllReady.nil)
    refine step_stN x9 rfl (.tmp 9) (.tmp 43) rfl rfl _ _ rfl ?_
    replace x7 := x7.row g9 (by omega) (numC false (bitF (A / B + 1)))
    replace x8 := x8.row g9 (by omega) (numC false (bitF (A / B + 1)))
    replace x10 := x10.row g9 (by omega) (numC false (bitF (A / B + 1)))
    replace x11 := x11.row g9 (by omega) (numC false (bitF (A / B + 1)))
    replace x9 := x9.put false (bitF (A / B + 1))
    replace hB := below_row hB (g := g9) (by omega) (numC false (bitF (A / B + 1)))
    refine hK3 _ _ ?_
    simp only [Act.put, List.getElem_toArray, List.getElem_cons_succ, List.getElem_cons_zero, List.setIfInBounds_toArray, List.set_cons_zero, List.set_cons_succ]
    refine wpAny_done (by kernel_rfl) ?_ _
    go_wp2_with (first | (refine' ld_num (neg := _) (f := _) ?hh rfl _ rfl rfl ?_; case hh => with_reducible first | exact x8 | exact x10))
    refine (HMI.out _).mono ?_
    rintro e wm ⟨rfl, hbm⟩
    replace hB := belowN hB x7 hl7 hbm
    replace x7 := x7.next hbm
    replace x8 := x8.next hbm
    replace x9 := x9.next hbm
    replace x10 := x10.next hbm
    replace x11 := x11.next hbm
    clear hbm
    have m10 := x10
    replace x7 := x7.row (g9 + 1) (by omega) (numC false (bitF (B - A % B)))
    replace x8 := x8.row (g9 + 1) (by omega) (numC false (bitF (B - A % B)))
    replace x9 := x9.row (g9 + 1) (by omega) (numC false (bitF (B - A % B)))
    replace x11 := x11.row (g9 + 1) (by omega) (numC false (bitF (B - A % B)))
    replace x10 := x10.put false (bitF (B - A % B))
    replace hB := below_row hB (g := g9 + 1) (by omega) (numC false (bitF (B - A % B)))
    go_wp2_with (first | (refine' st_num (neg := _) (f := _) ?hh rfl _ _ rfl rfl _ _ rfl ?_; case hh => with_reducible first | exact m10) | (refine' ld_num (neg := _) (f := _) ?hh rfl _ rfl rfl ?_; case hh => with_reducible first | exact x9 | exact x11))
    clear m10
    refine (HB2.out _).mono ?_
    rintro e w5 ⟨rfl, hb5⟩
    replace hB := belowN hB x7 hl7 hb5
    replace x7 := x7.next hb5
    replace x8 := x8.next hb5
    replace x9 := x9.next hb5
    replace x10 := x10.next hb5
    replace x11 := x11.next hb5
    clear hb5
    have c9 := x9.c0
    have f9 := x9.fr 0
    replace x7 := x7.far (p := ⟨g9, 0, none⟩) (by show g7 ≠ g9; omega) (.bool vq)
    replace x8 := x8.far (p := ⟨g9, 0, none⟩) (by show g8 ≠ g9; omega) (.bool vq)
    replace x10 := x10.far (p := ⟨g9, 0, none⟩) (by show g9 + 1 ≠ g9; omega) (.bool vq)
    replace x11 := x11.far (p := ⟨g9, 0, none⟩) (by show (g9 + 1 + 1) ≠ g9; omega) (.bool vq)
    replace x9 := x9.setN vq
    replace hB := below_setC hB (p := ⟨g9, 0, none⟩) (by show b0 ≤ g9; omega) (.bool vq)
    go_wp2_with (first | (refine' ld_num (neg := _) (f := _) ?hh rfl _ rfl rfl ?_; case hh => with_reducible first | exact x10 | exact x11))
    refine (HB3.out _).mono ?_
    rintro e w6 ⟨rfl, hb6⟩
    try clear c9 f9
    try clear c7 c8
    replace hB := belowN hB x7 hl7 hb6
    replace x7 := x7.next hb6
    replace x8 := x8.next hb6
    replace x9 := x9.next hb6
    replace x10 := x10.next hb6
    replace x11 := x11.next hb6
    clear hb6
    have c8 := x8.c0
    have c10 := x10.c0
    have f10 := x10.fr 0
    replace x7 := x7.far (p := ⟨g9 + 1, 0, none⟩) (by show g7 ≠ g9 + 1; omega) (.bool vr)
    replace x9 := x9.far (p := ⟨g9 + 1, 0, none⟩) (by show g9 ≠ g9 + 1; omega) (.bool vr)
    replace x10 := x10.setN vr
    replace hB := below_setC hB (p := ⟨g9 + 1, 0, none⟩) (by show b0 ≤ g9 + 1; omega) (.bool vr)
    clear x8 x11
    have hq9 := Hvq.out
    cases sb
    all_goals
      have hvv := Hvr3.out
      simp only [Bool.false_and, Bool.true_and] at hvv
      subst hvv
      go_wp2_with (first | (refine' ld_num (neg := _) (f := _) ?hh rfl _ rfl rfl ?_; case hh => with_reducible first | exact x9))
      refine (HIQ.out _).mono ?_
      rintro e w7 ⟨rfl, hb7⟩
      replace hB := belowN hB x7 hl7 hb7
      replace x7 := x7.next hb7
      replace x10 := x10.next hb7
      clear hb7 x9 c8 c10 f10
      go_wp2_with (first | (refine' ld_num (neg := _) (f := _) ?hh rfl _ rfl rfl ?_; case hh => with_reducible first | exact x10))
      refine (HIR.out _).mono ?_
      rintro e w8 ⟨rfl, hb8⟩
      replace hB := belowN hB x7 hl7 hb8
      clear hb8 x7 x10
      cases is
      all_goals
        go_wp2_with fail
        go_ret3
        exact ⟨rfl, by rw [Hb0.out]; exact hB⟩
end Go.Proofs.Ytbbbjgilbddabaa
