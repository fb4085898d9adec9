/-
  Less of numbers of 200 bits, and the document's Add, Sub and Mul, walked. Conditions stand at each theorem.
-/
import Derived.Test.YtbbbjgilbddabaaNumD
import Derived.Test.YtbbbjgilbddabaaNumC
namespace Go.Proofs.Ytbbbjgilbddabaa
open Go Go.RowKit Go.Kw Go.Kw.Nm
set_option linter.unusedVariables false
set_option linter.unusedSimpArgs false

theorem cmp_pos (X : Nat) : decide (cmpN X 0 > 0) = decide (0 < X) := by
  unfold cmpN; rw [if_neg (by omega)]
  by_cases he : X = 0
  · rw [if_pos he, he]; simp
  · rw [if_neg he]; simp; omega
set_option maxRecDepth 100000 in
set_option maxHeartbeats 2000000 in
theorem num_less_core (na nb v nr : Bool) (A B R : Nat) (hB : B < 2 ^ 200) (hv : (!nb && decide (0 < B)) = v)
    (hS : ∀ W, Calls Try.prog 29 #[.agg (numC na (bitF A)), .agg (numC v (bitF B))] W fun e w' => e = .returned (.agg (numC nr (bitF R))) ∧ Below W.heap.size W w') (w : World) :
    Calls Try.prog 31 #[.agg (numC na (bitF A)), .agg (numC nb (bitF B))] w fun e w' => e = .returned (.agg (numC nr (bitF R))) ∧ Below w.heap.size w w' := by
  have hz := num_zero
  have hbd := num_build
  obtain ⟨W, hW, n0, n1, n2, hb⟩ := nb3 w na nb false (bitF A) (bitF B) (fun _ => 0)
  obtain ⟨b0, hb0⟩ : ∃ b0, w.heap.size = b0 := ⟨_, rfl⟩
  rw [hb0] at n0 n1 n2 hb
  have Hb0 := Lib.hid hb0
  obtain ⟨V, hV, x9, hx, hBx⟩ := alloc_put W (fun _ => 0)
  have m9 := NB.new W false (fun _ => 0)
  have x0 := hx _ _ _ n0
  have x1 := hx _ _ _ n1
  have x2 := hx _ _ _ n2
  have hB9 := hBx _ _ hb (Nat.le_of_lt n0.lt)
  clear hx hBx
  subst hV
  have HBare := Lib.hid (fun W => num_bare nb false B 0 hB (by decide) W)
  rw [bitF_z] at HBare
  have kc := cmp_pos B
  have HS := Lib.hid hS
  have Hv := Lib.hid hv
  clear hS hB hv n0 n1 n2 hb
  generalize cmpN B 0 = cc at *
  have kc2 : decide (0 < cc) = decide (0 < B) := kc
  obtain ⟨d, hd⟩ : ∃ d, decide (0 < B) = d := ⟨_, rfl⟩
  have Hd := Lib.hid hd
  rw [hd] at kc kc2
  clear hd
  go_enter Try.func31, Try.ntmps31
  go_wp2_with (first | (refine st_num m9 rfl _ _ rfl rfl _ _ rfl ?_) | (refine ld_num x1 rfl _ rfl rfl ?_) | (refine ld_num x9 rfl _ rfl rfl ?_))
  refine (HBare.out _).mono ?_
  rintro e wq ⟨rfl, hbq⟩
  have q0 := x0.next hbq
  have q1 := x1.next hbq
  have q2 := x2.next hbq
  have hBq := belowN hB9 x0 (Nat.le_refl _) hbq
  have c1 := q1.c0
  have f1 := q1.fr 0
  have y1 := q1.setN v
  have y0 := q0.far (p := ⟨b0 + 1, 0, none⟩) (by simp) (.bool v)
  have y2 := q2.far (p := ⟨b0 + 1, 0, none⟩) (by simp) (.bool v)
  have hBy := below_setC hBq (p := ⟨b0 + 1, 0, none⟩) (Nat.le_succ _) (.bool v)
  clear x0 x1 x2 x9 hbq q0 q1 q2 hB9 HBare m9 hz hbd hBq hW
  cases nb
  all_goals
    have hdv := Hv.out
    rw [Hd.out] at hdv
    simp only [Bool.not_false, Bool.not_true, Bool.false_and, Bool.true_and] at hdv
    subst hdv
    go_wp2_with (first | (refine ld_num y0 rfl _ rfl rfl ?_) | (refine ld_num y1 rfl _ rfl rfl ?_))
    refine (HS.out _).mono ?_
    rintro e wr ⟨rfl, hbr⟩
    have z2 := y2.next hbr
    have hBz := belowN hBy y0 (Nat.le_refl _) hbr
    go_wp2_with (first | (refine st_num z2 rfl _ _ rfl rfl _ _ rfl ?_))
    refine bodyPost_ret (v := .agg (numC nr (bitF R))) (res_num rfl _ _ (b0 + 1 + 1) (z2.put _ _) rfl) rfl ⟨rfl, by rw [Hb0.out]; exact below_row hBz (by omega) _⟩
theorem num_less (a b : Int) (hA : a.natAbs < 2 ^ 200) (hB : b.natAbs < 2 ^ 200) (w : World) : Calls Try.prog 31 #[numZ a, numZ b] w fun e w' => e = .returned (numZ (a - b)) ∧ Below w.heap.size w w' := by
  have e : (!decide (b < 0) && decide (0 < b.natAbs)) = decide (-b < 0) := by
    by_cases h : b < 0
    · rw [decide_eq_true h, decide_eq_false (show ¬ -b < 0 by omega)]; rfl
    · by_cases h0 : b = 0
      · subst h0; simp
      · rw [decide_eq_false h, decide_eq_true (show -b < 0 by omega), decide_eq_true (show 0 < b.natAbs by omega)]; rfl
  have en : (-b).natAbs = b.natAbs := Int.natAbs_neg b
  refine num_less_core _ _ (decide (-b < 0)) _ _ _ _ hB e (fun W => ?_) w
  have := num_sum a (-b) hA (by rw [en]; exact hB) W
  unfold numZ at this
  rw [en] at this
  rw [Int.sub_eq_add_neg]
  exact this
theorem refAdd_calls (a b : Int) (ha : inZ a) (hb : inZ b) (w : World) : Calls Try.prog 9 #[.int .i64 a, .int .i64 b] w fun e w' => e = .returned (toldV (a + b)) ∧ Below w.heap.size w w' := by
  have hA := num_signed a ha.1 ha.2
  have hB := num_signed b hb.1 hb.2
  have hl : a.natAbs ≤ 2 ^ 63 ∧ b.natAbs ≤ 2 ^ 63 := by unfold inZ at ha hb; omega
  have hO := num_sum a b (by omega) (by omega)
  have hT := num_told (a + b) (Nat.lt_of_le_of_lt (Int.natAbs_add_le a b) (by omega))
  obtain ⟨x, y, hxy⟩ : ∃ x y : Int, toldV (a + b) = .tuple #[.int .i64 x, .int .i64 y] := ⟨_, _, rfl⟩
  rw [hxy] at hT ⊢
  generalize a + b = z at *
  have HA := Lib.hid hA
  have HB := Lib.hid hB
  have HO := Lib.hid hO
  have HT := Lib.hid hT
  clear hA hB hO hT hxy hl ha hb
  generalize numZ a = va at *
  generalize numZ b = vb at *
  generalize numZ z = vz at *
  go_enter Try.func9, Try.ntmps9
  go_wp2_with fail
  refine (HA.out _).mono ?_
  rintro e w1 ⟨rfl, hb1⟩
  go_wp2_with fail
  refine (HB.out _).mono ?_
  rintro e w2 ⟨rfl, hb2⟩
  have hb2 := bnext hb1 hb2
  go_wp2_with fail
  refine (HO.out _).mono ?_
  rintro e w3 ⟨rfl, hb3⟩
  have hb3 := bnext hb2 hb3
  go_wp2_with fail
  refine (HT.out _).mono ?_
  rintro e w4 ⟨rfl, hb4⟩
  have hb4 := bnext hb3 hb4
  go_wp2_with fail
  go_ret2
  exact ⟨rfl, hb4⟩
theorem refSub_calls (a b : Int) (ha : inZ a) (hb : inZ b) (w : World) : Calls Try.prog 11 #[.int .i64 a, .int .i64 b] w fun e w' => e = .returned (toldV (a - b)) ∧ Below w.heap.size w w' := by
  have hA := num_signed a ha.1 ha.2
  have hB := num_signed b hb.1 hb.2
  have hl : a.natAbs ≤ 2 ^ 63 ∧ b.natAbs ≤ 2 ^ 63 := by unfold inZ at ha hb; omega
  have hO := num_less a b (by omega) (by omega)
  have hT := num_told (a - b) (Nat.lt_of_le_of_lt (Int.natAbs_sub_le a b) (by omega))
  obtain ⟨x, y, hxy⟩ : ∃ x y : Int, toldV (a - b) = .tuple #[.int .i64 x, .int .i64 y] := ⟨_, _, rfl⟩
  rw [hxy] at hT ⊢
  generalize a - b = z at *
  have HA := Lib.hid hA
  have HB := Lib.hid hB
  have HO := Lib.hid hO
  have HT := Lib.hid hT
  clear hA hB hO hT hxy hl ha hb
  generalize numZ a = va at *
  generalize numZ b = vb at *
  generalize numZ z = vz at *
  go_enter Try.func11, Try.ntmps11
  go_wp2_with fail
  refine (HA.out _).mono ?_
  rintro e w1 ⟨rfl, hb1⟩
  go_wp2_with fail
  refine (HB.out _).mono ?_
  rintro e w2 ⟨rfl, hb2⟩
  have hb2 := bnext hb1 hb2
  go_wp2_with fail
  refine (HO.out _).mono ?_
  rintro e w3 ⟨rfl, hb3⟩
  have hb3 := bnext hb2 hb3
  go_wp2_with fail
  refine (HT.out _).mono ?_
  rintro e w4 ⟨rfl, hb4⟩
  have hb4 := bnext hb3 hb4
  go_wp2_with fail
  go_ret2
  exact ⟨rfl, hb4⟩
theorem num_timesZ (a b : Int) (hB : b.natAbs < 2 ^ 200) (hAB : a.natAbs * b.natAbs < 2 ^ 200) (w : World) : Calls Try.prog 32 #[numZ a, numZ b] w fun e w' => e = .returned (numZ (a * b)) ∧ Below w.heap.size w w' := by
  unfold numZ
  have e : ((decide (a < 0) != decide (b < 0)) && decide (0 < a.natAbs * b.natAbs)) = decide (a * b < 0) := by
    rw [Bool.eq_iff_iff]
    simp only [Bool.and_eq_true, bne_iff_ne, ne_eq, decide_eq_true_iff, decide_eq_decide]
    rw [← Int.natAbs_mul]
    by_cases ha : a < 0
    · by_cases hb : b < 0
      · have := Int.mul_pos_of_neg_of_neg ha hb
        constructor
        · intro h; exact absurd (by simp [ha, hb]) h.1
        · intro h; omega
      · by_cases h0 : b = 0
        · subst h0; simp
        · have := Int.mul_neg_of_neg_of_pos ha (show 0 < b by omega)
          refine ⟨fun _ => this, fun _ => ⟨by simp [ha, hb], by omega⟩⟩
    · by_cases hb : b < 0
      · by_cases h0 : a = 0
        · subst h0; simp
        · have := Int.mul_neg_of_pos_of_neg (show 0 < a by omega) hb
          refine ⟨fun _ => this, fun _ => ⟨by simp [ha, hb], by omega⟩⟩
      · have := Int.mul_nonneg (show 0 ≤ a by omega) (show 0 ≤ b by omega)
        constructor
        · intro h; exact absurd (by simp [ha, hb]) h.1
        · intro h; omega
  rw [← e, Int.natAbs_mul]
  exact num_times _ _ _ _ hB hAB w
theorem refMul_calls (a b : Int) (ha : inZ a) (hb : inZ b) (w : World) : Calls Try.prog 13 #[.int .i64 a, .int .i64 b] w fun e w' => e = .returned (toldV (a * b)) ∧ Below w.heap.size w w' := by
  have hA := num_signed a ha.1 ha.2
  have hB := num_signed b hb.1 hb.2
  have hm : a.natAbs * b.natAbs < 2 ^ 200 := Nat.lt_of_le_of_lt (Nat.mul_le_mul (show a.natAbs ≤ 2 ^ 63 by unfold inZ at ha; omega) (show b.natAbs ≤ 2 ^ 63 by unfold inZ at hb; omega)) (by decide)
  have hl : a.natAbs ≤ 2 ^ 63 ∧ b.natAbs ≤ 2 ^ 63 := by unfold inZ at ha hb; omega
  have hO := num_timesZ a b (by omega) hm
  have hT := num_told (a * b) (by rw [Int.natAbs_mul]; exact hm)
  obtain ⟨x, y, hxy⟩ : ∃ x y : Int, toldV (a * b) = .tuple #[.int .i64 x, .int .i64 y] := ⟨_, _, rfl⟩
  rw [hxy] at hT ⊢
  generalize a * b = z at *
  have HA := Lib.hid hA
  have HB := Lib.hid hB
  have HO := Lib.hid hO
  have HT := Lib.hid hT
  clear hA hB hO hT hxy hl ha hb
  generalize numZ a = va at *
  generalize numZ b = vb at *
  generalize numZ z = vz at *
  go_enter Try.func13, Try.ntmps13
  go_wp2_with fail
  refine (HA.out _).mono ?_
  rintro e w1 ⟨rfl, hb1⟩
  go_wp2_with fail
  refine (HB.out _).mono ?_
  rintro e w2 ⟨rfl, hb2⟩
  have hb2 := bnext hb1 hb2
  go_wp2_with fail
  refine (HO.out _).mono ?_
  rintro e w3 ⟨rfl, hb3⟩
  have hb3 := bnext hb2 hb3
  go_wp2_with fail
  refine (HT.out _).mono ?_
  rintro e w4 ⟨rfl, hb4⟩
  have hb4 := bnext hb3 hb4
  go_wp2_with fail
  go_ret2
  exact ⟨rfl, hb4⟩
end Go.Proofs.Ytbbbjgilbddabaa
