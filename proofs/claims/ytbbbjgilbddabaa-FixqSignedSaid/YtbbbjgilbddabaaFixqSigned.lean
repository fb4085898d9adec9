/-
  FixqSigned, walked. Conditions stand at each theorem.
-/
import Derived.Test.YtbbbjgilbddabaaFloorA
import Derived.Test.YtbbbjgilbddabaaFloorB
import Derived.Test.YtbbbjgilbddabaaFixqSums
namespace Go.Proofs.Ytbbbjgilbddabaa
open Go Go.RowKit Go.Kw Go.Kw.Nm
set_option linter.unusedVariables false
set_option linter.unusedSimpArgs false

theorem floorV_of (a b q' : Int) (is : Bool) (ha : inR a) (hb : inR b) (h0 : b ≠ 0) (h : intV (flQ a b) = .tuple #[.int .i64 q', .bool is]) :
    floorV a b = cond is (.tuple #[.int .i64 q', .int .i64 (flR a b), .int .i64 0]) (.tuple #[.int .i64 0, .int .i64 0, .int .i64 10]) := by
  unfold floorV
  rw [if_neg h0]
  by_cases ho : a = -9223372036854775808 ∧ b = -1
  · rw [if_pos ho]
    obtain ⟨rfl, rfl⟩ := ho
    have e : flQ (-9223372036854775808) (-1) = 9223372036854775808 := by decide
    rw [e, intV_no _ (by unfold inZ; omega)] at h
    injection h with h
    simp at h
    obtain ⟨-, rfl⟩ := h
    rfl
  · rw [if_neg ho]
    have hin : inZ (flQ a b) := by
      obtain ⟨q, r, -, -, h1, h2, h3⟩ := fl_code a b ha hb h0 ho
      unfold inZ
      rcases h3 with ⟨-, e, -⟩ | ⟨-, -, e, -⟩ | ⟨-, -, e, -, h5, -⟩ <;> rw [e] <;> omega
    rw [intV_yes _ hin] at h
    injection h with h
    simp at h
    obtain ⟨e, rfl⟩ := h
    rw [e]; rfl
theorem numZ_of (z : Int) (s : Bool) (N : Nat) (h1 : decide (z < 0) = s) (h2 : z.natAbs = N) : numZ z = .agg (numC s (bitF N)) := by unfold numZ; rw [h1, h2]
theorem refFloor_calls (a b : Int) (ha : inR a) (hb : inR b) (w : World) :
    Calls Try.prog 15 #[.int .i64 a, .int .i64 b] w fun e w' => e = .returned (floorV a b) ∧ Below w.heap.size w w' := by
  by_cases h0 : b = 0
  · subst h0
    unfold floorV
    rw [if_pos rfl]
    go_enter Try.func15, Try.ntmps15
    go_wp2_with fail
    go_ret3
    exact ⟨rfl, Below.refl _ _⟩
  · have ha' := ha
    have hb' := hb
    unfold inR at ha' hb'
    have hA : a.natAbs < 2 ^ 199 := Nat.lt_of_le_of_lt (show a.natAbs ≤ 2 ^ 63 by omega) (by decide)
    have hB : b.natAbs < 2 ^ 199 := Nat.lt_of_le_of_lt (show b.natAbs ≤ 2 ^ 63 by omega) (by decide)
    have hSA := num_signed a (by omega) (by omega)
    have hSB := num_signed b (by omega) (by omega)
    have hm := Nat.mod_lt a.natAbs (show 0 < b.natAbs by omega)
    obtain ⟨q', is, hq⟩ : ∃ q' is, intV (flQ a b) = .tuple #[.int .i64 q', .bool is] := ⟨_, _, rfl⟩
    rw [floorV_of a b q' is ha hb h0 hq]
    have hdl := Nat.div_le_self a.natAbs b.natAbs
    have hM : flM a b ≤ b.natAbs ∧ (flM a b < b.natAbs ∨ flM a b = 0) := by unfold flM; split <;> rename_i h <;> (try simp at h) <;> omega
    have hrz : inZ (flR a b) := by unfold flR inZ; split <;> omega
    have hIR := num_int (flR a b) (Nat.lt_of_le_of_lt (show (flR a b).natAbs ≤ 2 ^ 63 by unfold inZ at hrz; omega) (by decide))
    rw [intV_yes _ hrz] at hIR
    have hN : flN a b ≤ 2 ^ 63 + 1 := by unfold flN; split <;> omega
    have hIQ := num_int (flQ a b) (Nat.lt_of_le_of_lt (show (flQ a b).natAbs ≤ 2 ^ 63 + 1 by unfold flQ; split <;> omega) (by decide))
    rw [hq] at hIQ
    have er : numZ (flR a b) = .agg (numC (decide (b < 0) && decide (0 < flM a b)) (bitF (flM a b))) := numZ_of _ _ _ (by
      unfold flR
      by_cases hs : b < 0
      · rw [if_pos hs, decide_eq_true hs, Bool.true_and]; exact decide_eq_decide.2 (by omega)
      · rw [if_neg hs, decide_eq_false hs, Bool.false_and]; exact decide_eq_false (by omega)) (by unfold flR; split <;> omega)
    rw [er] at hIR
    have ed : (decide (a < 0) != decide (b < 0)) = diffS a b := rfl
    unfold numZ at hSA hSB
    cases hd : diffS a b with
    | false =>
      have eN : flN a b = a.natAbs / b.natAbs := by unfold flN; rw [hd]; rfl
      have eM : flM a b = a.natAbs % b.natAbs := by unfold flM; rw [hd]; rfl
      have eq : numZ (flQ a b) = .agg (numC false (bitF (flN a b))) := numZ_of _ _ _ (by unfold flQ; rw [hd]; exact decide_eq_false (by simp)) (by unfold flQ; rw [hd]; simp)
      rw [eq, eN] at hIQ
      rw [eM] at hIR
      exact refFloor_same a b a.natAbs b.natAbs _ _ false _ is q' (flR a b) true hA hB (by omega) h0 (ed.trans hd) rfl rfl hSA hSB hIQ hIR w
    | true =>
      have eq : numZ (flQ a b) = .agg (numC (decide (0 < flN a b)) (bitF (flN a b))) := numZ_of _ _ _ (by unfold flQ; rw [hd, if_pos rfl]; exact decide_eq_decide.2 (by omega)) (by unfold flQ; rw [hd, if_pos rfl]; omega)
      rw [eq] at hIQ
      by_cases hr : 0 < a.natAbs % b.natAbs
      · have eN : flN a b = a.natAbs / b.natAbs + 1 := by unfold flN; rw [hd, decide_eq_true hr]; rfl
        have eM : flM a b = b.natAbs - a.natAbs % b.natAbs := by unfold flM; rw [hd, decide_eq_true hr]; rfl
        rw [eN] at hIQ
        rw [eM] at hIR
        exact refFloor_diff1 a b a.natAbs b.natAbs _ _ _ _ is q' (flR a b) true hA hB (by omega) h0 (ed.trans hd) hr rfl rfl hSA hSB hIQ hIR w
      · have eN : flN a b = a.natAbs / b.natAbs := by unfold flN; rw [hd, decide_eq_false hr]; rfl
        have eM : flM a b = a.natAbs % b.natAbs := by unfold flM; rw [hd, decide_eq_false hr]; rfl
        rw [eN] at hIQ
        rw [eM] at hIR
        exact refFloor_diff0 a b a.natAbs b.natAbs _ _ _ _ is q' (flR a b) true hA hB (by omega) h0 (ed.trans hd) (by omega) rfl rfl hSA hSB hIQ hIR w
theorem okV_pair (z : Int) : ∃ x y : Int, okV z = .tuple #[.int .i64 x, .int .i64 y] := by
  unfold okV; split <;> exact ⟨_, _, rfl⟩
theorem floorV_three (a b : Int) : ∃ x y z : Int, floorV a b = .tuple #[.int .i64 x, .int .i64 y, .int .i64 z] := by
  unfold floorV; split
  · exact ⟨_, _, _, rfl⟩
  · split <;> exact ⟨_, _, _, rfl⟩
set_option maxRecDepth 100000 in
set_option maxHeartbeats 4000000 in
theorem fixqSigned_walk (a0 : Int) (a1 : Int) (w : World) (w0 : (Lit.int .i64 a0).wf = true) (w1 : (Lit.int .i64 a1).wf = true) :
    Calls Try.prog 3 #[.int .i64 a0, .int .i64 a1] w fun e w' => e = .returned (.bool true) ∧ Below w.heap.size w w' := by
  have h0 : inR a0 := Go.bounds_i64 w0
  have h1 : inR a1 := Go.bounds_i64 w1
  clear w0 w1
  have z0 : inZ a0 := by unfold inR at h0; unfold inZ; omega
  have z1 : inZ a1 := by unfold inR at h1; unfold inZ; omega
  obtain ⟨x1, y1, e1⟩ := okV_pair (a0 + a1)
  obtain ⟨x2, y2, e2⟩ := okV_pair (a0 - a1)
  obtain ⟨x3, y3, e3⟩ := okV_pair (a0 * a1)
  obtain ⟨x4, y4, z4, e4⟩ := floorV_three a0 a1
  have A1 := add_calls a0 a1 h0 h1
  have A2 := sub_calls a0 a1 h0 h1
  have A3 := mul_calls a0 a1 h0 h1
  have A4 := floor_walk a0 a1 h0 h1
  have R1 := refAdd_calls a0 a1 z0 z1
  have R2 := refSub_calls a0 a1 z0 z1
  have R3 := refMul_calls a0 a1 z0 z1
  have R4 := refFloor_calls a0 a1 h0 h1
  rw [told_okV] at R1 R2 R3
  rw [e1] at A1 R1
  rw [e2] at A2 R2
  rw [e3] at A3 R3
  rw [e4] at A4 R4
  have A1 := Lib.hid A1
  have A2 := Lib.hid A2
  have A3 := Lib.hid A3
  have A4 := Lib.hid A4
  have R1 := Lib.hid R1
  have R2 := Lib.hid R2
  have R3 := Lib.hid R3
  have R4 := Lib.hid R4
  clear e1 e2 e3 e4 h0 h1 z0 z1
  go_enter Try.func3, Try.ntmps3
  go_wp2_with fail
  refine (A1.out _).mono ?_
  rintro e w1 ⟨rfl, rfl⟩
  go_wp2_with fail
  refine (R1.out _).mono ?_
  rintro e w2 ⟨rfl, hb2⟩
  go_wp2_with fail
  refine (A2.out _).mono ?_
  rintro e w3 ⟨rfl, rfl⟩
  go_wp2_with fail
  refine (R2.out _).mono ?_
  rintro e w4 ⟨rfl, hb4⟩
  have hb4 := bnext hb2 hb4
  go_wp2_with fail
  refine (A3.out _).mono ?_
  rintro e w5 ⟨rfl, rfl⟩
  go_wp2_with fail
  refine (R3.out _).mono ?_
  rintro e w6 ⟨rfl, hb6⟩
  have hb6 := bnext hb4 hb6
  go_wp2_with fail
  refine (A4.out _).mono ?_
  rintro e w7 ⟨rfl, hb7⟩
  have hb7 := bnext hb6 hb7
  go_wp2_with fail
  refine (R4.out _).mono ?_
  rintro e w8 ⟨rfl, hb8⟩
  have hb8 := bnext hb7 hb8
  go_wp2_with fail
  go_ret
  exact ⟨rfl, hb8⟩
end Go.Proofs.Ytbbbjgilbddabaa
