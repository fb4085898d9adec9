/-
  fixq.Carry and fixq.Scale by divisors below 2^32, a setup's check and an energy, both sides, walked. Conditions stand at each theorem.
-/
import Derived.Test.YtjmkbpgakfeceaaDiv64
import Derived.Test.YtjmkbpgakfeceaaNumF
import Derived.Test.YtjmkbpgakfeceaaFixqSum
namespace Go.Proofs.Ytjmkbpgakfeceaa
open Go Go.RowKit Go.Kw Go.Kw.Nm
set_option linter.unusedVariables false
set_option linter.unusedSimpArgs false
set_option maxRecDepth 100000

theorem mul_top (n num : Nat) (hn : n < 18446744073709551616) (hnum : num < 18446744073709551616) : n * num / 18446744073709551616 < 18446744073709551615 := by
  have h : n * num ≤ 18446744073709551615 * 18446744073709551615 := Nat.mul_le_mul (by omega) (by omega)
  omega
theorem over_iff (X den : Nat) (h0 : 0 < den) : X / den < 18446744073709551616 ↔ X / 18446744073709551616 < den := by
  rw [Nat.div_lt_iff_lt_mul h0, Nat.div_lt_iff_lt_mul (by omega)]
  rw [Nat.mul_comm]
theorem carry_over (n num den rest : Nat) (hd : den ≠ 0) (hr : rest < den) (ho : den ≤ (n * num + rest) / 18446744073709551616) : carryV n num den rest = .tuple #[.int .u64 0, .int .u64 0, .int .i64 10] := by
  unfold carryV
  rw [if_neg hd, if_neg (by omega), if_neg]
  rw [over_iff _ _ (by omega)]; omega
theorem carry_fine (n num den rest : Nat) (hd : den ≠ 0) (hr : rest < den) (ho : (n * num + rest) / 18446744073709551616 < den) : carryV n num den rest = .tuple #[.int .u64 (((n * num + rest) / den : Nat) : Int), .int .u64 (((n * num + rest) % den : Nat) : Int), .int .i64 0] := by
  unfold carryV
  rw [if_neg hd, if_neg (by omega), if_pos]
  rw [over_iff _ _ (by omega)]; omega
theorem carry_calls (n num den rest : Nat) (hn : n < 18446744073709551616) (hnum : num < 18446744073709551616) (hden : den < 4294967296) (hd : den ≠ 0) (hr : rest < den) (w : World) :
    Calls Try.prog 41 #[.int .u64 n, .int .u64 num, .int .u64 den, .int .u64 rest] w fun e w' => e = .returned (carryV n num den rest) ∧ Below w.heap.size w w' := by
  have ht := mul_top n num hn hnum
  have e := Nat.div_add_mod (n * num) 18446744073709551616
  have em := Nat.mod_lt (n * num) (show 0 < 18446744073709551616 by omega)
  have hM := mul64_calls n num hn hnum w
  have hov := carry_over n num den rest hd hr
  have hfi := carry_fine n num den rest hd hr
  generalize hX : n * num + rest = X at *
  generalize n * num % 18446744073709551616 = M at *
  generalize n * num / 18446744073709551616 = T at *
  have h1 := add64_run (M : Int) rest 0 (by omega) (by omega) (by omega) (by omega) w
  have a1 : ((M : Int) + rest + 0) % 18446744073709551616 = ((X % 18446744073709551616 : Nat) : Int) := by omega
  obtain ⟨c, hc⟩ : ∃ c : Nat, ((M : Int) + rest + 0) / 18446744073709551616 = (c : Int) := ⟨(M + rest) / 18446744073709551616, by omega⟩
  have a2 : IntKind.u64.wrap ((T : Int) + (c : Int)) = ((X / 18446744073709551616 : Nat) : Int) := by rw [IntKind.wrap_u64]; omega
  rw [a1, hc] at h1
  have hl := Nat.mod_lt X (show 0 < 18446744073709551616 by omega)
  have eX := Nat.div_add_mod X 18446744073709551616
  generalize X % 18446744073709551616 = xl at *
  generalize X / 18446744073709551616 = xh at *
  have k1 : ((den : Int) == 0) = false := by simp; exact hd
  have k1' : (den == 0) = false := by simp; exact hd
  have HM := Lib.hid hM
  clear hM e em ht a1 hc hn hnum hX
  by_cases ho : den ≤ xh
  · rw [hov ho]
    clear hov hfi eX hl
    go_enter Try.func41, Try.ntmps41
    go_wp2_with fail
    refine HM.out.mono ?_
    rintro e w1 ⟨rfl, rfl⟩
    go_wp2_with (simp only [h1])
    go_ret3
    exact ⟨rfl, Below.refl _ _⟩
  · rw [hfi (by omega)]
    have ho2 : xh < den := by omega
    by_cases hz : xh = 0
    · subst hz
      have hXx : X = xl := by omega
      subst hXx
      have HD := Lib.hid (div64_zero X den hl (by omega) hden w)
      clear hov hfi eX hl ho
      go_enter Try.func41, Try.ntmps41
      go_wp2_with fail
      refine HM.out.mono ?_
      rintro e w1 ⟨rfl, rfl⟩
      go_wp2_with (simp only [h1])
      refine HD.out.mono ?_
      rintro e w2 ⟨rfl, hb⟩
      go_wp2_with fail
      go_ret3
      exact ⟨rfl, hb⟩
    · have HD := Lib.hid (div64_more xh xl den hl hden (by omega) ho2 w)
      rw [show xh * 18446744073709551616 + xl = X by omega] at HD
      clear hov hfi eX hl ho hz
      go_enter Try.func41, Try.ntmps41
      go_wp2_with fail
      refine HM.out.mono ?_
      rintro e w1 ⟨rfl, rfl⟩
      go_wp2_with (simp only [h1])
      refine HD.out.mono ?_
      rintro e w2 ⟨rfl, hb⟩
      go_wp2_with fail
      go_ret3
      exact ⟨rfl, hb⟩
theorem scale_calls (n num den : Nat) (hn : n < 18446744073709551616) (hnum : num < 18446744073709551616) (hden : den < 4294967296) (hd : den ≠ 0) (w : World) :
    Calls Try.prog 29 #[.int .u64 n, .int .u64 num, .int .u64 den] w fun e w' => e = .returned (carryV n num den 0) ∧ Below w.heap.size w w' := by
  have HC := Lib.hid (carry_calls n num den 0 hn hnum hden hd (by omega) w)
  obtain ⟨x, y, z, hv⟩ : ∃ x y z, carryV n num den 0 = .tuple #[x, y, z] := by
    unfold carryV
    rw [if_neg hd, if_neg (by omega)]
    split <;> exact ⟨_, _, _, rfl⟩
  rw [hv] at HC ⊢
  have k1 : ((den : Int) == 0) = false := by simp; exact hd
  have k1' : (den == 0) = false := by simp; exact hd
  clear hv
  go_enter Try.func29, Try.ntmps29
  go_wp2_with fail
  refine HC.out.mono ?_
  rintro e w1 ⟨rfl, hb⟩
  go_wp2_with fail
  go_ret3
  exact ⟨rfl, hb⟩
/-- May a setup be? -/
def mayP (num den gap len : Int) : Prop := 1 ≤ num ∧ num ≤ 1048576 ∧ 1 ≤ den ∧ den ≤ 1048576 ∧ 0 ≤ gap ∧ 60 ≤ len ∧ len ≤ 86400 ∧ 86400 % len = 0
instance (num den gap len : Int) : Decidable (mayP num den gap len) := by unfold mayP; infer_instance
def setV (num den bound gap len : Int) : Value := .agg #[.int .u64 num, .int .u64 den, .int .u32 bound, .int .i64 gap, .int .i64 len]
theorem may_calls (num den bound gap len : Int) (w : World) :
    Calls Try.prog 22 #[setV num den bound gap len] w fun e w' => e = .returned (.bool (decide (mayP num den gap len))) ∧ Below w.heap.size w w' := by
  obtain ⟨b0, hb0⟩ : ∃ b0, w.heap.size = b0 := ⟨_, rfl⟩
  have hb := fun o => (Below.refl w.heap.size w).alloc (Nat.le_refl _) o
  rw [hb0] at hb
  unfold setV
  go_enter Try.func22, Try.ntmps22
  go_wp2_with fail
  all_goals
    (go_ret
     refine ⟨congrArg Ending.returned (congrArg Value.bool ?_), ?_⟩
     · symm
       first
         | (apply decide_eq_false; unfold mayP; omega)
         | (rw [Bool.eq_iff_iff, decide_eq_true_iff, beq_iff_eq]; unfold mayP; omega)
     · first | exact hb _ | (rw [hb0]; exact hb _))
theorem weight_calls (n : Int) (w : World) :
    Calls Try.prog 38 #[.int .u64 n] w fun e w' => e = .returned (.bool (decide (1 ≤ n ∧ n ≤ 1048576))) ∧ w' = w := by
  go_enter Try.func38, Try.ntmps38
  go_wp2_with fail
  all_goals
    (go_ret
     refine ⟨congrArg Ending.returned (congrArg Value.bool ?_), rfl⟩
     symm
     first
       | (apply decide_eq_false; omega)
       | (rw [Bool.eq_iff_iff]; simp; omega))
theorem mod_pos (len : Int) : 0 ≤ 86400 % len := by
  by_cases h : len = 0
  · subst h; decide
  · exact Int.emod_nonneg _ h
theorem check_calls (num den bound gap len : Int) (w : World) :
    Calls Try.prog 21 #[setV num den bound gap len] w fun e w' => e = .returned (.int .i64 (if mayP num den gap len then 0 else 240)) ∧ Below w.heap.size w w' := by
  obtain ⟨b0, hb0⟩ : ∃ b0, w.heap.size = b0 := ⟨_, rfl⟩
  have hb := fun o => (Below.refl w.heap.size w).alloc (Nat.le_refl _) o
  rw [hb0] at hb
  obtain ⟨b1, h1⟩ : ∃ b, decide (1 ≤ num ∧ num ≤ 1048576) = b := ⟨_, rfl⟩
  obtain ⟨b2, h2⟩ : ∃ b, decide (1 ≤ den ∧ den ≤ 1048576) = b := ⟨_, rfl⟩
  have H1 := Lib.hid (weight_calls num)
  have H2 := Lib.hid (weight_calls den)
  rw [h1] at H1
  rw [h2] at H2
  obtain ⟨r, hr⟩ : ∃ r : Int, (if mayP num den gap len then 0 else 240) = r := ⟨_, rfl⟩
  rw [hr]
  have Hr := Lib.hid hr
  unfold setV
  clear hr
  have Hh1 := Lib.hid h1
  have Hh2 := Lib.hid h2
  clear h1 h2
  go_enter Try.func21, Try.ntmps21
  go_wp2_with fail
  refine (H1.out _).mono ?_
  rintro e w1 ⟨rfl, rfl⟩
  cases b1 with
  | false =>
    go_wp2_with fail
    go_ret
    refine ⟨congrArg Ending.returned (congrArg (Value.int IntKind.i64) ?_), by first | exact hb _ | (rw [hb0]; exact hb _)⟩
    have f1 := of_decide_eq_false Hh1.out
    rw [← Hr.out, if_neg (by unfold mayP; omega)]
  | true =>
    go_wp2_with fail
    refine (H2.out _).mono ?_
    rintro e w1 ⟨rfl, rfl⟩
    cases b2 with
    | false =>
      go_wp2_with fail
      go_ret
      refine ⟨congrArg Ending.returned (congrArg (Value.int IntKind.i64) ?_), by first | exact hb _ | (rw [hb0]; exact hb _)⟩
      have f1 := of_decide_eq_false Hh2.out
      rw [← Hr.out, if_neg (by unfold mayP; omega)]
    | true =>
      go_wp2_with fail
      all_goals
        (go_ret
         have f1 := of_decide_eq_true Hh1.out
         have f2 := of_decide_eq_true Hh2.out
         have f3 := mod_pos len
         try (rename_i hx; simp only [bne_iff_ne, ne_eq, Decidable.not_not, not_or, Bool.not_eq_true, bne_eq_false_iff_eq] at hx)
         refine ⟨congrArg Ending.returned (congrArg (Value.int IntKind.i64) ?_), by first | exact hb _ | (rw [hb0]; exact hb _)⟩
         first
           | (rw [← Hr.out, if_neg (by unfold mayP; omega)]; done)
           | (rw [← Hr.out, if_pos (by unfold mayP; omega)]; done))
end Go.Proofs.Ytjmkbpgakfeceaa
