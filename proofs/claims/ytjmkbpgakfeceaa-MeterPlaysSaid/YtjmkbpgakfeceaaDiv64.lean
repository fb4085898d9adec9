/-
  Div64 by a divisor below 2^32, walked. Conditions stand at each theorem.
-/
import Derived.Test.YtjmkbpgakfeceaaBits64
namespace Go.Proofs.Ytjmkbpgakfeceaa
open Go Go.RowKit Go.Kw
set_option linter.unusedVariables false
set_option linter.unusedSimpArgs false

theorem div64_zero (lo y : Nat) (hlo : lo < 18446744073709551616) (hy0 : 0 < y) (hy : y < 4294967296) (w : World) :
    Calls Try.prog 53 #[.int .u64 0, .int .u64 (lo : Int), .int .u64 (y : Int)] w fun e w' => e = .returned (.tuple #[.int .u64 ((lo / y : Nat) : Int), .int .u64 ((lo % y : Nat) : Int)]) ∧ Below w.heap.size w w' := by
  have hq : lo / y < 18446744073709551616 := Nat.lt_of_le_of_lt (Nat.div_le_self _ _) hlo
  have e1 : IntKind.u64.wrap ((lo : Int) / (y : Int)) = ((lo / y : Nat) : Int) := by rw [← Int.natCast_ediv]; exact wrapS _ hq
  have e2 : (lo : Int) % (y : Int) = ((lo % y : Nat) : Int) := (Int.natCast_emod lo y).symm
  have k1 : ((y : Int) == 0) = false := by simp; omega
  go_enter Try.func53, Try.ntmps53
  go_wp2_with fail
  go_quiet (fail)
  go_wp2_with fail
  go_ret2
  refine ⟨?_, ⟨rfl, rfl, rfl, Nat.le_refl _, fun _ _ => rfl⟩⟩
  simp only [Array.getD_eq_getD_getElem?, List.getElem?_toArray, List.getElem?_cons_zero, List.getElem?_cons_succ, Option.getD_some, e1, e2, ← Int.natCast_ediv]
theorem wrap_is (x : Int) (n : Nat) (k : Int) (h : x = n + 18446744073709551616 * k) (hn : n < 18446744073709551616) : IntKind.u64.wrap x = n := by subst h; rw [IntKind.wrap_u64]; omega
theorem wrap_nest (a b c : Int) : IntKind.u64.wrap (IntKind.u64.wrap (IntKind.u64.wrap a + b) - IntKind.u64.wrap c) = IntKind.u64.wrap (a + b - c) := by
  simp only [IntKind.wrap_u64]; omega
theorem wrap_nest2 (a c : Int) : IntKind.u64.wrap (IntKind.u64.wrap a - IntKind.u64.wrap c) = IntKind.u64.wrap (a - c) := by
  simp only [IntKind.wrap_u64]; omega
theorem wrap_nest3 (a b : Int) : IntKind.u64.wrap (IntKind.u64.wrap a + b) = IntKind.u64.wrap (a + b) := by
  simp only [IntKind.wrap_u64]; omega
theorem or_word (h l s : Nat) (hl : l < 2 ^ s) (h1 : h * 2 ^ s < 18446744073709551616) (h2 : l < 18446744073709551616) : bits .or .u64 ((h * 2 ^ s : Nat) : Int) (l : Int) = ((h * 2 ^ s + l : Nat) : Int) := by
  have e := bits_or_u64_nat (h * 2 ^ s) l h1 h2
  rw [e, Nat.mul_comm h, Nat.two_pow_add_eq_or_of_lt hl]
theorem cdiv (a b : Nat) : (a : Int) / (b : Int) = ((a / b : Nat) : Int) := (Int.natCast_ediv a b).symm
/-- One digit's step, as the walk spells it. -/
theorem step_eqs (U D L Y : Nat) (hD0 : 0 < D) (hD : D < 4294967296) (hU : U < 18446744073709551616) (hq : U / D < 4294967296) (hL : L < 4294967296) (hY : Y = D * 4294967296) (hV : U % D * 4294967296 + L < 18446744073709551616) :
    IntKind.u64.wrap ((U : Int) / (D : Int)) = ((U / D : Nat) : Int) ∧ IntKind.u64.wrap ((U : Int) - IntKind.u64.wrap (((U / D : Nat) : Int) * (D : Int))) = ((U % D : Nat) : Int) ∧
      IntKind.u64.wrap (IntKind.u64.wrap (4294967296 * ((U % D : Nat) : Int)) + (L : Int)) = ((U % D * 4294967296 + L : Nat) : Int) ∧
      IntKind.u64.wrap (IntKind.u64.wrap (IntKind.u64.wrap ((U : Int) * 4294967296) + (L : Int)) - IntKind.u64.wrap (((U / D : Nat) : Int) * (Y : Int))) = ((U % D * 4294967296 + L : Nat) : Int) ∧
      IntKind.u64.wrap (IntKind.u64.wrap (IntKind.u64.wrap ((U : Int) * 4294967296)) - IntKind.u64.wrap (((U / D : Nat) : Int) * (Y : Int))) = ((U % D * 4294967296 : Nat) : Int) := by
  have e := Nat.div_add_mod U D
  have m := Nat.mod_lt U hD0
  have eY : U / D * Y = U / D * D * 4294967296 := by rw [hY, Nat.mul_assoc]
  rw [Nat.mul_comm] at e
  rw [cdiv, mulW, mulW, eY]
  generalize hP : U / D * D = P at *
  generalize hr : U % D = r at *
  generalize hqq : U / D = q at *
  clear hqq hr hP eY hY
  refine ⟨wrapS _ (by omega), ?_, ?_, ?_, ?_⟩
  · simp only [IntKind.wrap_u64]; omega
  · simp only [IntKind.wrap_u64]; omega
  · simp only [IntKind.wrap_u64]; omega
  · simp only [IntKind.wrap_u64]; omega
theorem r_lt (r D : Nat) (h : r < D) (hD : D < 4294967296) : r * 4294967296 + 0 < 18446744073709551616 ∧ 4294967296 * r < 18446744073709551616 := by omega
/-- The numbers of the long way, as the walk spells them. -/
theorem div_eqs (hi lo y s : Nat) (hlo : lo < 18446744073709551616) (hy0 : 0 < y) (hy : y < 4294967296) (hh : hi < y) (hs1 : 32 ≤ s) (hs2 : s ≤ 63) (lf : y * 2 ^ s < 18446744073709551616) :
    ∃ D Y U M L H q1 r1 V q0 r0 : Nat, 0 < D ∧ D < 4294967296 ∧ q1 < 4294967296 ∧ q0 < 4294967296 ∧
      IntKind.u64.wrap ((y : Int) * 2 ^ s) = (Y : Int) ∧ (Y : Int) / 4294967296 = (D : Int) ∧ bits .and .u64 (Y : Int) 4294967295 = 0 ∧
      IntKind.u64.wrap ((hi : Int) * 2 ^ s) = (H : Int) ∧ bits .or .u64 (H : Int) ((lo : Int) / 2 ^ (64 - s)) = (U : Int) ∧
      IntKind.u64.wrap ((lo : Int) * 2 ^ s) = (M : Int) ∧ (M : Int) / 4294967296 = (L : Int) ∧ bits .and .u64 (M : Int) 4294967295 = 0 ∧
      IntKind.u64.wrap ((U : Int) / (D : Int)) = (q1 : Int) ∧ IntKind.u64.wrap ((U : Int) - IntKind.u64.wrap ((q1 : Int) * (D : Int))) = (r1 : Int) ∧
      IntKind.u64.wrap (IntKind.u64.wrap (4294967296 * (r1 : Int)) + (L : Int)) = (V : Int) ∧
      IntKind.u64.wrap (IntKind.u64.wrap (IntKind.u64.wrap ((U : Int) * 4294967296) + (L : Int)) - IntKind.u64.wrap ((q1 : Int) * (Y : Int))) = (V : Int) ∧
      IntKind.u64.wrap ((V : Int) / (D : Int)) = (q0 : Int) ∧ IntKind.u64.wrap ((V : Int) - IntKind.u64.wrap ((q0 : Int) * (D : Int))) = (r0 : Int) ∧
      IntKind.u64.wrap (4294967296 * (r0 : Int)) = ((4294967296 * r0 : Nat) : Int) ∧
      (q1 : Int) * 4294967296 + (q0 : Int) = (((hi * 18446744073709551616 + lo) / y : Nat) : Int) ∧
      IntKind.u64.wrap (IntKind.u64.wrap (IntKind.u64.wrap ((V : Int) * 4294967296)) - IntKind.u64.wrap ((q0 : Int) * (Y : Int))) / 2 ^ s = (((hi * 18446744073709551616 + lo) % y : Nat) : Int) := by
  obtain ⟨t, ht⟩ : ∃ t, s = t + 32 := ⟨s - 32, (Nat.sub_add_cancel hs1).symm⟩
  obtain ⟨a1, a2, a3, a4, a5, a6⟩ := div_wordsK 4294967296 18446744073709551616 hi lo y s t (by decide) (by decide) hy0 hh hlo ht hs2 lf
  obtain ⟨b1, b2, b3, b4, b5, b6⟩ := div_words 4294967296 18446744073709551616 hi lo y s t _ _ (by decide) (by decide) hy0 hh hlo ht hs2 lf rfl rfl
  have cH : ((hi * 2 ^ s : Nat) : Int) = (hi : Int) * 2 ^ s := by simp
  have cY : ((y * 2 ^ s : Nat) : Int) = (y : Int) * 2 ^ s := by simp
  have cM : ((lo * 2 ^ s : Nat) : Int) = (lo : Int) * 2 ^ s := by simp
  have cs : ((lo / 2 ^ (64 - s) : Nat) : Int) = (lo : Int) / 2 ^ (64 - s) := by simp
  have ps : 0 < 2 ^ s := Nat.pow_pos (by omega)
  have c2 : ((2 ^ s : Nat) : Int) = 2 ^ s := by simp
  have p64 : 2 ^ (64 - s) * 2 ^ s = 18446744073709551616 := by rw [← Nat.pow_add, show 64 - s + s = 64 by omega]
  have hsh : lo / 2 ^ (64 - s) < 2 ^ s := Nat.div_lt_of_lt_mul (by rw [p64]; exact hlo)
  have hshl : lo / 2 ^ (64 - s) < 18446744073709551616 := Nat.lt_of_le_of_lt (Nat.div_le_self _ _) hlo
  have hor : bits .or .u64 ((hi * 2 ^ s : Nat) : Int) ((lo / 2 ^ (64 - s) : Nat) : Int) = ((hi * 2 ^ s + lo / 2 ^ (64 - s) : Nat) : Int) := or_word hi _ s hsh a3 hshl
  have hD : y * 2 ^ t < 4294967296 := by rw [a2] at lf; omega
  have e2t : 2 ^ s = 2 ^ t * 4294967296 := by rw [ht, Nat.pow_add]
  have pt : 0 < 2 ^ t := Nat.pow_pos (by omega)
  rw [a2] at lf
  have hU : hi * 2 ^ s + lo / 2 ^ (64 - s) < 18446744073709551616 := Nat.lt_trans a4 lf
  have hV := Nat.lt_trans b4 lf
  have S1 := step_eqs _ (y * 2 ^ t) _ (y * 2 ^ s) a1 hD hU b5 b6 a2 hV
  have hV0 : (hi * 2 ^ s + lo / 2 ^ (64 - s)) % (y * 2 ^ t) * 4294967296 + lo * 2 ^ s % 18446744073709551616 / 4294967296 < 18446744073709551616 := hV
  have hm0 := Nat.mod_lt ((hi * 2 ^ s + lo / 2 ^ (64 - s)) % (y * 2 ^ t) * 4294967296 + lo * 2 ^ s % 18446744073709551616 / 4294967296) a1
  have S2 := step_eqs _ (y * 2 ^ t) 0 (y * 2 ^ s) a1 hD hV0 b3 (by decide) a2 (r_lt _ _ hm0 hD).1
  refine ⟨y * 2 ^ t, y * 2 ^ s, hi * 2 ^ s + lo / 2 ^ (64 - s), lo * 2 ^ s % 18446744073709551616, lo * 2 ^ s % 18446744073709551616 / 4294967296, hi * 2 ^ s, _, _, _, _, _, a1, hD, b5, b3, ?_, ?_, ?_, ?_, ?_, ?_, halfW _, ?_, S1.1, S1.2.1, S1.2.2.1, S1.2.2.2.1, S2.1, S2.2.1, ?_, ?_, ?_⟩
  · rw [← cY]; exact wrapS _ (by rw [a2]; exact lf)
  · rw [halfW, a2, Nat.mul_div_cancel _ (by omega)]
  · rw [maskW _ (by rw [a2]; exact lf), a2, Nat.mul_mod_left]; rfl
  · rw [← cH]; exact wrapS _ a3
  · rw [← cs]; exact hor
  · rw [← cM]; exact wrapL _
  · rw [maskW _ (Nat.mod_lt _ (by omega)), a5]; rfl
  · exact wrapS _ (r_lt _ _ hm0 hD).2
  · rw [b1]; simp
  · rw [S2.2.2.2.2, ← b2, ← c2, e2t, cdiv, Nat.mul_assoc, Nat.mul_div_cancel _ (Nat.mul_pos pt (by omega))]
theorem div64_more (hi lo y : Nat) (hlo : lo < 18446744073709551616) (hy : y < 4294967296) (hh0 : 0 < hi) (hh : hi < y) (w : World) :
    Calls Try.prog 53 #[.int .u64 (hi : Int), .int .u64 (lo : Int), .int .u64 (y : Int)] w fun e w' => e = .returned (.tuple #[.int .u64 (((hi * 18446744073709551616 + lo) / y : Nat) : Int), .int .u64 (((hi * 18446744073709551616 + lo) % y : Nat) : Int)]) ∧ Below w.heap.size w w' := by
  have k1 : ((y : Int) == 0) = false := by simp; omega
  have k2 : decide ((y : Int) ≤ (hi : Int)) = false := by simp; omega
  have k3 : ((hi : Int) == 0) = false := by simp; omega
  have l := Lib.bitLen_le y 32 (by omega) (by omega)
  have lp := bitLen_pos y (by omega) hy
  have lf := lead_fits y hy
  obtain ⟨s, hs⟩ : ∃ s, 64 - Lib.bitLen y = s := ⟨_, rfl⟩
  have es : (64 - (Lib.bitLen (y : Int).toNat : Int)) = (s : Int) := by simp; omega
  have hL := lead_calls (y : Int) (by omega) (by omega)
  rw [es] at hL
  rw [hs] at lf
  have hs1 : 32 ≤ s := by omega
  have hs2 : s ≤ 63 := by omega
  have HL := Lib.hid hL
  clear es hL l lp hs
  have w1 : IntKind.u64.wrap (s : Int) = s := by rw [IntKind.wrap_u64]; omega
  obtain ⟨D, Y, U, M, L, H, q1, r1, V, q0, r0, hD0, hD, hq1, hq0, E1, E2, E3, E4, E5, E6, E7, E8, E9, E10, E11, E12, E13, E14, E15, E16, E17⟩ := div_eqs hi lo y s hlo (by omega) hy hh hs1 hs2 lf
  have k4 : ((D : Int) == 0) = false := by simp; omega
  have k5 : decide ((q1 : Int) ≥ 4294967296) = false := by simp; omega
  have k6 : decide ((q0 : Int) ≥ 4294967296) = false := by simp; omega
  have k7 : decide ((V : Int) < 0) = false := by simp
  generalize (4294967296 * r0 : Nat) = m0 at *
  have k8 : decide ((m0 : Int) < 0) = false := by simp
  generalize hQ : (hi * 18446744073709551616 + lo) / y = Q at *
  generalize hR : (hi * 18446744073709551616 + lo) % y = R at *
  clear hQ hR lf hD hlo hy
  go_enter Try.func53, Try.ntmps53
  go_wp2_with fail
  refine (HL.out _).mono ?_
  rintro e w2 ⟨rfl, rfl⟩
  go_wp2_with fail
  refine wp_loop_once ?_
  go_wp2_with fail
  refine wp_loop_once ?_
  go_wp2_with fail
  go_ret2
  refine ⟨?_, Below.refl _ _⟩
  simp only [Array.getD_eq_getD_getElem?, List.getElem?_toArray, List.getElem?_cons_zero, List.getElem?_cons_succ, Option.getD_some, E16, E17]
end Go.Proofs.Ytjmkbpgakfeceaa
