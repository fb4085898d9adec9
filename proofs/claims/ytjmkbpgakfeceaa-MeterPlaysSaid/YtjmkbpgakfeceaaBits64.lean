/-
  Words of 64 bits: Mul64, Len64, LeadingZeros64, Div64 by a divisor below 2^32, walked. Conditions stand at each theorem.
-/
import Derived.Test.YtjmkbpgakfeceaaBase
import Derived.Test.YtjmkbpgakfeceaaChecked
import Derived.LoopTactic
import Derived.Lib.Hide
import Derived.Deep.QuietTactic
import Derived.BigQuiet
import Derived.Test.YtjmkbpgakfeceaaDivPlain
import Derived.Lib.Mul64
import Derived.Lib.BitFns
import Derived.Laws.Bits64b
namespace Go.Proofs.Ytjmkbpgakfeceaa
open Go Go.RowKit Go.Kw
set_option linter.unusedVariables false
set_option linter.unusedSimpArgs false

theorem maskW (a : Nat) (ha : a < 18446744073709551616) : bits .and .u64 (a : Int) 4294967295 = ((a % 4294967296 : Nat) : Int) := by
  have h := bits_and_u64_nat a 4294967295 ha (by omega)
  have e : a &&& 4294967295 = a % 4294967296 := Nat.and_two_pow_sub_one_eq_mod a 32
  rw [e] at h
  exact h
theorem halfW (a : Nat) : (a : Int) / 4294967296 = ((a / 4294967296 : Nat) : Int) := by omega
theorem mulW (a b : Nat) : (a : Int) * (b : Int) = ((a * b : Nat) : Int) := (Int.natCast_mul a b).symm
theorem addW (a b : Nat) : (a : Int) + (b : Int) = ((a + b : Nat) : Int) := (Int.natCast_add a b).symm
theorem wrapS (a : Nat) (ha : a < 18446744073709551616) : IntKind.u64.wrap (a : Int) = (a : Int) := by rw [IntKind.wrap_u64]; omega
theorem wrapL (a : Nat) : IntKind.u64.wrap (a : Int) = ((a % 18446744073709551616 : Nat) : Int) := by rw [IntKind.wrap_u64]; omega

set_option maxHeartbeats 1000000 in
theorem mul64_calls (x y : Nat) (hx : x < 18446744073709551616) (hy : y < 18446744073709551616) (w : World) :
    Calls Try.prog 51 #[.int .u64 x, .int .u64 y] w fun e w' => e = .returned (.tuple #[.int .u64 ((x * y / 18446744073709551616 : Nat) : Int), .int .u64 ((x * y % 18446744073709551616 : Nat) : Int)]) ∧ w' = w := by
  obtain ⟨d1, d2, d3, hhi⟩ := Lib.mul64_hi x y hx hy
  have ba := Lib.half_mul_le (a := x / 4294967296) (b := y / 4294967296) (by omega) (by omega)
  have bb := Lib.half_mul_le (a := x / 4294967296) (b := y % 4294967296) (by omega) (by omega)
  have bc := Lib.half_mul_le (a := x % 4294967296) (b := y / 4294967296) (by omega) (by omega)
  have ba' : x / 4294967296 * (y / 4294967296) < 18446744073709551616 := by omega
  have bb' : x / 4294967296 * (y % 4294967296) < 18446744073709551616 := by omega
  have bc' : x % 4294967296 * (y / 4294967296) < 18446744073709551616 := by omega
  have e1 : x / 4294967296 * (y / 4294967296) + (x / 4294967296 * (y % 4294967296) + x % 4294967296 * (y % 4294967296) / 4294967296) / 4294967296 < 18446744073709551616 := by omega
  have e2 : x / 4294967296 * (y / 4294967296) + (x / 4294967296 * (y % 4294967296) + x % 4294967296 * (y % 4294967296) / 4294967296) / 4294967296 + ((x / 4294967296 * (y % 4294967296) + x % 4294967296 * (y % 4294967296) / 4294967296) % 4294967296 + x % 4294967296 * (y / 4294967296)) / 4294967296 < 18446744073709551616 := by omega
  have Hb := Lib.hid (And.intro d1 (And.intro d2 (And.intro d3 (And.intro ba' (And.intro bb' (And.intro bc' (And.intro e1 e2)))))))
  have Hh := Lib.hid hhi
  have Hx := Lib.hid hx
  have Hy := Lib.hid hy
  clear d1 d2 d3 hhi ba bb bc ba' bb' bc' e1 e2 hx hy
  go_enter Try.func51, Try.ntmps51
  go_wp2_with fail
  obtain ⟨d1, d2, d3, ba', bb', bc', e1, e2⟩ := Hb.out
  simp only [maskW x Hx.out, maskW y Hy.out, halfW, mulW, addW, wrapS _ d1, wrapS _ bb', wrapS _ d2, maskW _ d2, wrapS _ bc', wrapS _ d3, wrapS _ ba', wrapS _ e1, wrapS _ e2, wrapL (x * y)]
  rw [Hh.out]
  go_ret2
  exact ⟨rfl, rfl⟩

theorem tab_size : Lib.len8tab.size = 256 := by decide +kernel
theorem tab_all : ∀ n : Fin 256, (Lib.len8tab[n.val]'(by rw [tab_size]; exact n.isLt)).toNat = Lib.bitLen n.val := by decide +kernel
theorem tab_at (z : Int) (h : z.toNat < Lib.len8tab.size) : (Lib.len8tab[z.toNat]'h).toNat = Lib.bitLen z.toNat := tab_all ⟨z.toNat, by rw [← tab_size]; exact h⟩
theorem bitLen8 (n : Nat) (h : n < 256) : Lib.bitLen n ≤ 8 := Lib.bitLen_le8 ⟨n, h⟩
theorem len_end (c : Int) (m n : Nat) (hm : m ≤ 8) (hc : 0 ≤ c ∧ c ≤ 24) (h : (n : Int) = c + m) : wrap64 (c + wrap64 m) = n := by unfold wrap64; omega
theorem len_end0 (m : Nat) (hm : m ≤ 8) : wrap64 m = m := by unfold wrap64; omega
theorem len_24 (x : Int) (h : 256 ≤ x / 65536) (h1 : x < 4294967296) : wrap64 (24 + wrap64 (Lib.bitLen (x / 65536 / 256).toNat)) = Lib.bitLen x.toNat := by
  have e : (x / 65536 / 256).toNat = x.toNat / 16777216 := by omega
  have s := Lib.bitLen_shift24 x.toNat (by omega) (by omega)
  rw [e]
  exact len_end 24 _ _ (bitLen8 _ (by omega)) (by omega) (by omega)
theorem len_16 (x : Int) (h : 65536 ≤ x) (h1 : x / 65536 < 256) : wrap64 (16 + wrap64 (Lib.bitLen (x / 65536).toNat)) = Lib.bitLen x.toNat := by
  have e : (x / 65536).toNat = x.toNat / 65536 := by omega
  have s := Lib.bitLen_shift16 x.toNat (by omega) (by omega)
  rw [e]
  exact len_end 16 _ _ (bitLen8 _ (by omega)) (by omega) (by omega)
theorem len_8 (x : Int) (h : 256 ≤ x) (h1 : x < 65536) : wrap64 (8 + wrap64 (Lib.bitLen (x / 256).toNat)) = Lib.bitLen x.toNat := by
  have e : (x / 256).toNat = x.toNat / 256 := by omega
  have s := Lib.bitLen_shift8 x.toNat (by omega) (by omega)
  rw [e]
  exact len_end 8 _ _ (bitLen8 _ (by omega)) (by omega) (by omega)
set_option maxHeartbeats 4000000 in
set_option maxRecDepth 100000 in
theorem len64_calls (x : Int) (h0 : 0 ≤ x) (h1 : x < 4294967296) (w : World) :
    Calls Try.prog 58 #[.int .u64 x] w fun e w' => e = .returned (.int .i64 (Lib.bitLen x.toNat)) ∧ w' = w := by
  have k1 : decide (x ≥ 4294967296) = false := by simp; omega
  go_enter Try.func58, Try.ntmps58
  go_wp2_with fail
  all_goals first
    | (exfalso
       rename_i h
       rw [tab_size] at h
       omega)
    | (go_ret
       refine ⟨congrArg Ending.returned (congrArg (Value.int IntKind.i64) ?_), rfl⟩
       simp only [tab_at]
       first
         | exact len_24 x (by omega) h1
         | exact len_16 x (by omega) (by omega)
         | exact len_8 x (by omega) (by omega)
         | (have l := bitLen8 x.toNat (by omega)
            rw [len_end0 _ l, len_end0 _ l]))
theorem lead_calls (x : Int) (h0 : 0 ≤ x) (h1 : x < 4294967296) (w : World) :
    Calls Try.prog 57 #[.int .u64 x] w fun e w' => e = .returned (.int .i64 (64 - Lib.bitLen x.toNat)) ∧ w' = w := by
  have l := Lib.bitLen_le x.toNat 32 (by omega) (by omega)
  go_enter Try.func57, Try.ntmps57
  go_wp2_with fail
  refine (len64_calls x h0 h1 _).mono ?_
  rintro e w1 ⟨rfl, rfl⟩
  go_wp2_with fail
  go_ret
  exact ⟨rfl, rfl⟩
theorem bitLen_up (x : Nat) : x < 2 ^ 32 → x < 2 ^ Lib.bitLen x := by
  induction x using Nat.strongRecOn with
  | _ x ih =>
    intro h
    by_cases h0 : x = 0
    · subst h0; exact Nat.pow_pos (by omega)
    · have e := Lib.bitLen_half x h0 (by omega)
      have i := ih (x / 2) (by omega) (by omega)
      rw [e, Nat.pow_add]; omega
theorem bitLen_pos (x : Nat) (h0 : x ≠ 0) (h : x < 2 ^ 32) : 1 ≤ Lib.bitLen x := by
  have e := Lib.bitLen_half x h0 (by omega)
  omega
theorem lead_fits (y : Nat) (h : y < 4294967296) : y * 2 ^ (64 - Lib.bitLen y) < 18446744073709551616 := by
  have u := bitLen_up y h
  have l := Lib.bitLen_le y 32 (by omega) h
  have e : 2 ^ Lib.bitLen y * 2 ^ (64 - Lib.bitLen y) = 18446744073709551616 := by rw [← Nat.pow_add, show Lib.bitLen y + (64 - Lib.bitLen y) = 64 by omega]
  rw [← e]
  exact Nat.mul_lt_mul_of_pos_right u (Nat.pow_pos (by omega))
end Go.Proofs.Ytjmkbpgakfeceaa
