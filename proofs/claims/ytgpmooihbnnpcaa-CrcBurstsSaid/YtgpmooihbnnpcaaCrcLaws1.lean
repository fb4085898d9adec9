/-
  The contracts of the sums over the plain functions, and the walk of CrcSums. Conditions: none beyond the given row.
-/
import Derived.Test.YtgpmooihbnnpcaaCrcLink
namespace Go.Proofs.Ytgpmooihbnnpcaa
open Go Go.RowKit Go.Kw Go.Kw.Crc
set_option linter.unusedVariables false
set_option linter.unusedSimpArgs false

theorem ref32_all (n : Nat) (hn : n < 4294967296) (l : List UInt8) : bits .xor .u32 (rfold .u32 3988292384 (bits .xor .u32 (n : Int) 4294967295) l l.length) 4294967295 = ((sum32 n l : Nat) : Int) := by
  have hx : n ^^^ M32 < 4294967296 := xor_lt' (k := 32) hn (by decide)
  have h1 : bits .xor .u32 (n : Int) 4294967295 = ((n ^^^ M32 : Nat) : Int) := u32_xor_nat n 4294967295 hn (by omega)
  have := rfold32 P32 (n ^^^ M32) (by decide) hx l l.length (Nat.le_refl _)
  rw [List.take_length] at this
  rw [h1]
  refine (congrArg (fun z => bits .xor .u32 z 4294967295) this).trans ?_
  exact u32_xor_nat _ 4294967295 (crcB_lt (k := 32) (by decide) (by omega) l hx) (by omega)

/-! ### The contracts, with the plain sums -/
section
variable (A : Option Addr) (c : Nat) (l : List UInt8) (hl : l.length ≤ 1000000) (w : World) (hR : RdB w w.heap.size A l)
include hl hR
theorem more16_any (n : Nat) (hn : n < 65536) : Calls Try.prog 14 #[.int .u16 n, .slice A l.length c] w fun e w' => e = .returned (.int .u16 (sum16 n l)) ∧ Below w.heap.size w w' := by
  refine (more16_calls n A c l hl w hR).mono ?_
  rintro e w' ⟨rfl, hb⟩; rw [fold16_all n hn]; exact ⟨rfl, hb⟩
theorem sumOf16_any : Calls Try.prog 10 #[.slice A l.length c] w fun e w' => e = .returned (.int .u16 (sum16 65535 l)) ∧ Below w.heap.size w w' := by
  refine (sumOf16_calls A c l hl w hR).mono ?_
  rintro e w' ⟨rfl, hb⟩; rw [← fold16_all 65535 (by omega)]; exact ⟨rfl, hb⟩
theorem more32_any (n : Nat) (hn : n < 4294967296) : Calls Try.prog 15 #[.int .u32 n, .slice A l.length c] w fun e w' => e = .returned (.int .u32 (sum32 n l)) ∧ Below w.heap.size w w' := by
  refine (more32_calls n A c l hl w hR).mono ?_
  rintro e w' ⟨rfl, hb⟩; rw [fold32_all n hn]; exact ⟨rfl, hb⟩
theorem sumOf32_any : Calls Try.prog 12 #[.slice A l.length c] w fun e w' => e = .returned (.int .u32 (sum32 0 l)) ∧ Below w.heap.size w w' := by
  refine (sumOf32_calls A c l hl w hR).mono ?_
  rintro e w' ⟨rfl, hb⟩; rw [← fold32_all 0 (by omega)]; exact ⟨rfl, hb⟩
theorem ref16_any (n : Nat) (hn : n < 65536) : Calls Try.prog 11 #[.int .u16 n, .slice A l.length c] w fun e w' => e = .returned (.int .u16 (sum16 n l)) ∧ w = w' := by
  refine (ref16_calls n A c l hl w hR).mono ?_
  rintro e w' ⟨rfl, hb⟩; rw [ref16_all n hn]; exact ⟨rfl, hb⟩
theorem ref32_any (n : Nat) (hn : n < 4294967296) : Calls Try.prog 13 #[.int .u32 n, .slice A l.length c] w fun e w' => e = .returned (.int .u32 (sum32 n l)) ∧ w = w' := by
  refine (ref32_calls n A c l hl w hR).mono ?_
  rintro e w' ⟨rfl, hb⟩; rw [ref32_all n hn]; exact ⟨rfl, hb⟩
end

set_option maxHeartbeats 1000000 in
theorem crcSums_walk (a0 : Option Addr) (len0 cap0 : Nat) (z0 : List Int) (a1 : Int) (w : World) (w0 : IsRow .u8 w a0 len0 cap0 z0) (w1 : (Lit.int .u32 a1).wf = true) :
    Calls Try.prog 3 #[.slice a0 len0 cap0, .int .u32 a1] w fun e w' => e = .returned (.bool true) ∧ Below w.heap.size w w' := by
  obtain ⟨hm1, hm2, _⟩ := w0.caps
  unfold maxLen at hm2
  obtain ⟨l, rfl, hR⟩ := w0.bytes
  clear w0
  obtain ⟨b0, b1⟩ := Go.bounds_u32 w1
  obtain ⟨n, rfl⟩ := Int.eq_ofNat_of_zero_le b0
  clear w1
  by_cases h : 4000 < l.length
  · have h' : (4000 : Int) < (l.length : Int) := by omega
    go_enter Try.func3, Try.ntmps3
    go_wp2
    go_ret
    exact ⟨rfl, Below.refl _ _⟩
  · have hl : l.length ≤ 1000000 := by omega
    have e16 : IntKind.u16.wrap (n : Int) = ((n % 65536 : Nat) : Int) := by rw [IntKind.wrap_u16]; omega
    go_enter Try.func3, Try.ntmps3
    go_wp2_with fail
    refine (sumOf16_any _ _ _ hl _ hR).mono ?_
    rintro e w1 ⟨rfl, hb1⟩
    have hR1 := (hR.below hb1).more hb1.size
    go_wp2_with fail
    refine (ref16_any _ _ _ hl _ hR1 65535 (by omega)).mono ?_
    rintro e w' ⟨rfl, rfl⟩
    go_wp2_with fail
    refine (sumOf32_any _ _ _ hl _ hR1).mono ?_
    rintro e w2 ⟨rfl, hb2⟩
    have hR2 := (hR1.below hb2).more hb2.size
    go_wp2_with fail
    refine (ref32_any _ _ _ hl _ hR2 0 (by omega)).mono ?_
    rintro e w' ⟨rfl, rfl⟩
    go_wp2_with fail
    refine (more16_any _ _ _ hl _ hR2 (n % 65536) (by omega)).mono ?_
    rintro e w3 ⟨rfl, hb3⟩
    have hR3 := (hR2.below hb3).more hb3.size
    go_wp2_with fail
    refine (ref16_any _ _ _ hl _ hR3 (n % 65536) (by omega)).mono ?_
    rintro e w' ⟨rfl, rfl⟩
    go_wp2_with fail
    refine (more32_any _ _ _ hl _ hR3 n (by omega)).mono ?_
    rintro e w4 ⟨rfl, hb4⟩
    have hR4 := (hR3.below hb4).more hb4.size
    go_wp2_with fail
    refine (ref32_any _ _ _ hl _ hR4 n (by omega)).mono ?_
    rintro e w' ⟨rfl, rfl⟩
    go_wp2_with fail
    go_ret
    exact ⟨rfl, hb1.trans ((hb2.mono hb1.size).trans ((hb3.mono (Nat.le_trans hb1.size hb2.size)).trans (hb4.mono (Nat.le_trans hb1.size (Nat.le_trans hb2.size hb3.size)))))⟩
end Go.Proofs.Ytgpmooihbnnpcaa
