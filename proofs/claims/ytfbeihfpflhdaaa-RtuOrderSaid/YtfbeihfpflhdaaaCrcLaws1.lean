/-
  The contracts of the sums over the plain functions, and the walk of CrcSums. Conditions: none beyond the given row.
-/
import Derived.Test.YtfbeihfpflhdaaaCrcLink
namespace Go.Proofs.Ytfbeihfpflhdaaa
open Go Go.RowKit Go.Kw Go.Kw.Crc
set_option linter.unusedVariables false
set_option linter.unusedSimpArgs false

theorem ref32_all (n : Nat) (hn : n < 4294967296) (l : List UInt8) : bits .xor .u32 (rfold .u32 3988292384 (bits .xor .u32 (n : Int) 4294967295) l l.length) 4294967295 = ((sum32 n l : Nat) : Int) := by
  have hx : n ^^^ M32 < 4294967296 := xor_lt' (k := 32) hn (by decide)
  have h1 : bits .xor .u32 (n : Int) 4294967295 = ((n ^^^ M32 : Nat) : Int) := u32_xor_nat n 4294967295 hn (by omega)
  have := rfold32 P32 (n ^^^ M32) (by decide) hx l l.length (Nat.le_refl _)
  rw [List.take_length] at this
  rw [h1]
  refine (congrArg (fun z => bits .xor .u32 z 4294967295) this).trans ?_
  exact u32_xor_nat _ 4294967295 (crcB_lt (k := 32) (by decide) (by omega) l hx) (by omega)

/-! ### The contracts, with the plain sums -/
section
variable (A : Option Addr) (c : Nat) (l : List UInt8) (hl : l.length ≤ 2000000) (w : World) (hR : RdB w w.heap.size A l)
include hl hR
theorem more16_any (n : Nat) (hn : n < 65536) : Calls Try.prog 36 #[.int .u16 n, .slice A l.length c] w fun e w' => e = .returned (.int .u16 (sum16 n l)) ∧ Below w.heap.size w w' := by
  refine (more16_calls n A c l hl w hR).mono ?_
  rintro e w' ⟨rfl, hb⟩; rw [fold16_all n hn]; exact ⟨rfl, hb⟩
theorem sumOf16_any : Calls Try.prog 31 #[.slice A l.length c] w fun e w' => e = .returned (.int .u16 (sum16 65535 l)) ∧ Below w.heap.size w w' := by
  refine (sumOf16_calls A c l hl w hR).mono ?_
  rintro e w' ⟨rfl, hb⟩; rw [← fold16_all 65535 (by omega)]; exact ⟨rfl, hb⟩
theorem ref16_any (n : Nat) (hn : n < 65536) : Calls Try.prog 32 #[.int .u16 n, .slice A l.length c] w fun e w' => e = .returned (.int .u16 (sum16 n l)) ∧ w = w' := by
  refine (ref16_calls n A c l hl w hR).mono ?_
  rintro e w' ⟨rfl, hb⟩; rw [ref16_all n hn]; exact ⟨rfl, hb⟩
theorem ref32_any (n : Nat) (hn : n < 4294967296) : Calls Try.prog 33 #[.int .u32 n, .slice A l.length c] w fun e w' => e = .returned (.int .u32 (sum32 n l)) ∧ w = w' := by
  refine (ref32_calls n A c l hl w hR).mono ?_
  rintro e w' ⟨rfl, hb⟩; rw [ref32_all n hn]; exact ⟨rfl, hb⟩
end

end Go.Proofs.Ytfbeihfpflhdaaa
