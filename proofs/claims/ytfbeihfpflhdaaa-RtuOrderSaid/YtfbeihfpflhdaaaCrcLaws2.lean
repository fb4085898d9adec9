/-
  The chapter's first examples, and sums of pieces: the walks of alive and of CrcPieces. Conditions: none beyond the given row.
-/
import Derived.Test.YtfbeihfpflhdaaaCrcLaws1
import Derived.Test.YtfbeihfpflhdaaaBytesLib
import Derived.Lib.SlBytesConst
import Derived.Lib.Hide
namespace Go.Proofs.Ytfbeihfpflhdaaa
open Go Go.RowKit Go.Kw Go.Kw.Crc
set_option linter.unusedVariables false
set_option linter.unusedSimpArgs false

theorem ex16a : sum16 65535 [1, 3, 0, 0, 0, 10] = 52677 := by decide +kernel
theorem ex16b : sum16 65535 [] = 65535 := by decide +kernel
theorem ex32a : sum32 0 [49, 50, 51, 52, 53, 54, 55, 56, 57] = 3421780262 := by decide +kernel
theorem ex32b : sum32 0 [] = 0 := by decide +kernel

theorem sum16_lt (n : Nat) (hn : n < 65536) (l : List UInt8) : sum16 n l < 65536 := crcB_lt (k := 16) (by decide) (by omega) l hn
theorem sum32_lt (n : Nat) (hn : n < 4294967296) (l : List UInt8) : sum32 n l < 4294967296 :=
  xor_lt' (k := 32) (crcB_lt (k := 32) (by decide) (by omega) l (xor_lt' (k := 32) hn (by decide))) (by decide)
theorem sum16_pieces (n : Nat) (a b : List UInt8) : sum16 (sum16 n a) b = sum16 n (a ++ b) := (crcB_append _ _ _ _).symm
theorem sum32_pieces (n : Nat) (a b : List UInt8) : sum32 (sum32 n a) b = sum32 n (a ++ b) := by
  unfold sum32
  rw [crcB_append, Nat.xor_assoc, Nat.xor_self, Nat.xor_zero]

end Go.Proofs.Ytfbeihfpflhdaaa
