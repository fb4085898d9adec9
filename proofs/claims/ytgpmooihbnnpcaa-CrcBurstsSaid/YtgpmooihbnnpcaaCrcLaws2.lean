/-
  The chapter's first examples, and sums of pieces: the walks of alive and of CrcPieces. Conditions: none beyond the given row.
-/
import Derived.Test.YtgpmooihbnnpcaaCrcLaws1
import Derived.Test.YtgpmooihbnnpcaaBytesLib
import Derived.Lib.SlBytesConst
import Derived.Lib.Hide
namespace Go.Proofs.Ytgpmooihbnnpcaa
open Go Go.RowKit Go.Kw Go.Kw.Crc
set_option linter.unusedVariables false
set_option linter.unusedSimpArgs false

theorem ex16a : sum16 65535 [1, 3, 0, 0, 0, 10] = 52677 := by decide +kernel
theorem ex16b : sum16 65535 [] = 65535 := by decide +kernel
theorem ex32a : sum32 0 [49, 50, 51, 52, 53, 54, 55, 56, 57] = 3421780262 := by decide +kernel
theorem ex32b : sum32 0 [] = 0 := by decide +kernel

set_option maxHeartbeats 1000000 in
theorem alive_calls (w : World) : Calls Try.prog 16 #[] w fun e w' => e = .returned (.bool true) ∧ Below w.heap.size w w' := by
  have kc := fun (w : World) (C : Array Value) (n c : Nat) => Lib.run_convert_bytes_const (P := Try.prog) w 22 5 C n c Try.underlying22 Try.underlying5
  go_enter Try.func16, Try.ntmps16
  go_wp2_with fail
  have hR1 := rdB_new w #[.int .u8 1, .int .u8 3, .int .u8 0, .int .u8 0, .int .u8 0, .int .u8 10] 5 (0, 0) [1, 3, 0, 0, 0, 10] rfl
  refine (sumOf16_any _ _ [1, 3, 0, 0, 0, 10] (by decide) _ (by simpa using hR1)).mono ?_
  rintro e w1 ⟨rfl, hb1⟩
  rw [ex16a]
  simp only [World.size_alloc] at hb1
  have hb1' : Below w.heap.size w w1 := ((Below.refl _ w).alloc (Nat.le_refl _) _).trans (hb1.mono (by omega))
  clear hb1 hR1
  go_wp2_with fail
  refine (sumOf16_any _ _ [] (by decide) _ (rdB_nil _ _ _)).mono ?_
  rintro e w2 ⟨rfl, hb2⟩
  rw [ex16b]
  have hb2' := hb1'.trans (hb2.mono hb1'.size)
  clear hb2 hb1'
  go_wp2_with fail
  have hR3 := rdB_new w2 #[.int .u8 49, .int .u8 50, .int .u8 51, .int .u8 52, .int .u8 53, .int .u8 54, .int .u8 55, .int .u8 56, .int .u8 57] 5 (9, 10) [49, 50, 51, 52, 53, 54, 55, 56, 57] rfl
  refine (sumOf32_any _ _ [49, 50, 51, 52, 53, 54, 55, 56, 57] (by decide) _ (by simpa using hR3)).mono ?_
  rintro e w3 ⟨rfl, hb3⟩
  rw [ex32a]
  simp only [World.size_alloc] at hb3
  have hb3' : Below w.heap.size w w3 := hb2'.trans (((Below.refl _ w2).alloc hb2'.size _).trans (hb3.mono (by have := hb2'.size; omega)))
  clear hb3 hR3 hb2'
  go_wp2_with fail
  refine (sumOf32_any _ _ [] (by decide) _ (rdB_nil _ _ _)).mono ?_
  rintro e w4 ⟨rfl, hb4⟩
  rw [ex32b]
  have hb4' := hb3'.trans (hb4.mono hb3'.size)
  clear hb4 hb3'
  go_wp2_with fail
  go_ret
  exact ⟨rfl, hb4'⟩

theorem sum16_lt (n : Nat) (hn : n < 65536) (l : List UInt8) : sum16 n l < 65536 := crcB_lt (k := 16) (by decide) (by omega) l hn
theorem sum32_lt (n : Nat) (hn : n < 4294967296) (l : List UInt8) : sum32 n l < 4294967296 :=
  xor_lt' (k := 32) (crcB_lt (k := 32) (by decide) (by omega) l (xor_lt' (k := 32) hn (by decide))) (by decide)
theorem sum16_pieces (n : Nat) (a b : List UInt8) : sum16 (sum16 n a) b = sum16 n (a ++ b) := (crcB_append _ _ _ _).symm
theorem sum32_pieces (n : Nat) (a b : List UInt8) : sum32 (sum32 n a) b = sum32 n (a ++ b) := by
  unfold sum32
  rw [crcB_append, Nat.xor_assoc, Nat.xor_self, Nat.xor_zero]

set_option maxHeartbeats 1000000 in
theorem crcPieces_walk (a0 : Option Addr) (len0 cap0 : Nat) (z0 : List Int) (a1 : Option Addr) (len1 cap1 : Nat) (z1 : List Int) (w : World) (w0 : IsRow .u8 w a0 len0 cap0 z0) (w1 : IsRow .u8 w a1 len1 cap1 z1) :
    Calls Try.prog 4 #[.slice a0 len0 cap0, .slice a1 len1 cap1] w fun e w' => e = .returned (.bool true) ∧ Below w.heap.size w w' := by
  obtain ⟨hm1, hm2, hz0⟩ := w0.caps
  obtain ⟨hm3, hm4, hz1⟩ := w1.caps
  unfold maxLen at hm2 hm4
  obtain ⟨a, rfl, hR⟩ := w0.bytes
  obtain ⟨b, rfl, hS⟩ := w1.bytes
  clear w0 w1
  by_cases h : 2000 < a.length
  · have h' : (2000 : Int) < (a.length : Int) := by omega
    go_enter Try.func4, Try.ntmps4
    go_wp2_with (go_at_call 16; refine (alive_calls _).mono ?_; rintro e w1 ⟨rfl, hb1⟩)
    go_ret
    exact ⟨rfl, hb1⟩
  · by_cases h2 : 2000 < b.length
    · have h2' : (2000 : Int) < (b.length : Int) := by omega
      go_enter Try.func4, Try.ntmps4
      go_wp2_with (go_at_call 16; refine (alive_calls _).mono ?_; rintro e w1 ⟨rfl, hb1⟩)
      go_ret
      exact ⟨rfl, hb1⟩
    · have hla : a.length ≤ 1000000 := by omega
      have hlb : b.length ≤ 1000000 := by omega
      have hlab : (a ++ b).length ≤ 1000000 := by simp; omega
      go_enter Try.func4, Try.ntmps4
      go_wp2_with fail
      refine (alive_calls _).mono ?_
      rintro e w1 ⟨rfl, hb1⟩
      have hR1 := hR.go hb1
      have hS1 := hS.go hb1
      obtain ⟨v2, w2, hrun2, o2, g2, i2, -⟩ := run_append (P := Try.prog) w1 w1.heap.size 22 eb (World.ownsRow_nil w1 w1.heap.size 5 1) a.length cap0
        (by rw [Nat.mul_one]; exact hR1) (fun i _ => rfl) (by unfold maxLen; omega) (by omega) (Nat.le_refl _) (fun h => (hz0 h).1)
      rw [vals_bytes, List.nil_append, Nat.zero_add] at o2
      have hb2 := below_append (World.ownsRow_nil w1 w1.heap.size 5 1) (Nat.le_refl _) g2
      have hS2 := hS1.go hb2
      obtain ⟨v3, w3, hrun3, o3, g3, i3, -⟩ := run_append (P := Try.prog) w2 w1.heap.size 22 eb o2 b.length cap1
        (by rw [Nat.mul_one]; exact hS2) (fun i _ => rfl) (by unfold maxLen; omega) (by omega) hb2.size (fun h => (hz1 h).1)
      obtain ⟨ab, hab⟩ : ∃ ab, a ++ b = ab := ⟨_, rfl⟩
      rw [vals_bytes, ← bv_append, hab] at o3
      rw [hab] at hlab
      have Hab := Lib.hid hab
      clear hab
      have hb3 := bnext hb1 (hb2.trans (below_append o2 hb2.size g3))
      obtain ⟨A3, c3, rfl, -, -⟩ := own_len o3
      clear i2 i3 hz0 hz1
      go_wp2_with (first | (at_builtin; refine wpList_append_run hrun2 rfl rfl rfl rfl rfl ?_) | (at_builtin; refine wpList_append_run hrun3 rfl rfl rfl rfl rfl ?_))
      have hT3 := (rdB_own o3).1
      have hR3 := hR.go hb3
      have hS3 := hS.go hb3
      clear hrun2 hrun3 o2 o3 g2 g3 hb2 hR1 hS1 hS2
      refine (sumOf16_any _ _ _ hla _ hR3).mono ?_
      rintro e w4 ⟨rfl, hb4⟩
      go_wp2_with fail
      refine (more16_any _ _ _ hlb _ (hS3.go hb4) _ (sum16_lt _ (by decide) _)).mono ?_
      rintro e w5 ⟨rfl, hb5⟩
      go_wp2_with fail
      refine (sumOf16_any _ _ _ hlab _ (hT3.go (bnext hb4 hb5))).mono ?_
      rintro e w6 ⟨rfl, hb6⟩
      rw [sum16_pieces, Hab.out]
      have hb36 := bnext (bnext hb4 hb5) hb6
      clear hb4 hb5 hb6
      go_wp2_with fail
      refine (sumOf32_any _ _ _ hla _ (hR3.go hb36)).mono ?_
      rintro e w7 ⟨rfl, hb7⟩
      go_wp2_with fail
      refine (more32_any _ _ _ hlb _ (hS3.go (bnext hb36 hb7)) _ (sum32_lt _ (by decide) _)).mono ?_
      rintro e w8 ⟨rfl, hb8⟩
      go_wp2_with fail
      refine (sumOf32_any _ _ _ hlab _ (hT3.go (bnext (bnext hb36 hb7) hb8))).mono ?_
      rintro e w9 ⟨rfl, hb9⟩
      rw [sum32_pieces, Hab.out]
      go_wp2_with fail
      go_ret
      exact ⟨rfl, bnext hb3 (bnext (bnext (bnext hb36 hb7) hb8) hb9)⟩
end Go.Proofs.Ytgpmooihbnnpcaa
