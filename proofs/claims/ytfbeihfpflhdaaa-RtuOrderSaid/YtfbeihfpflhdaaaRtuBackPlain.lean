/-
  Frames there and back, and one byte that is another one: plain laws. Conditions stand at each theorem.
-/
import Derived.Test.YtfbeihfpflhdaaaRtuRef
import Derived.Test.YtfbeihfpflhdaaaCrcBurstPlain
namespace Go.Proofs.Ytfbeihfpflhdaaa
open Go Go.RowKit Go.Kw Go.Kw.Crc
set_option linter.unusedVariables false
set_option linter.unusedSimpArgs false

theorem byte_of' (X j : Nat) (i : Nat) (hi : i < 8) : (UInt8.ofNat (X / 2 ^ (8 * j) % 256)).toNat.testBit i = X.testBit (8 * j + i) := by
  have h : (UInt8.ofNat (X / 2 ^ (8 * j) % 256)).toNat = X / 2 ^ (8 * j) % 2 ^ 8 := by rw [UInt8.toNat_ofNat']; omega
  rw [h, Nat.testBit_mod_two_pow, Nat.testBit_div_two_pow]
  simp [hi, Nat.add_comm]
theorem bits2' (X : Nat) (hX : X < 65536) (p : Nat) (hp : p < 8 * 2) : bitB [UInt8.ofNat (X % 256), UInt8.ofNat (X / 256)] p = X.testBit p := by
  have e0 := byte_of' X 0 (p % 8) (Nat.mod_lt _ (by omega))
  have e1 := byte_of' X 1 (p % 8) (Nat.mod_lt _ (by omega))
  have h1 : X / 2 ^ (8 * 1) % 256 = X / 256 := by omega
  have h0 : X / 2 ^ (8 * 0) % 256 = X % 256 := by simp
  rw [h0] at e0
  rw [h1] at e1
  unfold bitB
  have : p / 8 = 0 ∨ p / 8 = 1 := by omega
  rcases this with h | h <;> rw [h]
  · refine Eq.trans ?_ (e0.trans (congrArg X.testBit (show 8 * 0 + p % 8 = p from by omega))); rfl
  · refine Eq.trans ?_ (e1.trans (congrArg X.testBit (show 8 * 1 + p % 8 = p from by omega))); rfl
theorem crc_seal16' (l : List UInt8) : crcB P16 65535 (seal16 l) = 0 := by
  have hs := sum16_lt 65535 (by decide) l
  have := crcB_tail P16 (sum16 65535 l) 2 (sum16 65535 l) l 65535 [UInt8.ofNat (sum16 65535 l % 256), UInt8.ofNat (sum16 65535 l / 256)] rfl rfl (fun p hp => bits2' _ hs p hp) hs
  rw [Nat.xor_self, turns_zero] at this
  exact this
/-- One byte that is another one. -/
def spoil (c : List UInt8) (k : Nat) (v : UInt8) : List UInt8 := c.set k (c.getD k 0 ^^^ v)
theorem spoil_bits (c : List UInt8) (k : Nat) (v : UInt8) (hk : k < c.length) (p : Nat) (hp : p < 8 * c.length) :
    bitB (spoil c k v) p = (bitB c p ^^ (decide (8 * k ≤ p) && v.toNat.testBit (p - 8 * k))) := by
  unfold bitB spoil
  by_cases h : k = p / 8
  · subst h
    rw [List.getD_eq_getElem?_getD, List.getElem?_set_self hk, Option.getD_some, UInt8.toNat_xor, Nat.testBit_xor]
    have h1 : decide (8 * (p / 8) ≤ p) = true := by simp; omega
    rw [h1, show p - 8 * (p / 8) = p % 8 from by omega, Bool.true_and]
  · rw [List.getD_eq_getElem?_getD, List.getElem?_set_ne h, ← List.getD_eq_getElem?_getD]
    by_cases h2 : 8 * k ≤ p
    · have : v.toNat.testBit (p - 8 * k) = false := Nat.testBit_lt_two_pow (Nat.lt_of_lt_of_le (UInt8.toNat_lt v) (show 2 ^ 8 ≤ 2 ^ (p - 8 * k) from Nat.pow_le_pow_right (by omega) (by omega)))
      rw [this]; simp
    · simp [h2]
theorem spoil_no (c : List UInt8) (k : Nat) (v : UInt8) (hk : k < c.length) (hv : v.toNat ≠ 0) : crcB P16 65535 (spoil c k v) ≠ crcB P16 65535 c := by
  have hl : (spoil c k v).length = c.length := by simp [spoil]
  have hX : v.toNat < 2 ^ 16 := Nat.lt_of_lt_of_le (UInt8.toNat_lt v) (by decide)
  rw [crcB_runB_all, crcB_runB_all, hl, runB_congr P16 65535 (bitB (spoil c k v)) (fun p => bitB c p ^^ (decide (8 * k ≤ p) && v.toNat.testBit (p - 8 * k))) _ (fun p hp => spoil_bits c k v hk p hp)]
  have h2 := runB2 P16 65535 0 (bitB c) (fun p => decide (8 * k ≤ p) && v.toNat.testBit (p - 8 * k)) (8 * c.length)
  rw [Nat.xor_zero] at h2
  rw [h2]
  intro h3
  have h4 : runB P16 0 (fun p => decide (8 * k ≤ p) && v.toNat.testBit (p - 8 * k)) (8 * c.length) = 0 := by
    have := congrArg (fun z => runB P16 65535 (bitB c) (8 * c.length) ^^^ z) h3
    simp only [← Nat.xor_assoc, Nat.xor_self, Nat.zero_xor] at this
    exact this
  refine burst (w := 15) P16 (8 * k) v.toNat (8 * c.length) (by decide) (by decide) hX hv ?_ (by omega) h4
  intro i hi
  by_cases h8 : i < 8
  · omega
  · have : v.toNat.testBit i = false := Nat.testBit_lt_two_pow (Nat.lt_of_lt_of_le (UInt8.toNat_lt v) (show 2 ^ 8 ≤ 2 ^ i from Nat.pow_le_pow_right (by omega) (by omega)))
    rw [this] at hi; cases hi
theorem read_spoilt (u : Int) (l c : List UInt8) (h : bytesOf u l = some c) (k : Nat) (v : UInt8) (hk : k < c.length) (hv : v.toNat ≠ 0) : readOf (spoil c k v) = none := by
  unfold bytesOf at h
  split at h
  · injection h with h
    have h1 := spoil_no c k v hk hv
    unfold readOf
    cases ho : openOf seal16 2 (spoil c k v) with
    | none => rfl
    | some r =>
      have h2 := (openOf_length ho).2.2
      rw [← h2, crc_seal16', ← h, crc_seal16'] at h1
      exact absurd rfl h1
  · cases h
theorem read_bytes (u : Int) (l c : List UInt8) (h : bytesOf u l = some c) : readOf c = some (u, l) := by
  unfold bytesOf at h
  split at h
  · rename_i hh
    injection h with h
    subst h
    have h0 : bAt (UInt8.ofNat u.toNat :: l) 0 = u := by
      have : bAt (UInt8.ofNat u.toNat :: l) 0 = ((UInt8.ofNat u.toNat).toNat : Int) := rfl
      rw [this, ofNat_byte _ (by omega)]; omega
    unfold readOf
    rw [open_seal16]
    show (if _ then _ else _) = _
    rw [if_pos (by rw [h0]; simp; omega), h0]
    rfl
  · cases h
theorem bytes_read (b : List UInt8) (u : Int) (p : List UInt8) (h : readOf b = some (u, p)) : bytesOf u p = some b ∧ b.length ≤ 256 := by
  rw [← refRead_same] at h
  unfold refReadOf at h
  split at h
  · rename_i hh
    injection h with h; injection h with h1 h2
    subst h1 h2
    exact ⟨hh.2.2, hh.2.1⟩
  · cases h
theorem bytes_len (u : Int) (l c : List UInt8) (h : bytesOf u l = some c) : 4 ≤ c.length ∧ c.length ≤ 256 := by
  unfold bytesOf at h
  split at h
  · injection h with h; subst h; rw [seal16_length]; simp; omega
  · cases h
end Go.Proofs.Ytfbeihfpflhdaaa
