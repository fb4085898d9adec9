/-
  Cyclic sums as plain functions on natural numbers and lists of bytes.
-/
import Derived.Test.YtfbeihfpflhdaaaBase
namespace Go.Kw.Crc
open Go

/-- One bit x goes into the sum n. -/
def stp (poly n x : Nat) : Nat := if (n + x) % 2 = 1 then (n / 2) ^^^ poly else n / 2
/-- One turn without a bit. -/
def rst (poly n : Nat) : Nat := if n % 2 = 1 then (n / 2) ^^^ poly else n / 2
def turns (poly : Nat) : Nat → Nat → Nat
  | 0, n => n
  | j + 1, n => rst poly (turns poly j n)
def byteStep (poly n b : Nat) : Nat := turns poly 8 (n ^^^ b)
/-- The sum of bytes behind a sum. -/
def crcB (poly n : Nat) (l : List UInt8) : Nat := l.foldl (fun n b => byteStep poly n b.toNat) n

theorem xor_mod2 (a b : Nat) : (a ^^^ b) % 2 = (a + b) % 2 := by
  have h : (a ^^^ b) % 2 ^ 1 = a % 2 ^ 1 ^^^ b % 2 ^ 1 := Nat.xor_mod_two_pow
  simp only [Nat.pow_one] at h
  rw [h]
  have h3 : a % 2 = 0 ∨ a % 2 = 1 := by omega
  have h4 : b % 2 = 0 ∨ b % 2 = 1 := by omega
  rcases h3 with h3 | h3 <;> rcases h4 with h4 | h4 <;> rw [h3, h4] <;> simp <;> omega
theorem xor_div2 (a b : Nat) : (a ^^^ b) / 2 = (a / 2) ^^^ (b / 2) := by
  apply Nat.eq_of_testBit_eq
  intro i
  simp only [Nat.testBit_xor, Nat.testBit_div_two]
theorem xor_right_comm' (a b c : Nat) : (a ^^^ b) ^^^ c = (a ^^^ c) ^^^ b := by rw [Nat.xor_assoc, Nat.xor_comm b c, ← Nat.xor_assoc]

theorem rst_xor (poly n y : Nat) : rst poly (n ^^^ y) = stp poly n (y % 2) ^^^ (y / 2) := by
  unfold rst stp
  rw [xor_mod2, xor_div2]
  have : (n + y % 2) % 2 = (n + y) % 2 := by omega
  rw [this]
  split
  · exact xor_right_comm' _ _ _
  · rfl

/-- The sum over the first i bits of b. -/
def bitsRun (poly n b : Nat) : Nat → Nat
  | 0 => n
  | i + 1 => stp poly (bitsRun poly n b i) (b / 2 ^ i % 2)
theorem turns_bits (poly n b i : Nat) : turns poly i (n ^^^ b) = bitsRun poly n b i ^^^ (b / 2 ^ i) := by
  induction i with
  | zero => simp [turns, bitsRun]
  | succ i ih =>
    rw [turns, ih, rst_xor, bitsRun]
    congr 1
    rw [Nat.div_div_eq_div_mul, Nat.pow_succ]
theorem bitsRun_byte (poly n b : Nat) (hb : b < 256) : bitsRun poly n b 8 = byteStep poly n b := by
  unfold byteStep
  rw [turns_bits, Nat.div_eq_of_lt hb, Nat.xor_zero]

theorem crcB_nil (poly n : Nat) : crcB poly n [] = n := rfl
theorem crcB_append (poly n : Nat) (a b : List UInt8) : crcB poly n (a ++ b) = crcB poly (crcB poly n a) b := by simp [crcB]
theorem crcB_take_succ (poly n : Nat) (l : List UInt8) (j : Nat) (h : j < l.length) : crcB poly n (l.take (j + 1)) = byteStep poly (crcB poly n (l.take j)) (l.getD j 0).toNat := by
  rw [List.take_succ_eq_append_getElem h, crcB_append]
  simp [crcB, List.getD, h]

section bounds
variable {poly k : Nat}
theorem xor_lt' {a b : Nat} (ha : a < 2 ^ k) (hb : b < 2 ^ k) : a ^^^ b < 2 ^ k := Nat.xor_lt_two_pow ha hb
theorem stp_lt (hp : poly < 2 ^ k) {n : Nat} (hn : n < 2 ^ k) (x : Nat) : stp poly n x < 2 ^ k := by
  unfold stp
  split
  · exact xor_lt' (by omega) hp
  · omega
theorem rst_lt (hp : poly < 2 ^ k) {n : Nat} (hn : n < 2 ^ k) : rst poly n < 2 ^ k := by
  unfold rst
  split
  · exact xor_lt' (by omega) hp
  · omega
theorem turns_lt (hp : poly < 2 ^ k) {n : Nat} (hn : n < 2 ^ k) (j : Nat) : turns poly j n < 2 ^ k := by
  induction j with
  | zero => exact hn
  | succ j ih => exact rst_lt hp ih
theorem bitsRun_lt (hp : poly < 2 ^ k) {n : Nat} (hn : n < 2 ^ k) (b i : Nat) : bitsRun poly n b i < 2 ^ k := by
  induction i with
  | zero => exact hn
  | succ i ih => exact stp_lt hp ih _
theorem byteStep_lt (hp : poly < 2 ^ k) (hk : 8 ≤ k) {n b : Nat} (hn : n < 2 ^ k) (hb : b < 256) : byteStep poly n b < 2 ^ k :=
  turns_lt hp (xor_lt' hn (Nat.lt_of_lt_of_le hb (Nat.pow_le_pow_right (n := 2) (by omega) hk))) 8
theorem crcB_lt (hp : poly < 2 ^ k) (hk : 8 ≤ k) (l : List UInt8) {n : Nat} (hn : n < 2 ^ k) : crcB poly n l < 2 ^ k := by
  induction l generalizing n with
  | nil => exact hn
  | cons b l ih => exact ih (byteStep_lt hp hk hn b.toNat_lt)
end bounds

def P16 : Nat := 40961
def P32 : Nat := 3988292384
def M32 : Nat := 4294967295
def sum16 (n : Nat) (l : List UInt8) : Nat := crcB P16 n l
def sum32 (n : Nat) (l : List UInt8) : Nat := crcB P32 (n ^^^ M32) l ^^^ M32
end Go.Kw.Crc
