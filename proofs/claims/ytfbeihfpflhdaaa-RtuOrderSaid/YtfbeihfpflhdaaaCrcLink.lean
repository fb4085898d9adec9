/-
  What the walks of the sums compute, in their own spelling, is the plain sum.
-/
import Derived.Test.YtfbeihfpflhdaaaCrcPlain
import Derived.Test.YtfbeihfpflhdaaaCrcSum
namespace Go.Proofs.Ytfbeihfpflhdaaa
open Go Go.Kw Go.Kw.Crc
set_option linter.unusedVariables false
set_option linter.unusedSimpArgs false

theorem stepI16 (poly n x : Nat) (hp : poly < 65536) (hn : n < 65536) (hx : x < 2) : stepI .u16 (poly : Int) (n : Int) (x : Int) = ((stp poly n x : Nat) : Int) := by
  have h1 : bits .and .u16 (n : Int) 1 = ((n % 2 : Nat) : Int) := by
    have := u16_and_nat n 1 hn (by omega)
    rw [nat_mask1] at this; exact this
  have h2 : bits .xor .u16 ((n % 2 : Nat) : Int) (x : Int) = (((n + x) % 2 : Nat) : Int) := by
    rw [u16_xor_nat _ _ (by omega) (by omega)]
    have : n % 2 ^^^ x = (n + x) % 2 := by
      have h3 : n % 2 = 0 ∨ n % 2 = 1 := by omega
      have h4 : x = 0 ∨ x = 1 := by omega
      rcases h3 with h3 | h3 <;> rcases h4 with h4 | h4 <;> rw [h3, h4] <;> simp <;> omega
    rw [this]
  have h5 : (n : Int) / 2 = ((n / 2 : Nat) : Int) := by omega
  unfold stepI stp
  rw [h1, h2, h5, u16_xor_nat _ _ (by omega) hp]
  have h6 : ((((n + x) % 2 : Nat) : Int) == 0) = decide ((n + x) % 2 = 0) := by rw [Bool.eq_iff_iff]; simp; omega
  rw [h6]
  by_cases h : (n + x) % 2 = 1
  · rw [if_pos h, if_neg (by simp; omega)]
  · rw [if_neg h, if_pos (by simp; omega)]
theorem rstep16 (poly n : Nat) (hp : poly < 65536) (hn : n < 65536) : rstep .u16 (poly : Int) (n : Int) = ((rst poly n : Nat) : Int) := by
  have h1 : bits .and .u16 (n : Int) 1 = ((n % 2 : Nat) : Int) := by
    have := u16_and_nat n 1 hn (by omega)
    rw [nat_mask1] at this; exact this
  have h5 : (n : Int) / 2 = ((n / 2 : Nat) : Int) := by omega
  unfold rstep rst
  rw [h1, h5, u16_xor_nat _ _ (by omega) hp]
  have h6 : (((n % 2 : Nat) : Int) == 1) = decide (n % 2 = 1) := by rw [Bool.eq_iff_iff]; simp; omega
  rw [h6]
  by_cases h : n % 2 = 1
  · rw [if_pos h, if_pos (by simp; omega)]
  · rw [if_neg h, if_neg (by simp; omega)]
theorem rturns16 (poly n : Nat) (hp : poly < 65536) (hn : n < 65536) (j : Nat) : rturns .u16 (poly : Int) j (n : Int) = ((turns poly j n : Nat) : Int) := by
  induction j with
  | zero => rfl
  | succ j ih => rw [rturns, ih, rstep16 _ _ hp (turns_lt (k := 16) hp hn j)]; rfl
theorem rfold16 (poly n : Nat) (hp : poly < 65536) (hn : n < 65536) (l : List UInt8) (j : Nat) (hj : j ≤ l.length) : rfold .u16 (poly : Int) (n : Int) l j = ((crcB poly n (l.take j) : Nat) : Int) := by
  induction j with
  | zero => rfl
  | succ j ih =>
    have hb := (l.getD j 0).toNat_lt
    have hc := crcB_lt (k := 16) hp (by omega) (l.take j) hn
    rw [rfold_succ, ih (by omega), crcB_take_succ _ _ _ _ (by omega)]
    unfold rbyte bAt byteStep
    rw [u16_xor_nat _ _ hc (by omega), rturns16 _ _ hp (xor_lt' (k := 16) hc (by omega))]
theorem bAt_nat (l : List UInt8) (k m : Nat) : bAt l k / 2 ^ m % 2 = (((l.getD k 0).toNat / 2 ^ m % 2 : Nat) : Int) := by
  unfold bAt
  push_cast
  rfl
theorem fold16 (poly n : Nat) (hp : poly < 65536) (hn : n < 65536) (l : List UInt8) (j m : Nat) (hj : j < l.length) (hm : m ≤ 8) :
    foldI .u16 (poly : Int) (n : Int) ((bitsL l).take (8 * j)) = ((crcB poly n (l.take j) : Nat) : Int) →
    foldI .u16 (poly : Int) (n : Int) ((bitsL l).take (8 * j + m)) = ((bitsRun poly (crcB poly n (l.take j)) (l.getD j 0).toNat m : Nat) : Int) := by
  intro h0
  induction m with
  | zero => exact h0
  | succ m ih =>
    have hx := bitsL_get l j m hj (by omega)
    have hc := bitsRun_lt (k := 16) hp (crcB_lt (k := 16) hp (by omega) (l.take j) hn) (l.getD j 0).toNat m
    have h2 := bAt_lo l j
    have h3 := bAt_hi l j
    have hp2 : (0 : Int) < 2 ^ m := Int.pow_pos (by omega)
    have h4 := Int.ediv_le_self (2 ^ m) h2
    rw [← Nat.add_assoc, foldI_snoc _ _ _ _ _ _ hx, ih (by omega), and1_u8 _ (Int.ediv_nonneg h2 (by omega)) (by omega), bAt_nat, stepI16 _ _ _ hp hc (by omega)]
    rfl
theorem foldI16 (poly n : Nat) (hp : poly < 65536) (hn : n < 65536) (l : List UInt8) (j : Nat) (hj : j ≤ l.length) : foldI .u16 (poly : Int) (n : Int) ((bitsL l).take (8 * j)) = ((crcB poly n (l.take j) : Nat) : Int) := by
  induction j with
  | zero => rfl
  | succ j ih =>
    have := fold16 poly n hp hn l j 8 (by omega) (by omega) (ih (by omega))
    rw [show 8 * (j + 1) = 8 * j + 8 from by omega, this, crcB_take_succ _ _ _ _ (by omega), bitsRun_byte _ _ _ (UInt8.toNat_lt _)]
theorem bitsL_length (l : List UInt8) : (bitsL l).length = 8 * l.length := by simp [bitsL]
theorem fold16_all (n : Nat) (hn : n < 65536) (l : List UInt8) : foldI .u16 40961 (n : Int) (bitsL l) = ((sum16 n l : Nat) : Int) := by
  have := foldI16 P16 n (by decide) hn l l.length (Nat.le_refl _)
  rw [List.take_of_length_le (by rw [bitsL_length]; omega), List.take_length] at this
  exact this
theorem ref16_all (n : Nat) (hn : n < 65536) (l : List UInt8) : rfold .u16 40961 (n : Int) l l.length = ((sum16 n l : Nat) : Int) := by
  have := rfold16 P16 n (by decide) hn l l.length (Nat.le_refl _)
  rw [List.take_length] at this
  exact this

/-! ### The same at 32 bits -/
theorem stepI32 (poly n x : Nat) (hp : poly < 4294967296) (hn : n < 4294967296) (hx : x < 2) : stepI .u32 (poly : Int) (n : Int) (x : Int) = ((stp poly n x : Nat) : Int) := by
  have h1 : bits .and .u32 (n : Int) 1 = ((n % 2 : Nat) : Int) := by
    have := u32_and_nat n 1 hn (by omega)
    rw [nat_mask1] at this; exact this
  have h2 : bits .xor .u32 ((n % 2 : Nat) : Int) (x : Int) = (((n + x) % 2 : Nat) : Int) := by
    rw [u32_xor_nat _ _ (by omega) (by omega)]
    have : n % 2 ^^^ x = (n + x) % 2 := by
      have h3 : n % 2 = 0 ∨ n % 2 = 1 := by omega
      have h4 : x = 0 ∨ x = 1 := by omega
      rcases h3 with h3 | h3 <;> rcases h4 with h4 | h4 <;> rw [h3, h4] <;> simp <;> omega
    rw [this]
  have h5 : (n : Int) / 2 = ((n / 2 : Nat) : Int) := by omega
  unfold stepI stp
  rw [h1, h2, h5, u32_xor_nat _ _ (by omega) hp]
  have h6 : ((((n + x) % 2 : Nat) : Int) == 0) = decide ((n + x) % 2 = 0) := by rw [Bool.eq_iff_iff]; simp; omega
  rw [h6]
  by_cases h : (n + x) % 2 = 1
  · rw [if_pos h, if_neg (by simp; omega)]
  · rw [if_neg h, if_pos (by simp; omega)]
theorem rstep32 (poly n : Nat) (hp : poly < 4294967296) (hn : n < 4294967296) : rstep .u32 (poly : Int) (n : Int) = ((rst poly n : Nat) : Int) := by
  have h1 : bits .and .u32 (n : Int) 1 = ((n % 2 : Nat) : Int) := by
    have := u32_and_nat n 1 hn (by omega)
    rw [nat_mask1] at this; exact this
  have h5 : (n : Int) / 2 = ((n / 2 : Nat) : Int) := by omega
  unfold rstep rst
  rw [h1, h5, u32_xor_nat _ _ (by omega) hp]
  have h6 : (((n % 2 : Nat) : Int) == 1) = decide (n % 2 = 1) := by rw [Bool.eq_iff_iff]; simp; omega
  rw [h6]
  by_cases h : n % 2 = 1
  · rw [if_pos h, if_pos (by simp; omega)]
  · rw [if_neg h, if_neg (by simp; omega)]
theorem rturns32 (poly n : Nat) (hp : poly < 4294967296) (hn : n < 4294967296) (j : Nat) : rturns .u32 (poly : Int) j (n : Int) = ((turns poly j n : Nat) : Int) := by
  induction j with
  | zero => rfl
  | succ j ih => rw [rturns, ih, rstep32 _ _ hp (turns_lt (k := 32) hp hn j)]; rfl
theorem rfold32 (poly n : Nat) (hp : poly < 4294967296) (hn : n < 4294967296) (l : List UInt8) (j : Nat) (hj : j ≤ l.length) : rfold .u32 (poly : Int) (n : Int) l j = ((crcB poly n (l.take j) : Nat) : Int) := by
  induction j with
  | zero => rfl
  | succ j ih =>
    have hb := (l.getD j 0).toNat_lt
    have hc := crcB_lt (k := 32) hp (by omega) (l.take j) hn
    rw [rfold_succ, ih (by omega), crcB_take_succ _ _ _ _ (by omega)]
    unfold rbyte bAt byteStep
    rw [u32_xor_nat _ _ hc (by omega), rturns32 _ _ hp (xor_lt' (k := 32) hc (by omega))]
theorem fold32 (poly n : Nat) (hp : poly < 4294967296) (hn : n < 4294967296) (l : List UInt8) (j m : Nat) (hj : j < l.length) (hm : m ≤ 8) :
    foldI .u32 (poly : Int) (n : Int) ((bitsL l).take (8 * j)) = ((crcB poly n (l.take j) : Nat) : Int) →
    foldI .u32 (poly : Int) (n : Int) ((bitsL l).take (8 * j + m)) = ((bitsRun poly (crcB poly n (l.take j)) (l.getD j 0).toNat m : Nat) : Int) := by
  intro h0
  induction m with
  | zero => exact h0
  | succ m ih =>
    have hx := bitsL_get l j m hj (by omega)
    have hc := bitsRun_lt (k := 32) hp (crcB_lt (k := 32) hp (by omega) (l.take j) hn) (l.getD j 0).toNat m
    have h2 := bAt_lo l j
    have h3 := bAt_hi l j
    have hp2 : (0 : Int) < 2 ^ m := Int.pow_pos (by omega)
    have h4 := Int.ediv_le_self (2 ^ m) h2
    rw [← Nat.add_assoc, foldI_snoc _ _ _ _ _ _ hx, ih (by omega), and1_u8 _ (Int.ediv_nonneg h2 (by omega)) (by omega), bAt_nat, stepI32 _ _ _ hp hc (by omega)]
    rfl
theorem foldI32 (poly n : Nat) (hp : poly < 4294967296) (hn : n < 4294967296) (l : List UInt8) (j : Nat) (hj : j ≤ l.length) : foldI .u32 (poly : Int) (n : Int) ((bitsL l).take (8 * j)) = ((crcB poly n (l.take j) : Nat) : Int) := by
  induction j with
  | zero => rfl
  | succ j ih =>
    have := fold32 poly n hp hn l j 8 (by omega) (by omega) (ih (by omega))
    rw [show 8 * (j + 1) = 8 * j + 8 from by omega, this, crcB_take_succ _ _ _ _ (by omega), bitsRun_byte _ _ _ (UInt8.toNat_lt _)]
theorem max32 : IntKind.u32.max = 4294967295 := by simp [IntKind.max, IntKind.bits, IntKind.signed]
theorem notI_nat (n : Nat) (hn : n < 4294967296) : notI (n : Int) = ((n ^^^ M32 : Nat) : Int) := by
  unfold notI
  rw [max32]
  have := u32_xor_nat 4294967295 n (by omega) hn
  rw [Nat.xor_comm] at this
  exact this
theorem fold32_all (n : Nat) (hn : n < 4294967296) (l : List UInt8) : notI (foldI .u32 3988292384 (notI (n : Int)) (bitsL l)) = ((sum32 n l : Nat) : Int) := by
  have hx : n ^^^ M32 < 4294967296 := xor_lt' (k := 32) hn (by decide)
  have := foldI32 P32 (n ^^^ M32) (by decide) hx l l.length (Nat.le_refl _)
  rw [List.take_of_length_le (by rw [bitsL_length]; omega), List.take_length] at this
  rw [notI_nat _ hn]
  refine (congrArg notI this).trans ?_
  rw [notI_nat _ (crcB_lt (k := 32) (by decide) (by omega) l hx)]
  rfl
end Go.Proofs.Ytfbeihfpflhdaaa
