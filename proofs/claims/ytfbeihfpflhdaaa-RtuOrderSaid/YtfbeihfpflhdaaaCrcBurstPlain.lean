/-
  Bursts: of something sealed of which bits within a window of 16 (32) are turned, and at least one, the sum is another one. Plain laws, no program.
-/
import Derived.Test.YtfbeihfpflhdaaaCrcPlain
namespace Go.Kw.Crc
open Go

/-- The bit number p of bytes. -/
def bitB (l : List UInt8) (p : Nat) : Bool := (l.getD (p / 8) 0).toNat.testBit (p % 8)
def b2n (b : Bool) : Nat := if b then 1 else 0
/-- The sum over so many bits. -/
def runB (poly n : Nat) (e : Nat → Bool) : Nat → Nat
  | 0 => n
  | k + 1 => stp poly (runB poly n e k) (b2n (e k))
theorem testBit_div (n i : Nat) : n / 2 ^ i % 2 = b2n (n.testBit i) := by
  rw [Nat.testBit_eq_decide_div_mod_eq]
  unfold b2n
  have : n / 2 ^ i % 2 = 0 ∨ n / 2 ^ i % 2 = 1 := by omega
  rcases this with h | h <;> simp [h]
theorem runB_congr (poly n : Nat) (e f : Nat → Bool) (k : Nat) (h : ∀ p, p < k → e p = f p) : runB poly n e k = runB poly n f k := by
  induction k with
  | zero => rfl
  | succ k ih => rw [runB, runB, ih (fun p hp => h p (by omega)), h k (by omega)]
theorem runB_add (poly n : Nat) (e : Nat → Bool) (a k : Nat) : runB poly n e (a + k) = runB poly (runB poly n e a) (fun p => e (a + p)) k := by
  induction k with
  | zero => rfl
  | succ k ih => rw [← Nat.add_assoc, runB, ih, runB]
theorem bitsRun_runB (poly n b i : Nat) : bitsRun poly n b i = runB poly n (fun p => b.testBit p) i := by
  induction i with
  | zero => rfl
  | succ i ih => rw [bitsRun, runB, ih, testBit_div]
/-- The sum of bytes is the one of their bits. -/
theorem crcB_runB (poly n : Nat) (l : List UInt8) (j : Nat) (hj : j ≤ l.length) : crcB poly n (l.take j) = runB poly n (bitB l) (8 * j) := by
  induction j with
  | zero => rfl
  | succ j ih =>
    rw [crcB_take_succ _ _ _ _ (by omega), ih (by omega), show 8 * (j + 1) = 8 * j + 8 from by omega, runB_add, ← bitsRun_byte _ _ _ (UInt8.toNat_lt _), bitsRun_runB]
    refine runB_congr _ _ _ _ _ (fun p hp => ?_)
    unfold bitB
    rw [show (8 * j + p) / 8 = j from by omega, show (8 * j + p) % 8 = p from by omega]
theorem crcB_runB_all (poly n : Nat) (l : List UInt8) : crcB poly n l = runB poly n (bitB l) (8 * l.length) := by
  have := crcB_runB poly n l l.length (Nat.le_refl _)
  rwa [List.take_length] at this

theorem stp_if (poly n x : Nat) : stp poly n x = (n / 2) ^^^ (if (n + x) % 2 = 1 then poly else 0) := by
  unfold stp; split <;> simp
theorem stp2 (poly n m : Nat) (a b : Bool) : stp poly (n ^^^ m) (b2n (a ^^ b)) = stp poly n (b2n a) ^^^ stp poly m (b2n b) := by
  rw [stp_if, stp_if poly n, stp_if poly m, xor_div2]
  have hm : (n ^^^ m) % 2 = (n + m) % 2 := xor_mod2 n m
  have e1 : ((n ^^^ m) + b2n (a ^^ b)) % 2 = (n % 2 + m % 2 + b2n (a ^^ b)) % 2 := by omega
  have e2 : (n + b2n a) % 2 = (n % 2 + b2n a) % 2 := by omega
  have e3 : (m + b2n b) % 2 = (m % 2 + b2n b) % 2 := by omega
  rw [e1, e2, e3]
  have h1 : n % 2 = 0 ∨ n % 2 = 1 := by omega
  have h2 : m % 2 = 0 ∨ m % 2 = 1 := by omega
  apply Nat.eq_of_testBit_eq
  intro i
  rcases h1 with h1 | h1 <;> rcases h2 with h2 | h2 <;> cases a <;> cases b <;> simp only [h1, h2, b2n, Nat.testBit_xor, Bool.xor_true, Bool.xor_false, Bool.not_true, Bool.not_false, if_true, if_false, Bool.false_eq_true] <;> (try simp) <;>
    cases (n / 2).testBit i <;> cases (m / 2).testBit i <;> cases poly.testBit i <;> rfl
/-- Sums of what is exclusive or of two. -/
theorem runB2 (poly n m : Nat) (e f : Nat → Bool) (k : Nat) : runB poly (n ^^^ m) (fun p => e p ^^ f p) k = runB poly n e k ^^^ runB poly m f k := by
  induction k with
  | zero => rfl
  | succ k ih => rw [runB, ih, stp2]; rfl

/-- A turn of something that is not 0 is not 0. -/
theorem rst_ne {w : Nat} (poly n : Nat) (hp : 2 ^ w ≤ poly) (hn : n < 2 ^ (w + 1)) (h : n ≠ 0) : rst poly n ≠ 0 := by
  have hw : n / 2 < 2 ^ w := by rw [Nat.pow_succ] at hn; omega
  unfold rst
  split
  · intro h0
    have h1 : (n / 2) ^^^ ((n / 2) ^^^ poly) = poly := by rw [← Nat.xor_assoc, Nat.xor_self, Nat.zero_xor]
    rw [h0, Nat.xor_zero] at h1
    omega
  · omega
theorem turns_ne {w : Nat} (poly n : Nat) (hp : 2 ^ w ≤ poly) (hp2 : poly < 2 ^ (w + 1)) (hn : n < 2 ^ (w + 1)) (h : n ≠ 0) (j : Nat) : turns poly j n ≠ 0 := by
  induction j with
  | zero => exact h
  | succ j ih => exact rst_ne poly _ hp (turns_lt hp2 hn j) ih
theorem runB_zero (poly n : Nat) (k : Nat) : runB poly n (fun _ => false) k = turns poly k n := by
  induction k with
  | zero => rfl
  | succ k ih => rw [runB, ih, turns]; unfold stp rst b2n; simp
theorem turns_zero (poly j : Nat) : turns poly j 0 = 0 := by
  induction j with
  | zero => rfl
  | succ j ih => rw [turns, ih]; rfl
/-- THE BURST: bits from 'at_' on that X has, fewer than the sum's own, not none of them, all ahead of the end: the sum of these is not 0. -/
theorem burst {w : Nat} (poly at_ X N : Nat) (hp : 2 ^ w ≤ poly) (hp2 : poly < 2 ^ (w + 1)) (hX : X < 2 ^ (w + 1)) (h0 : X ≠ 0) (hN : ∀ i, X.testBit i = true → at_ + i < N) (ha : at_ ≤ N) :
    runB poly 0 (fun p => decide (at_ ≤ p) && X.testBit (p - at_)) N ≠ 0 := by
  obtain ⟨r, rfl⟩ : ∃ r, N = at_ + r := ⟨N - at_, by omega⟩
  rw [runB_add]
  have h1 : runB poly 0 (fun p => decide (at_ ≤ p) && X.testBit (p - at_)) at_ = 0 := by
    rw [runB_congr _ _ _ (fun _ => false) _ (fun p hp => by simp; omega), runB_zero, turns_zero]
  rw [h1, runB_congr _ _ _ (fun p => X.testBit p) _ (fun p _ => by simp), ← bitsRun_runB]
  have hXr : X / 2 ^ r = 0 := by
    rw [Nat.div_eq_zero_iff]
    right
    apply Nat.lt_pow_two_of_testBit
    intro i hi
    cases hb : X.testBit i with
    | false => rfl
    | true => have := hN i hb; omega
  have := turns_bits poly 0 X r
  rw [hXr, Nat.xor_zero, Nat.zero_xor] at this
  rw [← this]
  exact turns_ne poly X hp hp2 hX h0 r

/-- A number's bytes, the lowest first, behind bytes. -/
theorem crcB_tail (poly r k X : Nat) (l : List UInt8) (n : Nat) (tl : List UInt8) (hr : crcB poly n l = r) (ht : tl.length = k) (hb : ∀ p, p < 8 * k → bitB tl p = X.testBit p) (hX : X < 2 ^ (8 * k)) :
    crcB poly n (l ++ tl) = turns poly (8 * k) (r ^^^ X) := by
  rw [crcB_append, hr, crcB_runB_all, ht, runB_congr _ _ _ (fun p => X.testBit p) _ hb, ← bitsRun_runB]
  have := turns_bits poly r X (8 * k)
  rw [Nat.div_eq_of_lt hX, Nat.xor_zero] at this
  exact this.symm

/-- What 'turned' has made when i bits of the mask have been looked at. -/
def turnedTo (at_ mask : Nat) (b : List UInt8) : Nat → List UInt8
  | 0 => b
  | i + 1 => if mask.testBit i then (turnedTo at_ mask b i).set ((at_ + i) / 8) ((turnedTo at_ mask b i).getD ((at_ + i) / 8) 0 ^^^ UInt8.ofNat (2 ^ ((at_ + i) % 8))) else turnedTo at_ mask b i
theorem turnedTo_length (at_ mask : Nat) (b : List UInt8) (i : Nat) : (turnedTo at_ mask b i).length = b.length := by
  induction i with
  | zero => rfl
  | succ i ih => unfold turnedTo; split <;> simp [ih]
theorem testBit_two_pow' (t j : Nat) : (2 ^ t).testBit j = decide (t = j) := by
  rw [Nat.testBit_two_pow]
theorem turned_bits (at_ mask : Nat) (b : List UInt8) (i : Nat) (hN : ∀ j, j < i → mask.testBit j = true → at_ + j < 8 * b.length) (p : Nat) (hp : p < 8 * b.length) :
    bitB (turnedTo at_ mask b i) p = (bitB b p ^^ (decide (at_ ≤ p ∧ p < at_ + i) && mask.testBit (p - at_))) := by
  induction i with
  | zero =>
    have h : decide (at_ ≤ p ∧ p < at_ + 0) = false := by rw [decide_eq_false_iff_not]; omega
    rw [h]; simp [turnedTo]
  | succ i ih =>
    have ih := ih (fun j hj => hN j (by omega))
    unfold turnedTo
    split
    · rename_i hm
      have hq := hN i (by omega) hm
      have hl := turnedTo_length at_ mask b i
      unfold bitB at ih ⊢
      by_cases hq1 : (at_ + i) / 8 = p / 8
      · have hlt : p / 8 < (turnedTo at_ mask b i).length := by rw [hl]; omega
        rw [hq1, List.getD_eq_getElem?_getD, List.getElem?_set_self hlt, Option.getD_some, UInt8.toNat_xor, Nat.testBit_xor, ih]
        have e : (UInt8.ofNat (2 ^ ((at_ + i) % 8))).toNat = 2 ^ ((at_ + i) % 8) := by
          have h8 : 2 ^ ((at_ + i) % 8) < 256 := by
            have : (2 : Nat) ^ ((at_ + i) % 8) < 2 ^ 8 := Nat.pow_lt_pow_right (by omega) (by omega)
            omega
          simp [UInt8.toNat_ofNat']; omega
        rw [e, testBit_two_pow']
        by_cases hpe : p = at_ + i
        · subst hpe
          simp [hm]
        · have h1 : decide ((at_ + i) % 8 = p % 8) = false := by simp; omega
          have h2 : decide (at_ ≤ p ∧ p < at_ + (i + 1)) = decide (at_ ≤ p ∧ p < at_ + i) := by rw [Bool.eq_iff_iff]; simp; omega
          rw [h1, h2]; simp
      · rw [List.getD_eq_getElem?_getD, List.getElem?_set_ne hq1, ← List.getD_eq_getElem?_getD, ih]
        have h2 : decide (at_ ≤ p ∧ p < at_ + (i + 1)) = decide (at_ ≤ p ∧ p < at_ + i) := by rw [Bool.eq_iff_iff]; simp; omega
        rw [h2]
    · rename_i hm
      rw [ih]
      by_cases hpe : p = at_ + i
      · subst hpe
        simp at hm
        simp [hm]
      · have h2 : decide (at_ ≤ p ∧ p < at_ + (i + 1)) = decide (at_ ≤ p ∧ p < at_ + i) := by rw [Bool.eq_iff_iff]; simp; omega
        rw [h2]
/-- How many bits the mask has below i. -/
def count (mask : Nat) : Nat → Nat
  | 0 => 0
  | i + 1 => count mask i + b2n (mask.testBit i)
theorem count_le (mask i : Nat) : count mask i ≤ i := by
  induction i with
  | zero => simp [count]
  | succ i ih => unfold count b2n; split <;> omega
theorem count_pos (mask i : Nat) (h : 0 < count mask i) : mask ≠ 0 := by
  rintro rfl
  induction i with
  | zero => simp [count] at h
  | succ i ih => simp [count, b2n] at h; exact ih h
end Go.Kw.Crc
