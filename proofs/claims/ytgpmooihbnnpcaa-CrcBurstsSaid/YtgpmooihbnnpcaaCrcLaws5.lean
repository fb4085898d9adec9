/-
  Bursts of what is sealed: plain laws on the sealed lists. Conditions stand at each theorem.
-/
import Derived.Test.YtgpmooihbnnpcaaCrcTurned
import Derived.Test.YtgpmooihbnnpcaaCrcLaws4
namespace Go.Proofs.Ytgpmooihbnnpcaa
open Go Go.RowKit Go.Kw Go.Kw.Crc
set_option linter.unusedVariables false
set_option linter.unusedSimpArgs false

theorem byte_of (X j : Nat) (i : Nat) (hi : i < 8) : (UInt8.ofNat (X / 2 ^ (8 * j) % 256)).toNat.testBit i = X.testBit (8 * j + i) := by
  have h : (UInt8.ofNat (X / 2 ^ (8 * j) % 256)).toNat = X / 2 ^ (8 * j) % 2 ^ 8 := by rw [UInt8.toNat_ofNat']; omega
  rw [h, Nat.testBit_mod_two_pow, Nat.testBit_div_two_pow]
  simp [hi, Nat.add_comm]
theorem bits2 (X : Nat) (hX : X < 65536) (p : Nat) (hp : p < 8 * 2) : bitB [UInt8.ofNat (X % 256), UInt8.ofNat (X / 256)] p = X.testBit p := by
  have e0 := byte_of X 0 (p % 8) (Nat.mod_lt _ (by omega))
  have e1 := byte_of X 1 (p % 8) (Nat.mod_lt _ (by omega))
  have h1 : X / 2 ^ (8 * 1) % 256 = X / 256 := by omega
  have h0 : X / 2 ^ (8 * 0) % 256 = X % 256 := by simp
  rw [h0] at e0
  rw [h1] at e1
  unfold bitB
  have : p / 8 = 0 ∨ p / 8 = 1 := by omega
  rcases this with h | h <;> rw [h]
  · refine Eq.trans ?_ (e0.trans (congrArg X.testBit (show 8 * 0 + p % 8 = p from by omega))); rfl
  · refine Eq.trans ?_ (e1.trans (congrArg X.testBit (show 8 * 1 + p % 8 = p from by omega))); rfl
theorem bits4 (X : Nat) (hX : X < 4294967296) (p : Nat) (hp : p < 8 * 4) : bitB [UInt8.ofNat (X % 256), UInt8.ofNat (X / 256 % 256), UInt8.ofNat (X / 65536 % 256), UInt8.ofNat (X / 16777216)] p = X.testBit p := by
  have e0 := byte_of X 0 (p % 8) (Nat.mod_lt _ (by omega))
  have e1 := byte_of X 1 (p % 8) (Nat.mod_lt _ (by omega))
  have e2 := byte_of X 2 (p % 8) (Nat.mod_lt _ (by omega))
  have e3 := byte_of X 3 (p % 8) (Nat.mod_lt _ (by omega))
  have h0 : X / 2 ^ (8 * 0) % 256 = X % 256 := by simp
  have h1 : X / 2 ^ (8 * 1) % 256 = X / 256 % 256 := rfl
  have h2 : X / 2 ^ (8 * 2) % 256 = X / 65536 % 256 := rfl
  have h3 : X / 2 ^ (8 * 3) % 256 = X / 16777216 := by
    have : X / 2 ^ (8 * 3) = X / 16777216 := rfl
    omega
  rw [h0] at e0
  rw [h1] at e1
  rw [h2] at e2
  rw [h3] at e3
  unfold bitB
  have : p / 8 = 0 ∨ p / 8 = 1 ∨ p / 8 = 2 ∨ p / 8 = 3 := by omega
  rcases this with h | h | h | h <;> rw [h]
  · refine Eq.trans ?_ (e0.trans (congrArg X.testBit (show 8 * 0 + p % 8 = p from by omega))); rfl
  · refine Eq.trans ?_ (e1.trans (congrArg X.testBit (show 8 * 1 + p % 8 = p from by omega))); rfl
  · refine Eq.trans ?_ (e2.trans (congrArg X.testBit (show 8 * 2 + p % 8 = p from by omega))); rfl
  · refine Eq.trans ?_ (e3.trans (congrArg X.testBit (show 8 * 3 + p % 8 = p from by omega))); rfl
theorem crc_seal16 (l : List UInt8) : crcB P16 65535 (seal16 l) = 0 := by
  have hs := sum16_lt 65535 (by decide) l
  have := crcB_tail P16 (sum16 65535 l) 2 (sum16 65535 l) l 65535 [UInt8.ofNat (sum16 65535 l % 256), UInt8.ofNat (sum16 65535 l / 256)] rfl rfl (fun p hp => bits2 _ hs p hp) hs
  rw [Nat.xor_self, turns_zero] at this
  exact this
/-- The bytes from n on, the other way round. -/
def swapE (n : Nat) (d : List UInt8) : List UInt8 := d.take n ++ (d.drop n).reverse
theorem swapE_swapE (n : Nat) (d : List UInt8) (h : n ≤ d.length) : swapE n (swapE n d) = d := by
  have hl : (d.take n).length = n := by simp; omega
  unfold swapE
  rw [List.take_append_of_le_length (by omega), List.drop_append_of_le_length (by omega)]
  rw [List.take_of_length_le (by omega), List.drop_of_length_le (by omega)]
  simp
theorem swapE_length (n : Nat) (d : List UInt8) : (swapE n d).length = d.length := by
  unfold swapE; simp; omega
theorem crc_seal32 (l : List UInt8) : crcB P32 M32 (swapE l.length (seal32 l)) = turns P32 32 M32 := by
  have hs := sum32_lt 0 (by decide) l
  have he : swapE l.length (seal32 l) = l ++ [UInt8.ofNat (sum32 0 l % 256), UInt8.ofNat (sum32 0 l / 256 % 256), UInt8.ofNat (sum32 0 l / 65536 % 256), UInt8.ofNat (sum32 0 l / 16777216)] := by
    unfold swapE seal32; simp
  have := crcB_tail P32 (crcB P32 M32 l) 4 (sum32 0 l) l M32 _ rfl rfl (fun p hp => bits4 _ hs p hp) hs
  rw [he]
  refine this.trans ?_
  have e : crcB P32 M32 l ^^^ sum32 0 l = M32 := by
    unfold sum32
    rw [Nat.zero_xor, ← Nat.xor_assoc, Nat.xor_self, Nat.zero_xor]
  rw [e]
/-- A burst changes the sum. -/
theorem burst_no {w : Nat} (poly init a m : Nat) (s : List UInt8) (hp : 2 ^ w ≤ poly) (hp2 : poly < 2 ^ (w + 1)) (hw : w + 1 ≤ 64) (hm : m < 2 ^ (w + 1)) (hF : Fits s a m 64) (ha : a ≤ 8 * s.length) (hc : 0 < count m 64) :
    crcB poly init (turnedTo a m s 64) ≠ crcB poly init s := by
  have hF' : ∀ i, m.testBit i = true → a + i < 8 * s.length := by
    intro i hi
    by_cases h : i < 64
    · exact hF i h hi
    · have : m.testBit i = false := Nat.testBit_lt_two_pow (Nat.lt_of_lt_of_le hm (Nat.pow_le_pow_right (by omega) (by omega)))
      rw [this] at hi; cases hi
  rw [crcB_runB_all, crcB_runB_all, turnedTo_length]
  rw [runB_congr poly init (bitB (turnedTo a m s 64)) (fun p => bitB s p ^^ (decide (a ≤ p) && m.testBit (p - a))) _ (fun p hp => by
    rw [turned_bits a m s 64 hF p hp]
    by_cases h1 : p < a + 64
    · have : decide (a ≤ p ∧ p < a + 64) = decide (a ≤ p) := by rw [Bool.eq_iff_iff]; simp; omega
      rw [this]
    · have : m.testBit (p - a) = false := Nat.testBit_lt_two_pow (Nat.lt_of_lt_of_le hm (Nat.pow_le_pow_right (by omega) (by omega)))
      rw [this]; simp)]
  have h2 := runB2 poly init 0 (bitB s) (fun p => decide (a ≤ p) && m.testBit (p - a)) (8 * s.length)
  rw [Nat.xor_zero] at h2
  rw [h2]
  intro h3
  have h4 : runB poly 0 (fun p => decide (a ≤ p) && m.testBit (p - a)) (8 * s.length) = 0 := by
    have := congrArg (fun z => runB poly init (bitB s) (8 * s.length) ^^^ z) h3
    simp only [← Nat.xor_assoc, Nat.xor_self, Nat.zero_xor] at this
    exact this
  exact burst poly a m (8 * s.length) hp hp2 hm (count_pos _ _ hc) hF' ha h4
theorem burst16 (a m : Nat) (l : List UInt8) (hm : m < 65536) (hF : Fits (seal16 l) a m 64) (ha : a ≤ 8 * (seal16 l).length) (hc : 0 < count m 64) : openOf seal16 2 (turnedTo a m (seal16 l) 64) = none := by
  have h := burst_no (w := 15) P16 65535 a m (seal16 l) (by decide) (by decide) (by omega) hm hF ha hc
  unfold openOf
  rw [if_neg]
  rintro ⟨h1, h2⟩
  rw [← h2, crc_seal16, crc_seal16] at h
  exact h rfl
theorem burst32 (a m : Nat) (l : List UInt8) (hm : m < 4294967296) (hF : Fits (swapE l.length (seal32 l)) a m 64) (ha : a ≤ 8 * (swapE l.length (seal32 l)).length) (hc : 0 < count m 64) :
    openOf seal32 4 (swapE l.length (turnedTo a m (swapE l.length (seal32 l)) 64)) = none := by
  have h := burst_no (w := 31) P32 M32 a m (swapE l.length (seal32 l)) (by decide) (by decide) (by omega) hm hF ha hc
  rw [crc_seal32] at h
  generalize hd : turnedTo a m (swapE l.length (seal32 l)) 64 = d at h
  have hdl : d.length = l.length + 4 := by rw [← hd, turnedTo_length, swapE_length, seal32_length]
  unfold openOf
  rw [if_neg]
  rintro ⟨h1, h2⟩
  rw [swapE_length, hdl, Nat.add_sub_cancel] at h2
  have h3 := crc_seal32 ((swapE l.length d).take l.length)
  rw [h2] at h3
  have h4 : ((swapE l.length d).take l.length).length = l.length := by rw [List.length_take, swapE_length, hdl]; omega
  rw [h4, swapE_swapE _ _ (by omega)] at h3
  exact h h3

theorem bv_set (l : List UInt8) (q : Nat) (b : UInt8) (v : Int) (hv : v = (b.toNat : Int)) : (bv l).set q (.int .u8 v) = bv (l.set q b) := by
  subst hv; unfold bv; rw [List.map_set]
theorem swap_set (n : Nat) (d : List UInt8) (h : d.length = n + 4) :
    ((((bv d).set n (.int .u8 (bAt d (n + 3)))).set (n + 1) (.int .u8 (bAt d (n + 2)))).set (n + 2) (.int .u8 (bAt d (n + 1)))).set (n + 3) (.int .u8 (bAt d n)) = bv (swapE n d) := by
  unfold bAt
  rw [bv_set d n (d.getD (n + 3) 0) _ rfl, bv_set _ _ (d.getD (n + 2) 0) _ rfl, bv_set _ _ (d.getD (n + 1) 0) _ rfl, bv_set _ _ (d.getD n 0) _ rfl]
  congr 1
  obtain ⟨t, ht⟩ : ∃ t, d.drop n = t := ⟨_, rfl⟩
  have htl : t.length = 4 := by rw [← ht, List.length_drop]; omega
  match t, htl with
  | [x0, x1, x2, x3], _ =>
    have hd : d = d.take n ++ [x0, x1, x2, x3] := by rw [← ht]; exact (List.take_append_drop n d).symm
    have hl : (d.take n).length = n := by simp; omega
    have e : swapE n d = d.take n ++ [x3, x2, x1, x0] := by unfold swapE; rw [ht]; rfl
    rw [e]
    generalize d.take n = p at *
    subst hd hl
    simp [List.getD_eq_getElem?_getD, List.set_append_right]
end Go.Proofs.Ytgpmooihbnnpcaa
