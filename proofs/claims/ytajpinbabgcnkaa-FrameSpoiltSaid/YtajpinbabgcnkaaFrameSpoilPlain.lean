/-
  A frame of which one byte behind its length is another one says nothing: plain laws, no program in sight.
-/
import Derived.Test.YtajpinbabgcnkaaFramePlain
namespace Go.Kw.Fm
open Go Go.RowKit Go.Kw Go.Kw.Crc
set_option linter.unusedVariables false
set_option linter.unusedSimpArgs false

/-- One byte that is another one. -/
def spoil (c : List UInt8) (k : Nat) (v : UInt8) : List UInt8 := c.set k (c.getD k 0 ^^^ v)
theorem spoil_length (c : List UInt8) (k : Nat) (v : UInt8) : (spoil c k v).length = c.length := by simp [spoil]
theorem spoil_bits (c : List UInt8) (k : Nat) (v : UInt8) (hk : k < c.length) (p : Nat) (hp : p < 8 * c.length) :
    bitB (spoil c k v) p = (bitB c p ^^ (decide (8 * k ≤ p) && v.toNat.testBit (p - 8 * k))) := by
  unfold bitB spoil
  by_cases h : k = p / 8
  · subst h
    rw [List.getD_eq_getElem?_getD, List.getElem?_set_self hk, Option.getD_some, UInt8.toNat_xor, Nat.testBit_xor]
    have h1 : decide (8 * (p / 8) ≤ p) = true := by simp; omega
    rw [h1, show p - 8 * (p / 8) = p % 8 from by omega, Bool.true_and]
  · rw [List.getD_eq_getElem?_getD, List.getElem?_set_ne h, ← List.getD_eq_getElem?_getD]
    by_cases h2 : 8 * k ≤ p
    · have : v.toNat.testBit (p - 8 * k) = false := Nat.testBit_lt_two_pow (Nat.lt_of_lt_of_le (UInt8.toNat_lt v) (show 2 ^ 8 ≤ 2 ^ (p - 8 * k) from Nat.pow_le_pow_right (by omega) (by omega)))
      rw [this]; simp
    · simp [h2]
theorem spoil_no (m : Nat) (c : List UInt8) (k : Nat) (v : UInt8) (hk : k < c.length) (hv : v.toNat ≠ 0) : crcB P32 m (spoil c k v) ≠ crcB P32 m c := by
  have hl := spoil_length c k v
  have hX : v.toNat < 2 ^ 32 := Nat.lt_of_lt_of_le (UInt8.toNat_lt v) (by decide)
  rw [crcB_runB_all, crcB_runB_all, hl, runB_congr P32 m (bitB (spoil c k v)) (fun p => bitB c p ^^ (decide (8 * k ≤ p) && v.toNat.testBit (p - 8 * k))) _ (fun p hp => spoil_bits c k v hk p hp)]
  have h2 := runB2 P32 m 0 (bitB c) (fun p => decide (8 * k ≤ p) && v.toNat.testBit (p - 8 * k)) (8 * c.length)
  rw [Nat.xor_zero] at h2
  rw [h2]
  intro h3
  have h4 : runB P32 0 (fun p => decide (8 * k ≤ p) && v.toNat.testBit (p - 8 * k)) (8 * c.length) = 0 := by
    have := congrArg (fun z => runB P32 m (bitB c) (8 * c.length) ^^^ z) h3
    simp only [← Nat.xor_assoc, Nat.xor_self, Nat.zero_xor] at this
    exact this
  refine burst (w := 31) P32 (8 * k) v.toNat (8 * c.length) (by decide) (by decide) hX hv ?_ (by omega) h4
  intro i hi
  by_cases h8 : i < 8
  · omega
  · have : v.toNat.testBit i = false := Nat.testBit_lt_two_pow (Nat.lt_of_lt_of_le (UInt8.toNat_lt v) (show 2 ^ 8 ≤ 2 ^ i from Nat.pow_le_pow_right (by omega) (by omega)))
    rw [this] at hi; cases hi
theorem xor_cancel (a b c : Nat) (h : a ^^^ c = b ^^^ c) : a = b := by
  have := congrArg (fun z => z ^^^ c) h
  simp only [Nat.xor_assoc, Nat.xor_self, Nat.xor_zero] at this
  exact this
theorem fsum_spoil (b : List UInt8) (k : Nat) (v : UInt8) (hk : k < b.length) (hv : v.toNat ≠ 0) : fsum (spoil b k v) ≠ fsum b := by
  unfold fsum
  rw [spoil_length]
  intro h
  unfold sum32 at h
  exact spoil_no _ b k v hk hv (xor_cancel _ _ _ h)
theorem xor_ne (a v : UInt8) (hv : v.toNat ≠ 0) : (a ^^^ v).toNat ≠ a.toNat := by
  rw [UInt8.toNat_xor]
  intro h
  have := congrArg (fun z => a.toNat ^^^ z) h
  simp only [← Nat.xor_assoc, Nat.xor_self, Nat.zero_xor] at this
  exact hv this
theorem whyOf_three {l : List UInt8} (h1 : 2 ≤ l.length) (h2 : 1 ≤ nOf l) (h3 : nOf l ≤ 4096) (h4 : 6 + nOf l ≤ l.length) (h5 : fsum (recOf l) ≠ sOf l) : whyOf l = 3 := by
  unfold whyOf
  rw [if_neg (by omega), if_neg (by omega), if_neg (by omega), if_neg h5]
/-- THE SPOILT FRAME: one byte behind the length is another one. -/
theorem why_spoilt (b : List UInt8) (h : mayR b = true) (n : Nat) (h2 : 2 ≤ n) (hn : n < 6 + b.length) (v : UInt8) (hv : v.toNat ≠ 0) (t : List UInt8) : whyOf (spoil (frm b) n v ++ t) = 3 := by
  have hb := (mayR_iff b).1 h
  obtain ⟨g1, g2, g3⟩ := read_any b.length (fsum b) hb.2 (fsum_lt b) b t
  have g3 := g3 rfl
  have hlen : (spoil (frm b) n v ++ t).length = 6 + b.length + t.length := by rw [List.length_append, spoil_length, frm_length]
  by_cases h6 : n < 6
  · have hn' : nOf (spoil (frm b) n v ++ t) = b.length := by
      rw [← g1]
      have : n = 2 ∨ n = 3 ∨ n = 4 ∨ n = 5 := by omega
      rcases this with rfl | rfl | rfl | rfl <;> rfl
    have hr' : recOf (spoil (frm b) n v ++ t) = b := by
      unfold recOf
      rw [hn']
      have : n = 2 ∨ n = 3 ∨ n = 4 ∨ n = 5 := by omega
      refine Eq.trans (b := (b ++ t).take b.length) ?_ (by rw [List.take_left])
      rcases this with rfl | rfl | rfl | rfl <;> rfl
    refine whyOf_three (by omega) (by omega) (by omega) (by omega) ?_
    rw [hr']
    have hs : sOf (hd b.length ++ (be4 (fsum b) ++ b) ++ t) ≠ sOf (spoil (frm b) n v ++ t) := by
      have x2 := xor_ne (UInt8.ofNat (fsum b / 16777216)) v hv
      have x3 := xor_ne (UInt8.ofNat (fsum b / 65536)) v hv
      have x4 := xor_ne (UInt8.ofNat (fsum b / 256)) v hv
      have x5 := xor_ne (UInt8.ofNat (fsum b)) v hv
      have y2 := (UInt8.ofNat (fsum b / 16777216)).toNat_lt
      have y3 := (UInt8.ofNat (fsum b / 65536)).toNat_lt
      have y4 := (UInt8.ofNat (fsum b / 256)).toNat_lt
      have y5 := (UInt8.ofNat (fsum b)).toNat_lt
      have : n = 2 ∨ n = 3 ∨ n = 4 ∨ n = 5 := by omega
      rcases this with rfl | rfl | rfl | rfl
      · show (UInt8.ofNat (fsum b / 16777216)).toNat * 16777216 + (UInt8.ofNat (fsum b / 65536)).toNat * 65536 + (UInt8.ofNat (fsum b / 256)).toNat * 256 + (UInt8.ofNat (fsum b)).toNat ≠ (UInt8.ofNat (fsum b / 16777216) ^^^ v).toNat * 16777216 + (UInt8.ofNat (fsum b / 65536)).toNat * 65536 + (UInt8.ofNat (fsum b / 256)).toNat * 256 + (UInt8.ofNat (fsum b)).toNat
        omega
      · show (UInt8.ofNat (fsum b / 16777216)).toNat * 16777216 + (UInt8.ofNat (fsum b / 65536)).toNat * 65536 + (UInt8.ofNat (fsum b / 256)).toNat * 256 + (UInt8.ofNat (fsum b)).toNat ≠ (UInt8.ofNat (fsum b / 16777216)).toNat * 16777216 + (UInt8.ofNat (fsum b / 65536) ^^^ v).toNat * 65536 + (UInt8.ofNat (fsum b / 256)).toNat * 256 + (UInt8.ofNat (fsum b)).toNat
        omega
      · show (UInt8.ofNat (fsum b / 16777216)).toNat * 16777216 + (UInt8.ofNat (fsum b / 65536)).toNat * 65536 + (UInt8.ofNat (fsum b / 256)).toNat * 256 + (UInt8.ofNat (fsum b)).toNat ≠ (UInt8.ofNat (fsum b / 16777216)).toNat * 16777216 + (UInt8.ofNat (fsum b / 65536)).toNat * 65536 + (UInt8.ofNat (fsum b / 256) ^^^ v).toNat * 256 + (UInt8.ofNat (fsum b)).toNat
        omega
      · show (UInt8.ofNat (fsum b / 16777216)).toNat * 16777216 + (UInt8.ofNat (fsum b / 65536)).toNat * 65536 + (UInt8.ofNat (fsum b / 256)).toNat * 256 + (UInt8.ofNat (fsum b)).toNat ≠ (UInt8.ofNat (fsum b / 16777216)).toNat * 16777216 + (UInt8.ofNat (fsum b / 65536)).toNat * 65536 + (UInt8.ofNat (fsum b / 256)).toNat * 256 + (UInt8.ofNat (fsum b) ^^^ v).toNat
        omega
    rw [g2] at hs
    exact hs
  · obtain ⟨k, rfl⟩ : ∃ k, n = 6 + k := ⟨n - 6, by omega⟩
    have hk : k < b.length := by omega
    have he : spoil (frm b) (6 + k) v = hd b.length ++ (be4 (fsum b) ++ spoil b k v) := by
      rw [show 6 + k = k + 1 + 1 + 1 + 1 + 1 + 1 by omega]
      rfl
    obtain ⟨q1, q2, q3⟩ := read_any b.length (fsum b) hb.2 (fsum_lt b) (spoil b k v) t
    rw [← he] at q1 q2 q3
    refine whyOf_three (by omega) (by omega) (by omega) (by omega) ?_
    rw [q3 (spoil_length _ _ _), q2]
    exact fsum_spoil b k v hk hv
end Go.Kw.Fm
