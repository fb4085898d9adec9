/-
  Division of two words by a divisor below 2^32, in plain numbers. Conditions stand at each theorem.
-/
import Derived.Below
namespace Go.Proofs.Ytjmkbpgakfeceaa
open Go

/-- The long division by two digits, where the divisor's lower digit is 0. -/
theorem div_long (K V D h l : Nat) (hD : 0 < D) (hV : V = h * K + l) (hl : l < K) :
    V / D = h / D * K + (h % D * K + l) / D ∧ V % D = (h % D * K + l) % D ∧ (h % D * K + l) / D < K ∧ h % D * K + l < D * K := by
  have e := Nat.div_add_mod h D
  have m := Nat.mod_lt h hD
  have hu : h % D * K + l < D * K := by
    have := Nat.mul_le_mul_right K (Nat.succ_le_of_lt m)
    rw [Nat.succ_mul] at this
    omega
  have hVu : V = h % D * K + l + D * (h / D * K) := by
    rw [hV, ← Nat.mul_assoc]
    have : h * K = (D * (h / D) + h % D) * K := by rw [e]
    rw [this, Nat.add_mul]
    omega
  refine ⟨?_, ?_, Nat.div_lt_of_lt_mul hu, hu⟩
  · rw [hVu, Nat.add_mul_div_left _ _ hD, Nat.add_comm]
  · rw [hVu, Nat.add_mul_mod_self_left]

/-- A divisor of one word below K, shifted up to its highest bit; K is 2^32. -/
theorem div_wordsK (K W hi lo y s t : Nat) (hK : K = 2 ^ 32) (hW : W = 2 ^ 64) (hy : 0 < y) (hhi : hi < y) (hlo : lo < W) (hs : s = t + 32) (hs' : s ≤ 63) (hY : y * 2 ^ s < W) :
    0 < y * 2 ^ t ∧ y * 2 ^ s = y * 2 ^ t * K ∧ hi * 2 ^ s < W ∧ hi * 2 ^ s + lo / 2 ^ (64 - s) < y * 2 ^ t * K ∧ lo * 2 ^ s % W % K = 0 ∧
      (hi * 2 ^ s + lo / 2 ^ (64 - s)) * K + lo * 2 ^ s % W / K = (hi * W + lo) * 2 ^ t := by
  have pt : 0 < 2 ^ t := Nat.pow_pos (by omega)
  have e32 : 2 ^ s = 2 ^ t * K := by rw [hs, hK, Nat.pow_add]
  have pK : 0 < K := by rw [hK]; exact Nat.pow_pos (by omega)
  have hD : 0 < y * 2 ^ t := Nat.mul_pos hy pt
  have hDe : y * 2 ^ s = y * 2 ^ t * K := by rw [e32, Nat.mul_assoc]
  have hup : hi * 2 ^ s + 2 ^ s ≤ y * 2 ^ s := by
    have := Nat.mul_le_mul_right (2 ^ s) (Nat.succ_le_of_lt hhi)
    rw [Nat.succ_mul] at this; exact this
  have p64 : 2 ^ (64 - s) * 2 ^ s = W := by rw [← Nat.pow_add, hW]; congr 1; omega
  have pc : 0 < 2 ^ (64 - s) := Nat.pow_pos (by omega)
  have hq : lo / 2 ^ (64 - s) < 2 ^ s := Nat.div_lt_of_lt_mul (by rw [p64]; exact hlo)
  have e := Nat.div_add_mod lo (2 ^ (64 - s))
  have hlow : lo * 2 ^ s % W = lo % 2 ^ (64 - s) * 2 ^ s := by rw [← p64, Nat.mul_mod_mul_right]
  generalize 2 ^ (64 - s) = p at *
  generalize 2 ^ s = S at *
  generalize 2 ^ t = T at *
  have ex2 : p * T * K = K * K := by rw [Nat.mul_assoc, ← e32, p64, hW, hK]
  have ex : p * T = K := Nat.eq_of_mul_eq_mul_right pK ex2
  have hWK : W = K * K := by rw [← p64, e32, ← Nat.mul_assoc, ex2]
  refine ⟨hD, hDe, by omega, by rw [← hDe]; omega, ?_, ?_⟩
  · rw [hlow, e32, ← Nat.mul_assoc, Nat.mul_mod_left]
  · rw [hlow]
    generalize lo / p = c at *
    generalize lo % p = d at *
    rw [e32, ← Nat.mul_assoc d, Nat.mul_div_cancel _ pK, ← e, Nat.add_mul, Nat.add_mul, Nat.add_mul, hWK]
    have a1 : hi * (T * K) * K = hi * (K * K) * T := by rw [Nat.mul_assoc, Nat.mul_assoc, Nat.mul_assoc, Nat.mul_comm T]
    have a2 : p * c * T = c * K := by rw [Nat.mul_comm p c, Nat.mul_assoc, ex]
    rw [a1, a2]; omega
/-- What the two steps of the division give. -/
theorem div_words (K W hi lo y s t U L : Nat) (hK : K = 2 ^ 32) (hW : W = 2 ^ 64) (hy : 0 < y) (hhi : hi < y) (hlo : lo < W) (hs : s = t + 32) (hs' : s ≤ 63) (hY : y * 2 ^ s < W)
    (hU : U = hi * 2 ^ s + lo / 2 ^ (64 - s)) (hL : L = lo * 2 ^ s % W / K) :
    (hi * W + lo) / y = U / (y * 2 ^ t) * K + (U % (y * 2 ^ t) * K + L) / (y * 2 ^ t) ∧ (hi * W + lo) % y * 2 ^ t = (U % (y * 2 ^ t) * K + L) % (y * 2 ^ t) ∧ (U % (y * 2 ^ t) * K + L) / (y * 2 ^ t) < K ∧ U % (y * 2 ^ t) * K + L < y * 2 ^ t * K ∧ U / (y * 2 ^ t) < K ∧ L < K := by
  obtain ⟨h1, h2, h3, h4, h5, h6⟩ := div_wordsK K W hi lo y s t hK hW hy hhi hlo hs hs' hY
  have pt : 0 < 2 ^ t := Nat.pow_pos (by omega)
  have hLK : L < K := by
    rw [hL]
    have hWK : W = K * K := by rw [hW, hK]
    have : lo * 2 ^ s % W < W := Nat.mod_lt _ (by omega)
    exact Nat.div_lt_of_lt_mul (by rw [← hWK]; exact this)
  rw [← hU, ← hL] at h6
  rw [← hU] at h4
  obtain ⟨a, b, c, d⟩ := div_long K ((hi * W + lo) * 2 ^ t) (y * 2 ^ t) U L h1 h6.symm hLK
  rw [Nat.mul_div_mul_right _ _ pt] at a
  rw [Nat.mul_mod_mul_right] at b
  exact ⟨a, b, c, d, Nat.div_lt_of_lt_mul h4, hLK⟩
end Go.Proofs.Ytjmkbpgakfeceaa
