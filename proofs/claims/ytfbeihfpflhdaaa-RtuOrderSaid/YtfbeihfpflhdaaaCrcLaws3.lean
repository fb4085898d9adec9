/-
  Three lists of bytes of one length: the walk of CrcThrees. Conditions: none beyond the given row.
-/
import Derived.Test.YtfbeihfpflhdaaaCrcLaws2
import Derived.RegionTactic
import Derived.BigRegion
import Derived.Deep.QuietTactic
import Derived.BigQuiet
import Derived.StillTailTactics
import Derived.Deep.DeepCutAuto
namespace Go.Proofs.Ytfbeihfpflhdaaa
open Go Go.RowKit Go.Kw Go.Kw.Crc
set_option linter.unusedVariables false
set_option linter.unusedSimpArgs false

/-- What the first k rounds have made. -/
def x3 (a b c : List UInt8) (n k : Nat) : List UInt8 := (List.range n).map (fun i => if i < k then a.getD i 0 ^^^ b.getD i 0 ^^^ c.getD i 0 else 0)
theorem x3_length (a b c : List UInt8) (n k : Nat) : (x3 a b c n k).length = n := by simp [x3]
theorem made_x3 (a b c : List UInt8) (n : Nat) : (madeCells (Value.int .u8 0).cells (n * 1)).toList = bv (x3 a b c n 0) := by
  apply List.ext_getElem
  · simp [madeCells, bv, x3]
  · intro i h1 h2
    simp [madeCells, bv, x3, Value.cells, Nat.mod_one]
theorem sumOf16_n (A : Option Addr) (c n : Nat) (l : List UInt8) (hn : l.length = n) (hl : n ≤ 2000000) (w : World) (hR : RdB w w.heap.size A l) : Calls Try.prog 31 #[.slice A n c] w fun e w' => e = .returned (.int .u16 (sum16 65535 l)) ∧ Below w.heap.size w w' := by
  subst hn; exact sumOf16_any A c l hl w hR
theorem rdB_take {w : World} {B : Nat} {A : Option Addr} {l : List UInt8} (h : RdB w B A l) (n : Nat) (hn : n ≤ l.length) : RdB w B A (l.take n) := by
  rcases h with h | ⟨b, off, e, hb, hc⟩
  · exact .inl (by simp; omega)
  · refine .inr ⟨b, off, e, hb, fun i hi => ?_⟩
    have hi' : i < n := by simp at hi; omega
    rw [hc i (by omega)]
    simp [bAt, List.getD, hi']
theorem rst_if (poly n : Nat) : rst poly n = (n / 2) ^^^ (if n % 2 = 1 then poly else 0) := by
  unfold rst; split <;> simp
theorem rst3 (poly x y z : Nat) : rst poly (x ^^^ y ^^^ z) = rst poly x ^^^ rst poly y ^^^ rst poly z := by
  rw [rst_if, rst_if poly x, rst_if poly y, rst_if poly z, xor_div2, xor_div2, xor_mod2]
  have hxy : (x ^^^ y) % 2 = (x + y) % 2 := xor_mod2 x y
  have e1 : ((x ^^^ y) + z) % 2 = (x + y + z) % 2 := by omega
  rw [e1]
  have h1 : x % 2 = 0 ∨ x % 2 = 1 := by omega
  have h2 : y % 2 = 0 ∨ y % 2 = 1 := by omega
  have h3 : z % 2 = 0 ∨ z % 2 = 1 := by omega
  have e2 : (x + y + z) % 2 = (x % 2 + y % 2 + z % 2) % 2 := by omega
  rw [e2]
  apply Nat.eq_of_testBit_eq
  intro i
  rcases h1 with h1 | h1 <;> rcases h2 with h2 | h2 <;> rcases h3 with h3 | h3 <;> simp only [h1, h2, h3, Nat.testBit_xor, Nat.zero_testBit] <;> (try simp) <;>
    cases (x / 2).testBit i <;> cases (y / 2).testBit i <;> cases (z / 2).testBit i <;> cases poly.testBit i <;> rfl
theorem turns3 (poly x y z j : Nat) : turns poly j (x ^^^ y ^^^ z) = turns poly j x ^^^ turns poly j y ^^^ turns poly j z := by
  induction j with
  | zero => rfl
  | succ j ih => rw [turns, ih, rst3]; rfl
theorem xor6 (a b c d e f : Nat) : (a ^^^ b ^^^ c) ^^^ (d ^^^ e ^^^ f) = (a ^^^ d) ^^^ (b ^^^ e) ^^^ (c ^^^ f) := by
  apply Nat.eq_of_testBit_eq
  intro i
  simp only [Nat.testBit_xor]
  cases a.testBit i <;> cases b.testBit i <;> cases c.testBit i <;> cases d.testBit i <;> cases e.testBit i <;> cases f.testBit i <;> rfl
theorem byteStep3 (poly x y z b c d : Nat) : byteStep poly (x ^^^ y ^^^ z) (b ^^^ c ^^^ d) = byteStep poly x b ^^^ byteStep poly y c ^^^ byteStep poly z d := by
  unfold byteStep
  rw [xor6, turns3]
theorem crc3 (poly x y z : Nat) (a b c : List UInt8) (n j : Nat) (ha : n ≤ a.length) (hb : n ≤ b.length) (hc : n ≤ c.length) (hj : j ≤ n) :
    crcB poly (x ^^^ y ^^^ z) ((x3 a b c n n).take j) = crcB poly x ((a.take n).take j) ^^^ crcB poly y ((b.take n).take j) ^^^ crcB poly z ((c.take n).take j) := by
  induction j with
  | zero => rfl
  | succ j ih =>
    rw [crcB_take_succ _ _ _ _ (by rw [x3_length]; omega), crcB_take_succ _ _ _ _ (by simp; omega), crcB_take_succ _ _ _ _ (by simp; omega), crcB_take_succ _ _ _ _ (by simp; omega), ih (by omega), ← byteStep3]
    congr 1
    have hj' : j < n := by omega
    rw [← UInt8.toNat_xor, ← UInt8.toNat_xor]
    simp [x3, List.getD, hj']
theorem crc3_all (poly x y z : Nat) (a b c : List UInt8) (n : Nat) (ha : n ≤ a.length) (hb : n ≤ b.length) (hc : n ≤ c.length) :
    crcB poly (x ^^^ y ^^^ z) (x3 a b c n n) = crcB poly x (a.take n) ^^^ crcB poly y (b.take n) ^^^ crcB poly z (c.take n) := by
  have := crc3 poly x y z a b c n n ha hb hc (Nat.le_refl _)
  rw [List.take_take, List.take_take, List.take_take, Nat.min_self, List.take_of_length_le (by rw [x3_length]; omega)] at this
  exact this
theorem sum16_3 (a b c : List UInt8) (n : Nat) (ha : n ≤ a.length) (hb : n ≤ b.length) (hc : n ≤ c.length) :
    sum16 65535 (x3 a b c n n) = sum16 65535 (a.take n) ^^^ sum16 65535 (b.take n) ^^^ sum16 65535 (c.take n) := by
  have h : (65535 : Nat) = 65535 ^^^ 65535 ^^^ 65535 := by decide
  have := crc3_all P16 65535 65535 65535 a b c n ha hb hc
  rw [← h] at this
  exact this
theorem sum32_3 (a b c : List UInt8) (n : Nat) (ha : n ≤ a.length) (hb : n ≤ b.length) (hc : n ≤ c.length) :
    sum32 0 (x3 a b c n n) = sum32 0 (a.take n) ^^^ sum32 0 (b.take n) ^^^ sum32 0 (c.take n) := by
  have h : (0 ^^^ M32 : Nat) = (0 ^^^ M32) ^^^ (0 ^^^ M32) ^^^ (0 ^^^ M32) := by decide
  have := crc3_all P32 (0 ^^^ M32) (0 ^^^ M32) (0 ^^^ M32) a b c n ha hb hc
  rw [← h] at this
  unfold sum32
  rw [this]
  apply Nat.eq_of_testBit_eq
  intro i
  simp only [Nat.testBit_xor]
  generalize (crcB P32 (0 ^^^ M32) (a.take n)).testBit i = p
  generalize (crcB P32 (0 ^^^ M32) (b.take n)).testBit i = q
  generalize (crcB P32 (0 ^^^ M32) (c.take n)).testBit i = r
  cases p <;> cases q <;> cases r <;> cases M32.testBit i <;> rfl
theorem eq16_3 (a b c : List UInt8) (n : Nat) (ha : n ≤ a.length) (hb : n ≤ b.length) (hc : n ≤ c.length) :
    bits .xor .u16 (bits .xor .u16 (sum16 65535 (a.take n) : Int) (sum16 65535 (b.take n) : Int)) (sum16 65535 (c.take n) : Int) = (sum16 65535 (x3 a b c n n) : Int) := by
  have h1 := sum16_lt 65535 (by decide) (a.take n)
  have h2 := sum16_lt 65535 (by decide) (b.take n)
  have h3 := sum16_lt 65535 (by decide) (c.take n)
  rw [u16_xor_nat _ _ h1 h2, u16_xor_nat _ _ (xor_lt' (k := 16) h1 h2) h3, sum16_3 a b c n ha hb hc]
theorem eq32_3 (a b c : List UInt8) (n : Nat) (ha : n ≤ a.length) (hb : n ≤ b.length) (hc : n ≤ c.length) :
    bits .xor .u32 (bits .xor .u32 (sum32 0 (a.take n) : Int) (sum32 0 (b.take n) : Int)) (sum32 0 (c.take n) : Int) = (sum32 0 (x3 a b c n n) : Int) := by
  have h1 := sum32_lt 0 (by decide) (a.take n)
  have h2 := sum32_lt 0 (by decide) (b.take n)
  have h3 := sum32_lt 0 (by decide) (c.take n)
  rw [u32_xor_nat _ _ h1 h2, u32_xor_nat _ _ (xor_lt' (k := 32) h1 h2) h3, sum32_3 a b c n ha hb hc]
theorem x3_set (a b c : List UInt8) (n k : Nat) (hk : k < n) :
    (bv (x3 a b c n k)).set k (.int .u8 (bits .xor .u8 (bits .xor .u8 (bAt a k) (bAt b k)) (bAt c k))) = bv (x3 a b c n (k + 1)) := by
  apply List.ext_getElem
  · simp [bv, x3]
  · intro i h1 h2
    have hi : i < n := by simpa [bv, x3] using h2
    rw [List.getElem_set]
    by_cases h : k = i
    · subst h
      have e1 : bits .xor .u8 (bits .xor .u8 (bAt a k) (bAt b k)) (bAt c k) = ((a.getD k 0 ^^^ b.getD k 0 ^^^ c.getD k 0).toNat : Int) := by
        unfold bAt
        rw [u8_xor_nat _ _ (UInt8.toNat_lt _) (UInt8.toNat_lt _), u8_xor_nat _ _ (xor_lt' (k := 8) (UInt8.toNat_lt _) (UInt8.toNat_lt _)) (UInt8.toNat_lt _), UInt8.toNat_xor, UInt8.toNat_xor]
      rw [if_pos rfl, e1]
      simp [bv, x3]
    · rw [if_neg h]
      simp only [bv, x3, List.getElem_map, List.getElem_range]
      have : (i < k) = (i < k + 1) := by apply propext; omega
      simp only [this]

end Go.Proofs.Ytfbeihfpflhdaaa
