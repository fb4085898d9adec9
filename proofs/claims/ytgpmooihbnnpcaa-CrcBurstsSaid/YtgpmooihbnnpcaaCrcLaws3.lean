/-
  Three lists of bytes of one length: the walk of CrcThrees. Conditions: none beyond the given row.
-/
import Derived.Test.YtgpmooihbnnpcaaCrcLaws2
import Derived.RegionTactic
import Derived.BigRegion
import Derived.Deep.QuietTactic
import Derived.BigQuiet
import Derived.StillTailTactics
import Derived.Deep.DeepCutAuto
namespace Go.Proofs.Ytgpmooihbnnpcaa
open Go Go.RowKit Go.Kw Go.Kw.Crc
set_option linter.unusedVariables false
set_option linter.unusedSimpArgs false

/-- What the first k rounds have made. -/
def x3 (a b c : List UInt8) (n k : Nat) : List UInt8 := (List.range n).map (fun i => if i < k then a.getD i 0 ^^^ b.getD i 0 ^^^ c.getD i 0 else 0)
theorem x3_length (a b c : List UInt8) (n k : Nat) : (x3 a b c n k).length = n := by simp [x3]
theorem made_x3 (a b c : List UInt8) (n : Nat) : (madeCells (Value.int .u8 0).cells (n * 1)).toList = bv (x3 a b c n 0) := by
  apply List.ext_getElem
  · simp [madeCells, bv, x3]
  · intro i h1 h2
    simp [madeCells, bv, x3, Value.cells, Nat.mod_one]
theorem sumOf16_n (A : Option Addr) (c n : Nat) (l : List UInt8) (hn : l.length = n) (hl : n ≤ 1000000) (w : World) (hR : RdB w w.heap.size A l) : Calls Try.prog 10 #[.slice A n c] w fun e w' => e = .returned (.int .u16 (sum16 65535 l)) ∧ Below w.heap.size w w' := by
  subst hn; exact sumOf16_any A c l hl w hR
theorem sumOf32_n (A : Option Addr) (c n : Nat) (l : List UInt8) (hn : l.length = n) (hl : n ≤ 1000000) (w : World) (hR : RdB w w.heap.size A l) : Calls Try.prog 12 #[.slice A n c] w fun e w' => e = .returned (.int .u32 (sum32 0 l)) ∧ Below w.heap.size w w' := by
  subst hn; exact sumOf32_any A c l hl w hR
theorem rdB_take {w : World} {B : Nat} {A : Option Addr} {l : List UInt8} (h : RdB w B A l) (n : Nat) (hn : n ≤ l.length) : RdB w B A (l.take n) := by
  rcases h with h | ⟨b, off, e, hb, hc⟩
  · exact .inl (by simp; omega)
  · refine .inr ⟨b, off, e, hb, fun i hi => ?_⟩
    have hi' : i < n := by simp at hi; omega
    rw [hc i (by omega)]
    simp [bAt, List.getD, hi']
theorem rst_if (poly n : Nat) : rst poly n = (n / 2) ^^^ (if n % 2 = 1 then poly else 0) := by
  unfold rst; split <;> simp
theorem rst3 (poly x y z : Nat) : rst poly (x ^^^ y ^^^ z) = rst poly x ^^^ rst poly y ^^^ rst poly z := by
  rw [rst_if, rst_if poly x, rst_if poly y, rst_if poly z, xor_div2, xor_div2, xor_mod2]
  have hxy : (x ^^^ y) % 2 = (x + y) % 2 := xor_mod2 x y
  have e1 : ((x ^^^ y) + z) % 2 = (x + y + z) % 2 := by omega
  rw [e1]
  have h1 : x % 2 = 0 ∨ x % 2 = 1 := by omega
  have h2 : y % 2 = 0 ∨ y % 2 = 1 := by omega
  have h3 : z % 2 = 0 ∨ z % 2 = 1 := by omega
  have e2 : (x + y + z) % 2 = (x % 2 + y % 2 + z % 2) % 2 := by omega
  rw [e2]
  apply Nat.eq_of_testBit_eq
  intro i
  rcases h1 with h1 | h1 <;> rcases h2 with h2 | h2 <;> rcases h3 with h3 | h3 <;> simp only [h1, h2, h3, Nat.testBit_xor, Nat.zero_testBit] <;> (try simp) <;>
    cases (x / 2).testBit i <;> cases (y / 2).testBit i <;> cases (z / 2).testBit i <;> cases poly.testBit i <;> rfl
theorem turns3 (poly x y z j : Nat) : turns poly j (x ^^^ y ^^^ z) = turns poly j x ^^^ turns poly j y ^^^ turns poly j z := by
  induction j with
  | zero => rfl
  | succ j ih => rw [turns, ih, rst3]; rfl
theorem xor6 (a b c d e f : Nat) : (a ^^^ b ^^^ c) ^^^ (d ^^^ e ^^^ f) = (a ^^^ d) ^^^ (b ^^^ e) ^^^ (c ^^^ f) := by
  apply Nat.eq_of_testBit_eq
  intro i
  simp only [Nat.testBit_xor]
  cases a.testBit i <;> cases b.testBit i <;> cases c.testBit i <;> cases d.testBit i <;> cases e.testBit i <;> cases f.testBit i <;> rfl
theorem byteStep3 (poly x y z b c d : Nat) : byteStep poly (x ^^^ y ^^^ z) (b ^^^ c ^^^ d) = byteStep poly x b ^^^ byteStep poly y c ^^^ byteStep poly z d := by
  unfold byteStep
  rw [xor6, turns3]
theorem crc3 (poly x y z : Nat) (a b c : List UInt8) (n j : Nat) (ha : n ≤ a.length) (hb : n ≤ b.length) (hc : n ≤ c.length) (hj : j ≤ n) :
    crcB poly (x ^^^ y ^^^ z) ((x3 a b c n n).take j) = crcB poly x ((a.take n).take j) ^^^ crcB poly y ((b.take n).take j) ^^^ crcB poly z ((c.take n).take j) := by
  induction j with
  | zero => rfl
  | succ j ih =>
    rw [crcB_take_succ _ _ _ _ (by rw [x3_length]; omega), crcB_take_succ _ _ _ _ (by simp; omega), crcB_take_succ _ _ _ _ (by simp; omega), crcB_take_succ _ _ _ _ (by simp; omega), ih (by omega), ← byteStep3]
    congr 1
    have hj' : j < n := by omega
    rw [← UInt8.toNat_xor, ← UInt8.toNat_xor]
    simp [x3, List.getD, hj']
theorem crc3_all (poly x y z : Nat) (a b c : List UInt8) (n : Nat) (ha : n ≤ a.length) (hb : n ≤ b.length) (hc : n ≤ c.length) :
    crcB poly (x ^^^ y ^^^ z) (x3 a b c n n) = crcB poly x (a.take n) ^^^ crcB poly y (b.take n) ^^^ crcB poly z (c.take n) := by
  have := crc3 poly x y z a b c n n ha hb hc (Nat.le_refl _)
  rw [List.take_take, List.take_take, List.take_take, Nat.min_self, List.take_of_length_le (by rw [x3_length]; omega)] at this
  exact this
theorem sum16_3 (a b c : List UInt8) (n : Nat) (ha : n ≤ a.length) (hb : n ≤ b.length) (hc : n ≤ c.length) :
    sum16 65535 (x3 a b c n n) = sum16 65535 (a.take n) ^^^ sum16 65535 (b.take n) ^^^ sum16 65535 (c.take n) := by
  have h : (65535 : Nat) = 65535 ^^^ 65535 ^^^ 65535 := by decide
  have := crc3_all P16 65535 65535 65535 a b c n ha hb hc
  rw [← h] at this
  exact this
theorem sum32_3 (a b c : List UInt8) (n : Nat) (ha : n ≤ a.length) (hb : n ≤ b.length) (hc : n ≤ c.length) :
    sum32 0 (x3 a b c n n) = sum32 0 (a.take n) ^^^ sum32 0 (b.take n) ^^^ sum32 0 (c.take n) := by
  have h : (0 ^^^ M32 : Nat) = (0 ^^^ M32) ^^^ (0 ^^^ M32) ^^^ (0 ^^^ M32) := by decide
  have := crc3_all P32 (0 ^^^ M32) (0 ^^^ M32) (0 ^^^ M32) a b c n ha hb hc
  rw [← h] at this
  unfold sum32
  rw [this]
  apply Nat.eq_of_testBit_eq
  intro i
  simp only [Nat.testBit_xor]
  generalize (crcB P32 (0 ^^^ M32) (a.take n)).testBit i = p
  generalize (crcB P32 (0 ^^^ M32) (b.take n)).testBit i = q
  generalize (crcB P32 (0 ^^^ M32) (c.take n)).testBit i = r
  cases p <;> cases q <;> cases r <;> cases M32.testBit i <;> rfl
theorem eq16_3 (a b c : List UInt8) (n : Nat) (ha : n ≤ a.length) (hb : n ≤ b.length) (hc : n ≤ c.length) :
    bits .xor .u16 (bits .xor .u16 (sum16 65535 (a.take n) : Int) (sum16 65535 (b.take n) : Int)) (sum16 65535 (c.take n) : Int) = (sum16 65535 (x3 a b c n n) : Int) := by
  have h1 := sum16_lt 65535 (by decide) (a.take n)
  have h2 := sum16_lt 65535 (by decide) (b.take n)
  have h3 := sum16_lt 65535 (by decide) (c.take n)
  rw [u16_xor_nat _ _ h1 h2, u16_xor_nat _ _ (xor_lt' (k := 16) h1 h2) h3, sum16_3 a b c n ha hb hc]
theorem eq32_3 (a b c : List UInt8) (n : Nat) (ha : n ≤ a.length) (hb : n ≤ b.length) (hc : n ≤ c.length) :
    bits .xor .u32 (bits .xor .u32 (sum32 0 (a.take n) : Int) (sum32 0 (b.take n) : Int)) (sum32 0 (c.take n) : Int) = (sum32 0 (x3 a b c n n) : Int) := by
  have h1 := sum32_lt 0 (by decide) (a.take n)
  have h2 := sum32_lt 0 (by decide) (b.take n)
  have h3 := sum32_lt 0 (by decide) (c.take n)
  rw [u32_xor_nat _ _ h1 h2, u32_xor_nat _ _ (xor_lt' (k := 32) h1 h2) h3, sum32_3 a b c n ha hb hc]
theorem x3_set (a b c : List UInt8) (n k : Nat) (hk : k < n) :
    (bv (x3 a b c n k)).set k (.int .u8 (bits .xor .u8 (bits .xor .u8 (bAt a k) (bAt b k)) (bAt c k))) = bv (x3 a b c n (k + 1)) := by
  apply List.ext_getElem
  · simp [bv, x3]
  · intro i h1 h2
    have hi : i < n := by simpa [bv, x3] using h2
    rw [List.getElem_set]
    by_cases h : k = i
    · subst h
      have e1 : bits .xor .u8 (bits .xor .u8 (bAt a k) (bAt b k)) (bAt c k) = ((a.getD k 0 ^^^ b.getD k 0 ^^^ c.getD k 0).toNat : Int) := by
        unfold bAt
        rw [u8_xor_nat _ _ (UInt8.toNat_lt _) (UInt8.toNat_lt _), u8_xor_nat _ _ (xor_lt' (k := 8) (UInt8.toNat_lt _) (UInt8.toNat_lt _)) (UInt8.toNat_lt _), UInt8.toNat_xor, UInt8.toNat_xor]
      rw [if_pos rfl, e1]
      simp [bv, x3]
    · rw [if_neg h]
      simp only [bv, x3, List.getElem_map, List.getElem_range]
      have : (i < k) = (i < k + 1) := by apply propext; omega
      simp only [this]

set_option maxRecDepth 100000 in
set_option maxHeartbeats 2000000 in
theorem crcThrees_walk (a0 : Option Addr) (len0 cap0 : Nat) (z0 : List Int) (a1 : Option Addr) (len1 cap1 : Nat) (z1 : List Int) (a2 : Option Addr) (len2 cap2 : Nat) (z2 : List Int) (w : World) (w0 : IsRow .u8 w a0 len0 cap0 z0) (w1 : IsRow .u8 w a1 len1 cap1 z1) (w2 : IsRow .u8 w a2 len2 cap2 z2) :
    Calls Try.prog 5 #[.slice a0 len0 cap0, .slice a1 len1 cap1, .slice a2 len2 cap2] w fun e w' => e = .returned (.bool true) ∧ Below w.heap.size w w' := by
  obtain ⟨hm1, hm2, hz0⟩ := w0.caps
  obtain ⟨hm3, hm4, hz1⟩ := w1.caps
  obtain ⟨hm5, hm6, hz2⟩ := w2.caps
  unfold maxLen at hm2 hm4 hm6
  obtain ⟨a, rfl, hR⟩ := w0.bytes
  obtain ⟨b, rfl, hS⟩ := w1.bytes
  obtain ⟨c, rfl, hT⟩ := w2.bytes
  clear w0 w1 w2
  obtain ⟨n, hn⟩ : ∃ n : Nat, min (a.length : Int) (min (b.length : Int) (c.length : Int)) = n := ⟨min a.length (min b.length c.length), by omega⟩
  have hna : n ≤ a.length := by omega
  have hnb : n ≤ b.length := by omega
  have hnc : n ≤ c.length := by omega
  have Hm : Hid (n = a.length ∨ n = b.length ∨ n = c.length) := by show _ ∨ _; omega
  have hmin : Hid (min (a.length : Int) (min (b.length : Int) (c.length : Int)) = n) := hn
  clear hn hz0 hz1 hz2
  go_enter Try.func5, Try.ntmps5
  go_upto_region 2 with (go_at_call 16; refine (alive_calls _).mono ?_; rintro e w1 ⟨rfl, hb1⟩)
  go_cut [7, 8] (fun s7 s8 wx => s7 = .bool true ∧ s8 = .int .i64 n ∧ Below w.heap.size w wx)
  case first =>
    go_wp2_with fail
    all_goals (go_meet; refine ⟨rfl, ?_, hb1⟩)
    all_goals exact congrArg (Value.int .i64) (by have := hmin.out; omega)
  case rest =>
    obtain ⟨rfl, rfl, hb1⟩ := hcut
    by_cases h : 1000 < n
    · have h' : (1000 : Int) < (n : Int) := by omega
      go_wp2
      go_ret
      exact ⟨rfl, hb1⟩
    · have h' : (n : Int) ≤ 1000 := by omega
      clear Hm hmin
      have hR1 := hR.go hb1
      have hS1 := hS.go hb1
      have hT1 := hT.go hb1
      clear hR hS hT
      obtain ⟨w2, hrun, o2, g2⟩ := runMake wc wc.heap.size eb n (by omega) (by unfold maxLen; omega) (Nat.le_refl _)
      go_wp2_with (at_make; refine wpList_make_run hrun rfl rfl rfl rfl ?_)
      have o2' : w2.ownsRow wc.heap.size 5 1 (.slice (some ⟨wc.heap.size, 0, none⟩) n n) n (bv (x3 a b c n 0)) := by rw [← made_x3]; exact o2
      have hb2 := hb1.trans ((Below.refl w.heap.size wc).grown g2 hb1.size (by simp))
      have hB2 : Below wc.heap.size wc w2 := (Below.refl _ _).grown g2 (Nat.le_refl _) (by simp)
      clear o2 hrun g2
      go_loopw [10, 30] (fun _ i wr => ∃ k : Nat, k ≤ n ∧ i = .int .i64 k ∧ wr.ownsRow wc.heap.size 5 1 (.slice (some ⟨wc.heap.size, 0, none⟩) n n) n (bv (x3 a b c n k)) ∧ Below wc.heap.size wc wr)
        (fun _ i _ => n - (intOf i).toNat)
      case atStart => exact ⟨0, by omega, rfl, o2', hB2⟩
      case round =>
        obtain ⟨k, hk, rfl, ok, hBk⟩ := hrel
        by_cases hkn : k < n
        · obtain ⟨ba, oa, rfl, hba, hca⟩ := Rd.at_ (hR1.below hBk) (k := k) (by omega)
          obtain ⟨bb, ob, rfl, hbb, hcb⟩ := Rd.at_ (hS1.below hBk) (k := k) (by omega)
          obtain ⟨bc, oc, rfl, hbc, hcc⟩ := Rd.at_ (hT1.below hBk) (k := k) (by omega)
          have hx0 := ok.cellAt k (by omega)
          have hx : ∃ v, wr.cell? ⟨wc.heap.size, k, none⟩ = some v := ⟨_, hx0.trans (List.getElem?_eq_getElem (by rw [bv_length, x3_length]; exact hkn))⟩
          obtain ⟨v, hx⟩ := hx
          have hf := ok.frozenAt k
          have hka : (k : Int) < (a.length : Int) := by omega
          have hkb : (k : Int) < (b.length : Int) := by omega
          have hkc : (k : Int) < (c.length : Int) := by omega
          have hkn' : (k : Int) < (n : Int) := by omega
          clear hx0 hR1 hS1 hT1
          go_wp2_with fail
          go_still_tail 17, (by kernel_rfl)
          change wpList _ _ _ _ _ wr.drew
          go_wp2
          go_roundw
          case rel =>
            obtain ⟨o3, g3⟩ := ok.stored k (.int .u8 (bits .xor .u8 (bits .xor .u8 (bAt a k) (bAt b k)) (bAt c k)))
            rw [x3_set _ _ _ _ _ hkn] at o3
            exact ⟨k + 1, by omega, by go_num, o3, hBk.drew.setCell (Nat.le_refl _) _⟩
          case measure => simp [intOf]; omega
        · obtain rfl : k = n := by omega
          clear o2' hB2 hb2
          have hb2 : Below w.heap.size w wr := bnext hb1 hBk
          have hR2 := hR1.go hBk
          have hS2 := hS1.go hBk
          have hT2 := hT1.go hBk
          have hX2 := (rdB_own ok).1
          clear hR1 hS1 hT1 hBk ok hb1
          have la : (a.take k).length = k := by simp; omega
          have lb : (b.take k).length = k := by simp; omega
          have lc : (c.take k).length = k := by simp; omega
          have La := Lib.hid la
          have Lb := Lib.hid lb
          have Lc := Lib.hid lc
          clear la lb lc
          have hR3 := rdB_take hR2 k hna
          have hS3 := rdB_take hS2 k hnb
          have hT3 := rdB_take hT2 k hnc
          clear hR2 hS2 hT2
          have q1 : (k : Int) ≤ (cap0 : Int) := by omega
          have q2 : (k : Int) ≤ (cap1 : Int) := by omega
          have q3 : (k : Int) ≤ (cap2 : Int) := by omega
          have q4 : k ≤ cap0 := by omega
          have q5 : k ≤ cap1 := by omega
          have q6 : k ≤ cap2 := by omega
          go_wp2_with fail
          go_quiet (fail)
          go_wp2_with fail
          have hbq : Below wr.heap.size wr (wr.drewN nq) := ⟨rfl, rfl, rfl, Nat.le_refl _, fun _ _ => rfl⟩
          have E16 := eq16_3 a b c k hna hnb hnc
          have E32 := eq32_3 a b c k hna hnb hnc
          have hb3 := bnext hb2 hbq
          have hR4 := hR3.go hbq
          have hS4 := hS3.go hbq
          have hT4 := hT3.go hbq
          have hX4 := hX2.go hbq
          clear hR3 hS3 hT3 hX2 hbq hb2
          generalize wr.drewN nq = W at *
          refine (sumOf16_n _ _ _ _ (x3_length _ _ _ _ _) (by omega) _ hX4).mono ?_
          rintro e w3 ⟨rfl, h1⟩
          go_wp2_with fail
          refine (sumOf16_n _ _ _ _ La.out (by omega) _ (hR4.go h1)).mono ?_
          rintro e w4 ⟨rfl, h2⟩
          replace h2 := bnext h1 h2
          clear h1
          go_wp2_with fail
          refine (sumOf16_n _ _ _ _ Lb.out (by omega) _ (hS4.go h2)).mono ?_
          rintro e w5 ⟨rfl, h3⟩
          replace h3 := bnext h2 h3
          clear h2
          go_wp2_with fail
          refine (sumOf16_n _ _ _ _ Lc.out (by omega) _ (hT4.go h3)).mono ?_
          rintro e w6 ⟨rfl, h4⟩
          replace h4 := bnext h3 h4
          clear h3
          go_wp2_with fail
          refine (sumOf32_n _ _ _ _ (x3_length _ _ _ _ _) (by omega) _ (hX4.go h4)).mono ?_
          rintro e w7 ⟨rfl, h5⟩
          replace h5 := bnext h4 h5
          clear h4
          go_wp2_with fail
          refine (sumOf32_n _ _ _ _ La.out (by omega) _ (hR4.go h5)).mono ?_
          rintro e w8 ⟨rfl, h6⟩
          replace h6 := bnext h5 h6
          clear h5
          go_wp2_with fail
          refine (sumOf32_n _ _ _ _ Lb.out (by omega) _ (hS4.go h6)).mono ?_
          rintro e w9 ⟨rfl, h7⟩
          replace h7 := bnext h6 h7
          clear h6
          go_wp2_with fail
          refine (sumOf32_n _ _ _ _ Lc.out (by omega) _ (hT4.go h7)).mono ?_
          rintro e w10 ⟨rfl, h8⟩
          replace h8 := bnext h7 h8
          clear h7
          go_wp2_with fail
          go_ret
          exact ⟨rfl, bnext hb3 h8⟩
end Go.Proofs.Ytgpmooihbnnpcaa
