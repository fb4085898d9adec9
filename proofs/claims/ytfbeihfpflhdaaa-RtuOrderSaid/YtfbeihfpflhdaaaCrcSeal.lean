/-
  Sealing and opening, walked: Seal16, Seal32, slices.Equal at bytes, open, Open16, Open32. Conditions: at most 900,000 bytes.
-/
import Derived.Test.YtfbeihfpflhdaaaCrcLaws3
namespace Go.Proofs.Ytfbeihfpflhdaaa
open Go Go.RowKit Go.Kw Go.Kw.Crc
set_option linter.unusedVariables false
set_option linter.unusedSimpArgs false

def seal16 (l : List UInt8) : List UInt8 := l ++ [UInt8.ofNat (sum16 65535 l % 256), UInt8.ofNat (sum16 65535 l / 256)]
def seal32 (l : List UInt8) : List UInt8 := l ++ [UInt8.ofNat (sum32 0 l / 16777216), UInt8.ofNat (sum32 0 l / 65536 % 256), UInt8.ofNat (sum32 0 l / 256 % 256), UInt8.ofNat (sum32 0 l % 256)]
theorem seal16_length (l : List UInt8) : (seal16 l).length = l.length + 2 := by simp [seal16]
theorem seal32_length (l : List UInt8) : (seal32 l).length = l.length + 4 := by simp [seal32]
theorem ofNat_byte (n : Nat) (h : n < 256) : ((UInt8.ofNat n).toNat : Int) = (n : Int) := by
  have : (UInt8.ofNat n).toNat = n % 256 := by simp [UInt8.toNat_ofNat']
  rw [this]; omega

def OwnB (w' : World) (base : Nat) (e : Ending) (l : List UInt8) : Prop := ∃ A' c', e = .returned (.slice A' l.length c') ∧ w'.ownsRow base 5 1 (.slice A' l.length c') l.length (bv l) ∧ (A' = none → l.length = 0)

set_option maxHeartbeats 1000000 in
theorem seal16_calls (A : Option Addr) (c : Nat) (l : List UInt8) (hl : l.length ≤ 1900000) (w : World) (hR : RdB w w.heap.size A l) (hn : A = none → l.length = 0) :
    Calls Try.prog 23 #[.slice A l.length c] w fun e w' => OwnB w' w.heap.size e (seal16 l) ∧ Below w.heap.size w w' := by
  have hs := sum16_lt 65535 (by decide) l
  go_enter Try.func23, Try.ntmps23
  go_wp2_with fail
  refine (sumOf16_any A c l (by omega) w hR).mono ?_
  rintro e w1 ⟨rfl, hb1⟩
  go_wp2_with fail
  refine (clone_calls A c l (by omega) w1 (hR.go hb1) hn).mono ?_
  rintro e w2 ⟨A', c', rfl, o2, hb2⟩
  have hcs : (#[Value.int .u8 (IntKind.u8.wrap (sum16 65535 l : Int)), .int .u8 ((sum16 65535 l : Int) / 256)] : Array Value).toList = bv [UInt8.ofNat (sum16 65535 l % 256), UInt8.ofNat (sum16 65535 l / 256)] := by
    simp only [bv, List.map_cons, List.map_nil]
    rw [ofNat_byte _ (by omega), ofNat_byte _ (by omega), IntKind.wrap_u8]
    have h1 : ((sum16 65535 l % 256 : Nat) : Int) = (sum16 65535 l : Int) % 256 := by omega
    have h2 : ((sum16 65535 l / 256 : Nat) : Int) = (sum16 65535 l : Int) / 256 := by omega
    rw [h1, h2]
  obtain ⟨A3, c3, w3, hrun, o3, hb3, -, -, z3⟩ := append_lit (P := Try.prog) eb w2 w.heap.size (own_mono o2 hb1.size) _ 2 _ hcs rfl (by simp; omega) (bnext hb1 hb2).size
  go_wp2_with (at_builtin; refine wpList_append_run hrun rfl rfl rfl rfl rfl ?_)
  go_ret
  exact ⟨⟨A3, c3, by rw [seal16_length]; rfl, o3, z3⟩, (bnext hb1 hb2).trans hb3⟩

/-- The first k bytes are the same. -/
def EqTo (a b : List UInt8) (k : Nat) : Prop := a.take k = b.take k
theorem EqTo.zero (a b : List UInt8) : EqTo a b 0 := rfl
theorem bAt_get (a : List UInt8) (k : Nat) (h : k < a.length) : bAt a k = (a[k].toNat : Int) := by simp [bAt, List.getD, h]
theorem EqTo.succ {a b : List UInt8} {k : Nat} (h : EqTo a b k) (ha : k < a.length) (hb : k < b.length) (hv : bAt a k = bAt b k) : EqTo a b (k + 1) := by
  unfold EqTo at *
  rw [bAt_get a k ha, bAt_get b k hb] at hv
  have : a[k] = b[k] := UInt8.toNat_inj.1 (by omega)
  rw [List.take_succ_eq_append_getElem ha, List.take_succ_eq_append_getElem hb, h, this]
theorem EqTo.ne {a b : List UInt8} {k : Nat} (ha : k < a.length) (hb : k < b.length) (hv : ¬ bAt a k = bAt b k) : decide (a = b) = false := by
  simp only [decide_eq_false_iff_not]
  rintro rfl
  exact hv rfl
theorem EqTo.all {a b : List UInt8} (h : EqTo a b a.length) (hl : a.length = b.length) : decide (a = b) = true := by
  unfold EqTo at h
  rw [List.take_length, hl, List.take_length] at h
  simp [h]
theorem below_drewN' (B : Nat) (w : World) (n : Nat) : Below B w (w.drewN n) := ⟨rfl, rfl, rfl, Nat.le_refl _, fun _ _ => rfl⟩

set_option maxHeartbeats 1000000 in
theorem equal_calls (A B : Option Addr) (c d : Nat) (a b : List UInt8) (n m : Nat) (hn : n = a.length) (hm : m = b.length) (hl : a.length ≤ 2000000) (hl2 : b.length ≤ 2000000) (w : World) (hR : RdB w w.heap.size A a) (hS : RdB w w.heap.size B b) :
    Calls Try.prog 26 #[.slice A n c, .slice B m d] w fun e w' => e = .returned (.bool (decide (a = b))) ∧ Below w.heap.size w w' := by
  subst hn hm
  by_cases h : a.length = b.length
  · have h1 : ((a.length : Int) != (b.length : Int)) = false := by simp; omega
    have H := Lib.hid h
    clear h
    go_enter Try.func26, Try.ntmps26
    go_wp2
    go_loopw [5, 13] (fun _ i wr => ∃ k : Nat, k ≤ a.length ∧ i = .int .i64 k ∧ EqTo a b k ∧ Below w.heap.size w wr) (fun _ i _ => a.length - (intOf i).toNat)
    case atStart => exact ⟨0, by omega, rfl, EqTo.zero a b, Below.refl _ _⟩
    case round =>
      obtain ⟨k, hk, rfl, ht, hb⟩ := hrel
      by_cases hka : k < a.length
      · have hkb : k < b.length := by have := H.out; omega
        obtain ⟨ba, oa, rfl, hba, hca⟩ := Rd.at_ (Rd.below hR hb) (k := k) hka
        obtain ⟨bb, ob, rfl, hbb, hcb⟩ := Rd.at_ (Rd.below hS hb) (k := k) hkb
        have hka' : (k : Int) < (a.length : Int) := by omega
        have hkb' : (k : Int) < (b.length : Int) := by omega
        clear hR hS
        by_cases hv : bAt a k = bAt b k
        · have hne : (bAt a k != bAt b k) = false := by simp [hv]
          have ht' := EqTo.succ ht hka hkb hv
          clear hv
          go_wp2_with fail
          go_quiet (fail)
          go_wp2
          go_roundw
          case rel => exact ⟨k + 1, by omega, by go_num, ht', hb.trans (below_drewN' _ _ _)⟩
          case measure => simp [intOf]; omega
        · have hne : (bAt a k != bAt b k) = true := by simp [hv]
          have hd := EqTo.ne hka hkb hv
          clear hv
          go_wp2_with fail
          go_quiet (fail)
          go_wp2
          go_ret
          rw [hd]
          exact ⟨rfl, hb.trans (below_drewN' _ _ _)⟩
      · obtain rfl : k = a.length := by omega
        go_wp2
        go_ret
        rw [EqTo.all ht H.out]
        exact ⟨rfl, hb⟩
  · have h1 : ((a.length : Int) != (b.length : Int)) = true := by simp; omega
    have hd : decide (a = b) = false := by simp; intro e; exact h (by rw [e])
    go_enter Try.func26, Try.ntmps26
    go_wp2
    go_ret
    rw [hd]
    exact ⟨rfl, Below.refl _ _⟩
end Go.Proofs.Ytfbeihfpflhdaaa
