/-
  open, Open16, Open32, walked. Conditions: at most 900,000 bytes.
-/
import Derived.Test.YtfbeihfpflhdaaaCrcSeal
namespace Go.Proofs.Ytfbeihfpflhdaaa
open Go Go.RowKit Go.Kw Go.Kw.Crc
set_option linter.unusedVariables false
set_option linter.unusedSimpArgs false

/-- What was sealed, if it was. -/
def openOf (sl : List UInt8 → List UInt8) (k : Nat) (l : List UInt8) : Option (List UInt8) := if k ≤ l.length ∧ sl (l.take (l.length - k)) = l then some (l.take (l.length - k)) else none
/-- What an opening answers. -/
def OpenPost (w' : World) (base : Nat) (e : Ending) : Option (List UInt8) → Prop
  | none => e = .returned (.tuple #[.slice none 0 0, .int .i64 30])
  | some r => ∃ A' c', e = .returned (.tuple #[.slice A' r.length c', .int .i64 0]) ∧ w'.ownsRow base 5 1 (.slice A' r.length c') r.length (bv r) ∧ (A' = none → r.length = 0)

theorem clone_m (A : Option Addr) (c n : Nat) (l : List UInt8) (hn : l.length = n) (hl : n ≤ 2000000) (w : World) (hR : RdB w w.heap.size A l) (hz : A = none → n = 0) :
    Calls Try.prog 29 #[.slice A n c] w fun e w' => ∃ A' c', e = .returned (.slice A' n c') ∧ w'.ownsRow w.heap.size 5 1 (.slice A' n c') n (bv l) ∧ Below w.heap.size w w' := by
  subst hn; exact clone_calls A c l hl w hR hz
theorem own_none {w : World} {base : Nat} {e : TypeId} {A : Option Addr} {n c k : Nat} {xs : List Value} (h : w.ownsRow base e 1 (.slice A n c) k xs) : A = none → n = 0 := by
  rintro rfl
  rcases h.2 with ⟨h, _⟩ | ⟨g, cap, cur, h, _⟩
  · injection h
  · injection h with h; cases h
theorem seal16_n (A : Option Addr) (c n : Nat) (l : List UInt8) (hn : l.length = n) (hl : n ≤ 1900000) (w : World) (hR : RdB w w.heap.size A l) (hz : A = none → n = 0) :
    Calls Try.prog 23 #[.slice A n c] w fun e w' => OwnB w' w.heap.size e (seal16 l) ∧ Below w.heap.size w w' := by
  subst hn; exact seal16_calls A c l hl w hR hz

set_option maxHeartbeats 1000000 in
theorem open16_calls (A : Option Addr) (c : Nat) (l : List UInt8) (hl : l.length ≤ 1900000) (w : World) (hR : RdB w w.heap.size A l) (hz : A = none → l.length = 0) (hc : l.length ≤ c) (hc2 : c ≤ 9223372036854775807) :
    Calls Try.prog 34 #[.slice A l.length c, .int .i64 2, .func (.func 23) #[] #[]] w fun e w' => OpenPost w' w.heap.size e (openOf seal16 2 l) ∧ Below w.heap.size w w' := by
  by_cases h : l.length < 2
  · have h' : (l.length : Int) < 2 := by omega
    have ho : openOf seal16 2 l = none := by unfold openOf; rw [if_neg (by omega)]
    rw [ho]
    go_enter Try.func34, Try.ntmps34
    go_wp2
    go_ret2
    exact ⟨rfl, Below.refl _ _⟩
  · have h' : (2 : Int) ≤ (l.length : Int) := by omega
    have h2 : decide ((l.length : Int) < 2) = false := by simp; omega
    have q1 : 0 ≤ (l.length : Int) - 2 := by omega
    have q2 : ((l.length : Int) - 2).toNat = l.length - 2 := by omega
    have q3 : (l.length : Int) - 2 ≤ (c : Int) := by omega
    have q4 : l.length - 2 ≤ c := by omega
    have ll : Hid ((l.take (l.length - 2)).length = l.length - 2) := by show _ = _; simp
    have hR1 := rdB_take hR (l.length - 2) (by omega)
    have hz1 : A = none → l.length - 2 = 0 := fun h => by have := hz h; omega
    by_cases he : seal16 (l.take (l.length - 2)) = l
    · have hd : decide (seal16 (l.take (l.length - 2)) = l) = true := by simp [he]
      have ho : openOf seal16 2 l = some (l.take (l.length - 2)) := by unfold openOf; rw [if_pos ⟨by omega, he⟩]
      clear he
      rw [ho]
      clear ho
      go_enter Try.func34, Try.ntmps34
      go_wp2_with fail
      refine (seal16_n A c _ _ ll.out (by omega) w hR1 hz1).mono ?_
      rintro e w1 ⟨⟨A1, c1, rfl, o1, z1⟩, hb1⟩
      go_wp2_with fail
      refine (equal_calls A1 A c1 c (seal16 (l.take (l.length - 2))) l _ _ rfl rfl (by rw [seal16_length]; simp; omega) (by omega) w1 (rdB_own o1).1 (hR.go hb1)).mono ?_
      rintro e w2 ⟨rfl, hb2⟩
      rw [hd]
      go_wp2_with fail
      refine (clone_m A c _ _ ll.out (by omega) w2 (hR1.go (bnext hb1 hb2)) hz1).mono ?_
      rintro e w3 ⟨A3, c3, rfl, o3, hb3⟩
      go_wp2
      go_ret2
      refine ⟨⟨A3, c3, by rw [ll.out]; rfl, ?_, ?_⟩, bnext (bnext hb1 hb2) hb3⟩
      · rw [ll.out]; exact own_mono o3 (bnext hb1 hb2).size
      · rw [ll.out]; exact own_none o3
    · have hd : decide (seal16 (l.take (l.length - 2)) = l) = false := by simp [he]
      have ho : openOf seal16 2 l = none := by unfold openOf; rw [if_neg (by intro h; exact he h.2)]
      clear he
      rw [ho]
      clear ho
      go_enter Try.func34, Try.ntmps34
      go_wp2_with fail
      refine (seal16_n A c _ _ ll.out (by omega) w hR1 hz1).mono ?_
      rintro e w1 ⟨⟨A1, c1, rfl, o1, z1⟩, hb1⟩
      go_wp2_with fail
      refine (equal_calls A1 A c1 c (seal16 (l.take (l.length - 2))) l _ _ rfl rfl (by rw [seal16_length]; simp; omega) (by omega) w1 (rdB_own o1).1 (hR.go hb1)).mono ?_
      rintro e w2 ⟨rfl, hb2⟩
      rw [hd]
      go_wp2_with fail
      go_ret2
      exact ⟨rfl, bnext hb1 hb2⟩
theorem opened16_calls (A : Option Addr) (c : Nat) (l : List UInt8) (hl : l.length ≤ 1900000) (w : World) (hR : RdB w w.heap.size A l) (hz : A = none → l.length = 0) (hc : l.length ≤ c) (hc2 : c ≤ 9223372036854775807) :
    Calls Try.prog 25 #[.slice A l.length c] w fun e w' => OpenPost w' w.heap.size e (openOf seal16 2 l) ∧ Below w.heap.size w w' := by
  cases h : openOf seal16 2 l with
  | none =>
    go_enter Try.func25, Try.ntmps25
    go_wp2_with fail
    refine (open16_calls A c l hl w hR hz hc hc2).mono ?_
    rintro e w1 ⟨ho, hb⟩
    rw [h] at ho
    obtain rfl := ho
    clear h
    go_wp2
    go_ret2
    exact ⟨rfl, hb⟩
  | some r =>
    go_enter Try.func25, Try.ntmps25
    go_wp2_with fail
    refine (open16_calls A c l hl w hR hz hc hc2).mono ?_
    rintro e w1 ⟨ho, hb⟩
    rw [h] at ho
    obtain ⟨A1, c1, rfl, o1, z1⟩ := ho
    clear h
    go_wp2
    go_ret2
    exact ⟨⟨A1, c1, rfl, o1, z1⟩, hb⟩

/-! ### The same of 32 bits -/
end Go.Proofs.Ytfbeihfpflhdaaa
