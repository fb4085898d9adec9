/-
  A device of sectors: Safe, walked. Conditions stand at each theorem.
-/
import Derived.Test.YtpleaicpkpjkjaaBlk2
import Derived.Test.YtpleaicpkpjkjaaBytesLib
namespace Go.Proofs.Ytpleaicpkpjkjaa
open Go Go.RowKit Go.Kw
set_option linter.unusedVariables false
set_option linter.unusedSimpArgs false

theorem dSafe_none (w : World) (pv : Value) (i : Int) (hN : Calls Try.prog 35 #[pv] w fun e w' => e = .returned (.bool true) ∧ Below w.heap.size w w') :
    Calls Try.prog 21 #[pv, .int .i64 i] w fun e w' => e = .returned (.tuple #[.slice none 0 0, .int .i64 1]) ∧ Below w.heap.size w w' := by
  have HN := Lib.hid hN
  clear hN
  go_enter Try.func21, Try.ntmps21
  go_wp2_with fail
  refine HN.out.mono ?_
  rintro e w2 ⟨rfl, hb⟩
  have HB := Lib.hid hb
  clear hb
  go_wp2_with fail
  go_ret2
  exact ⟨rfl, HB.out⟩
set_option maxHeartbeats 4000000 in
theorem dSafe_bad (w : World) (d : Nat) (A : Option Addr) (n c : Nat) (C : Option Addr) (m cc : Nat) (p : Int) (dn : Bool) (k i : Int) (hn : 0 < n) (h : DevH w d A n c C m cc p dn k) (hi : i < 0 ∨ (n : Int) ≤ i) :
    Calls Try.prog 21 #[.pointer (some ⟨d, 0, none⟩), .int .i64 i] w fun e w' => e = .returned (.tuple #[.slice none 0 0, .int .i64 121]) ∧ Below w.heap.size w w' := by
  have hN := dnone_calls w d A n c C m cc p dn k h
  rw [decide_eq_false (by omega)] at hN
  have HN := Lib.hid hN
  have H := Lib.hid h
  have Hi := Lib.hid hi
  clear hN h hn hi
  go_enter Try.func21, Try.ntmps21
  go_wp2_with fail
  refine HN.out.mono ?_
  rintro e w2 ⟨rfl, hb⟩
  have HB := Lib.hid hb
  obtain ⟨c0, c1, c2, c3, c4⟩ := (H.out.go hb).cells
  clear hb
  by_cases h0 : i < 0
  · have k0 : decide (i < 0) = true := decide_eq_true h0
    clear h0
    go_wp2_with fail
    go_ret2
    exact ⟨rfl, HB.out⟩
  · have k0 : decide (i < 0) = false := decide_eq_false h0
    have k1 : decide (i ≥ (n : Int)) = true := decide_eq_true (by have := Hi.out; omega)
    clear h0
    go_wp2_with fail
    go_ret2
    exact ⟨rfl, HB.out⟩
/-- What is safe of a sector, as bytes of the caller's own. -/
def SafeB (w : World) (l : List UInt8) (e : Ending) (w' : World) : Prop := ∃ A' c', e = .returned (.tuple #[.slice A' 128 c', .int .i64 0]) ∧ w'.ownsRow w.heap.size 5 1 (.slice A' 128 c') 128 (bv l) ∧ Below w.heap.size w w'
set_option maxHeartbeats 4000000 in
theorem dSafe_calls (w : World) (d sb so : Nat) (n c : Nat) (C : Option Addr) (m cc : Nat) (p : Int) (dn : Bool) (k : Int) (i : Nat) (hi : i < n) (h : DevH w d (some ⟨sb, so, none⟩) n c C m cc p dn k) (l : List UInt8) (hl : l.length = 128) (hR : RdB w w.heap.size (some ⟨sb, so + i * 128, none⟩) l) :
    Calls Try.prog 21 #[.pointer (some ⟨d, 0, none⟩), .int .i64 i] w (SafeB w l) := by
  have hN := dnone_calls w d _ n c C m cc p dn k h
  rw [decide_eq_false (by omega)] at hN
  have HN := Lib.hid hN
  have H := Lib.hid h
  have HC := Lib.hid (fun W (hb : Below w.heap.size w W) => clone_n (some ⟨sb, so + i * 128, none⟩) 128 128 l hl.symm (by omega) W (hR.go hb) (fun e => by cases e))
  have k0 : decide ((i : Int) < 0) = false := decide_eq_false (by omega)
  have k1 : decide ((i : Int) ≥ (n : Int)) = false := decide_eq_false (by omega)
  have i0 : (0 : Int) ≤ (i : Int) := by omega
  have i1 : (i : Int) < (n : Int) := by omega
  clear hN h hi hR hl
  go_enter Try.func21, Try.ntmps21
  go_wp2_with fail
  refine HN.out.mono ?_
  rintro e w2 ⟨rfl, hb⟩
  have HB := Lib.hid hb
  have HX := Lib.hid (HC.out w2 hb)
  obtain ⟨c0, c1, c2, c3, c4⟩ := (H.out.go hb).cells
  clear hb
  go_wp2_with fail
  refine HX.out.mono ?_
  rintro e w3 ⟨A', c', rfl, hown, hb3⟩
  have HP := Lib.hid (show SafeB w l (.returned (.tuple #[.slice A' 128 c', .int .i64 0])) w3 from ⟨A', c', rfl, own_mono hown HB.out.size, bnext HB.out hb3⟩)
  clear hown hb3
  go_wp2_with fail
  go_ret2
  exact HP.out
end Go.Proofs.Ytpleaicpkpjkjaa
