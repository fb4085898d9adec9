/-
  A device of sectors (package blockdev): its box, and the calls that only read it. Conditions stand at each theorem.
-/
import Derived.Test.YtpleaicpkpjkjaaKept
import Derived.Test.YtpleaicpkpjkjaaBase
import Derived.Test.YtpleaicpkpjkjaaChecked
import Derived.LoopTactic
import Derived.Lib.Hide
import Derived.Laws.Rows
import Derived.Laws.Tables
import Derived.Deep.WholeRow
import Derived.BigRegion
import Derived.Deep.Draws
namespace Go.Proofs.Ytpleaicpkpjkjaa
open Go Go.RowKit Go.Kw
set_option linter.unusedVariables false
set_option linter.unusedSimpArgs false

/-- A device's box: the slice of its sectors, of its cache, the plan, whether it is down, its calls. -/
def devC (A : Option Addr) (n c : Nat) (C : Option Addr) (m cc : Nat) (p : Int) (dn : Bool) (k : Int) : Array Value := #[.slice A n c, .slice C m cc, .int .i64 p, .bool dn, .int .i64 k]
def DevH (W : World) (d : Nat) (A : Option Addr) (n c : Nat) (C : Option Addr) (m cc : Nat) (p : Int) (dn : Bool) (k : Int) : Prop :=
  W.heap[d]? = some (.cells (devC A n c C m cc p dn k) 67 (0, 0))
section
variable {W W' : World} {d : Nat} {A : Option Addr} {n c : Nat} {C : Option Addr} {m cc : Nat} {p : Int} {dn : Bool} {k : Int}
theorem DevH.cells (h : DevH W d A n c C m cc p dn k) : W.cell? ⟨d, 0, none⟩ = some (.slice A n c) ∧ W.cell? ⟨d, 1, none⟩ = some (.slice C m cc) ∧ W.cell? ⟨d, 2, none⟩ = some (.int .i64 p) ∧ W.cell? ⟨d, 3, none⟩ = some (.bool dn) ∧ W.cell? ⟨d, 4, none⟩ = some (.int .i64 k) := by
  unfold DevH devC at h
  exact ⟨cell_of_row W d 0 _ _ _ h, cell_of_row W d 1 _ _ _ h, cell_of_row W d 2 _ _ _ h, cell_of_row W d 3 _ _ _ h, cell_of_row W d 4 _ _ _ h⟩
theorem DevH.fr (h : DevH W d A n c C m cc p dn k) (i : Nat) : W.frozen? ⟨d, i, none⟩ = false := frozen_of_row W d i _ _ h
theorem DevH.lt (h : DevH W d A n c C m cc p dn k) : d < W.heap.size := (Array.getElem?_eq_some_iff.1 h).1
theorem DevH.go (h : DevH W d A n c C m cc p dn k) (hb : Below W.heap.size W W') : DevH W' d A n c C m cc p dn k := (hb.block d h.lt).trans h
end
/-- Why a call cannot be: nil, down, no such place. -/
def upE (n : Nat) (dn : Bool) (i : Int) : Int := if n = 0 then 1 else if dn = true then 120 else if 0 ≤ i ∧ i < n then 0 else 121
theorem dnone_nil (w : World) : Calls Try.prog 35 #[.pointer none] w fun e w' => e = .returned (.bool true) ∧ Below w.heap.size w w' := by
  go_enter Try.func35, Try.ntmps35
  go_wp2_with fail
  go_ret
  exact ⟨rfl, Below.refl _ _⟩
theorem dnone_calls (w : World) (d : Nat) (A : Option Addr) (n c : Nat) (C : Option Addr) (m cc : Nat) (p : Int) (dn : Bool) (k : Int) (h : DevH w d A n c C m cc p dn k) :
    Calls Try.prog 35 #[.pointer (some ⟨d, 0, none⟩)] w fun e w' => e = .returned (.bool (decide (n = 0))) ∧ Below w.heap.size w w' := by
  obtain ⟨c0, c1, c2, c3, c4⟩ := h.cells
  clear h
  by_cases hn : n = 0
  · subst hn
    go_enter Try.func35, Try.ntmps35
    go_wp2_with fail
    go_ret
    exact ⟨rfl, Below.refl _ _⟩
  · have k0 : ((n : Int) == 0) = false := beq_eq_false_iff_ne.2 (by omega)
    rw [decide_eq_false hn]
    clear hn
    go_enter Try.func35, Try.ntmps35
    go_wp2_with fail
    go_ret
    exact ⟨rfl, Below.refl _ _⟩
theorem dup_nil (w : World) (i : Int) : Calls Try.prog 28 #[.pointer none, .int .i64 i] w fun e w' => e = .returned (.int .i64 1) ∧ Below w.heap.size w w' := by
  have HN := Lib.hid (dnone_nil w)
  go_enter Try.func28, Try.ntmps28
  go_wp2_with fail
  refine HN.out.mono ?_
  rintro e w2 ⟨rfl, hb⟩
  have HB := Lib.hid hb
  clear hb
  go_wp2_with fail
  go_ret
  exact ⟨rfl, HB.out⟩
set_option maxHeartbeats 4000000 in
theorem dup_calls (w : World) (d : Nat) (A : Option Addr) (n c : Nat) (C : Option Addr) (m cc : Nat) (p : Int) (dn : Bool) (k i : Int) (h : DevH w d A n c C m cc p dn k) :
    Calls Try.prog 28 #[.pointer (some ⟨d, 0, none⟩), .int .i64 i] w fun e w' => e = .returned (.int .i64 (upE n dn i)) ∧ Below w.heap.size w w' := by
  have hN := dnone_calls w d A n c C m cc p dn k h
  have H := Lib.hid h
  clear h
  by_cases hn : n = 0
  · rw [show upE n dn i = 1 from if_pos hn]
    rw [decide_eq_true hn] at hN
    have HN := Lib.hid hN
    clear hN hn
    go_enter Try.func28, Try.ntmps28
    go_wp2_with fail
    refine HN.out.mono ?_
    rintro e w2 ⟨rfl, hb⟩
    have HB := Lib.hid hb
    clear hb
    go_wp2_with fail
    go_ret
    exact ⟨rfl, HB.out⟩
  rw [decide_eq_false hn] at hN
  have HN := Lib.hid hN
  rw [show upE n dn i = if dn = true then 120 else if 0 ≤ i ∧ i < n then 0 else 121 from if_neg hn]
  clear hN hn
  cases dn
  case true =>
    rw [if_pos rfl]
    go_enter Try.func28, Try.ntmps28
    go_wp2_with fail
    refine HN.out.mono ?_
    rintro e w2 ⟨rfl, hb⟩
    have HB := Lib.hid hb
    obtain ⟨c0, c1, c2, c3, c4⟩ := (H.out.go hb).cells
    clear hb
    go_wp2_with fail
    go_ret
    exact ⟨rfl, HB.out⟩
  rw [if_neg (by simp)]
  by_cases h0 : i < 0
  · have k0 : decide (i < 0) = true := decide_eq_true h0
    rw [if_neg (by omega)]
    clear h0
    go_enter Try.func28, Try.ntmps28
    go_wp2_with fail
    refine HN.out.mono ?_
    rintro e w2 ⟨rfl, hb⟩
    have HB := Lib.hid hb
    obtain ⟨c0, c1, c2, c3, c4⟩ := (H.out.go hb).cells
    clear hb
    go_wp2_with fail
    go_ret
    exact ⟨rfl, HB.out⟩
  have k0 : decide (i < 0) = false := decide_eq_false h0
  by_cases h1 : i < n
  · have k1 : decide (i ≥ (n : Int)) = false := decide_eq_false (by omega)
    rw [if_pos (by omega)]
    clear h0 h1
    go_enter Try.func28, Try.ntmps28
    go_wp2_with fail
    refine HN.out.mono ?_
    rintro e w2 ⟨rfl, hb⟩
    have HB := Lib.hid hb
    obtain ⟨c0, c1, c2, c3, c4⟩ := (H.out.go hb).cells
    clear hb
    go_wp2_with fail
    go_ret
    exact ⟨rfl, HB.out⟩
  · have k1 : decide (i ≥ (n : Int)) = true := decide_eq_true (by omega)
    rw [if_neg (by omega)]
    clear h0 h1
    go_enter Try.func28, Try.ntmps28
    go_wp2_with fail
    refine HN.out.mono ?_
    rintro e w2 ⟨rfl, hb⟩
    have HB := Lib.hid hb
    obtain ⟨c0, c1, c2, c3, c4⟩ := (H.out.go hb).cells
    clear hb
    go_wp2_with fail
    go_ret
    exact ⟨rfl, HB.out⟩
end Go.Proofs.Ytpleaicpkpjkjaa
