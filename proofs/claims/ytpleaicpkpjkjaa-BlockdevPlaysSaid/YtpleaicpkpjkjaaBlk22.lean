/-
  Calls on no device, and on one of nothing; writes of bytes that lie anywhere anew. Conditions stand at each theorem.
-/
import Derived.Test.YtpleaicpkpjkjaaBlk21
namespace Go.Proofs.Ytpleaicpkpjkjaa
open Go Go.RowKit Go.Kw
set_option linter.unusedVariables false
set_option linter.unusedSimpArgs false

set_option maxHeartbeats 4000000 in
/-- Flush at a pointer of which 'up' says e. -/
theorem dFlush_no (w : World) (pv : Option Addr) (x : Int) (hx : x ≠ 0) (hN : ∀ w', Below w.heap.size w w' → Calls Try.prog 28 #[.pointer pv, .int .i64 0] w' fun e w2 => e = .returned (.int .i64 x) ∧ Below w'.heap.size w' w2) :
    Calls Try.prog 12 #[.pointer pv] w fun e w' => e = .returned (.int .i64 x) ∧ Below w.heap.size w w' := by
  have hb := bstep w (.cells #[.pointer pv] 28)
  have HN := Lib.hid (hN _ hb)
  have HB := Lib.hid hb
  have kx : (x != 0) = true := by simp [hx]
  clear hN hb hx
  go_enter Try.func12, Try.ntmps12
  go_wp2_with fail
  refine HN.out.mono ?_
  rintro e w2 ⟨rfl, hb2⟩
  have HB2 := Lib.hid (bnext HB.out hb2)
  clear hb2
  go_wp2_with fail
  go_ret
  exact ⟨rfl, HB2.out⟩
section
variable {w0 W : World} {d sb sc : Nat} {D : Dv} {X : Nat → Prop}
theorem LD.writeR {W0 : World} (h : LD w0 d sb sc D X W0) (hb : Below W0.heap.size W0 W) (hk : 0 ≤ D.k ∧ D.k < 4611686018427387904) {A : Option Addr} {n c : Nat} {l : List UInt8} (hn : n = l.length) (hR : RdY W (fun b => W0.heap.size ≤ b) A l) (i : Int) :
    Calls Try.prog 10 #[.pointer (some ⟨d, 0, none⟩), .int .i64 i, .slice A n c] W fun e W' => e = .returned (.int .i64 (putV D i l).1) ∧ LD w0 d sb sc (putV D i l).2 X W' ∧ Kept X W W' := by
  obtain ⟨V, h1, h2, h5⟩ := h
  have h3 := h1.go hb
  have h4 := bnext h2 hb
  refine (dWrite_calls W _ d sb sc V D h3 hk h4.size i A n c l hn (hR.mono (fun b hb => h1.new hb))).mono ?_
  rintro e W' ⟨rfl, hp⟩
  exact ⟨rfl, LD.ofP h3 h4 (fun b hx => ⟨Nat.lt_of_lt_of_le (h5 b hx).1 hb.size, (h5 b hx).2⟩) hp⟩
/-- Read while it is down. -/
theorem LD.readDown (h : LD w0 d sb sc D X W) (hdn : D.dn = true) (i : Int) : Calls Try.prog 13 #[.pointer (some ⟨d, 0, none⟩), .int .i64 i] W fun e W' => e = .returned (.tuple #[.slice none 0 0, .int .i64 120]) ∧ Below W.heap.size W W' := by
  obtain ⟨V, h1, h2, h5⟩ := h
  refine dRead_no W _ i 120 (by decide) (fun w' hb => ?_)
  have h := dup_dev W _ d sb sc V D h1 i w' hb
  rw [show upE D.S.length D.dn i = 120 by unfold upE; rw [if_neg (by have := h1.ok.n; omega), if_pos hdn]] at h
  exact h
end
/-- A device of nothing: its box of noughts. -/
theorem zero_dev (w : World) (z : Nat) (h : w.heap[z]? = some (.cells #[.slice none 0 0, .slice none 0 0, .int .i64 0, .bool false, .int .i64 0] 67 (0, 0))) : DevH w z none 0 0 none 0 0 0 false 0 := h
theorem zero_none {w : World} {z : Nat} (h : DevH w z none 0 0 none 0 0 0 false 0) : Calls Try.prog 35 #[.pointer (some ⟨z, 0, none⟩)] w fun e w' => e = .returned (.bool true) ∧ Below w.heap.size w w' :=
  dnone_calls w z none 0 0 none 0 0 0 false 0 h
theorem zero_up {w : World} {z : Nat} (h : DevH w z none 0 0 none 0 0 0 false 0) (i : Int) : Calls Try.prog 28 #[.pointer (some ⟨z, 0, none⟩), .int .i64 i] w fun e w' => e = .returned (.int .i64 1) ∧ Below w.heap.size w w' := by
  have := dup_calls w z none 0 0 none 0 0 0 false 0 i h
  rw [show upE 0 false i = 1 from if_pos rfl] at this
  exact this
end Go.Proofs.Ytpleaicpkpjkjaa
