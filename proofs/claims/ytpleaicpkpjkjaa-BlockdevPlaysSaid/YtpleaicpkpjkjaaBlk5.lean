/-
  A device of sectors: New, walked. Conditions stand at each theorem.
-/
import Derived.Test.YtpleaicpkpjkjaaBlk2
namespace Go.Proofs.Ytpleaicpkpjkjaa
open Go Go.RowKit Go.Kw
set_option linter.unusedVariables false
set_option linter.unusedSimpArgs false

theorem eS : Elem Try.prog 64 69 (.agg (Array.replicate 128 (.int .u8 0))) 128 128 := ⟨Try.underlying64, by kernel_rfl, rfl, by decide⟩
/-- A device that is new: of n sectors of noughts; d: its box. -/
def NewD (n : Nat) (w : World) (e : Ending) (w' : World) : Prop :=
  ∃ d sb, e = .returned (.tuple #[.pointer (some ⟨d, 0, none⟩), .int .i64 0]) ∧ w.heap.size ≤ sb ∧ sb < d ∧ d < w'.heap.size ∧ DevH w' d (some ⟨sb, 0, none⟩) n n none 0 0 0 false 0 ∧
    w'.ownsRow w.heap.size 69 128 (.slice (some ⟨sb, 0, none⟩) n n) n (madeCells (Value.agg (Array.replicate 128 (.int .u8 0))).cells (n * 128)).toList ∧ Below w.heap.size w w'
theorem dNew_bad (w : World) (i : Int) (hi : i < 1 ∨ 65536 < i) :
    Calls Try.prog 9 #[.int .i64 i] w fun e w' => e = .returned (.tuple #[.pointer none, .int .i64 2]) ∧ Below w.heap.size w w' := by
  by_cases h0 : i < 1
  · have k0 : decide (i < 1) = true := decide_eq_true h0
    clear h0 hi
    go_enter Try.func9, Try.ntmps9
    go_wp2_with fail
    go_ret2
    exact ⟨rfl, Below.refl _ _⟩
  · have k0 : decide (i < 1) = false := decide_eq_false h0
    have k1 : decide (i > 65536) = true := decide_eq_true (by omega)
    clear h0 hi
    go_enter Try.func9, Try.ntmps9
    go_wp2_with fail
    go_ret2
    exact ⟨rfl, Below.refl _ _⟩
set_option maxHeartbeats 4000000 in
theorem dNew_calls (w : World) (n : Nat) (h1 : 1 ≤ n) (h2 : n ≤ 65536) :
    Calls Try.prog 9 #[.int .i64 n] w (NewD n w) := by
  obtain ⟨w1, hrun, hown, hg⟩ := runMake (P := Try.prog) w w.heap.size eS n (by omega) (by unfold maxLen; omega) (Nat.le_refl _)
  have hb : Below w.heap.size w w1 := (Below.refl w.heap.size w).grown hg (Nat.le_refl _) (fun k hk => by cases hk)
  have k0 : decide ((n : Int) < 1) = false := decide_eq_false (by omega)
  have k1 : decide ((n : Int) > 65536) = false := decide_eq_false (by omega)
  have H := Lib.hid (And.intro hown hb)
  clear hown hg hb h1 h2
  go_enter Try.func9, Try.ntmps9
  go_wp2_with (at_make; refine wpList_make_run hrun rfl rfl rfl rfl ?_)
  go_ret2
  exact ⟨w1.heap.size, w.heap.size, rfl, Nat.le_refl _, (H.out.1.lt _ rfl).2, by simp, World.alloc_heap_new w1 _, own_below H.out.1 (bstep w1 _), bnext H.out.2 (bstep w1 _)⟩
end Go.Proofs.Ytpleaicpkpjkjaa
