/-
  slices.Clone and slices.Equal at bytes, walked. Conditions: at most 1,000,000 bytes.
-/
import Derived.Test.YtpleaicpkpjkjaaSlices
import Derived.Test.YtpleaicpkpjkjaaChecked
import Derived.ProofKit
import Derived.LoopTactic
import Derived.Outline
import Derived.WalkLawsBesides
namespace Go.Proofs.Ytpleaicpkpjkjaa
open Go Go.RowKit Go.Kw
set_option linter.unusedVariables false
set_option linter.unusedSimpArgs false

theorem eb : Elem Try.prog 23 5 (.int .u8 0) 1 1 := ⟨Try.underlying23, by kernel_rfl, rfl, by decide⟩

theorem clone_calls (A : Option Addr) (c : Nat) (l : List UInt8) (hl : l.length ≤ 2000000) (w : World) (hR : RdB w w.heap.size A l) (hn : A = none → l.length = 0) :
    Calls Try.prog 34 #[.slice A l.length c] w fun e w' => ∃ A' c', e = .returned (.slice A' l.length c') ∧ w'.ownsRow w.heap.size 5 1 (.slice A' l.length c') l.length (bv l) ∧ Below w.heap.size w w' := by
  rcases A with _ | ad
  · have h0 := hn rfl
    obtain rfl : l = [] := List.eq_nil_of_length_eq_zero h0
    have hnil := fun w => eb.eqNil w none 0 c
    go_enter Try.func34, Try.ntmps34
    go_wp2
    go_ret
    exact ⟨none, 0, rfl, World.ownsRow_nil _ _ _ _, Below.refl _ _⟩
  · have hnil := fun w => eb.eqNil w (some ad) l.length c
    obtain ⟨v', w', hrun, h2, h3, h4, h5⟩ := run_append (P := Try.prog) (w.alloc (.cells #[] 5)) w.heap.size 23 eb (World.ownsRow_made (size := 1) w #[] 0 (Nat.le_refl _) (by decide) rfl) l.length c
      (by rw [Nat.mul_one]; exact (Rd.alloc (n := l.length) hR (Nat.le_refl _) _)) (fun i _ => rfl) (by unfold maxLen; omega) (by omega) (by simp) (by simp)
    rw [vals_bytes, List.nil_append, Nat.zero_add] at h2
    have hb := below_append (World.ownsRow_made (size := 1) w #[] 0 (Nat.le_refl _) (by decide) rfl) (by simp) h3
    obtain ⟨A', c', rfl, _, _⟩ := own_len h2
    go_enter Try.func34, Try.ntmps34
    go_wp2_with (at_builtin; refine wpList_append_run hrun rfl rfl rfl rfl rfl ?_)
    go_ret
    exact ⟨A', c', rfl, h2, ((Below.refl _ w).alloc (Nat.le_refl _) _).trans hb⟩
theorem clone_n (A : Option Addr) (c n : Nat) (l : List UInt8) (hn : n = l.length) (hl : n ≤ 2000000) (w : World) (hR : RdB w w.heap.size A l) (hz : A = none → n = 0) :
    Calls Try.prog 34 #[.slice A n c] w fun e w' => ∃ A' c', e = .returned (.slice A' n c') ∧ w'.ownsRow w.heap.size 5 1 (.slice A' n c') n (bv l) ∧ Below w.heap.size w w' := by
  subst hn; exact clone_calls A c l hl w hR hz
end Go.Proofs.Ytpleaicpkpjkjaa
