/-
  Helpers for 'end': a row of the call's own abides the machinery of a range over a function; a boxed slice that grows. Conditions stand at each theorem.
-/
import Derived.Test.YtfbeihfpflhdaaaRtuDue
namespace Go.Proofs.Ytfbeihfpflhdaaa
open Go Go.RowKit Go.Kw Go.Kw.Crc
set_option linter.unusedVariables false
set_option linter.unusedSimpArgs false

theorem own_ownW (B base : Nat) (e : TypeId) (v : Value) (n : Nat) (xs : List Value) : OwnW B (fun W => W.ownsRow base e 1 v n xs) := by
  intro W W' row h hg hr
  refine ⟨h.1, ?_⟩
  rcases h.2 with h | ⟨g, cap, cur, hv, hb, hh, r⟩
  · exact .inl h
  · refine .inr ⟨g, cap, cur, hv, hb, ?_, r⟩
    refine (hg.block g (Array.getElem?_eq_some_iff.1 hh).1 ?_).trans hh
    intro e'
    obtain ⟨-, o, ho, hc⟩ := hr g e'.symm
    rw [hh] at ho
    injection ho with ho
    subst ho
    cases hc
theorem own_all {B : Nat} {β : Sort _} {I : β → World → Prop} (h : ∀ b, OwnW B (I b)) : OwnW B (fun W => ∀ b, I b W) :=
  fun W W' row hs hg hr b => h b W W' row (hs b) hg hr
/-- 'v = append(v, x...)', v in a box. -/
theorem boxed_grown {W w1 : World} {n₀ B : Nat} {t e : TypeId} {v v' : Value} {k m : Nat} {xs ys : List Value}
    (hv : Boxed W B t v) (hte : t ≠ e) (hrow : W.ownsRow n₀ e 1 v k xs) (hB : n₀ ≤ B)
    (hown' : w1.ownsRow n₀ e 1 v' m ys) (hgrow : W.grownBy w1 v.ownBlock) (hbl : Below n₀ W w1) :
    Boxed w1 B t v ∧ Boxed (w1.setCell ⟨B, 0, none⟩ v') B t v' ∧ (w1.setCell ⟨B, 0, none⟩ v').ownsRow n₀ e 1 v' m ys ∧ KeepsOthers W (w1.setCell ⟨B, 0, none⟩ v') ∧ Below n₀ W (w1.setCell ⟨B, 0, none⟩ v') := by
  have hv1 : Boxed w1 B t v := hv.kept hgrow (hv.not_row hte hrow)
  refine ⟨hv1, hv1.set v', hown'.kept (grownBy_setCell' w1 B v') (.inr (hv1.not_row hte hown').symm), ?_, hbl.setCell (p := ⟨B, 0, none⟩) hB v'⟩
  refine (KeepsOthers.of_grownBy hgrow fun j o ej hj => ?_).trans (KeepsOthers.setCell _ _ _)
  rcases hrow.2 with ⟨rfl, _⟩ | ⟨g, cap, cur, rfl, _, hgb, _⟩
  · simp [Value.ownBlock] at ej
  · obtain rfl : g = j := by simpa [Value.ownBlock] using ej
    rw [hgb] at hj; cases hj; rfl
theorem box2_ownW (B b : Nat) (t : TypeId) (x y : Value) : OwnW B (fun W => Box2 W b t x y) := by
  intro W W' row h hg hr
  refine (hg.block b h.lt ?_).trans h
  intro e'
  obtain ⟨-, o, ho, hc⟩ := hr b e'.symm
  rw [show W.heap[b]? = _ from h] at ho
  injection ho with ho
  subst ho
  cases hc
theorem Box2.kept {W W' : World} {row : Option Nat} {b : Nat} {t : TypeId} {x y : Value} (h : Box2 W b t x y) (hg : W.grownBy W' row) (hne : some b ≠ row) : Box2 W' b t x y := (hg.block b h.lt hne).trans h
theorem Box2.not_row {W : World} {b : Nat} {t e : TypeId} {x y : Value} (h : Box2 W b t x y) (hte : t ≠ e) {base size k : Nat} {v : Value} {xs : List Value} (hr : W.ownsRow base e size v k xs) : some b ≠ v.ownBlock := by
  rcases hr.2 with ⟨rfl, _⟩ | ⟨g, cap, cur, rfl, _, hgb, _⟩
  · simp [Value.ownBlock]
  · intro e'
    obtain rfl : b = g := by simpa [Value.ownBlock] using e'
    rw [show W.heap[b]? = _ from h] at hgb
    injection hgb with hgb
    injection hgb with _ h2 _
    exact hte h2
end Go.Proofs.Ytfbeihfpflhdaaa
