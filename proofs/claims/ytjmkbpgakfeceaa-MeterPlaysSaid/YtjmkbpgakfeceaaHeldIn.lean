/-
  Inside a round of a range over a function: an operation, and a region that draws its order, by the laws of plain walks. Conditions stand at each theorem.
-/
import Derived.Test.YtjmkbpgakfeceaaRange
import Derived.Deep.RegionHeld3
import Derived.OwnWalkIn
namespace Go.Kw
open Go Go.RowKit
set_option linter.unusedVariables false

/-- No exit but the normal one. -/
def normalOnly (K : Act → World → Prop) : Exit → Act → World → Prop
  | .normal, a, w => K a w
  | _, _, _ => False
theorem wpIn_normal {F : Fence} {n : Nat} {P : Program} {c : Code} {Q : Exit → Act → World → Prop} {a : Act} {w : World} (h : c.wpIn F n P (normalOnly fun a w => Q .normal a w) a w) : c.wpIn F n P Q a w :=
  wpIn_mono h fun e a w hq => by cases e <;> first | exact hq | exact hq.elim
section
variable {P : Program} {ops : Array Oper} {l n : Nat}
/-- A wide fence, in a round or in none. -/
def Wide (F : Fence) : Prop := ∃ ro, F = { Fence.wide with round := ro }
theorem wide_wide : Wide Fence.wide := ⟨none, rfl⟩
theorem wide_round (l : Nat) : Wide (Fence.wide.inRound l) := ⟨some l, rfl⟩
theorem rowsIn_of {ro : Option Nat} {row : String} {args : Array Value} {w : World} {R : Value → World → Prop} (h : Rows P row args w R) : RowsIn { Fence.wide with round := ro } n P row args w R :=
  fun c cs _ => let ⟨v, w', r, s⟩ := h c cs; ⟨v, w', r, stepsIn_wide.2 s⟩
theorem operIn_of {F : Fence} (hF : Wide F) {o : Oper} {a : Act} {w : World} {K : Act → World → Prop} {Q : Exit → Act → World → Prop} (hd : ∀ c, o.op ≠ .defer c) (h : o.wp P a w K Q) : o.wpIn F n P a w K Q := by
  obtain ⟨ro, rfl⟩ := hF
  refine ⟨fun f _ => trivial, ?_⟩
  rw [Oper.semAt_plain _ _ _ hd]
  unfold Oper.wp at h
  generalize (execOp a.eval o).run P w = r at h
  cases r with
  | ok x w' =>
    cases x with
    | value v => exact h
    | skip => exact h
    | defer d => exact h
    | enter f args => exact ⟨fun h => by simp [Fence.wide] at h, (callsIn_wide (n := n - 1)).2 h⟩
    | row r args => exact ⟨fun h => by simp [Fence.wide] at h, rowsIn_of h⟩
    | _ => exact h.elim
  | halt e w' =>
    cases e with
    | panic v => exact h
    | _ => exact h.elim
/-- An operation of a list, by a law of plain walks. -/
theorem wpListIn_via {F : Fence} (hF : Wide F) {o : Oper} {rest : List Oper} {a : Act} {w : World} {Q : Exit → Act → World → Prop} (hgd : o.guard = none) (hd : ∀ c, o.op ≠ .defer c)
    (h : ∀ K : Act → World → Prop, (∀ a w, wpListIn F n P ops Q rest a w → K a w) → o.wp P a w K Q) : wpListIn F n P ops Q (o :: rest) a w :=
  wpListIn_plain hgd fun K hK => operIn_of hF hd (h K hK)
def notDefer (o : Oper) : Bool := match o.op with | .defer _ => false | _ => true
theorem wpAnyIn_of {md : Region.Mode} {K : Act → World → Prop} (hd : ∀ o ∈ ops, notDefer o = true) : ∀ (fuel : Nat) (listed : Array Bool) (a : Act) (w : World),
    wpAny P md ops (normalOnly K) fuel listed a w → wpAnyIn (Fence.wide.inRound l) n P md ops (normalOnly K) fuel listed a w
  | 0, _, _, _, h => h
  | fuel + 1, listed, a, w, h => ⟨h.1, fun i hi => by
      have h2 := h.2 i hi
      unfold wpOp at h2
      unfold wpOpIn
      cases ho : ops[i]? with
      | none => rw [ho] at h2; exact wpAnyIn_of hd fuel _ _ _ h2
      | some o =>
        rw [ho] at h2
        dsimp only at h2 ⊢
        have hdo : ∀ c, o.op ≠ .defer c := fun c e => by
          have := hd o (Array.mem_of_getElem? ho)
          unfold notDefer at this; rw [e] at this; cases this
        split
        · next hw =>
          rw [if_pos hw] at h2
          rcases h2 with h2 | ⟨-, a', w', h2⟩
          · exact Oper.wpIn_mono (fun a w => wpAnyIn_of hd fuel _ a w) (operIn_of (wide_round l) hdo h2)
          · exact h2.elim
        · next hw =>
          rw [if_neg hw] at h2
          exact ⟨fun f _ => trivial, wpAnyIn_of hd fuel _ _ _ h2⟩⟩
/-- A region that draws its order, inside a round, by hand. -/
theorem wpIn_region_held {id : Nat} {a : Act} {w : World} {S : World → Prop} {Q : Exit → Act → World → Prop} (hm : P.follows .mixedOrders = true) (hS : S w.drew) (hd : ops.all notDefer = true)
    (h : S w.drew → wpAnyH P .any ops (normalOnly fun a w => Q .normal a w) S ops.size (Array.replicate ops.size false) a w.drew) : (Code.region id ops true).wpIn (Fence.wide.inRound l) n P Q a w :=
  wpIn_normal (wpIn_region_any hm (wpAnyIn_of (fun o ho => Array.all_eq_true_iff_forall_mem.1 hd o ho) _ _ _ _ (wpAny_of_held _ _ _ _ (h hS))))
end
end Go.Kw
