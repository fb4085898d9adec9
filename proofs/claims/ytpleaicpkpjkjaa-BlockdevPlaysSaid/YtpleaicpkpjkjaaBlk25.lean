/-
  Two devices beside one another, through crashes. Conditions stand at each theorem.
-/
import Derived.Test.YtpleaicpkpjkjaaBlk24
namespace Go.Proofs.Ytpleaicpkpjkjaa
open Go Go.RowKit Go.Kw
set_option linter.unusedVariables false
set_option linter.unusedSimpArgs false

section
variable {w3 w0 w1 W W' : World} {d sb sc d' sb' sc' ub : Nat} {D D' D1 : Dv} {g : Nat → List (List UInt8)} {S : List (List UInt8)} {F G X : Nat → Prop}
theorem own_lower {w : World} {B B' : Nat} {e : TypeId} {size : Nat} {v : Value} {n : Nat} {xs : List Value} (h : w.ownsRow B e size v n xs) (hB : B' ≤ B) : w.ownsRow B' e size v n xs := by
  refine ⟨h.1, ?_⟩
  rcases h.2 with h | ⟨g, cap, cur, hv, hg, hh, r⟩
  · exact .inl h
  · exact .inr ⟨g, cap, cur, hv, Nat.le_trans hB hg, hh, r⟩
theorem DevO.lower {B B' : Nat} {V : Value} (h : DevO W B d sb sc V D) (hB : B' ≤ B) : DevO W B' d sb sc V D := ⟨h.ok, h.box, own_lower h.saf hB, own_lower h.cac hB, h.ds, h.dv, h.sv, Nat.le_trans hB h.bd⟩
theorem LDs.lower (h : LDs w0 d sb sc D F W) (hb : Below w3.heap.size w3 W) (hs : w3.heap.size ≤ w0.heap.size) : LDs w3 d sb sc D F W := by
  obtain ⟨V, h1, h2, h3⟩ := h
  exact ⟨V, h1.lower hs, hb, h3⟩
theorem LDs.bound (h : LDs w0 d sb sc D F W) : LDs w0 d sb sc D (fun b => F b ∧ b < W.heap.size) W := by
  obtain ⟨V, h1, h2, h3⟩ := h
  exact ⟨V, h1, h2, fun b hf => ⟨h3 b hf, Classical.byContradiction fun hn => hf (h1.new (by omega))⟩⟩
theorem LDs.below (h : LDs w0 d sb sc D F W) : Below w0.heap.size w0 W := by obtain ⟨V, h1, h2, h3⟩ := h; exact h2
theorem LDs.ok (h : LDs w0 d sb sc D F W) : DvOk D := by obtain ⟨V, h1, h2, h3⟩ := h; exact h1.ok
theorem LDs.sbF (h : LDs w0 d sb sc D F W) : F sb := by obtain ⟨V, h1, h2, h3⟩ := h; exact h3 sb (fun hf => hf.2.1 rfl)
/-- Two devices, the rows of strings and what was safe; G: blocks that lie beside all and stay. -/
def Two (w3 : World) (d sb sc d' sb' sc' ub : Nat) (D D' : Dv) (g : Nat → List (List UInt8)) (S : List (List UInt8)) (G : Nat → Prop) (W : World) : Prop :=
  ∃ (F F' X : Nat → Prop) (V : Nat → Value), LDs w3 d sb sc D F W ∧ LDs w3 d' sb' sc' D' F' W ∧ (∀ b, F b → b < W.heap.size ∧ w3.heap.size ≤ b ∧ ¬ F' b ∧ ¬ X b) ∧ (∀ b, F' b → b < W.heap.size ∧ w3.heap.size ≤ b ∧ ¬ F b ∧ ¬ X b) ∧ X ub ∧ (∀ b, G b → X b) ∧ (∀ b, X b → b < W.heap.size ∧ w3.heap.size ≤ b) ∧ AllM W (ub + 1) w3.heap.size X V g ∧ SafM W ub S 8
theorem Two.swap (h : Two w3 d sb sc d' sb' sc' ub D D' g S G W) : Two w3 d' sb' sc' d sb sc ub D' D g S G W := by
  obtain ⟨F, F', X, V, h1, h2, h3, h4, r⟩ := h
  exact ⟨F', F, X, V, h2, h1, h4, h3, r⟩
theorem Two.below (h : Two w3 d sb sc d' sb' sc' ub D D' g S G W) : Below w3.heap.size w3 W := by
  obtain ⟨F, F', X, V, h1, r⟩ := h
  exact h1.below
theorem Two.ok (h : Two w3 d sb sc d' sb' sc' ub D D' g S G W) : DvOk D := by
  obtain ⟨F, F', X, V, h1, r⟩ := h
  exact h1.ok
theorem Two.sb_ge (h : Two w3 d sb sc d' sb' sc' ub D D' g S G W) : w3.heap.size ≤ sb ∧ sb < W.heap.size ∧ ¬ G sb := by
  obtain ⟨F, F', X, V, h1, h2, h3, h4, h5, h6, r⟩ := h
  have := h3 _ h1.sbF
  exact ⟨this.2.1, this.1, fun hg => this.2.2.2 (h6 _ hg)⟩
theorem Two.more (h : Two w3 d sb sc d' sb' sc' ub D D' g S G W) (hb : Below W.heap.size W W') : Two w3 d sb sc d' sb' sc' ub D D' g S (fun b => G b ∨ W.heap.size ≤ b ∧ b < W'.heap.size) W' := by
  obtain ⟨F, F', X, V, h1, h2, h3, h4, h5, h6, h7, h8, h9⟩ := h
  have hs := hb.size
  have hw := h1.below.size
  refine ⟨F, F', fun b => X b ∨ W.heap.size ≤ b ∧ b < W'.heap.size, V, h1.go hb, h2.go hb, fun b hf => ?_, fun b hf => ?_, .inl h5, fun b hg => hg.elim (fun h => .inl (h6 b h)) .inr, fun b hx => ?_, (h8.go hb).moreX (fun b hx => .inl hx), h9.go hb⟩
  · obtain ⟨a1, a2, a3, a4⟩ := h3 b hf
    exact ⟨by omega, a2, a3, fun hx => hx.elim a4 (fun hx => by omega)⟩
  · obtain ⟨a1, a2, a3, a4⟩ := h4 b hf
    exact ⟨by omega, a2, a3, fun hx => hx.elim a4 (fun hx => by omega)⟩
  · rcases hx with hx | hx
    · have := h7 b hx; omega
    · omega
theorem Two.less {H : Nat → Prop} (h : Two w3 d sb sc d' sb' sc' ub D D' g S G W) (hh : ∀ b, H b → G b) : Two w3 d sb sc d' sb' sc' ub D D' g S H W := by
  obtain ⟨F, F', X, V, h1, h2, h3, h4, h5, h6, r⟩ := h
  exact ⟨F, F', X, V, h1, h2, h3, h4, h5, fun b hb => h6 b (hh b hb), r⟩
theorem Two.go (h : Two w3 d sb sc d' sb' sc' ub D D' g S G W) (hb : Below W.heap.size W W') : Two w3 d sb sc d' sb' sc' ub D D' g S G W' := (h.more hb).less (fun b hb => .inl hb)
/-- A call of the first device. -/
theorem Two.step {f : FuncId} {args : Array Value} {Q : Ending → Prop} (h : Two w3 d sb sc d' sb' sc' ub D D' g S G W)
    (hc : ∀ F, LDs w3 d sb sc D F W → Calls Try.prog f args W fun e W' => Q e ∧ LDs w3 d sb sc D1 (fun b => F b ∨ W.heap.size ≤ b) W' ∧ Kept (fun b => ¬ F b) W W') :
    Calls Try.prog f args W fun e W' => Q e ∧ Two w3 d sb sc d' sb' sc' ub D1 D' g S G W' ∧ Kept G W W' := by
  obtain ⟨F, F', X, V, h1, h2, h3, h4, h5, h6, h7, h8, h9⟩ := h
  refine (hc F h1).mono ?_
  rintro e W' ⟨hq, hL, hk⟩
  have hs := hk.size
  have hw := h1.below.size
  have hX : ∀ b, X b → ¬ F b := fun b hx hf => (h3 b hf).2.2.2 hx
  have hkX : Kept X W W' := hk.mono (fun b _ hx => hX b hx)
  refine ⟨hq, ⟨_, F', X, V, hL.bound, h2.kept hk (fun b hf => (h4 b hf).2.2.1) (fun b hb hf => by have := (h3 b hf).2.1; omega), fun b hf => ?_, fun b hf => ?_, h5, h6, fun b hx => ?_, h8.kept hkX, h9.kept hkX h5⟩, hkX.mono (fun b _ hg => h6 b hg)⟩
  · obtain ⟨hf | hf, hlt⟩ := hf
    · obtain ⟨a1, a2, a3, a4⟩ := h3 b hf
      exact ⟨hlt, a2, a3, a4⟩
    · exact ⟨hlt, by omega, fun hf' => by have := (h4 b hf').1; omega, fun hx => by have := (h7 b hx).1; omega⟩
  · obtain ⟨a1, a2, a3, a4⟩ := h4 b hf
    exact ⟨by omega, a2, fun hf' => hf'.1.elim a3 (fun hf' => by omega), a4⟩
  · have := h7 b hx; omega
theorem Two.pull (h : Two w3 d sb sc d' sb' sc' ub D D' g S G W) : Calls Try.prog 15 #[.pointer (some ⟨d, 0, none⟩)] W fun e W' => e = .returned (.int .i64 0) ∧ Two w3 d sb sc d' sb' sc' ub { D with dn := true } D' g S G W' ∧ Kept G W W' :=
  h.step (Q := fun e => e = .returned (.int .i64 0)) (fun F hF => hF.pull)
theorem Two.rest (h : Two w3 d sb sc d' sb' sc' ub D D' g S G W) (KA : Option Addr) (kc : Nat) (kp : List UInt8) (to at' : Int) (hdn : D.dn = true) (hK : RdY W (fun b => b ≠ sb) KA kp) :
    Calls Try.prog 16 #[.pointer (some ⟨d, 0, none⟩), .agg #[.slice KA kp.length kc, .int .i64 to, .int .i64 at']] W fun e W' => e = .returned (.int .i64 (restV D kp to at').1) ∧ Two w3 d sb sc d' sb' sc' ub (restV D kp to at').2 D' g S G W' ∧ Kept G W W' :=
  h.step (Q := fun e => e = .returned (.int .i64 (restV D kp to at').1)) (fun F hF => hF.restart KA kc kp to at' hdn hK)
theorem Two.read (h : Two w3 d sb sc d' sb' sc' ub D D' g S G W) (i : Nat) (hi : i < D.S.length) (hdn : D.dn = false) : Calls Try.prog 13 #[.pointer (some ⟨d, 0, none⟩), .int .i64 (i : Int)] W (SafeB W (seenD D i)) := by
  obtain ⟨F, F', X, V, h1, r⟩ := h
  exact h1.read i hi hdn
/-- The copy beside the device. -/
theorem KpI.two (h : KpI w3 d sb ub D g S 8 (fun _ => False) W) (h2 : LD W d' sb' sc' D' (fun _ => False) W') (hb : Below W.heap.size W W') : Two w3 d sb 8 d' sb' sc' ub D D' g S (fun _ => False) W' := by
  obtain ⟨X, V, h1, hX, hu, hA, hV, hS, -⟩ := h
  have hXl : ∀ b, X b → b < W.heap.size := fun b hb => by obtain ⟨V', q1, q2, q3⟩ := h1; exact (q3 b hb).1
  obtain ⟨F, h3, hF⟩ := h1.sep
  have hs := hb.size
  have hw := h1.below.size
  refine ⟨F, _, X, V, h3.go hb, (LDs.ofLD h2).lower (bnext h1.below hb) hw, fun b hf => ?_, fun b hf => ?_, hu, fun b hb => hb.elim, fun b hx => ?_, hA.go hb, hS.go hb⟩
  · obtain ⟨a1, a2, a3⟩ := hF b hf
    exact ⟨by omega, a2, fun hf' => by omega, a3⟩
  · exact ⟨hf.2, by omega, fun hf' => by have := (hF b hf').1; omega, fun hx => by have := hXl b hx; omega⟩
  · have := hXl b hx; have := hX b hx; omega
theorem KpI.copy (h : KpI w3 d sb ub D g S 8 (fun _ => False) W) : Calls Try.prog 14 #[.pointer (some ⟨d, 0, none⟩)] W fun e W' => ∃ d' sb' sc', e = .returned (.pointer (some ⟨d', 0, none⟩)) ∧ Two w3 d sb 8 d' sb' sc' ub D D g S (fun _ => False) W' := by
  have hc := h
  obtain ⟨X, V, h1, -⟩ := hc
  refine h1.copy.mono ?_
  rintro e W' ⟨d', sb', sc', rfl, h2, hb⟩
  exact ⟨d', sb', sc', rfl, h.two h2 hb⟩
end
end Go.Proofs.Ytpleaicpkpjkjaa
