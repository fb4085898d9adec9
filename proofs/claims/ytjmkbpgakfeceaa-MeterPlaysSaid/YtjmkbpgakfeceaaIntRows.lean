/-
  What a call is told of a slice that comes in whose elements are n integers each (structs of integers, arrays of integers): its cells. No program in sight. Conditions stand at each theorem.
-/
import Derived.Test.YtjmkbpgakfeceaaBase
import Derived.Deep.Matrix
import Derived.Deep.Strs
import Derived.Deep.Fields
import Derived.OpenShut
namespace Go.Kw
open Go Go.RowKit Go.ChangeShapes Go.WideShapes Go.Deep
set_option linter.unusedVariables false

variable {P : Program} {H : Type} {enc : TypeId × Value → H}
/-- The cells of a datum that is n integers. -/
def IntCells (n : Nat) (kd : Nat → IntKind) (cs : List Value) : Prop :=
  cs.length = n ∧ ∃ g : Nat → Int, ∀ j, j < n → cs[j]? = some (.int (kd j) (g j)) ∧ (Lit.int (kd j) (g j)).wf = true
/-- A struct of integers. -/
theorem struct_ints {w : World} {base : Nat} {spare : Nat → Bool} {held : Bool} {fuel : Nat} {t : TypeId} {cs : List Value} {x : DataW H × List MemPlace} {fs : Array Field} {n : Nat} (kd : Nat → IntKind)
    (ht : P.underlying t = some (.struct fs)) (hn : fs.size = n) (hc : P.cellsOf t = n) (hk : ∀ j, j < n → ∃ f, fs[j]? = some f ∧ f.offset = j ∧ P.cellsOf f.type = 1 ∧ P.underlying f.type = some (.int (kd j)))
    (h : DataW.trod enc P w base spare held fuel t cs = some x) : IntCells n kd cs := by
  obtain ⟨xs, m, rfl, hx, hl, hxl, hall⟩ := DataW.trod_struct ht h
  rw [hc] at hl
  refine ⟨hl, ?_⟩
  have each : ∀ j, j < n → ∃ z : Int, cs[j]? = some (.int (kd j) z) ∧ (Lit.int (kd j) z).wf = true := fun j hj => by
    obtain ⟨f, hf, ho, h1, hu⟩ := hk j hj
    have ht := hall j f hf
    rw [ho, h1, List.getElem?_eq_getElem (by omega)] at ht
    obtain ⟨z, e, -, hw⟩ := DataW.trod_int hu ht
    refine ⟨z, ?_, hw⟩
    have : ((cs.drop j).take 1)[0]? = some (.int (kd j) z) := by rw [e]; rfl
    rw [List.getElem?_take_of_lt (by omega), List.getElem?_drop] at this
    exact this
  obtain ⟨g, hg⟩ := choose_lt each
  exact ⟨g, hg⟩
/-- An array of integers. -/
theorem array_ints {w : World} {base : Nat} {spare : Nat → Bool} {held : Bool} {fuel : Nat} {t e : TypeId} {cs : List Value} {x : DataW H × List MemPlace} {n : Nat} {kd : IntKind}
    (ht : P.underlying t = some (.array n e)) (hc : P.cellsOf t = n) (h1 : P.cellsOf e = 1) (hu : P.underlying e = some (.int kd))
    (h : DataW.trod enc P w base spare held fuel t cs = some x) : IntCells n (fun _ => kd) cs := by
  obtain ⟨xs, m, rfl, hx, hl, hxl, hall⟩ := DataW.trod_array ht h
  rw [hc] at hl
  refine ⟨hl, ?_⟩
  have each : ∀ j, j < n → ∃ z : Int, cs[j]? = some (.int kd z) ∧ (Lit.int kd z).wf = true := fun j hj => by
    have ht := hall j hj
    rw [h1, Nat.mul_one, List.getElem?_eq_getElem (by omega)] at ht
    obtain ⟨z, e, -, hw⟩ := DataW.trod_int hu ht
    refine ⟨z, ?_, hw⟩
    have : ((cs.drop j).take 1)[0]? = some (.int kd z) := by rw [e]; rfl
    rw [List.getElem?_take_of_lt (by omega), List.getElem?_drop] at this
    exact this
  obtain ⟨g, hg⟩ := choose_lt each
  exact ⟨g, hg⟩
/-- A slice of elements of n integers each: what is told of it. -/
def IRows (n : Nat) (kd : Nat → IntKind) (w : World) (A : Option Addr) (len cap : Nat) (g : Nat → Nat → Int) : Prop :=
  len ≤ cap ∧ cap ≤ maxLen ∧ (A = none → len = 0) ∧ Rd w w.heap.size A (len * n) (fun i => .int (kd (i % n)) (g (i / n) (i % n))) ∧ ∀ r j, r < len → j < n → (Lit.int (kd j) (g r j)).wf = true
theorem open_irows {W : World} {fuel : Nat} {t e : TypeId} {cs : List Value} {x : DataW H × List MemPlace} {n : Nat} {kd : Nat → IntKind} (hn : 0 < n)
    (ht : P.underlying t = some (.slice e)) (hc : P.cellsOf e = n)
    (hel : ∀ (fuel : Nat) (cs : List Value) (y : DataW H × List MemPlace), DataW.trod enc P W 0 (fun _ => true) true fuel e cs = some y → IntCells n kd cs)
    (h : DataW.trod enc P W 0 (fun _ => true) true fuel t cs = some x) : ∃ (A : Option Addr) (len cap : Nat) (g : Nat → Nat → Int), cs = [Value.slice A len cap] ∧ IRows n kd W A len cap g := by
  rcases open_slice ht h with ⟨hcs, hx⟩ | ⟨a', len', cap', m, k, D, Pl, hcs, hb0, hl, hm, hmm, hx, hr⟩
  · exact ⟨none, 0, 0, fun _ _ => 0, hcs, Nat.le_refl _, Nat.zero_le _, fun _ => rfl, .inl (by omega), fun r j hr => by omega⟩
  · simp only [if_true] at hmm
    subst hmm
    have each : ∀ r, r < m → ∃ g : Nat → Int, ∀ j, j < n → W.cell? (a'.add (r * n + j)) = some (.int (kd j) (g j)) ∧ (Lit.int (kd j) (g j)).wf = true := fun r hlt => by
      obtain ⟨cs', h1, h2⟩ := hr r hlt
      rw [hc] at h1
      obtain ⟨-, hlen, hget⟩ := World.cells?_some h1
      obtain ⟨hlen2, g, hg⟩ := hel _ _ _ h2
      refine ⟨g, fun j hj => ⟨?_, (hg j hj).2⟩⟩
      have g0 := hget j (by omega)
      rw [add_add] at g0
      rw [g0]; exact (hg j hj).1
    obtain ⟨g, hg⟩ := choose_lt each
    refine ⟨some a', len', m, g, hcs, hl, hm, (fun h => by cases h), ?_, fun r j h1 h2 => (hg r (by omega) j h2).2⟩
    rcases Nat.eq_zero_or_pos len' with h0 | h0
    · exact .inl (by subst h0; omega)
    · have hcell : ∀ i, i < len' * n → W.cell? (a'.add i) = some (.int (kd (i % n)) (g (i / n) (i % n))) := fun i hi => by
        have h1 : i / n < len' := Nat.div_lt_of_lt_mul (by rw [Nat.mul_comm]; exact hi)
        have h2 := Nat.mod_lt i hn
        have := (hg (i / n) (by omega) (i % n) h2).1
        rw [Nat.mul_comm, Nat.div_add_mod] at this
        exact this
      have hp : 0 < len' * n := Nat.mul_pos h0 hn
      obtain ⟨b, off, spot⟩ := a'
      have hspot : spot = none := by simpa [Addr.add] using World.cell?_spot (hcell 0 hp)
      subst hspot
      have hc : ∀ i, i < len' * n → W.cell? ⟨b, off + i, none⟩ = some (.int (kd (i % n)) (g (i / n) (i % n))) := fun j hj => by rw [← Go.WideShapes.add_plain]; exact hcell j hj
      exact .inr ⟨b, off, rfl, block_lt (hc 0 hp), hc⟩
theorem IRows.go {n : Nat} {kd : Nat → IntKind} {w w' : World} {A : Option Addr} {len cap : Nat} {g : Nat → Nat → Int} (h : IRows n kd w A len cap g) (hb : Below w.heap.size w w') : IRows n kd w' A len cap g :=
  ⟨h.1, h.2.1, h.2.2.1, h.2.2.2.1.go hb, h.2.2.2.2⟩
/-- The cells of one element. -/
theorem IRows.at_ {n : Nat} {kd : Nat → IntKind} {w : World} {A : Option Addr} {len cap : Nat} {g : Nat → Nat → Int} (h : IRows n kd w A len cap g) (hn : 0 < n) {r : Nat} (hr : r < len) :
    ∃ b off, A = some ⟨b, off, none⟩ ∧ b < w.heap.size ∧ ∀ j, j < n → w.cell? ⟨b, off + r * n + j, none⟩ = some (.int (kd j) (g r j)) := by
  have hlt : ∀ j, j < n → r * n + j < len * n := fun j hj => by
    have : (r + 1) * n ≤ len * n := Nat.mul_le_mul_right _ (by omega)
    rw [Nat.add_mul, Nat.one_mul] at this; omega
  rcases h.2.2.2.1 with h0 | ⟨b, off, e, hb, hc⟩
  · exact absurd (hlt 0 hn) (by omega)
  · refine ⟨b, off, e, hb, fun j hj => ?_⟩
    have := hc (r * n + j) (hlt j hj)
    rw [← Nat.add_assoc] at this
    rw [this]
    show some (Value.int (kd ((r * n + j) % n)) (g ((r * n + j) / n) ((r * n + j) % n))) = _
    have e1 : (r * n + j) % n = j := by rw [Nat.mul_comm, Nat.mul_add_mod, Nat.mod_eq_of_lt hj]
    have e2 : (r * n + j) / n = r := by rw [Nat.mul_comm, Nat.mul_add_div hn, Nat.div_eq_of_lt hj]; rfl
    rw [e1, e2]
end Go.Kw
