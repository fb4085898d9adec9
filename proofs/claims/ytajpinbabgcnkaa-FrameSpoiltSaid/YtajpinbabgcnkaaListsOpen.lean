/-
  What a call is told of a slice of rows of bytes that comes in (statements of the second form: the sum of its bytes is bounded).
-/
import Derived.Test.YtajpinbabgcnkaaLists
import Derived.Test.YtajpinbabgcnkaaRows
import Derived.Deep.Matrix
namespace Go.Proofs.Ytajpinbabgcnkaa
open Go Go.RowKit Go.Kw Go.ChangeShapes Go.WideShapes Go.Deep
set_option linter.unusedVariables false

/-- a slice of rows of bytes -/
def LRows (w : World) (v : Value) (ls : List (List UInt8)) : Prop :=
  ∃ (A : Option Addr) (c : Nat), v = .slice A ls.length c ∧ ls.length ≤ c ∧ c ≤ maxLen ∧ (A = none → ls.length = 0) ∧ RdL w (fun b => b < w.heap.size) A ls

theorem bulk_row {H : Type} {A : Option Addr} {L : Nat} {zs : List Int} (hL : L ≤ zs.length) (hz : A = none → L = 0) : L + 1 ≤ Rows.uptoBulk (intRow (H := H) .u8 A L zs) := by
  cases A with
  | none => rw [hz rfl]; simp [intRow, Rows.uptoBulk]
  | some a =>
    have h : ∀ l : List Int, l.length ≤ Rows.uptoBulkAll (lits (H := H) .u8 l) := fun l => by
      induction l with
      | nil => simp
      | cons x r ih => simp only [lits, List.map_cons, Rows.uptoBulkAll, Rows.uptoBulk, List.length_cons] at ih ⊢; omega
    have := h (zs.take L)
    simp only [List.length_take, intRow, Rows.uptoBulk] at this ⊢
    omega
theorem bulkAll_append {H : Type} (l r : List (DataW H)) : Rows.uptoBulkAll (l ++ r) = Rows.uptoBulkAll l + Rows.uptoBulkAll r := by
  induction l with
  | nil => simp [Rows.uptoBulkAll]
  | cons x l ih => simp only [List.cons_append, Rows.uptoBulkAll, ih]; omega
theorem bulk_rows {H : Type} (f : Nat → DataW H) (g : Nat → Nat) : ∀ (n : Nat), (∀ r, r < n → g r + 1 ≤ Rows.uptoBulk (f r)) → ((List.range n).map g).sum + n ≤ Rows.uptoBulkAll ((List.range n).map f)
  | 0, _ => by simp [Rows.uptoBulkAll]
  | n + 1, h => by
    have ih := bulk_rows f g n (fun r hr => h r (by omega))
    have h1 := h n (by omega)
    rw [List.range_succ, List.map_append, List.map_append, bulkAll_append, List.sum_append]
    simp only [List.map_cons, List.map_nil, List.sum_cons, List.sum_nil, Rows.uptoBulkAll]
    omega
/-- Cells that stand from a on, at a plain address. -/
theorem cells_at {w : World} {a : Addr} {n : Nat} {f : Nat → Value} (h : ∀ i, i < n → w.cell? (a.add i) = some (f i)) (hp : 0 < n) : ∃ b off, a = ⟨b, off, none⟩ ∧ b < w.heap.size ∧ ∀ i, i < n → w.cell? ⟨b, off + i, none⟩ = some (f i) := by
  obtain ⟨b, off, spot⟩ := a
  have hspot : spot = none := by simpa [Addr.add] using World.cell?_spot (h 0 hp)
  subst hspot
  have hc : ∀ i, i < n → w.cell? ⟨b, off + i, none⟩ = some (f i) := fun j hj => by rw [← Go.WideShapes.add_plain]; exact h j hj
  exact ⟨b, off, rfl, block_lt (hc 0 hp), hc⟩

theorem open_t22 {H : Type} {enc : TypeId × Value → H} {W : World} {base : Nat} {v : Value} {d : DataW H} {p : List MemPlace} (hv : Value.okWide Try.prog W .any base 22 v) (h : DataW.Trod enc Try.prog W 0 (fun _ => true) true 22 v d p) (hb : Rows.uptoBulk d ≤ 1048576) :
    ∃ ls : List (List UInt8), LRows W v ls ∧ (ls.map List.length).sum + ls.length ≤ 1048576 := by
  obtain ⟨a, len, cap, rfl⟩ := okWide_slice Try.underlying22 hv
  obtain ⟨fuel, hf⟩ := h
  rcases open_int_rows Try.underlying22 Try.underlying23 Try.underlying5 (by kernel_rfl) (by kernel_rfl) hf with ⟨hcs, hx⟩ | ⟨a', len', cap', A, L, C, Z, hcs, hbz, hl, hm, hx, hr⟩
  · simp [Value.cells] at hcs
    obtain ⟨rfl, rfl, rfl⟩ := hcs
    exact ⟨[], ⟨none, 0, rfl, Nat.le_refl _, Nat.zero_le _, fun _ => rfl, RdL.nil _ _ _⟩, by simp⟩
  · simp [Value.cells] at hcs
    obtain ⟨rfl, rfl, rfl⟩ := hcs
    have hd : d = _ := congrArg Prod.fst hx
    have hrow : ∀ r, r < cap → ∃ l : List UInt8, l.length = L r ∧ RdB W W.heap.size (A r) l := fun r hlt => by
      obtain ⟨e1, e2, e3, e4, e5, e6, e7⟩ := hr r hlt
      have : IsRow .u8 W (A r) (L r) (C r) (Z r) := by
        cases hA : A r with
        | none =>
          have hC := e6 hA
          exact .inl ⟨rfl, by omega, hC, List.eq_nil_of_length_eq_zero (by omega)⟩
        | some x => exact .inr ⟨x, rfl, e2, e3, e4, fun i hi => (e7 x hA).2 i (by omega), e5⟩
      exact this.bytes
    obtain ⟨f, hf2⟩ := choose_lt hrow
    have hget : ∀ r, r < len → (((List.range len).map f).getD r []) = f r := fun r hlt => by
      rw [List.getD_eq_getElem?_getD, List.getElem?_map, List.getElem?_range hlt]; rfl
    have hlen : ((List.range len).map f).length = len := by simp
    have hget2 : ∀ r, r < len → lrd ((List.range len).map f) r = f r := hget
    refine ⟨(List.range len).map f, ⟨some a', cap, by rw [hlen], by rw [hlen]; exact hl, hm, (fun h => by cases h), fun r => (A r, C r), ?_, fun r hlt => ?_⟩, ?_⟩
    · rw [hlen, Nat.mul_one]
      rcases Nat.eq_zero_or_pos len with h0 | h0
      · exact .inl h0
      · obtain ⟨b, off, rfl, hlt, hc⟩ := cells_at (f := fun r => .slice (A r) (L r) (C r)) (n := len) (fun i hi => (hr i (by omega)).1) h0
        refine .inr ⟨b, off, rfl, hlt, hlt, fun i hi => ?_⟩
        rw [hc i hi]
        show _ = some (Value.slice (A i) (lrd ((List.range len).map f) i).length (C i))
        rw [hget2 i hi, (hf2 i (by omega)).1]
    · rw [hlen] at hlt
      obtain ⟨e1, e2, e3, e4, e5, e6, e7⟩ := hr r (by omega)
      obtain ⟨g1, g2⟩ := hf2 r (by omega)
      rw [hget2 r hlt, g1]
      exact ⟨RdX.of g2 (fun _ h => h), fun hA => by have := e6 hA; omega, e2, e3⟩
    · rw [hd] at hb
      have h1 : ∀ r, r < len → L r + 1 ≤ Rows.uptoBulk (intRow (H := H) .u8 (A r) (L r) (Z r)) := fun r hlt => by
        obtain ⟨e1, e2, e3, e4, e5, e6, e7⟩ := hr r (by omega)
        exact bulk_row (by omega) (fun hA => by have := e6 hA; omega)
      have h2 := bulk_rows (fun r => intRow (H := H) .u8 (A r) (L r) (Z r)) L len h1
      simp only [Rows.uptoBulk] at hb
      have h3 : ((List.range len).map f).map List.length = (List.range len).map L := by
        rw [List.map_map]
        exact List.map_congr_left fun r hr => (hf2 r (by have := List.mem_range.1 hr; omega)).1
      rw [h3, hlen]
      omega
end Go.Proofs.Ytajpinbabgcnkaa
