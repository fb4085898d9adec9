/-
  The world behind the library's sort and compact, and behind an append of one number to a row of the call's own, maybe nil. Conditions stand at each theorem.
-/
import Derived.Test.YtoipmhmghcngcaaDoorKept
import Derived.Test.YtoipmhmghcngcaaDoorSlices
import Derived.Test.YtoipmhmghcngcaaDoorChecked
import Derived.Sort.Grow
import Derived.Lib.SlicesCompact
namespace Go.Proofs.YtoipmhmghcngcaaDoor
open Go Go.RowKit Go.Kw Go.Sort
set_option linter.unusedVariables false
set_option linter.unusedSimpArgs false

/-- w' is w but for the cells of the block g, draws and new blocks. -/
def RowTurn (g : Nat) (w w' : World) : Prop := ∃ (n : Nat) (d : Array Int) (os : Array Obj), w' = grow (putRow (Value.int .i64) (Sort.ahead w n) g 0 d) os
theorem RowTurn.size {g : Nat} {w w' : World} (h : RowTurn g w w') : w.heap.size ≤ w'.heap.size := by
  obtain ⟨n, d, os, rfl⟩ := h
  rw [size_grow, size_putRow]
  exact Nat.le_add_right _ _
theorem RowTurn.other {g : Nat} {w w' : World} (h : RowTurn g w w') {k : Nat} (hk : k < w.heap.size) (hne : k ≠ g) : w'.heap[k]? = w.heap[k]? := by
  obtain ⟨n, d, os, rfl⟩ := h
  rw [heap_grow_old _ _ (by rw [size_putRow]; exact hk)]
  show ((Sort.ahead w n).heap.modify g _)[k]? = w.heap[k]?
  rw [Array.getElem?_modify, if_neg (fun e => hne e.symm)]
  rfl
theorem RowTurn.grown {g : Nat} {w w' : World} (h : RowTurn g w w') : w.grownBy w' (some g) := by
  have hsz := h.size
  have ho := fun k hk hne => h.other (k := k) hk hne
  obtain ⟨n, d, os, rfl⟩ := h
  exact ⟨rfl, rfl, rfl, hsz, fun k hk hne => ho k hk (fun e => hne (by rw [e]))⟩
theorem RowTurn.below {g B : Nat} {w w' : World} (h : RowTurn g w w') (hB : B ≤ g) (hs : B ≤ w.heap.size) : Below B w w' :=
  (Below.refl B w).grown h.grown hs (fun k e => by injection e with e; omega)
theorem RowTurn.keeps {g : Nat} {w w' : World} (h : RowTurn g w w') {c : Array Value} {e : TypeId} {fr : Nat × Nat} (hg : w.heap[g]? = some (.cells c e fr)) : KeepsOthers w w' := by
  refine ⟨h.size, fun k o hk ho => ?_⟩
  have hlt := (Array.getElem?_eq_some_iff.1 hk).1
  by_cases e : k = g
  · subst e
    rw [hg] at hk
    injection hk with hk
    subst hk
    cases ho
  · exact (h.other hlt e).trans hk
def ivI (l : List Int) : List Value := l.map (fun x => .int .i64 x)
theorem ivI_length (l : List Int) : (ivI l).length = l.length := by simp [ivI]
theorem ivI_append (a b : List Int) : ivI (a ++ b) = ivI a ++ ivI b := by simp [ivI]
theorem eInt : Elem Tryd.prog 89 3 (.int .i64 0) 1 8 := ⟨Tryd.underlying89, by kernel_rfl, rfl, by decide⟩
theorem rdInt_new (w : World) (x : Int) : Rd (w.alloc (.cells #[.int .i64 x] 3)) (w.heap.size + 1) (some ⟨w.heap.size, 0, none⟩) (1 * 1) (fun i => .int .i64 ([x].getD i 0)) := by
  refine .inr ⟨w.heap.size, 0, rfl, by omega, fun i hi => ?_⟩
  obtain rfl : i = 0 := by omega
  rw [Nat.zero_add, World.cell?_alloc_mark]; rfl
set_option maxRecDepth 100000 in
/-- append of one number to a row of the call's own, maybe nil. -/
theorem append_one (w : World) (base : Nat) {v : Value} {n : Nat} {l : List Int} (h : w.ownsRow base 3 1 v n (ivI l)) (x : Int) (h63 : n ≤ 1000000000) (hbase : base ≤ w.heap.size) :
    ∃ v' w', (Builtin.append_ #[89, 89] 89 #[v, .slice (some ⟨w.heap.size, 0, none⟩) 1 1]).run Tryd.prog (w.alloc (.cells #[.int .i64 x] 3)) = .ok v' w' ∧
      w'.ownsRow base 3 1 v' (n + 1) (ivI (l ++ [x])) ∧ (w.alloc (.cells #[.int .i64 x] 3)).grownBy w' v.ownBlock := by
  have ho := h.alloc (.cells #[.int .i64 x] 3)
  obtain ⟨v', w', hrun, o, gr, i, b⟩ := run_append (P := Tryd.prog) (w.alloc (.cells #[.int .i64 x] 3)) base 89 eInt ho 1 1 (f := fun i => .int .i64 ([x].getD i 0)) (rdInt_new w x) (fun i _ => rfl) (by unfold maxLen; omega) (by omega) (by simp; omega) (by simp)
  rw [show vals (1 * 1) (fun i => Value.int .i64 ([x].getD i 0)) = ivI [x] from rfl, ← ivI_append] at o
  exact ⟨v', w', hrun, o, gr⟩
/-- The row's block: of numbers, at base or behind it. -/
theorem own_block {w : World} {base : Nat} {v : Value} {n : Nat} {xs : List Value} (h : w.ownsRow base 3 1 v n xs) {k : Nat} (hk : v.ownBlock = some k) : base ≤ k ∧ ∃ cur, w.heap[k]? = some (.cells cur 3 (0, 0)) := by
  rcases h.2 with ⟨rfl, _⟩ | ⟨g, cap, cur, rfl, hb, hg, _⟩
  · cases hk
  · injection hk with hk
    have hk : g = k := hk
    subst hk
    exact ⟨hb, cur, hg⟩
/-- The row as the library's contracts want it. -/
theorem own_holds {w : World} {base : Nat} {v : Value} {n : Nat} {l : List Int} (h : w.ownsRow base 3 1 v n (ivI l)) (hn : 0 < n) : n = l.length ∧ ∃ g c, v = .slice (some ⟨g, 0, none⟩) n c ∧ base ≤ g ∧ n ≤ c ∧ (∃ cur, w.heap[g]? = some (.cells cur 3 (0, 0))) ∧ Holds (Value.int .i64) w g 0 l.toArray := by
  have hl : n = l.length := by have := h.1; rw [ivI_length] at this; omega
  refine ⟨hl, ?_⟩
  rcases h.2 with ⟨_, h0⟩ | ⟨g, cap, cur, rfl, hb, hg, hnc, hcm, hcs, htk⟩
  · omega
  · refine ⟨g, cap, rfl, hb, hnc, ⟨cur, hg⟩, fun j hj => ⟨?_, blk_frozen hg _⟩⟩
    have hj' : j < l.length := by simpa using hj
    rw [Nat.zero_add, h.cellAt j (by omega)]
    unfold ivI
    rw [List.getElem?_map, List.getElem?_eq_getElem hj']
    simp [hj']
end Go.Proofs.YtoipmhmghcngcaaDoor
