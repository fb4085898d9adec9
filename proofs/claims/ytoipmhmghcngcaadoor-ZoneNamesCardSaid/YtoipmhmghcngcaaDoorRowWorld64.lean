/-
  An append of one number to a row of int64 of the call's own, maybe nil (turned by program from XRowWorld). Conditions stand at each theorem.
-/
import Derived.Test.YtoipmhmghcngcaaDoorRowWorld
namespace Go.Proofs.YtoipmhmghcngcaaDoor
open Go Go.RowKit Go.Kw Go.Sort
set_option linter.unusedVariables false
set_option linter.unusedSimpArgs false

theorem eInt64 : Elem Tryd.prog 52 2 (.int .i64 0) 1 8 := ⟨Tryd.underlying52, by kernel_rfl, rfl, by decide⟩
theorem rdInt64_new (w : World) (x : Int) : Rd (w.alloc (.cells #[.int .i64 x] 2)) (w.heap.size + 1) (some ⟨w.heap.size, 0, none⟩) (1 * 1) (fun i => .int .i64 ([x].getD i 0)) := by
  refine .inr ⟨w.heap.size, 0, rfl, by omega, fun i hi => ?_⟩
  obtain rfl : i = 0 := by omega
  rw [Nat.zero_add, World.cell?_alloc_mark]; rfl
set_option maxRecDepth 100000 in
/-- append of one number to a row of the call's own, maybe nil. -/
theorem append_one64 (w : World) (base : Nat) {v : Value} {n : Nat} {l : List Int} (h : w.ownsRow base 2 1 v n (ivI l)) (x : Int) (h63 : n ≤ 1000000000) (hbase : base ≤ w.heap.size) :
    ∃ v' w', (Builtin.append_ #[52, 52] 52 #[v, .slice (some ⟨w.heap.size, 0, none⟩) 1 1]).run Tryd.prog (w.alloc (.cells #[.int .i64 x] 2)) = .ok v' w' ∧
      w'.ownsRow base 2 1 v' (n + 1) (ivI (l ++ [x])) ∧ (w.alloc (.cells #[.int .i64 x] 2)).grownBy w' v.ownBlock := by
  have ho := h.alloc (.cells #[.int .i64 x] 2)
  obtain ⟨v', w', hrun, o, gr, i, b⟩ := run_append (P := Tryd.prog) (w.alloc (.cells #[.int .i64 x] 2)) base 52 eInt64 ho 1 1 (f := fun i => .int .i64 ([x].getD i 0)) (rdInt64_new w x) (fun i _ => rfl) (by unfold maxLen; omega) (by omega) (by simp; omega) (by simp)
  rw [show vals (1 * 1) (fun i => Value.int .i64 ([x].getD i 0)) = ivI [x] from rfl, ← ivI_append] at o
  exact ⟨v', w', hrun, o, gr⟩
/-- The row's block: of numbers, at base or behind it. -/
theorem own_block64 {w : World} {base : Nat} {v : Value} {n : Nat} {xs : List Value} (h : w.ownsRow base 2 1 v n xs) {k : Nat} (hk : v.ownBlock = some k) : base ≤ k ∧ ∃ cur, w.heap[k]? = some (.cells cur 2 (0, 0)) := by
  rcases h.2 with ⟨rfl, _⟩ | ⟨g, cap, cur, rfl, hb, hg, _⟩
  · cases hk
  · injection hk with hk
    have hk : g = k := hk
    subst hk
    exact ⟨hb, cur, hg⟩
/-- The row as the library's contracts want it. -/
theorem own_holds64 {w : World} {base : Nat} {v : Value} {n : Nat} {l : List Int} (h : w.ownsRow base 2 1 v n (ivI l)) (hn : 0 < n) : n = l.length ∧ ∃ g c, v = .slice (some ⟨g, 0, none⟩) n c ∧ base ≤ g ∧ n ≤ c ∧ (∃ cur, w.heap[g]? = some (.cells cur 2 (0, 0))) ∧ Holds (Value.int .i64) w g 0 l.toArray := by
  have hl : n = l.length := by have := h.1; rw [ivI_length] at this; omega
  refine ⟨hl, ?_⟩
  rcases h.2 with ⟨_, h0⟩ | ⟨g, cap, cur, rfl, hb, hg, hnc, hcm, hcs, htk⟩
  · omega
  · refine ⟨g, cap, rfl, hb, hnc, ⟨cur, hg⟩, fun j hj => ⟨?_, blk_frozen hg _⟩⟩
    have hj' : j < l.length := by simpa using hj
    rw [Nat.zero_add, h.cellAt j (by omega)]
    unfold ivI
    rw [List.getElem?_map, List.getElem?_eq_getElem hj']
    simp [hj']
end Go.Proofs.YtoipmhmghcngcaaDoor
