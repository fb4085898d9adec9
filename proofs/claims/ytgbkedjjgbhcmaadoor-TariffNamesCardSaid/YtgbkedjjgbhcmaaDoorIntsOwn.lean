/-
  Slices of numbers of the call's own: append of one number, and what it leaves as it was. Conditions stand at each theorem.
-/
import Derived.Test.YtgbkedjjgbhcmaaDoorTarM2
import Derived.Test.YtgbkedjjgbhcmaaDoorTarM7
namespace Go.Proofs.YtgbkedjjgbhcmaaDoor
open Go Go.RowKit Go.Kw Go.Shelf
set_option linter.unusedVariables false
set_option linter.unusedSimpArgs false

def iv (l : List Int) : List Value := l.map (fun x => .int .i64 x)
theorem rdI_new (w : World) (cs : Array Value) (t : TypeId) (fr : Nat × Nat) (l : List Int) (h : cs.toList = iv l) : RdI (w.alloc (.cells cs t fr)) (w.heap.size + 1) (some ⟨w.heap.size, 0, none⟩) l := by
  refine .inr ⟨w.heap.size, 0, rfl, by omega, fun i hi => ?_⟩
  rw [Nat.zero_add, World.cell?_alloc_mark, ← Array.getElem?_toList, h]
  unfold iv
  rw [List.getElem?_map, List.getElem?_eq_getElem hi]
  simp [hi]
theorem iv_length (l : List Int) : (iv l).length = l.length := by simp [iv]
theorem iv_append (a b : List Int) : iv (a ++ b) = iv a ++ iv b := by simp [iv]
theorem eI : Elem Tryd.prog 56 2 (.int .i64 0) 1 8 := ⟨Tryd.underlying56, by kernel_rfl, rfl, by decide⟩
theorem own_lenI {w : World} {base : Nat} {e : TypeId} {v : Value} {n : Nat} {l : List Int} (h : w.ownsRow base e 1 v n (iv l)) : ∃ A c, v = .slice A l.length c ∧ n = l.length ∧ (A = none → l.length = 0 ∧ c = 0) := by
  have hn : n = l.length := by have := h.1; rw [iv_length] at this; omega
  rcases h.2 with ⟨rfl, h0⟩ | ⟨g, cap, cur, rfl, _⟩
  · exact ⟨none, 0, by rw [← hn, h0], hn, fun _ => ⟨by omega, rfl⟩⟩
  · exact ⟨_, _, by rw [← hn], hn, fun h => by cases h⟩
theorem rdI_own {w : World} {base : Nat} {e : TypeId} {A : Option Addr} {n k c : Nat} {l : List Int} (h : w.ownsRow base e 1 (.slice A k c) n (iv l)) : RdI w w.heap.size A l := by
  have hn : n = l.length := by have := h.1; rw [iv_length] at this; omega
  subst hn
  rcases h.2 with ⟨h', h0⟩ | ⟨g, cap, cur, h', hb, hg, _⟩
  · exact .inl h0
  · simp only [Value.slice.injEq] at h'
    obtain ⟨rfl, rfl, rfl⟩ := h'
    refine .inr ⟨g, 0, rfl, (Array.getElem?_eq_some_iff.1 hg).1, fun i hi => ?_⟩
    rw [Nat.zero_add, h.cellAt i (by omega)]
    unfold iv
    rw [List.getElem?_map, List.getElem?_eq_getElem hi]; simp [hi]
/-- A row of numbers of the call's own, in the block g. -/
def OwnI (w : World) (base g n c : Nat) (l : List Int) : Prop := w.ownsRow base 2 1 (.slice (some ⟨g, 0, none⟩) n c) n (iv l) ∧ g < w.heap.size ∧ n = l.length
theorem OwnI.kept {w w' : World} {base g n c : Nat} {l : List Int} (h : OwnI w base g n c l) (hb : w'.heap[g]? = w.heap[g]?) (hs : w.heap.size ≤ w'.heap.size) : OwnI w' base g n c l := by
  refine ⟨⟨h.1.1, ?_⟩, by have := h.2.1; omega, h.2.2⟩
  rcases h.1.2 with h0 | ⟨g', cap, cur, hv, hg, hh, r⟩
  · exact .inl h0
  · have e : g' = g := by injection hv with h1; injection h1 with h1; injection h1 with h1 h2; exact h1.symm
    subst e
    exact .inr ⟨g', cap, cur, hv, hg, hb.trans hh, r⟩
theorem OwnI.own {B base g n c : Nat} {l : List Int} : OwnW B (fun W => OwnI W base g n c l) := by
  intro W W' row h hg hr
  have h2 := own_ownW W W' row h.1 hg hr
  exact ⟨h2, by have := h.2.1; have := hg.size; omega, h.2.2⟩
theorem OwnI.rd {w : World} {base g n c : Nat} {l : List Int} (h : OwnI w base g n c l) : RdI w w.heap.size (some ⟨g, 0, none⟩) l := rdI_own h.1
set_option maxRecDepth 100000 in
/-- append of one number: its run; what it turns is the row's block alone, or nothing. -/
theorem append_own (w : World) (base g n c : Nat) {l : List Int} (h : OwnI w base g n c l) (x : Int) (h63 : l.length ≤ 1000000000) (hbase : base ≤ w.heap.size) (hn0 : 0 < n) :
    ∃ g' c' w', (Builtin.append_ #[56, 56] 56 #[.slice (some ⟨g, 0, none⟩) n c, .slice (some ⟨w.heap.size, 0, none⟩) 1 1]).run Tryd.prog (w.alloc (.cells #[.int .i64 x] 2)) = .ok (.slice (some ⟨g', 0, none⟩) (n + 1) c') w' ∧
      OwnI w' base g' (n + 1) c' (l ++ [x]) ∧ (g' = g ∨ w.heap.size + 1 ≤ g') ∧ Kept (fun k => k ≠ g) w w' ∧ KeepsOthers w w' := by
  obtain ⟨hown, hgl, hn⟩ := h
  have ho := hown.alloc (.cells #[.int .i64 x] 2)
  obtain ⟨v', w', hrun, o, gr, i, b⟩ := run_append (P := Tryd.prog) (w.alloc (.cells #[.int .i64 x] 2)) base 56 eI ho 1 1 (f := fun i => .int .i64 ([x].getD i 0)) (rdI_new w #[.int .i64 x] 2 (0, 0) [x] rfl) (fun i _ => rfl) (by unfold maxLen; omega) (by omega) (by simp; omega) (by simp)
  rw [show vals (1 * 1) (fun i => Value.int .i64 ([x].getD i 0)) = iv [x] from rfl, ← iv_append] at o
  obtain ⟨A', c', rfl, hk, hz⟩ := own_lenI o
  have hl : (l ++ [x]).length = n + 1 := by rw [List.length_append, hn]; rfl
  rw [hl] at o hrun b
  obtain ⟨g', rfl⟩ := own_some o (by omega)
  refine ⟨g', c', w', hrun, ⟨o, ?_, hl.symm⟩, ?_, ?_, ?_⟩
  · rcases o.2 with ⟨h', _⟩ | ⟨q, cap, cur, h', hb, hg, _⟩
    · cases h'
    · injection h' with h1; injection h1 with h1; injection h1 with h1 h2
      subst h1
      exact (Array.getElem?_eq_some_iff.1 hg).1
  · rcases b with b | b
    · left
      have : some g' = some g := b
      injection this
    · right
      have : some g' = some (w.alloc (.cells #[.int .i64 x] 2)).heap.size := b
      injection this with this
      rw [this]; simp
  · refine ((Kept.refl _ w).alloc _).grown gr fun k e => ?_
    have : some g = some k := e
    injection this with this
    exact .inr (fun h => h this.symm)
  · refine (KeepsOthers.alloc w _).trans (KeepsOthers.of_grownBy gr fun j o e ho => ?_)
    have : some g = some j := e
    injection this with this
    subst this
    rcases hown.2 with ⟨h', _⟩ | ⟨q, cap, cur, h', hb, hg, _⟩
    · cases h'
    · injection h' with h1; injection h1 with h1; injection h1 with h1 h2
      subst h1
      have : (w.alloc (.cells #[.int .i64 x] 2)).heap[g]? = w.heap[g]? := Below.heap_alloc _ _ _ hgl
      rw [this, hg] at ho
      injection ho with ho
      subst ho; rfl
end Go.Proofs.YtgbkedjjgbhcmaaDoor
