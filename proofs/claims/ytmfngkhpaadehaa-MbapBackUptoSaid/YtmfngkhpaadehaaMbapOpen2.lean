/-
  What a call is told of a slice of frames that comes in (statements of the second form: the sum of what is read is bounded).
-/
import Derived.Test.YtmfngkhpaadehaaMbapOpen
import Derived.Test.YtmfngkhpaadehaaMbapRefs
import Derived.Deep.Strs
import Derived.Deep.Fields
namespace Go.Proofs.Ytmfngkhpaadehaa
open Go Go.RowKit Go.Kw Go.Kw.Mb Go.ChangeShapes Go.WideShapes Go.Deep
set_option linter.unusedVariables false

/-- a slice of frames -/
def FRows (w : World) (v : Value) (fs : List Fr) : Prop :=
  ∃ (A : Option Addr) (c : Nat), v = .slice A fs.length c ∧ fs.length ≤ c ∧ c ≤ maxLen ∧ (A = none → fs.length = 0) ∧ RdF w (fun b => b < w.heap.size) A fs

structure OneF where
  f : Fr
  A : Option Addr
  C : Nat
instance : Inhabited OneF := ⟨⟨(0, 0, []), none, 0⟩⟩

theorem ints_rd {H : Type} {enc : TypeId × Value → H} {W : World} {fuel : Nat} {x : Value} {y : DataW H × List MemPlace} (h : DataW.trod enc Try.prog W 0 (fun _ => true) true fuel 22 [x] = some y) :
    ∃ (A : Option Addr) (l : List UInt8) (C : Nat), x = .slice A l.length C ∧ RdB W W.heap.size A l ∧ (A = none → l.length = 0) ∧ l.length ≤ C ∧ C ≤ maxLen ∧ l.length + 1 ≤ Rows.uptoBulk y.1 := by
  rcases open_ints Try.underlying22 Try.underlying5 (by kernel_rfl) h with ⟨hcs, hy⟩ | ⟨a', len', cap', zs, hcs, hb', hl', hm', hz, hy, hcell, hwz⟩
  · refine ⟨none, [], 0, by simpa using hcs, .inl rfl, fun _ => rfl, Nat.le_refl _, Nat.zero_le _, ?_⟩
    rw [hy]; simp [Rows.uptoBulk]
  · have hz' : zs.length = cap' := by simpa using hz
    obtain ⟨l, hl, hr⟩ := IsRow.bytes (w := W) (.inr ⟨a', rfl, hl', hm', hz', hcell, hwz⟩ : IsRow .u8 W (some a') len' cap' zs)
    refine ⟨some a', l, cap', by rw [hl]; simpa using hcs, hr, (fun h => by cases h), by omega, hm', ?_⟩
    rw [hy, hl]
    exact bulk_row (A := some a') (by omega) (fun h => by cases h)

theorem sum_add7 (l : List Nat) (g : Nat → Nat) : (l.map fun r => 7 + g r).sum = 7 * l.length + (l.map g).sum := by
  induction l with
  | nil => rfl
  | cons x l ih => simp only [List.map_cons, List.sum_cons, List.length_cons, ih]; omega
theorem open_t26 {H : Type} {enc : TypeId × Value → H} {W : World} {base : Nat} {v : Value} {d : DataW H} {p : List MemPlace} (hv : Value.okWide Try.prog W .any base 26 v) (h : DataW.Trod enc Try.prog W 0 (fun _ => true) true 26 v d p) (hb : Rows.uptoBulk d ≤ 1048576) :
    ∃ fs : List Fr, FRows W v fs ∧ great fs fs.length ≤ 10000000 ∧ fs.length ≤ 1048576 := by
  obtain ⟨a, len, cap, rfl⟩ := okWide_slice Try.underlying26 hv
  obtain ⟨fuel, hf⟩ := h
  rcases open_slice Try.underlying26 hf with ⟨hcs, hx⟩ | ⟨a', len', cap', m, n, D, Pl, hcs, hb0, hl, hm, hmm, hx, hr⟩
  · simp [Value.cells] at hcs
    obtain ⟨rfl, rfl, rfl⟩ := hcs
    exact ⟨[], ⟨none, 0, rfl, Nat.le_refl _, Nat.zero_le _, fun _ => rfl, RdF.nil _ _ _⟩, by simp [great], by simp⟩
  · simp [Value.cells] at hcs
    obtain ⟨rfl, rfl, rfl⟩ := hcs
    simp only [if_true] at hmm
    subst hmm
    have hd : d = _ := congrArg Prod.fst hx
    have hC : Try.prog.cellsOf 24 = 3 := by kernel_rfl
    have hc3 : Try.prog.cellsOf 3 = 1 := by kernel_rfl
    have hc22 : Try.prog.cellsOf 22 = 1 := by kernel_rfl
    have each : ∀ r, r < m → ∃ q : OneF, W.cell? (a'.add (r * 3)) = some (.int .i64 q.f.1) ∧ W.cell? (a'.add (r * 3 + 1)) = some (.int .i64 q.f.2.1) ∧ W.cell? (a'.add (r * 3 + 2)) = some (.slice q.A q.f.2.2.length q.C) ∧
        RdB W W.heap.size q.A q.f.2.2 ∧ (q.A = none → q.f.2.2.length = 0) ∧ q.f.2.2.length ≤ q.C ∧ q.C ≤ maxLen ∧ q.f.2.2.length + 1 ≤ Rows.uptoBulk (D r) := fun r hlt => by
      obtain ⟨cs', h1, h2⟩ := hr r hlt
      rw [hC] at h1
      obtain ⟨-, hlen, hget⟩ := World.cells?_some h1
      obtain ⟨y0, y1, y2, n', e, -, t0, t1, t2⟩ := trod_struct3 Try.underlying24 h2
      match cs', hlen with
      | [x0, x1, x2], _ =>
        simp only [hc3, hc22, List.drop, List.take] at t0 t1 t2
        obtain ⟨a0, e0, d0, -⟩ := DataW.trod_int Try.underlying3 t0
        obtain ⟨a1, e1, d1, -⟩ := DataW.trod_int Try.underlying3 t1
        obtain ⟨A2, l2, C2, e2, r2, z2, b2, c2, k2⟩ := ints_rd t2
        have g0 := hget 0 (by omega)
        have g1 := hget 1 (by omega)
        have g2 := hget 2 (by omega)
        rw [add_add] at g0 g1 g2
        simp at e0 e1
        subst e0 e1 e2
        refine ⟨⟨(a0, a1, l2), A2, C2⟩, g0, g1, g2, r2, z2, b2, c2, ?_⟩
        have eD : D r = _ := congrArg Prod.fst e
        rw [eD]
        simp only [Rows.uptoBulk, Rows.uptoBulkAll]
        show l2.length + 1 ≤ _
        omega
    obtain ⟨q, hq⟩ := choose_lt each
    have hget : ∀ r, r < len → frd ((List.range len).map fun r => (q r).f) r = (q r).f := fun r hlt => by
      unfold frd
      rw [List.getD_eq_getElem?_getD, List.getElem?_map, List.getElem?_range hlt]; rfl
    have hlen : ((List.range len).map fun r => (q r).f).length = len := by simp
    refine ⟨(List.range len).map fun r => (q r).f, ⟨some a', m, by rw [hlen], by rw [hlen]; exact hl, hm, (fun h => by cases h), fun r => ((q r).A, (q r).C), ?_, fun r hlt => ?_⟩, ?_, ?_⟩
    · rw [hlen]
      rcases Nat.eq_zero_or_pos len with h0 | h0
      · exact .inl (by omega)
      · have hcell : ∀ i, i < len * 3 → W.cell? (a'.add i) = some (fcell ((List.range len).map fun r => (q r).f) (fun r => ((q r).A, (q r).C)) i) := fun i hi => by
          have hk : i / 3 < len := by omega
          obtain ⟨g0, g1, g2, -⟩ := hq (i / 3) (by omega)
          unfold fcell
          rw [hget (i / 3) hk]
          rcases (by omega : i % 3 = 0 ∨ i % 3 = 1 ∨ i % 3 = 2) with h3 | h3 | h3
          · rw [if_pos h3, show i = i / 3 * 3 by omega, show i / 3 * 3 / 3 = i / 3 by omega]; exact g0
          · rw [if_neg (by omega), if_pos h3, show i = i / 3 * 3 + 1 by omega, show (i / 3 * 3 + 1) / 3 = i / 3 by omega]; exact g1
          · rw [if_neg (by omega), if_neg (by omega), show i = i / 3 * 3 + 2 by omega, show (i / 3 * 3 + 2) / 3 = i / 3 by omega]; exact g2
        obtain ⟨b, off, rfl, hlt, hc⟩ := cells_at hcell (by omega)
        exact .inr ⟨b, off, rfl, hlt, hlt, hc⟩
    · rw [hlen] at hlt
      obtain ⟨-, -, -, g3, g4, g5, g6, -⟩ := hq r (by omega)
      rw [hget r hlt]
      exact ⟨RdX.of g3 (fun _ h => h), g4, g5, g6⟩
    · rw [hlen]
      rw [hd] at hb
      have h1 := bulk_rows D (fun r => (q r).f.2.2.length) len (fun r hlt => (hq r (by omega)).2.2.2.2.2.2.2)
      simp only [Rows.uptoBulk] at hb
      have h2 : great ((List.range len).map fun r => (q r).f) len = 7 * len + ((List.range len).map fun r => (q r).f.2.2.length).sum := by
        unfold great
        rw [List.take_of_length_le (by simp), List.map_map]
        have := sum_add7 (List.range len) (fun r => (q r).f.2.2.length)
        rw [List.length_range] at this
        exact this
      omega
    · rw [hlen]
      have h1 := bulk_rows D (fun r => (q r).f.2.2.length) len (fun r hlt => (hq r (by omega)).2.2.2.2.2.2.2)
      rw [hd] at hb
      simp only [Rows.uptoBulk] at hb
      omega
end Go.Proofs.Ytmfngkhpaadehaa
