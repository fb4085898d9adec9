/-
  What a call is told of a slice of frames that comes in. Conditions stand at each theorem.
-/
import Derived.Test.YtfbeihfpflhdaaaRtuRead
import Derived.Test.YtfbeihfpflhdaaaRows
import Derived.Deep.Matrix
import Derived.Deep.Strs
import Derived.Deep.Fields
namespace Go.Proofs.Ytfbeihfpflhdaaa
open Go Go.RowKit Go.Kw Go.Kw.Crc Go.ChangeShapes Go.WideShapes Go.Deep
set_option linter.unusedVariables false

/-- A frame: its unit and its bytes. -/
abbrev Fq := Int × List UInt8
def qrd (fs : List Fq) (k : Nat) : Fq := fs.getD k (0, [])
def qcell (fs : List Fq) (ps : Nat → Option Addr × Nat) (i : Nat) : Value :=
  if i % 2 = 0 then .int .i64 (qrd fs (i / 2)).1 else .slice (ps (i / 2)).1 (qrd fs (i / 2)).2.length (ps (i / 2)).2
def RdQ (w : World) (A : Option Addr) (fs : List Fq) : Prop := ∃ ps : Nat → Option Addr × Nat, Rd w w.heap.size A (fs.length * 2) (qcell fs ps) ∧
  ∀ k, k < fs.length → RdB w w.heap.size (ps k).1 (qrd fs k).2 ∧ ((ps k).1 = none → (qrd fs k).2.length = 0) ∧ (qrd fs k).2.length ≤ (ps k).2 ∧ (ps k).2 ≤ 9223372036854775807
theorem RdQ.go {w w' : World} {A : Option Addr} {fs : List Fq} (h : RdQ w A fs) (hb : Below w.heap.size w w') : RdQ w' A fs := by
  obtain ⟨ps, h1, h2⟩ := h; exact ⟨ps, h1.go hb, fun k hk => ⟨(h2 k hk).1.go hb, (h2 k hk).2⟩⟩
theorem RdQ.cells {w : World} {A : Option Addr} {fs : List Fq} (h : RdQ w A fs) {k : Nat} (hk : k < fs.length) :
    ∃ b off B d, A = some ⟨b, off, none⟩ ∧ b < w.heap.size ∧ w.cell? ⟨b, off + k * 2, none⟩ = some (.int .i64 (qrd fs k).1) ∧ w.cell? ⟨b, off + k * 2 + 1, none⟩ = some (.slice B (qrd fs k).2.length d) ∧
      RdB w w.heap.size B (qrd fs k).2 ∧ (B = none → (qrd fs k).2.length = 0) := by
  obtain ⟨ps, h1, h2⟩ := h
  obtain ⟨b, off, e, hlt, hc⟩ := h1.at_ (k := k * 2) (by omega)
  subst e
  obtain ⟨b', off', e', hlt', hc'⟩ := h1.at_ (k := k * 2 + 1) (by omega)
  injection e' with e'; injection e' with e1 e2; subst e1 e2
  obtain ⟨q1, q2, q3⟩ := h2 k hk
  refine ⟨b, off, (ps k).1, (ps k).2, rfl, hlt, ?_, ?_, q1, q2⟩
  · rw [hc]; unfold qcell; rw [if_pos (by omega), show k * 2 / 2 = k by omega]
  · rw [Nat.add_assoc, hc']; unfold qcell; rw [if_neg (by omega), show (k * 2 + 1) / 2 = k by omega]
/-- a slice of frames -/
def QRows (w : World) (v : Value) (fs : List Fq) : Prop :=
  ∃ (A : Option Addr) (c : Nat), v = .slice A fs.length c ∧ fs.length ≤ c ∧ c ≤ maxLen ∧ (A = none → fs.length = 0) ∧ RdQ w A fs

theorem cells_atQ {w : World} {a : Addr} {n : Nat} {f : Nat → Value} (h : ∀ i, i < n → w.cell? (a.add i) = some (f i)) (hp : 0 < n) : ∃ b off, a = ⟨b, off, none⟩ ∧ b < w.heap.size ∧ ∀ i, i < n → w.cell? ⟨b, off + i, none⟩ = some (f i) := by
  obtain ⟨b, off, spot⟩ := a
  have hspot : spot = none := by simpa [Addr.add] using World.cell?_spot (h 0 hp)
  subst hspot
  have hc : ∀ i, i < n → w.cell? ⟨b, off + i, none⟩ = some (f i) := fun j hj => by rw [← Go.WideShapes.add_plain]; exact h j hj
  exact ⟨b, off, rfl, block_lt (hc 0 hp), hc⟩
structure OneQ where
  f : Fq
  A : Option Addr
  C : Nat
instance : Inhabited OneQ := ⟨⟨(0, []), none, 0⟩⟩
theorem ints_rdQ {H : Type} {enc : TypeId × Value → H} {W : World} {fuel : Nat} {x : Value} {y : DataW H × List MemPlace} (h : DataW.trod enc Try.prog W 0 (fun _ => true) true fuel 22 [x] = some y) :
    ∃ (A : Option Addr) (l : List UInt8) (C : Nat), x = .slice A l.length C ∧ RdB W W.heap.size A l ∧ (A = none → l.length = 0) ∧ l.length ≤ C ∧ C ≤ maxLen := by
  rcases open_ints Try.underlying22 Try.underlying5 (by kernel_rfl) h with ⟨hcs, hy⟩ | ⟨a', len', cap', zs, hcs, hb', hl', hm', hz, hy, hcell, hwz⟩
  · exact ⟨none, [], 0, by simpa using hcs, .inl rfl, fun _ => rfl, Nat.le_refl _, Nat.zero_le _⟩
  · have hz' : zs.length = cap' := by simpa using hz
    obtain ⟨l, hl, hr⟩ := IsRow.bytes (w := W) (.inr ⟨a', rfl, hl', hm', hz', hcell, hwz⟩ : IsRow .u8 W (some a') len' cap' zs)
    exact ⟨some a', l, cap', by rw [hl]; simpa using hcs, hr, (fun h => by cases h), by omega, hm'⟩

theorem open_t53 {H : Type} {enc : TypeId × Value → H} {W : World} {base : Nat} {v : Value} {d : DataW H} {p : List MemPlace} (hv : Value.okWide Try.prog W .any base 53 v) (h : DataW.Trod enc Try.prog W 0 (fun _ => true) true 53 v d p) :
    ∃ fs : List Fq, QRows W v fs := by
  obtain ⟨a, len, cap, rfl⟩ := okWide_slice Try.underlying53 hv
  obtain ⟨fuel, hf⟩ := h
  rcases open_slice Try.underlying53 hf with ⟨hcs, hx⟩ | ⟨a', len', cap', m, n, D, Pl, hcs, hb0, hl, hm, hmm, hx, hr⟩
  · simp [Value.cells] at hcs
    obtain ⟨rfl, rfl, rfl⟩ := hcs
    exact ⟨[], ⟨none, 0, rfl, Nat.le_refl _, Nat.zero_le _, fun _ => rfl, fun _ => (none, 0), .inl rfl, fun k h => by simp at h⟩⟩
  · simp [Value.cells] at hcs
    obtain ⟨rfl, rfl, rfl⟩ := hcs
    simp only [if_true] at hmm
    subst hmm
    have hC : Try.prog.cellsOf 24 = 2 := by kernel_rfl
    have hc3 : Try.prog.cellsOf 3 = 1 := by kernel_rfl
    have hc22 : Try.prog.cellsOf 22 = 1 := by kernel_rfl
    have each : ∀ r, r < m → ∃ q : OneQ, W.cell? (a'.add (r * 2)) = some (.int .i64 q.f.1) ∧ W.cell? (a'.add (r * 2 + 1)) = some (.slice q.A q.f.2.length q.C) ∧
        RdB W W.heap.size q.A q.f.2 ∧ (q.A = none → q.f.2.length = 0) ∧ q.f.2.length ≤ q.C ∧ q.C ≤ maxLen := fun r hlt => by
      obtain ⟨cs', h1, h2⟩ := hr r hlt
      rw [hC] at h1
      obtain ⟨-, hlen, hget⟩ := World.cells?_some h1
      obtain ⟨y0, y1, n', e, -, t0, t1⟩ := trod_struct2 Try.underlying24 h2
      match cs', hlen with
      | [x0, x1], _ =>
        simp only [hc3, hc22, List.drop, List.take] at t0 t1
        obtain ⟨a0, e0, d0, -⟩ := DataW.trod_int Try.underlying3 t0
        obtain ⟨A2, l2, C2, e2, r2, z2, b2, c2⟩ := ints_rdQ t1
        have g0 := hget 0 (by omega)
        have g1 := hget 1 (by omega)
        rw [add_add] at g0 g1
        simp at e0
        subst e0 e2
        exact ⟨⟨(a0, l2), A2, C2⟩, g0, g1, r2, z2, b2, c2⟩
    obtain ⟨q, hq⟩ := choose_lt each
    have hget : ∀ r, r < len → qrd ((List.range len).map fun r => (q r).f) r = (q r).f := fun r hlt => by
      unfold qrd
      rw [List.getD_eq_getElem?_getD, List.getElem?_map, List.getElem?_range hlt]; rfl
    have hlen : ((List.range len).map fun r => (q r).f).length = len := by simp
    refine ⟨(List.range len).map fun r => (q r).f, ⟨some a', m, by rw [hlen], by rw [hlen]; exact hl, hm, (fun h => by cases h), fun r => ((q r).A, (q r).C), ?_, fun r hlt => ?_⟩⟩
    · rw [hlen]
      rcases Nat.eq_zero_or_pos len with h0 | h0
      · exact .inl (by omega)
      · have hcell : ∀ i, i < len * 2 → W.cell? (a'.add i) = some (qcell ((List.range len).map fun r => (q r).f) (fun r => ((q r).A, (q r).C)) i) := fun i hi => by
          have hk : i / 2 < len := by omega
          obtain ⟨g0, g1, -⟩ := hq (i / 2) (by omega)
          unfold qcell
          rw [hget (i / 2) hk]
          rcases (by omega : i % 2 = 0 ∨ i % 2 = 1) with h3 | h3
          · rw [if_pos h3, show i = i / 2 * 2 by omega, show i / 2 * 2 / 2 = i / 2 by omega]; exact g0
          · rw [if_neg (by omega), show i = i / 2 * 2 + 1 by omega, show (i / 2 * 2 + 1) / 2 = i / 2 by omega]; exact g1
        obtain ⟨b, off, rfl, hlt, hc⟩ := cells_atQ hcell (by omega)
        exact .inr ⟨b, off, rfl, hlt, hc⟩
    · rw [hlen] at hlt
      obtain ⟨-, -, g3, g4, g5, g6⟩ := hq r (by omega)
      rw [hget r hlt]
      exact ⟨g3, g4, g5, g6⟩
end Go.Proofs.Ytfbeihfpflhdaaa
