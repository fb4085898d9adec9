/-
  Words on memory that all walks of this work use: 'Rd' (a slice reads as so many cells), bytes, and how these abide.
-/
import Derived.Test.YtjmkbpgakfeceaaRange
import Derived.WalkKit
import Derived.Laws.OwnMore
import Derived.OpenShut
namespace Go.Kw
open Go Go.RowKit

/-- The cells from A on, in a block below B, read as f, n of them. -/
def Rd (w : World) (B : Nat) (A : Option Addr) (n : Nat) (f : Nat → Value) : Prop :=
  n = 0 ∨ ∃ b off, A = some ⟨b, off, none⟩ ∧ b < B ∧ ∀ i, i < n → w.cell? ⟨b, off + i, none⟩ = some (f i)

section
variable {w w' : World} {B : Nat} {A : Option Addr} {n : Nat} {f : Nat → Value}
theorem Rd.below (h : Rd w B A n f) (hb : Below B w w') : Rd w' B A n f := by
  rcases h with h | ⟨b, off, e, hlt, hc⟩
  · exact .inl h
  · exact .inr ⟨b, off, e, hlt, fun i hi => (hb.cell (p := ⟨b, off + i, none⟩) hlt).trans (hc i hi)⟩
theorem Rd.more {B' : Nat} (h : Rd w B A n f) (hb : B ≤ B') : Rd w B' A n f := by
  rcases h with h | ⟨b, off, e, hlt, hc⟩
  · exact .inl h
  · exact .inr ⟨b, off, e, by omega, hc⟩
theorem Rd.setCell (h : Rd w B A n f) {p : Addr} (hp : B ≤ p.block) (u : Value) : Rd (w.setCell p u) B A n f := h.below ((Below.refl B w).setCell hp u)
theorem Rd.alloc (h : Rd w B A n f) (hB : B ≤ w.heap.size) (o : Obj) : Rd (w.alloc o) B A n f := h.below ((Below.refl B w).alloc hB o)
theorem Rd.at_ (h : Rd w B A n f) {k : Nat} (hk : k < n) :
    ∃ b off, A = some ⟨b, off, none⟩ ∧ b < B ∧ w.cell? ⟨b, off + k, none⟩ = some (f k) := by
  rcases h with h | ⟨b, off, e, hlt, hc⟩
  · omega
  · exact ⟨b, off, e, hlt, hc k hk⟩
/-- What is read abides whatever turns no block of cells. -/
theorem Rd.own (B₀ : Nat) (B : Nat) (A : Option Addr) (n : Nat) (f : Nat → Value) : OwnW B₀ (fun W => Rd W B A n f) := by
  intro W W' row h hg hr
  rcases h with h | ⟨b, off, e, hlt, hc⟩
  · exact .inl h
  · exact .inr ⟨b, off, e, hlt, fun i hi => cell_kept (hc i hi) hg (fun r e => (hr r e).2)⟩
end

theorem cell_own (B : Nat) (a : Addr) (v : Value) : OwnW B (fun W => W.cell? a = some v) :=
  fun _ _ _ h hg hr => cell_kept h hg (fun r e => (hr r e).2)
theorem boxed_ownW (B : Nat) (b : Nat) (t : TypeId) (v : Value) : OwnW B (fun W => Boxed W b t v) := by
  intro W W' row h hg hr
  refine h.kept hg (fun e => ?_)
  obtain ⟨_, o, ho, hc⟩ := hr b e.symm
  rw [show W.heap[b]? = _ from h] at ho; cases ho; cases hc
theorem below_own {n₀ : Nat} {w : World} {B : Nat} (hB : n₀ ≤ B) : OwnW B (fun W => Below n₀ w W ∧ n₀ ≤ W.heap.size) := by
  intro W W' row h hg hr
  exact ⟨h.1.grown hg h.2 (fun k e => Nat.le_trans hB (hr k e).1), Nat.le_trans h.2 hg.size⟩

theorem _root_.Go.RowKit.Below.putObj {B : Nat} {a w : World} (h : Below B a w) {l : Nat} (hl : B ≤ l) (hB : B ≤ w.heap.size) (o : Obj) : Below B a (w.putObj l o) :=
  h.grown (grownBy_putObj' w l o) hB (fun k e => by cases e; exact hl)
theorem bnext {w a b : World} (h : Below w.heap.size w a) (k : Below a.heap.size a b) : Below w.heap.size w b := h.trans (k.mono h.size)
theorem balloc {w a : World} (h : Below w.heap.size w a) (o : Obj) : Below w.heap.size w (a.alloc o) := h.alloc h.size o
theorem Rd.go {w w' : World} {A : Option Addr} {n : Nat} {f : Nat → Value} (h : Rd w w.heap.size A n f) (hb : Below w.heap.size w w') : Rd w' w'.heap.size A n f := (h.below hb).more hb.size
/-- The byte at a place, as a number. -/
def bAt (l : List UInt8) (i : Nat) : Int := ((l.getD i 0).toNat : Int)
theorem bAt_lo (l : List UInt8) (i : Nat) : 0 ≤ bAt l i := by unfold bAt; omega
theorem bAt_hi (l : List UInt8) (i : Nat) : bAt l i ≤ 255 := by unfold bAt; have := (l.getD i 0).toNat_lt; omega
/-- The slice reads as these bytes. -/
def RdB (w : World) (B : Nat) (A : Option Addr) (l : List UInt8) : Prop := Rd w B A l.length (fun i => .int .u8 (bAt l i))
/-- What is told of a slice of integers that came in: nil; or a row of 'cap' numbers. -/
def IsRow (k : IntKind) (w : World) (a : Option Addr) (len cap : Nat) (zs : List Int) : Prop :=
  (a = none ∧ len = 0 ∧ cap = 0 ∧ zs = []) ∨
  ∃ x, a = some x ∧ len ≤ cap ∧ cap ≤ maxLen ∧ zs.length = cap ∧ (∀ i, i < zs.length → w.cell? (x.add i) = some (.int k (zs.getD i 0))) ∧ ∀ n ∈ zs, (Lit.int k n).wf = true
theorem IsRow.caps {k : IntKind} {w : World} {a : Option Addr} {len cap : Nat} {zs : List Int} (h : IsRow k w a len cap zs) : len ≤ cap ∧ cap ≤ maxLen ∧ (a = none → len = 0 ∧ cap = 0) := by
  rcases h with ⟨rfl, rfl, rfl, rfl⟩ | ⟨x, rfl, h1, h2, _⟩
  · exact ⟨Nat.le_refl _, Nat.zero_le _, fun _ => ⟨rfl, rfl⟩⟩
  · exact ⟨h1, h2, by simp⟩
theorem block_lt {w : World} {a : Addr} {v : Value} (h : w.cell? a = some v) : a.block < w.heap.size := World.block_lt_of_cell? w a h
/-- A slice of integers that came in, as a reading. -/
theorem IsRow.rd {k : IntKind} {w : World} {a : Option Addr} {len cap : Nat} {zs : List Int} (h : IsRow k w a len cap zs) : Rd w w.heap.size a len (fun i => .int k (zs.getD i 0)) := by
  rcases h with ⟨rfl, rfl, rfl, rfl⟩ | ⟨x, rfl, h1, h2, h3, h4, h5⟩
  · exact .inl rfl
  · rcases Nat.eq_zero_or_pos len with h0 | h0
    · exact .inl h0
    · obtain ⟨b, off, rfl, hc⟩ := Go.ints_at h4 (by omega)
      exact .inr ⟨b, off, rfl, block_lt (hc 0 (by omega)), fun i hi => hc i (by omega)⟩
/-- A slice of bytes that came in. -/
theorem IsRow.bytes {w : World} {a : Option Addr} {len cap : Nat} {zs : List Int} (h : IsRow .u8 w a len cap zs) : ∃ l : List UInt8, l.length = len ∧ RdB w w.heap.size a l := by
  have hr := h.rd
  refine ⟨(zs.take len).map (fun z => UInt8.ofNat z.toNat), ?_, ?_⟩
  · rcases h with ⟨rfl, rfl, rfl, rfl⟩ | ⟨x, rfl, h1, h2, h3, _⟩
    · rfl
    · simp; omega
  · have hlen : ((zs.take len).map (fun z => UInt8.ofNat z.toNat)).length = len := by
      rcases h with ⟨rfl, rfl, rfl, rfl⟩ | ⟨x, rfl, h1, h2, h3, _⟩
      · rfl
      · simp; omega
    unfold RdB
    rw [hlen]
    rcases hr with hr | ⟨b, off, e, hb, hc⟩
    · exact .inl hr
    · refine .inr ⟨b, off, e, hb, fun i hi => ?_⟩
      rw [hc i hi]
      have hz : i < zs.length := by
        rcases h with ⟨rfl, rfl, rfl, rfl⟩ | ⟨x, rfl, h1, h2, h3, _⟩ <;> omega
      have hw : (Lit.int .u8 (zs.getD i 0)).wf = true := by
        rcases h with ⟨rfl, rfl, rfl, rfl⟩ | ⟨x, rfl, h1, h2, h3, h4, h5⟩
        · simp at hz
        · refine h5 _ ?_
          rw [List.getD_eq_getElem?_getD, List.getElem?_eq_getElem hz]
          exact List.getElem_mem hz
      obtain ⟨b0, b1⟩ := Go.bounds_u8 hw
      have hv : bAt ((zs.take len).map (fun z => UInt8.ofNat z.toNat)) i = zs.getD i 0 := by
        unfold bAt
        have hi' : i < (zs.take len).length := by rw [List.length_map] at hlen; omega
        rw [List.getD_eq_getElem?_getD, List.getElem?_map, List.getElem?_eq_getElem hi', Option.map_some, Option.getD_some, List.getElem_take]
        rw [List.getD_eq_getElem?_getD, List.getElem?_eq_getElem hz, Option.getD_some] at b0 b1 ⊢
        have : (UInt8.ofNat zs[i].toNat).toNat = zs[i].toNat % 256 := by simp [UInt8.toNat_ofNat']
        rw [this]
        omega
      show some (Value.int .u8 _) = some (Value.int .u8 _)
      rw [hv]
section
variable {w w' : World} {B : Nat} {A : Option Addr} {l : List UInt8}
theorem RdB.below (h : RdB w B A l) (hb : Below B w w') : RdB w' B A l := Rd.below h hb
theorem RdB.more {B' : Nat} (h : RdB w B A l) (hb : B ≤ B') : RdB w B' A l := Rd.more h hb
theorem RdB.setCell (h : RdB w B A l) {p : Addr} (hp : B ≤ p.block) (u : Value) : RdB (w.setCell p u) B A l := Rd.setCell h hp u
theorem RdB.alloc (h : RdB w B A l) (hB : B ≤ w.heap.size) (o : Obj) : RdB (w.alloc o) B A l := Rd.alloc h hB o
theorem RdB.go {w w' : World} {A : Option Addr} {l : List UInt8} (h : RdB w w.heap.size A l) (hb : Below w.heap.size w w') : RdB w' w'.heap.size A l := (h.below hb).more hb.size
theorem RdB.own (B₀ B : Nat) (A : Option Addr) (l : List UInt8) : OwnW B₀ (fun W => RdB W B A l) := Rd.own B₀ B A _ _
end
end Go.Kw
