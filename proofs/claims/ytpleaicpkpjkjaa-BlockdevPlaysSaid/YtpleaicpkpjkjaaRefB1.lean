/-
  The document's device of sectors (package kilowattref12): how it lies in memory: its box, its map, its cache. Conditions stand at each theorem.
-/
import Derived.Test.YtpleaicpkpjkjaaBlk19
import Derived.Maps.OwnOps
import Derived.Maps.Views
import Derived.Maps.OwnSet
namespace Go.Proofs.Ytpleaicpkpjkjaa
open Go Go.RowKit Go.Kw Go.Maps
set_option linter.unusedVariables false
set_option linter.unusedSimpArgs false

/-- An element of the map as it is. -/
def heldE (v : Value) : Option (DataW Value × List MemPlace) := some (.held v, [])
theorem lawI : Keyed Try.prog 3 := int_keyed Try.underlying3
theorem zeroBs (w : World) : (zeroValue 23).run Try.prog w = .ok (.slice none 0 0) w := by kernel_rfl
/-- The map of the call's own at block mb, of at most nn entries, as a function. -/
def MapV (W : World) (mb nn : Nat) (F : Int → Value) : Prop := ∃ D : DataW Value, W.ownsMap Try.prog 3 heldE mb nn D ∧ ∀ i, D.atKey (.int .i64 i) (.held (.slice none 0 0)) = .held (F i)
section
variable {W W' : World} {mb nn : Nat} {F : Int → Value}
theorem MapV.look (h : MapV W mb nn F) (i : Int) (hi : (Lit.int .i64 i).wf = true) : (Instr.lookup 54 (.map (some mb)) (.int .i64 i) false).run Try.prog W = .ok (F i) W := by
  obtain ⟨D, h1, h2⟩ := h
  obtain ⟨v, ps, hrun, hv⟩ := h1.lookup lawI Try.underlying54 (zeroBs W) (zd := .held (.slice none 0 0)) (zp := []) rfl (keyOf_int_mk Try.underlying3 hi)
  rw [h2 i] at hv
  injection hv with hv
  injection hv with hv _
  injection hv with hv
  rw [← hv]; exact hrun
theorem MapV.put (h : MapV W mb nn F) (hn : nn < maxLen) (i : Int) (hi : (Lit.int .i64 i).wf = true) (v : Value) : ∃ W', (Instr.mapUpdate 54 (.map (some mb)) (.int .i64 i) v).run Try.prog W = .ok () W' ∧ MapV W' mb (nn + 1) (fun j => if j = i then v else F j) ∧ W.grownBy W' (some mb) := by
  obtain ⟨D, h1, h2⟩ := h
  have hm : IsMap D := h1.isMap
  obtain ⟨W', hrun, ho, hg⟩ := h1.update lawI Try.underlying54 hn (keyOf_int_mk Try.underlying3 hi) (val := v) (d := .held v) (ps := []) rfl
  refine ⟨W', hrun, ⟨_, ho, fun j => ?_⟩, hg⟩
  by_cases e : j = i
  · subst e
    dsimp only
    rw [if_pos rfl]
    exact atKey_put_same hm (by trivial) _ _
  · dsimp only
    rw [if_neg e, atKey_put_other (fun e' => e (by injection e')), h2 j]
theorem MapV.kept {S : Nat → Prop} (h : MapV W mb nn F) (hk : Kept S W W') (hS : S mb) : MapV W' mb nn F := by
  obtain ⟨D, ⟨es, clock, hb, r⟩, h2⟩ := h
  exact ⟨D, ⟨es, clock, (hk.block mb (Array.getElem?_eq_some_iff.1 hb).1 hS).trans hb, r⟩, h2⟩
theorem MapV.mono (h : MapV W mb nn F) {m : Nat} (hm : nn ≤ m) : MapV W mb m F := by
  obtain ⟨D, h1, h2⟩ := h
  exact ⟨D, h1.mono hm, h2⟩
theorem MapV.lt (h : MapV W mb nn F) : mb < W.heap.size := by obtain ⟨D, h1, h2⟩ := h; exact h1.lt
theorem MapV.made (W : World) : MapV (W.alloc (.map #[] 0)) W.heap.size 0 (fun _ => .slice none 0 0) := ⟨.map [], World.ownsMap_made W _ _ _, fun i => rfl⟩
end

/-- A write of the document's cache: its sector, its bytes, where they lie. -/
abbrev RX := (Nat × List UInt8) × Option Addr × Nat
def entC (x : RX) : List Value := [.int .i64 (x.1.1 : Int), .slice x.2.1 128 x.2.2]
def entsC (l : List RX) : List Value := l.flatMap entC
theorem entsC_len (l : List RX) : (entsC l).length = l.length * 2 := flat_len entC 2 l (fun _ _ => rfl)
theorem entsC_get (l : List RX) (k : Nat) (hk : k < l.length) (j : Nat) (hj : j < 2) : (entsC l)[k * 2 + j]? = (entC l[k])[j]? := flat_get entC 2 l (fun _ _ => rfl) k hk j hj
theorem entsC_snoc (l : List RX) (x : RX) : entsC l ++ entC x = entsC (l ++ [x]) := by simp [entsC]
/-- The blocks that are neither the box nor the map nor the cache's row. -/
def Fr (r mb : Nat) (V : Value) (b : Nat) : Prop := b ≠ r ∧ b ≠ mb ∧ V.ownBlock ≠ some b
/-- What the map holds of a sector. -/
def SecR (W : World) (S : Nat → Prop) (v : Value) (s : List UInt8) : Prop := ∃ A c l, v = .slice A l.length c ∧ (A = none → l.length = 0) ∧ l.length ≤ 128 ∧ RdY W S A l ∧ s = l ++ List.replicate (128 - l.length) 0
def refC (n mb : Nat) (V : Value) (p : Int) (dn : Bool) (k : Int) : Array Value := #[.int .i64 (n : Int), .map (some mb), V, .int .i64 p, .bool dn, .int .i64 k]
/-- The document's device: box r, map mb, the cache's slice V; X: all the blocks that it reads. -/
structure RefO (W : World) (B r mb nn : Nat) (V : Value) (X : Nat → Prop) (D : Dv) : Prop where
  ok : DvOk D
  box : W.heap[r]? = some (.cells (refC D.S.length mb V D.p D.dn D.k) 57 (0, 0))
  map : ∃ F, MapV W mb nn F ∧ ∀ n : Nat, n < D.S.length → SecR W (fun b => X b ∧ Fr r mb V b) (F n) (D.S.getD n [])
  cac : ∃ xs : List RX, xs.map (·.1) = D.C ∧ W.ownsRow B 59 2 V D.C.length (entsC xs) ∧ ∀ x ∈ xs, x.2.1 ≠ none ∧ RdY W (fun b => X b ∧ Fr r mb V b) x.2.1 x.1.2
  own : X r ∧ X mb ∧ ∀ b, V.ownBlock = some b → X b
  ne : r ≠ mb ∧ V.ownBlock ≠ some r ∧ V.ownBlock ≠ some mb
  le : B ≤ r ∧ B ≤ mb
section
variable {W W' : World} {B r mb nn : Nat} {V : Value} {X Y : Nat → Prop} {D : Dv}
theorem SecR.kept {S : Nat → Prop} {v : Value} {s : List UInt8} (h : SecR W S v s) (hk : Kept S W W') : SecR W' S v s := by
  obtain ⟨A, c, l, h1, h2, h3, h4, h5⟩ := h
  exact ⟨A, c, l, h1, h2, h3, h4.kept hk, h5⟩
theorem SecR.mono {S T : Nat → Prop} {v : Value} {s : List UInt8} (h : SecR W S v s) (hs : ∀ b, b < W.heap.size → S b → T b) : SecR W T v s := by
  obtain ⟨A, c, l, h1, h2, h3, h4, h5⟩ := h
  exact ⟨A, c, l, h1, h2, h3, RdX.mono' h4 hs, h5⟩
theorem RefO.kept {S : Nat → Prop} (h : RefO W B r mb nn V X D) (hk : Kept S W W') (hS : ∀ b, X b → S b) : RefO W' B r mb nn V X D := by
  have hk' : Kept (fun b => X b ∧ Fr r mb V b) W W' := hk.mono (fun b _ hb => hS b hb.1)
  refine ⟨h.ok, heap_kept hk h.box (hS r h.own.1), ?_, ?_, h.own, h.ne, h.le⟩
  · obtain ⟨F, h1, h2⟩ := h.map
    exact ⟨F, h1.kept hk (hS mb h.own.2.1), fun n hn => (h2 n hn).kept hk'⟩
  · obtain ⟨xs, h1, h2, h3⟩ := h.cac
    exact ⟨xs, h1, own_keptV h2 hk (fun g hg => hS g (h.own.2.2 g hg)), fun x hx => ⟨(h3 x hx).1, (h3 x hx).2.kept hk'⟩⟩
theorem RefO.go (h : RefO W B r mb nn V X D) (hb : Below W.heap.size W W') : RefO W' B r mb nn V X D := h.kept (hb.keptS X) (fun b hb => hb)
theorem RefO.moreX (h : RefO W B r mb nn V X D) (hy : ∀ b, X b → Y b) : RefO W B r mb nn V Y D := by
  refine ⟨h.ok, h.box, ?_, ?_, ⟨hy _ h.own.1, hy _ h.own.2.1, fun b hb => hy b (h.own.2.2 b hb)⟩, h.ne, h.le⟩
  · obtain ⟨F, h1, h2⟩ := h.map
    exact ⟨F, h1, fun n hn => (h2 n hn).mono (fun b _ hb => ⟨hy b hb.1, hb.2⟩)⟩
  · obtain ⟨xs, h1, h2, h3⟩ := h.cac
    exact ⟨xs, h1, h2, fun x hx => ⟨(h3 x hx).1, RdX.mono (h3 x hx).2 (fun b hb => ⟨hy b hb.1, hb.2⟩)⟩⟩
theorem RefO.cells (h : RefO W B r mb nn V X D) : W.cell? ⟨r, 0, none⟩ = some (.int .i64 (D.S.length : Int)) ∧ W.cell? ⟨r, 1, none⟩ = some (.map (some mb)) ∧ W.cell? ⟨r, 2, none⟩ = some V ∧ W.cell? ⟨r, 3, none⟩ = some (.int .i64 D.p) ∧ W.cell? ⟨r, 4, none⟩ = some (.bool D.dn) ∧ W.cell? ⟨r, 5, none⟩ = some (.int .i64 D.k) := by
  have hb := h.box
  unfold refC at hb
  exact ⟨blk_cell hb 0 rfl, blk_cell hb 1 rfl, blk_cell hb 2 rfl, blk_cell hb 3 rfl, blk_cell hb 4 rfl, blk_cell hb 5 rfl⟩
theorem RefO.fr (h : RefO W B r mb nn V X D) (i : Nat) : W.frozen? ⟨r, i, none⟩ = false := blk_frozen h.box i
theorem RefO.lt (h : RefO W B r mb nn V X D) : r < W.heap.size := blk_lt h.box
theorem RefO.lts (h : RefO W B r mb nn V X D) : mb < W.heap.size ∧ ∀ b, V.ownBlock = some b → b < W.heap.size ∧ B ≤ b := by
  obtain ⟨F, h1, -⟩ := h.map
  obtain ⟨xs, -, h2, -⟩ := h.cac
  exact ⟨h1.lt, fun b hb => ⟨(h2.lt b hb).2, (h2.lt b hb).1⟩⟩
/-- The slice of the cache. -/
theorem RefO.slice (h : RefO W B r mb nn V X D) : ∃ CA cc, V = .slice CA D.C.length cc ∧ (0 < D.C.length → ∃ g, CA = some ⟨g, 0, none⟩) := by
  obtain ⟨xs, -, h2, -⟩ := h.cac
  rcases h2.2 with ⟨h', h0⟩ | ⟨g, cap, cur, h', _⟩
  · exact ⟨none, 0, by rw [h', h0], fun h => by omega⟩
  · exact ⟨_, _, h', fun _ => ⟨g, rfl⟩⟩
/-- A block that is written in the box alone. -/
theorem RefO.turn (h : RefO W B r mb nn V X D) {D' : Dv} (hok : DvOk D') (hS : D'.S = D.S) (hC : D'.C = D.C) (hk : Kept (fun b => b ≠ r) W W') (hbox : W'.heap[r]? = some (.cells (refC D.S.length mb V D'.p D'.dn D'.k) 57 (0, 0))) : RefO W' B r mb nn V X D' := by
  have hk' : Kept (fun b => X b ∧ Fr r mb V b) W W' := hk.mono (fun b _ hb => hb.2.1)
  refine ⟨hok, by rw [hS]; exact hbox, ?_, ?_, h.own, h.ne, h.le⟩
  · obtain ⟨F, h1, h2⟩ := h.map
    rw [hS]
    exact ⟨F, h1.kept hk (fun e => h.ne.1 e.symm), fun n hn => (h2 n hn).kept hk'⟩
  · obtain ⟨xs, h1, h2, h3⟩ := h.cac
    rw [hC]
    exact ⟨xs, h1, own_keptV h2 hk (fun g hg e => h.ne.2.1 (by rw [← e]; exact hg)), fun x hx => ⟨(h3 x hx).1, (h3 x hx).2.kept hk'⟩⟩
end
/-- Behind a call of the document's: the device D'. -/
def RefP (W : World) (B r mb nn : Nat) (V : Value) (X : Nat → Prop) (D' : Dv) (W' : World) : Prop := ∃ V', RefO W' B r mb (nn + 256) V' (fun b => X b ∨ W.heap.size ≤ b ∧ b < W'.heap.size) D' ∧ Kept (Fr r mb V) W W'
section
variable {W W' : World} {B r mb nn : Nat} {V : Value} {X Y : Nat → Prop} {D D' : Dv}
theorem RefO.mono (h : RefO W B r mb nn V X D) {m : Nat} (hm : nn ≤ m) : RefO W B r mb m V X D := by
  refine ⟨h.ok, h.box, ?_, h.cac, h.own, h.ne, h.le⟩
  obtain ⟨F, h1, h2⟩ := h.map
  exact ⟨F, h1.mono hm, h2⟩
theorem RefP.same (h : RefO W B r mb nn V X D) (hb : Below W.heap.size W W') : RefP W B r mb nn V X D W' := ⟨V, ((h.go hb).moreX (fun b hb => .inl hb)).mono (by omega), hb.keptS _⟩
theorem RefP.box (h : RefO W B r mb nn V X D) (h' : RefO W' B r mb nn V X D') (hk : Kept (fun b => b ≠ r) W W') : RefP W B r mb nn V X D' W' := ⟨V, (h'.moreX (fun b hb => .inl hb)).mono (by omega), hk.mono (fun b _ hb => hb.1)⟩
end
end Go.Proofs.Ytpleaicpkpjkjaa
