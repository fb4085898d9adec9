/-
  The range of zone.Instants: what a round leaves. Conditions stand at each theorem.
-/
import Derived.Test.YtoipmhmghcngcaaDoorExtras
import Derived.Test.YtoipmhmghcngcaaDoorInst
import Derived.Test.YtoipmhmghcngcaaDoorRowWorld64
namespace Go.Proofs.YtoipmhmghcngcaaDoor
open Go Go.RowKit Go.Kw Go.Kw.Cv Go.Shelf
set_option linter.unusedVariables false
set_option linter.unusedSimpArgs false

theorem HoldE.set {zB B fb : Nat} {o : Int} {A : Option Addr} {lr cr : Nat} {g : Nat → Nat → Int} {W : World} (h : HoldE zB B o A lr cr g W) (h1 : zB ≠ fb) (h3 : B ≤ fb) (h4 : 0 < fb) (v : Value) : HoldE zB B o A lr cr g (W.setCell ⟨fb, 0, none⟩ v) :=
  ⟨(heap_setCell_other W ⟨fb, 0, none⟩ zB v h1).trans h.1, Rd.setCell h.2.1 (p := ⟨fb, 0, none⟩) h3 v, by simpa using h.2.2.1, h.2.2.2.below ((Below.refl fb W).setCell (p := ⟨fb, 0, none⟩) (Nat.le_refl _) v) h4⟩
theorem HoldE.below {zB B B1 : Nat} {o : Int} {A : Option Addr} {lr cr : Nat} {g : Nat → Nat → Int} {W W' : World} (h : HoldE zB B o A lr cr g W) (hb : Below B1 W W') (h1 : zB < B1) (h3 : B ≤ B1) (h4 : 0 < B1) : HoldE zB B o A lr cr g W' :=
  ⟨(hb.block zB h1).trans h.1, Rd.below h.2.1 ⟨hb.os, hb.tape, hb.output, hb.size, fun k hk => hb.block k (by omega)⟩, Nat.le_trans h.2.2.1 hb.size, h.2.2.2.below hb h4⟩
/-- What is known in the range: the box of the list, its row, the instant's box, the zone's. -/
def InI (b0 B1 xb ob : Nat) (w : World) (o : Int) (A : Option Addr) (lr cr : Nat) (g : Nat → Nat → Int) (x : Int) (k : Nat) (W : World) : Prop :=
  ∃ v n, Boxed W ob 52 v ∧ W.ownsRow B1 2 1 v n (ivI (outRaw o lr g x ((exL g lr).take k))) ∧ Boxed W xb 2 (.int .i64 x) ∧ W.heap[b0]? = some (.cells #[.int .i64 o, .slice A lr cr] 24 (0, 0)) ∧ (Below b0 w W ∧ b0 ≤ W.heap.size)
theorem out_hit {o : Int} {lr : Nat} {g : Nat → Nat → Int} {x e : Int} {L : List Int} {k : Nat} (hx : L[k]? = some e) (hy : outB o lr g x e = true) : outRaw o lr g x (L.take (k + 1)) = outRaw o lr g x (L.take k) ++ [x - (o + e)] := by
  unfold outRaw
  rw [List.take_add_one, hx, List.filter_append, List.map_append]; simp [hy]
theorem out_miss {o : Int} {lr : Nat} {g : Nat → Nat → Int} {x e : Int} {L : List Int} {k : Nat} (hx : L[k]? = some e) (hy : outB o lr g x e = false) : outRaw o lr g x (L.take (k + 1)) = outRaw o lr g x (L.take k) := by
  unfold outRaw
  rw [List.take_add_one, hx, List.filter_append]; simp [hy]
theorem in_round (b0 B1 xb ob zB : Nat) (w : World) (o : Int) (A : Option Addr) (lr cr : Nat) (g : Nat → Nat → Int) (x : Int) (k : Nat) (t : Nat × Array Value) (e : Int) (hx : (exL g lr)[k]? = some e) (hy : outB o lr g x e = true)
    (W1 W3 W5 : World) (v v' : Value) (n : Nat) (hob : ob < B1) (hxb : xb < B1) (hzB : zB < B1) (hb1 : b0 < B1) (ho1 : ob ≠ xb) (ho2 : ob ≠ zB) (ho3 : ob ≠ b0) (hbo : b0 ≤ ob) (hlow : 0 < ob) (hsB : B1 ≤ W1.heap.size)
    (hv : Boxed W1 ob 52 v) (hown : W1.ownsRow B1 2 1 v n (ivI (outRaw o lr g x ((exL g lr).take k)))) (hxr : Boxed W1 xb 2 (.int .i64 x)) (hzr : W1.heap[b0]? = some (.cells #[.int .i64 o, .slice A lr cr] 24 (0, 0))) (hbl : Below b0 w W1) (hH : HoldN zB b0 B1 o A lr cr g t W1)
    (h13 : Below W1.heap.size W1 W3) (hr : W5.ownsRow B1 2 1 v' (n + 1) (ivI (outRaw o lr g x ((exL g lr).take k) ++ [x - (o + e)]))) (gr : (W3.alloc (.cells #[.int .i64 (x - (o + e))] 2)).grownBy W5 v.ownBlock) :
    KeepsOthers W1 (W5.setCell ⟨ob, 0, none⟩ v') ∧ HoldN zB b0 B1 o A lr cr g t (W5.setCell ⟨ob, 0, none⟩ v') ∧ InI b0 B1 xb ob w o A lr cr g x (k + 1) (W5.setCell ⟨ob, 0, none⟩ v') := by
  obtain ⟨hF, ⟨ht, htc⟩, hrt⟩ := hH
  have hblk : ∀ j, v.ownBlock = some j → B1 ≤ j ∧ ∃ cur, W1.heap[j]? = some (.cells cur 2 (0, 0)) := fun j e => own_block64 hown e
  have h3b : Below B1 W1 (W3.alloc (.cells #[.int .i64 (x - (o + e))] 2)) := (h13.mono hsB).alloc (Nat.le_trans hsB h13.size) _
  have hB5 : Below B1 W1 W5 := h3b.grown gr (Nat.le_trans hsB h3b.size) (fun j e => (hblk j e).1)
  have keep : ∀ j o', W1.heap[j]? = some o' → (∀ cur : Array Value, o' ≠ Obj.cells cur 2 (0, 0)) → W5.heap[j]? = some o' := fun j o' hj hne => by
    have hlt := (Array.getElem?_eq_some_iff.1 hj).1
    have e3 : (W3.alloc (.cells #[.int .i64 (x - (o + e))] 2)).heap[j]? = some o' := ((bstep W3 _).block j (Nat.lt_of_lt_of_le hlt h13.size)).trans ((h13.block j hlt).trans hj)
    refine (gr.block j (Array.getElem?_eq_some_iff.1 e3).1 (fun e => ?_)).trans e3
    obtain ⟨_, cur, hc⟩ := hblk j e.symm
    rw [hj] at hc
    injection hc with hc
    exact hne cur hc
  have hsz5 : W1.heap.size ≤ W5.heap.size := Nat.le_trans (Nat.le_trans h13.size (by simp)) gr.size
  have hv5 : Boxed W5 ob 52 v := (hB5.block ob hob).trans hv
  have hF5 := hF.below hB5 hzB (by omega) (by omega)
  have hrt5 : W5.heap[t.1]? = some (.cells t.2 3 (0, 0)) := keep _ _ hrt (fun cur e => by injection e with e1 e2; exact absurd e2 (by decide))
  refine ⟨⟨?_, fun j o' hj ho => ?_⟩, ⟨hF5.set (fun e => ho2 e.symm) hbo hlow _, ⟨ht, htc⟩, (heap_setCell_other W5 ⟨ob, 0, none⟩ t.1 _ (by show t.1 ≠ ob; omega)).trans hrt5⟩, v', n + 1, hv5.set _, ?_, ?_, ?_, ?_⟩
  · simpa using hsz5
  · have h5 := keep j o' hj (fun cur e => by subst e; cases ho)
    refine (heap_setCell_other W5 ⟨ob, 0, none⟩ j _ (fun e => ?_)).trans h5
    have e : j = ob := e
    subst e
    rw [show W1.heap[j]? = _ from hv] at hj
    injection hj with hj
    subst hj; cases ho
  · rw [out_hit hx hy]
    refine ⟨hr.1, ?_⟩
    rcases hr.2 with h0 | ⟨gb, cap, cur, hv', hb, hg, r⟩
    · exact .inl h0
    · exact .inr ⟨gb, cap, cur, hv', hb, (heap_setCell_other W5 ⟨ob, 0, none⟩ gb _ (by show gb ≠ ob; omega)).trans hg, r⟩
  · exact (heap_setCell_other W5 ⟨ob, 0, none⟩ xb _ (fun e => ho1 e.symm)).trans ((hB5.block xb hxb).trans hxr)
  · exact (heap_setCell_other W5 ⟨ob, 0, none⟩ b0 _ (fun e => ho3 e.symm)).trans ((hB5.block b0 hb1).trans hzr)
  · refine ⟨(hbl.trans (hB5.mono (by omega))).setCell (p := ⟨ob, 0, none⟩) hbo _, ?_⟩
    have := hbl.size
    have h2 := (Array.getElem?_eq_some_iff.1 hv5).1
    simpa using (by omega : b0 ≤ W5.heap.size)
theorem in_skip (b0 B1 xb ob zB : Nat) (w : World) (o : Int) (A : Option Addr) (lr cr : Nat) (g : Nat → Nat → Int) (x : Int) (k : Nat) (t : Nat × Array Value) (e : Int) (hx : (exL g lr)[k]? = some e) (hy : outB o lr g x e = false)
    (W1 W3 : World) (h : InI b0 B1 xb ob w o A lr cr g x k W1) (hH : HoldN zB b0 B1 o A lr cr g t W1) (h13 : Below W1.heap.size W1 W3) :
    KeepsOthers W1 W3 ∧ HoldN zB b0 B1 o A lr cr g t W3 ∧ InI b0 B1 xb ob w o A lr cr g x (k + 1) W3 := by
  obtain ⟨v, n, hv, hown, hxr, hzr, hbl⟩ := h
  exact ⟨keepsB h13, ⟨hH.1.go h13, hH.2.1, (h13.block t.1 (Array.getElem?_eq_some_iff.1 hH.2.2).1).trans hH.2.2⟩, v, n, blk_below hv h13, by rw [out_miss hx hy]; exact own_below hown h13, blk_below hxr h13, blk_below hzr h13, hbl.1.trans (h13.mono hbl.2), Nat.le_trans hbl.2 h13.size⟩
/-- What Instants answers of a zone and a moment that may be. -/
def InstE (L : List Int) (e : Ending) (w' : World) : Prop := ∃ A c, e = .returned (.tuple #[.slice A L.length c, .int .i64 0]) ∧ RdN w' w'.heap.size A L
end Go.Proofs.YtoipmhmghcngcaaDoor
