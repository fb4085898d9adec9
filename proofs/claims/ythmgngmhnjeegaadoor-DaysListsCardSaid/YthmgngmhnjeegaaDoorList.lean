/-
  A year's holidays: days.List, walked. Conditions stand at each theorem.
-/
import Derived.Test.YthmgngmhnjeegaaDoorIs
import Derived.Test.YthmgngmhnjeegaaDoorListPlain
import Derived.Test.YthmgngmhnjeegaaDoorRowWorld
import Derived.Test.YthmgngmhnjeegaaDoorShelfDays
namespace Go.Proofs.YthmgngmhnjeegaaDoor
open Go Go.RowKit Go.Kw Go.Kw.Cv Go.Shelf
attribute [local go_sem] Oper.semAt_some
set_option linter.unusedVariables false
set_option linter.unusedSimpArgs false

/-- What is known in the range over the feasts: the box of the list, its row, the year's box. -/
def LiI (b0 B1 ob : Nat) (w : World) (y : Int) (L : List Int) (k : Nat) (W : World) : Prop :=
  ∃ v n, Boxed W ob 52 v ∧ W.ownsRow B1 3 1 v n (ivI ((L.take k).filter (inY y))) ∧ Boxed W (b0 + 1) 3 (.int .i64 y) ∧ (Below b0 w W ∧ b0 ≤ W.heap.size)
theorem HoldF.below {cB yB B B1 : Nat} {A : Option Addr} {la ca : Nat} {gh : Nat → Nat → Int} {C : Value} {y : Int} {W W' : World} (h : HoldF cB yB B A la ca gh C y W) (hb : Below B1 W W') (h1 : cB < B1) (h2 : yB < B1) (h3 : B ≤ B1) (h4 : 0 < B1) : HoldF cB yB B A la ca gh C y W' :=
  ⟨(hb.block cB h1).trans h.1, (hb.block yB h2).trans h.2.1, Rd.below h.2.2.1 ⟨hb.os, hb.tape, hb.output, hb.size, fun k hk => hb.block k (by omega)⟩, Nat.le_trans h.2.2.2.1 hb.size, h.2.2.2.2.below hb h4⟩
theorem take_hit {L : List Int} {k : Nat} {x y : Int} (hx : L[k]? = some x) (hy : inY y x = true) : (L.take (k + 1)).filter (inY y) = (L.take k).filter (inY y) ++ [x] := by
  rw [List.take_add_one, hx, List.filter_append]; simp [hy]
theorem take_miss {L : List Int} {k : Nat} {x y : Int} (hx : L[k]? = some x) (hy : inY y x = false) : (L.take (k + 1)).filter (inY y) = (L.take k).filter (inY y) := by
  rw [List.take_add_one, hx, List.filter_append]; simp [hy]
/-- A round that appends: what holds behind it. -/
theorem li_round (b0 B1 ob cB yB B : Nat) (w : World) (A : Option Addr) (la ca : Nat) (gh : Nat → Nat → Int) (C : Value) (y : Int) (L : List Int) (k : Nat) (t : Nat × Nat) (x : Int) (hx : L[k]? = some x) (hy : inY y x = true)
    (W1 W3 W5 : World) (v v' : Value) (n : Nat) (hob : ob < B1) (hob2 : ob ≠ b0 + 1) (hbo : b0 ≤ ob) (hb1 : b0 + 1 < B1) (hcB : cB < B1) (hyB : yB < B1) (hoc : ob ≠ cB) (hoy : ob ≠ yB) (hBB : B ≤ ob) (hlow : 0 < ob) (hsB : B1 ≤ W1.heap.size)
    (hv : Boxed W1 ob 52 v) (hown : W1.ownsRow B1 3 1 v n (ivI ((L.take k).filter (inY y)))) (hyr : Boxed W1 (b0 + 1) 3 (.int .i64 y)) (hbl : Below b0 w W1) (hH : HoldG cB yB B B1 A la ca gh C y t W1)
    (h13 : Below W1.heap.size W1 W3) (hr : W5.ownsRow B1 3 1 v' (n + 1) (ivI ((L.take k).filter (inY y) ++ [x]))) (gr : (W3.alloc (.cells #[.int .i64 x] 3)).grownBy W5 v.ownBlock) :
    KeepsOthers W1 (W5.setCell ⟨ob, 0, none⟩ v') ∧ HoldG cB yB B B1 A la ca gh C y t (W5.setCell ⟨ob, 0, none⟩ v') ∧ LiI b0 B1 ob w y L (k + 1) (W5.setCell ⟨ob, 0, none⟩ v') := by
  obtain ⟨hF, ht, hrt⟩ := hH
  have hblk : ∀ j, v.ownBlock = some j → B1 ≤ j ∧ ∃ cur, W1.heap[j]? = some (.cells cur 3 (0, 0)) := fun j e => own_block hown e
  have h3b : Below B1 W1 (W3.alloc (.cells #[.int .i64 x] 3)) := (h13.mono hsB).alloc (Nat.le_trans hsB h13.size) _
  have hB5 : Below B1 W1 W5 := h3b.grown gr (Nat.le_trans hsB h3b.size) (fun j e => (hblk j e).1)
  have keep : ∀ j o, W1.heap[j]? = some o → (∀ cur : Array Value, o ≠ Obj.cells cur 3 (0, 0)) → W5.heap[j]? = some o := fun j o hj hne => by
    have hlt := (Array.getElem?_eq_some_iff.1 hj).1
    have e3 : (W3.alloc (.cells #[.int .i64 x] 3)).heap[j]? = some o := ((bstep W3 _).block j (Nat.lt_of_lt_of_le hlt h13.size)).trans ((h13.block j hlt).trans hj)
    refine (gr.block j (Array.getElem?_eq_some_iff.1 e3).1 (fun e => ?_)).trans e3
    obtain ⟨_, cur, hc⟩ := hblk j e.symm
    rw [hj] at hc
    injection hc with hc
    exact hne cur hc
  have hsz5 : W1.heap.size ≤ W5.heap.size := Nat.le_trans (Nat.le_trans h13.size (by simp)) gr.size
  have hv5 : Boxed W5 ob 52 v := (hB5.block ob hob).trans hv
  have hF5 := hF.below hB5 hcB hyB (by omega) (by omega)
  have hrt5 : W5.heap[t.1]? = some (holO gh t.2) := keep _ _ hrt (fun cur e => by unfold holO at e; injection e with e1 e2; exact absurd e2 (by decide))
  refine ⟨⟨?_, fun j o hj ho => ?_⟩, ⟨hF5.set (fun e => hoc e.symm) (fun e => hoy e.symm) hBB hlow _, ht, (heap_setCell_other W5 ⟨ob, 0, none⟩ t.1 _ (by show t.1 ≠ ob; omega)).trans hrt5⟩, v', n + 1, hv5.set _, ?_, ?_, ?_⟩
  · simpa using hsz5
  · have h5 := keep j o hj (fun cur e => by subst e; cases ho)
    refine (heap_setCell_other W5 ⟨ob, 0, none⟩ j _ (fun e => ?_)).trans h5
    have e : j = ob := e
    subst e
    rw [show W1.heap[j]? = _ from hv] at hj
    injection hj with hj
    subst hj; cases ho
  · rw [take_hit hx hy]
    refine ⟨hr.1, ?_⟩
    rcases hr.2 with h0 | ⟨g, cap, cur, hv', hb, hg, r⟩
    · exact .inl h0
    · exact .inr ⟨g, cap, cur, hv', hb, (heap_setCell_other W5 ⟨ob, 0, none⟩ g _ (by show g ≠ ob; omega)).trans hg, r⟩
  · exact (heap_setCell_other W5 ⟨ob, 0, none⟩ (b0 + 1) _ (fun e => hob2 e.symm)).trans ((hB5.block (b0 + 1) hb1).trans hyr)
  · refine ⟨(hbl.trans (hB5.mono (by omega))).setCell (p := ⟨ob, 0, none⟩) hbo _, ?_⟩
    have := hbl.size
    have h2 := (Array.getElem?_eq_some_iff.1 hv5).1
    simpa using (by omega : b0 ≤ W5.heap.size)
theorem fe_len (g : Nat → Nat → Int) (la : Nat) (y : Int) : (feastL g la y).length ≤ 3 * la := by
  unfold feastL
  have := List.length_filterMap_le (feF g y) (List.range (3 * la))
  rwa [List.length_range] at this
/-- A round that leaves the list as it is. -/
theorem li_skip (b0 B1 ob cB yB B : Nat) (w : World) (A : Option Addr) (la ca : Nat) (gh : Nat → Nat → Int) (C : Value) (y : Int) (L : List Int) (k : Nat) (t : Nat × Nat) (x : Int) (hx : L[k]? = some x) (hy : inY y x = false)
    (W1 W3 : World) (v : Value) (n : Nat) (hv : Boxed W1 ob 52 v) (hown : W1.ownsRow B1 3 1 v n (ivI ((L.take k).filter (inY y)))) (hyr : Boxed W1 (b0 + 1) 3 (.int .i64 y)) (hbl : Below b0 w W1 ∧ b0 ≤ W1.heap.size) (hH : HoldG cB yB B B1 A la ca gh C y t W1) (h13 : Below W1.heap.size W1 W3) :
    KeepsOthers W1 W3 ∧ HoldG cB yB B B1 A la ca gh C y t W3 ∧ LiI b0 B1 ob w y L (k + 1) W3 :=
  ⟨keepsB h13, ⟨hH.1.go h13, hH.2.1, (h13.block t.1 (Array.getElem?_eq_some_iff.1 hH.2.2).1).trans hH.2.2⟩, v, n, blk_below hv h13, by rw [take_miss hx hy]; exact own_below hown h13, blk_below hyr h13, hbl.1.trans (h13.mono hbl.2), Nat.le_trans hbl.2 h13.size⟩
theorem compact_le (zs : List Int) : (Lib.compact zs).length ≤ zs.length := by
  unfold Lib.compact Lib.compactUpTo
  rw [List.length_map]
  have := List.length_filter_le (Lib.keeps zs.toArray) (List.range zs.length)
  rwa [List.length_range] at this
/-- Behind the sort, behind compact. -/
theorem sorted_holds {w w' : World} {g : Nat} {l S : List Int} {n : Nat} {os : Array Obj} (hH : Sort.Holds (Value.int .i64) w g 0 l.toArray) (hg : g < w.heap.size) (hl : S.length = l.length) (e : w' = Sort.grow (Sort.putRow (Value.int .i64) (Sort.ahead w n) g 0 S.toArray) os) :
    RowTurn g w w' ∧ Sort.Holds (Value.int .i64) w' g 0 S.toArray := by
  subst e
  refine ⟨⟨n, S.toArray, os, rfl⟩, ?_⟩
  refine Sort.holds_grow _ _ _ _ _ _ (by rw [Sort.size_putRow]; exact hg) ?_
  exact Sort.holds_putRow _ _ _ _ l.toArray S.toArray (Sort.holds_ahead _ _ _ _ _ _ hH) (by simpa using hl)
theorem compact_rd {w w' : World} {g : Nat} {S : List Int} {q : Nat} (hH : Sort.Holds (Value.int .i64) w g 0 S.toArray) (hg : g < w.heap.size) (e : w' = Sort.putRow (Value.int .i64) (Sort.ahead w q) g 0 (Lib.compact S ++ List.replicate (S.length - (Lib.compact S).length) 0).toArray) :
    RowTurn g w w' ∧ Rd w' w'.heap.size (some ⟨g, 0, none⟩) (Lib.compact S).length (fun i => .int .i64 ((Lib.compact S).getD i 0)) := by
  have hle := compact_le S
  obtain ⟨Z, hZ⟩ : ∃ Z, Lib.compact S ++ List.replicate (S.length - (Lib.compact S).length) 0 = Z := ⟨_, rfl⟩
  have hZl : Z.length = S.length := by rw [← hZ, List.length_append, List.length_replicate]; omega
  rw [hZ] at e
  have hT := sorted_holds (os := #[]) hH hg hZl (by first | exact e | (rw [Sort.grow_empty]; exact e))
  refine ⟨hT.1, .inr ⟨g, 0, rfl, Nat.lt_of_lt_of_le hg hT.1.size, fun i hi => ?_⟩⟩
  have h := (hT.2 i (by first | (simp; omega) | (rw [List.size_toArray]; omega))).1
  rw [h]
  have h1 : i < Z.length := by omega
  have h2 : Z[i]? = (Lib.compact S)[i]? := by rw [← hZ, List.getElem?_append_left hi]
  have h3 : Z.toArray[i]! = Z[i] := by simp [h1]
  rw [h3]
  rw [List.getElem?_eq_getElem h1, List.getElem?_eq_getElem hi] at h2
  injection h2 with h2
  rw [h2]
  simp [hi]
/-- What List answers of a calendar and a year that may be. -/
def ListE (gh : Nat → Nat → Int) (la : Nat) (y : Int) (e : Ending) (w' : World) : Prop :=
  ∃ A c, e = .returned (.tuple #[.slice A (listL gh la y).length c, .int .i64 0]) ∧ Rd w' w'.heap.size A (listL gh la y).length (fun i => .int .i64 ((listL gh la y).getD i 0))
set_option maxRecDepth 100000 in
set_option maxHeartbeats 8000000 in
theorem list_ok (A : Option Addr) (la ca : Nat) (gh : Nat → Nat → Int) (B : Option Addr) (lb cb : Nat) (gs : Nat → Nat → Int) (y : Int) (hcal : calOk la gh lb gs) (hy : 1970 ≤ y ∧ y ≤ 9999) (w : World) (hR : RdCal w A la ca gh B lb cb gs) (hL : Lens w) :
    Calls Tryd.prog 27 #[calC A la ca B lb cb, .int .i64 y] w fun e w' => ListE gh la y e w' ∧ Below w.heap.size w w' := by
  have hF := wide_fn
  obtain ⟨b0, hb0⟩ : ∃ b0, w.heap.size = b0 := ⟨_, rfl⟩
  have Hb0 := Lib.hid hb0
  have hst1 := bstep w (.cells #[.slice A la ca, .slice B lb cb] 35)
  have hst2 := bstep (w.alloc (.cells #[.slice A la ca, .slice B lb cb] 35)) (.cells #[.int .i64 y] 3)
  have hst := bnext hst1 hst2
  have hr0 := World.alloc_heap_new w (.cells #[.slice A la ca, .slice B lb cb] 35)
  have hr1 := World.alloc_heap_new (w.alloc (.cells #[.slice A la ca, .slice B lb cb] 35)) (.cells #[.int .i64 y] 3)
  have hs1 : (w.alloc (.cells #[.slice A la ca, .slice B lb cb] 35)).heap.size = b0 + 1 := by simp [hb0]
  have hr0' := blk_below hr0 hst2
  rw [hb0] at hr0'
  rw [hs1] at hr1
  have hs2 : ((w.alloc (.cells #[.slice A la ca, .slice B lb cb] 35)).alloc (.cells #[.int .i64 y] 3)).heap.size = b0 + 2 := by simp [hb0]
  have hM := daysCheck_calls A la ca gh B lb cb gs _ (hR.go hst) (hL.go hst)
  rw [show calE la gh lb gs = 0 from if_pos hcal] at hM
  have hI := in_calls y 1970 9999
  rw [show (decide (1970 ≤ y) && decide (y ≤ 9999)) = true by rw [decide_eq_true hy.1, decide_eq_true hy.2]; rfl] at hI
  replace hI := Lib.hid hI
  unfold calC at hM ⊢
  have Hyy := Lib.hid hy
  have HM := Lib.hid hM
  have HX := Lib.hid (And.intro hst (And.intro hs2 (And.intro hr0' (And.intro hr1 (And.intro (hL.go hst) hL.low)))))
  have HRd := Lib.hid hR.rdH
  have Hcal := Lib.hid hcal
  clear hM hst1 hst2 hst hr0 hr1 hs1 hr0' hs2 hR hL hcal hy
  refine calls_of_marks Tryd.func27 rfl ?_
  simp only [Tryd.ntmps27, List.size_toArray, List.length_cons, List.length_nil, Nat.reduceAdd, Nat.reduceSub, Array.replicate_succ, Array.replicate_zero, List.push_toArray, List.append_toArray, List.nil_append, List.cons_append]
  gi_wp2_with (first | (refine wpIn_scope ?_) | (refine wpIn_label ?_))
  refine (callsIn_wide.2 HM.out).mono ?_
  rintro e w3 ⟨rfl, hb3⟩
  have hr0 := blk_below HX.out.2.2.1 hb3
  have hr1 := blk_below HX.out.2.2.2.1 hb3
  have hL3 := HX.out.2.2.2.2.1.go hb3
  have hbw := bnext HX.out.1 hb3
  have hs3 : b0 + 2 ≤ w3.heap.size := by have := hb3.size; have := HX.out.2.1; omega
  have cy := cell_of_row _ (b0 + 1) 0 _ _ _ hr1
  clear hb3
  obtain ⟨s3, hs3e⟩ : ∃ s3, w3.heap.size = s3 := ⟨_, rfl⟩
  gi_wp2_with (first | (refine wpIn_scope ?_) | (refine wpIn_label ?_))
  refine (callsIn_wide.2 (hI.out _)).mono ?_
  rintro e w4 ⟨rfl, e4⟩
  rw [e4]
  clear e4 w4
  have h4 := bstep w3 (.cells #[.slice none 0 0] 52)
  have rF : Boxed (w3.alloc (.cells #[.slice none 0 0] 52)) _ 52 (.slice none 0 0) := Boxed.new w3 _ _
  rw [hs3e] at rF
  have c0 := cell_of_row _ b0 0 _ _ _ (blk_below hr0 h4)
  have c1 := cell_of_row _ b0 1 _ _ _ (blk_below hr0 h4)
  have r1 : Boxed _ (b0 + 1) 3 (.int .i64 y) := blk_below hr1 h4
  have cy2 := r1.cell
  have hL4 := hL3.go h4
  have hb4 := bnext hbw h4
  clear cy h4 hL3 hbw hr0 hr1
  gi_wp2_with (first | (refine wpIn_scope ?_) | (refine wpIn_label ?_))
  clear c0 c1 cy2
  refine (callsIn_wide.2 (feasts_calls A la ca (.slice B lb cb) y _)).mono ?_
  obtain ⟨W4, hW4⟩ : ∃ W4, w3.alloc (.cells #[.slice none 0 0] 52) = W4 := ⟨_, rfl⟩
  have s4 : W4.heap.size = s3 + 1 := by rw [← hW4]; simp [hs3e]
  rw [hW4] at rF r1 hL4 hb4
  rw [hW4, s4]
  obtain ⟨W6, hW6⟩ : ∃ W6, (W4.alloc (.cells #[.slice A la ca, .slice B lb cb] 35)).alloc (.cells #[.int .i64 y] 3) = W6 := ⟨_, rfl⟩
  have u1 := bstep W4 (.cells #[.slice A la ca, .slice B lb cb] 35)
  have u2 := bstep (W4.alloc (.cells #[.slice A la ca, .slice B lb cb] 35)) (.cells #[.int .i64 y] 3)
  have s5 : (W4.alloc (.cells #[.slice A la ca, .slice B lb cb] 35)).heap.size = s3 + 2 := by simp [s4]
  have rC := World.alloc_heap_new W4 (.cells #[.slice A la ca, .slice B lb cb] 35)
  rw [s4] at rC
  have rC' := blk_below rC u2
  have rY : Boxed ((W4.alloc (.cells #[.slice A la ca, .slice B lb cb] 35)).alloc (.cells #[.int .i64 y] 3)) (s3 + 2) 3 (.int .i64 y) := by
    have h : Boxed ((W4.alloc (.cells #[.slice A la ca, .slice B lb cb] 35)).alloc (.cells #[.int .i64 y] 3)) _ 3 (.int .i64 y) := Boxed.new (W4.alloc (.cells #[.slice A la ca, .slice B lb cb] 35)) _ _
    rw [s5] at h; exact h
  have s6 : W6.heap.size = s3 + 3 := by rw [← hW6]; simp [s4]
  have u := bnext u1 u2
  rw [hW6] at u rC' rY
  have rF6 : Boxed W6 s3 52 (.slice none 0 0) := blk_below rF u
  have r16 : Boxed W6 (b0 + 1) 3 (.int .i64 y) := blk_below r1 u
  have hL6 := hL4.go u
  have hb6 := bnext hb4 u
  have hRd6 : RdH W6 b0 A la gh := by have := HRd.out; rw [Hb0.out] at this; exact Rd.below this (Hb0.out ▸ hb6)
  have hlow := HX.out.2.2.2.2.2
  rw [Hb0.out] at hlow hb6
  rintro e w6 ⟨rfl, e6⟩
  rw [hW6] at e6
  rw [e6]
  clear e6 w6 u1 u2 s5 rC u hW6 hW4 rF r1 hL4 hb4 s4
  gi_wp2_with (first | (refine wpIn_scope ?_) | (refine wpIn_label ?_))
  have Hs3 := Lib.hid hs3
  have Hlow := Lib.hid hlow
  have HS6 := Lib.hid s6
  have Hall := Lib.hid Hcal.out.2.2.1
  refine wpIn_rangeT rfl (by decide) (gf := 53) (lb := #[.pointer (some ⟨s3 + 1, 0, none⟩), .pointer (some ⟨s3 + 2, 0, none⟩)]) rfl trivial (enters_of Tryd.func53 (by kernel_rfl) rfl)
    (feasts_seq (s3 + 1) (s3 + 2) b0 (s3 + 3) A la ca gh (.slice B lb cb) y Hyy.out (by have := Hcal.out.1; omega) Hcal.out.2.2.1) (fun A B h => keepsB h) (fun _ => rfl)
    (HoldF.own.and (fun W W' row h hg hr => Nat.le_trans h hg.size)) (fun _ _ => HoldG.own) (OwnW.const _) (fun _ => OwnW.const _) ⟨⟨rC', rY, hRd6, by omega, hL6⟩, by omega⟩
    (LiI b0 (s3 + 3) s3 w y (feastL gh la y)) (fun _ _ _ => False)
    ?ownI ?ownX ?abI ?abX ⟨_, 0, rF6, ⟨rfl, .inl ⟨rfl, rfl⟩⟩, r16, hb6, by omega⟩ ?round ?done ?stop
  case ownI => exact fun k => OwnW.ex fun v => OwnW.ex fun n => (boxed_ownW _ _ _ _).and (own_ownW.and ((boxed_ownW _ _ _ _).and (below_own (by omega))))
  case ownX => exact fun c k => OwnW.const _
  case abI => exact fun k A B ⟨v, n, h1, h2, h3, h4⟩ hb => ⟨v, n, blk_below h1 hb, own_below h2 hb, blk_below h3 hb, h4.1.trans (hb.mono h4.2), Nat.le_trans h4.2 hb.size⟩
  case abX => exact fun c k A B h hb => h
  case round =>
    rintro lo k t x W hx _ _
    clear rC' rY rF6 r16 hL6 hb6 hRd6 s6 hs3 hlow
    gi_wp2
    refine ⟨trivial, ?_⟩
    rintro W1 ⟨v, n, hv, hown, hyr, hbl⟩ hG hsz
    have hrg := fe_range gh la y Hall.out x (List.mem_of_getElem? hx)
    have hlen : n ≤ 1000000000 := by
      have h1 := hown.1
      rw [ivI_length] at h1
      have h2 := List.length_filter_le (inY y) ((feastL gh la y).take k)
      have h3 := List.length_take_le k (feastL gh la y)
      have h4 := fe_len gh la y
      have h5 := Hcal.out.1
      have h6 : ((feastL gh la y).take k).length ≤ (feastL gh la y).length := by rw [List.length_take]; exact Nat.min_le_right _ _
      omega
    have hLw := hG.1.2.2.2.2
    by_cases hxr : x ≤ 2932896
    · obtain ⟨hok, hday⟩ := dOf_spec x ⟨hrg.1, hxr⟩
      have HO := of_calls _ _ _ hok W1 hLw
      rw [hday] at HO
      have hin : inY y x = decide ((dOf x).1 = y) := by unfold inY; rw [decide_eq_decide]; exact ⟨fun h => h.2.2, fun h => ⟨hrg.1, hxr, h⟩⟩
      obtain ⟨T, hT⟩ : ∃ T, dOf x = T := ⟨_, rfl⟩
      rw [hT] at HO hin
      obtain ⟨yx, mx, dx⟩ := T
      dsimp only at HO hin
      replace HO := Lib.hid HO
      have HG := Lib.hid hG
      have HV := Lib.hid (And.intro hv (And.intro hown (And.intro hyr hbl)))
      have Hx := Lib.hid hx
      have Hsz := Lib.hid hsz
      clear hok hday hT hxr hrg hG hv hown hyr hbl hx hsz hLw
      gi_wp2
      refine (callsIn_wide.2 HO.out).mono ?_
      rintro e w2 ⟨rfl, hb2⟩
      have t3 := bstep w2 (.cells #[.int .i64 yx, .int .i64 mx, .int .i64 dx] 24)
      have rD := World.alloc_heap_new w2 (.cells #[.int .i64 yx, .int .i64 mx, .int .i64 dx] 24)
      have h13 := bnext hb2 t3
      have d0 := cell_of_row _ _ 0 _ _ _ rD
      have cyr := (show Boxed _ (b0 + 1) 3 (.int .i64 y) from blk_below HV.out.2.2.1 h13).cell
      by_cases hyx : yx = y
      · have hi : inY y x = true := by rw [hin]; exact decide_eq_true hyx
        have hv3 : Boxed _ s3 52 v := blk_below HV.out.1 h13
        obtain ⟨v', W5, hrun, hr, gr⟩ := append_one (w2.alloc (.cells #[.int .i64 yx, .int .i64 mx, .int .i64 dx] 24)) (s3 + 3) (own_below HV.out.2.1 h13) x hlen (by have := HS6.out; have := Hsz.out; have := h13.size; omega)
        have hsB : s3 + 3 ≤ W1.heap.size := by have := HS6.out; have := Hsz.out; omega
        obtain ⟨g', c', rfl, -⟩ := (own_holds hr (Nat.succ_pos _)).2
        have hB5 : Below (s3 + 3) W1 W5 := ((h13.mono hsB).alloc (Nat.le_trans hsB h13.size) _).grown gr (Nat.le_trans (Nat.le_trans hsB h13.size) (by simp)) (fun j e => (own_block HV.out.2.1 e).1)
        have hv5 : Boxed W5 s3 52 v := (hB5.block s3 (by omega)).trans HV.out.1
        have HXX := Lib.hid (li_round b0 (s3 + 3) s3 (s3 + 1) (s3 + 2) b0 w A la ca gh (.slice B lb cb) y (feastL gh la y) k t x Hx.out hi W1 _ W5 v _ n (by omega) (by have := Hs3.out; omega) (by have := Hs3.out; omega) (by have := Hs3.out; omega) (by omega) (by omega) (by omega) (by omega) (by have := Hs3.out; omega) (by have := Hlow.out; have := Hs3.out; omega) hsB HV.out.1 HV.out.2.1 HV.out.2.2.1 HV.out.2.2.2.1 HG.out h13 hr gr)
        have cv3 := hv3.cell
        have cv5 := hv5.cell
        have fv5 := hv5.frozen
        have sW : (w2.alloc (.cells #[.int .i64 yx, .int .i64 mx, .int .i64 dx] 24)).heap.size = w2.heap.size + 1 := by simp
        rw [sW] at hrun
        have kb : (yx == y) = true := beq_iff_eq.2 hyx
        have e3 : ((w2.alloc (.cells #[.int .i64 yx, .int .i64 mx, .int .i64 dx] 24)).alloc (.cells #[.int .i64 x] 3)).cell? ⟨s3, 0, none⟩ = some v := (blk_below hv3 (bstep _ (.cells #[.int .i64 x] 3)) |> fun h => (show Boxed _ s3 52 v from h).cell)
        clear hyx hi hv3 hr gr hsB hB5 hv5 sW hlen h13 t3 rD hb2 hin
        gi_wp2_with (gi_at_builtin; refine wpListIn_append_run hrun rfl rfl rfl rfl rfl ?_; clear hrun)
        exact HXX.out
      · have hi : inY y x = false := by rw [hin]; exact decide_eq_false hyx
        have HXX := Lib.hid (li_skip b0 (s3 + 3) s3 (s3 + 1) (s3 + 2) b0 w A la ca gh (.slice B lb cb) y (feastL gh la y) k t x Hx.out hi W1 _ v n HV.out.1 HV.out.2.1 HV.out.2.2.1 HV.out.2.2.2 HG.out h13)
        have kb : (yx == y) = false := beq_eq_false_iff_ne.2 hyx
        clear hyx hi hlen h13 t3 rD hb2 hin
        gi_wp2
        exact HXX.out
    · have HO := of_bad x (fun h => hxr h.2) W1
      have hi : inY y x = false := by unfold inY; exact decide_eq_false (fun h => hxr h.2.1)
      replace HO := Lib.hid HO
      have HG := Lib.hid hG
      have HV := Lib.hid (And.intro hv (And.intro hown (And.intro hyr hbl)))
      have Hx := Lib.hid hx
      clear hxr hrg hG hv hown hyr hbl hx hsz hLw hlen
      gi_wp2
      refine (callsIn_wide.2 HO.out).mono ?_
      rintro e w2 ⟨rfl, hb2⟩
      have h13 := bnext hb2 (bstep w2 (.cells #[.int .i64 0, .int .i64 0, .int .i64 0] 24))
      have HXX := Lib.hid (li_skip b0 (s3 + 3) s3 (s3 + 1) (s3 + 2) b0 w A la ca gh (.slice B lb cb) y (feastL gh la y) k t x Hx.out hi W1 _ v n HV.out.1 HV.out.2.1 HV.out.2.2.1 HV.out.2.2.2 HG.out h13)
      clear hi h13 hb2
      gi_wp2
      exact HXX.out
  case done =>
    rintro D W hD ⟨v, n, hv, hown, hyr, hbl⟩ _ hK
    rw [List.take_length] at hown
    have hraw : (feastL gh la y).filter (inY y) = rawL gh la y := rfl
    rw [hraw] at hown
    have hlen : n = (rawL gh la y).length := by have h1 := hown.1; rw [ivI_length] at h1; omega
    have hlen2 : n ≤ 1000 := by
      have h2 := List.length_filter_le (inY y) (feastL gh la y)
      have h4 := fe_len gh la y
      have h5 := Hcal.out.1
      rw [hraw] at h2
      omega
    have cv := hv.cell
    clear hraw rC' rY rF6 r16 hL6 hb6 hRd6 s6 hs3 hlow
    rcases Nat.eq_zero_or_pos n with h0 | h0
    · subst h0
      have hnil : rawL gh la y = [] := List.length_eq_zero_iff.1 hlen.symm
      have hL0 : listL gh la y = [] := by simp [listL, hnil, Lib.compact, Lib.compactUpTo]
      have HL0 := Lib.hid hL0
      have HBl := Lib.hid hbl
      obtain ⟨p, c, rfl⟩ : ∃ p c, v = .slice p 0 c := by
        rcases hown.2 with ⟨rfl, _⟩ | ⟨g, cap, cur, rfl, _⟩
        · exact ⟨_, _, rfl⟩
        · exact ⟨_, _, rfl⟩
      have HS := Lib.hid (Tryd.slices_Sort_int_none p c W)
      have HC := Lib.hid (Tryd.slices_Compact_int_empty p c W)
      clear hnil hL0 hown hlen hlen2 hbl hyr
      gi_wp2
      refine (callsIn_wide.2 HS.out).mono ?_
      rintro e w7 ⟨rfl, e7⟩
      rw [e7]
      clear e7 w7
      gi_wp2
      refine (callsIn_wide.2 HC.out).mono ?_
      rintro e w8 ⟨rfl, e8⟩
      rw [e8]
      clear e8 w8
      gi_wp2
      refine ⟨by simp, .inl ⟨_, _, rfl, run_takeDeferred hK, ?_⟩⟩
      refine ⟨_, results_tmp2 rfl _ _ _, ⟨_, _, by rw [HL0.out]; rfl, by rw [HL0.out]; exact .inl rfl⟩, ?_⟩
      first | exact HBl.out.1.putObj (by have := Hs3.out; have := HS6.out; omega) HBl.out.2 _ | (rw [Hb0.out]; exact HBl.out.1.putObj (by have := Hs3.out; have := HS6.out; omega) HBl.out.2 _)
    · obtain ⟨-, g, c, rfl, hg, hnc, ⟨cur, hgc⟩, hH⟩ := own_holds hown h0
      have hgl := (Array.getElem?_eq_some_iff.1 hgc).1
      have HS := Tryd.slices_Sort_int g 0 c (rawL gh la y) W hH hgl (by omega)
      obtain ⟨S, hS⟩ : ∃ S, (rawL gh la y).mergeSort (fun x y => decide (x ≤ y)) = S := ⟨_, rfl⟩
      have hSl : S.length = (rawL gh la y).length := by rw [← hS]; exact List.length_mergeSort _
      have hLc : listL gh la y = Lib.compact S := by unfold listL; rw [hS]
      rw [hS, ← hlen] at HS
      replace HS := Lib.hid HS
      have HLc := Lib.hid hLc
      have HBl := Lib.hid hbl
      have HH := Lib.hid (And.intro hH (And.intro hgl (And.intro hSl (And.intro hg hgc))))
      have Hlen := Lib.hid (And.intro hlen (And.intro hlen2 (And.intro hnc h0)))
      have HV := Lib.hid (And.intro hv hK)
      clear hS hSl hLc hown hlen hlen2 hbl hyr hH hgl hgc hg hnc h0 hK
      gi_wp2
      refine (callsIn_wide.2 HS.out).mono ?_
      rintro e w7 ⟨rfl, n7, os, e7⟩
      obtain ⟨hT7, hH7⟩ := sorted_holds HH.out.1 HH.out.2.1 HH.out.2.2.1 e7
      have hgl7 : g < w7.heap.size := Nat.lt_of_lt_of_le HH.out.2.1 hT7.size
      have hv7 : Boxed w7 s3 52 _ := (hT7.other (Array.getElem?_eq_some_iff.1 HV.out.1).1 (by have := HH.out.2.2.2.1; omega)).trans HV.out.1
      have hDl : D < W.heap.size := (Array.getElem?_eq_some_iff.1 HV.out.2).1
      have hDg : D ≠ g := fun e => by have h1 := HV.out.2; rw [e, HH.out.2.2.2.2] at h1; cases h1
      have hK7 := (hT7.other hDl hDg).trans HV.out.2
      have HC := Tryd.slices_Compact_int g 0 c S w7 hH7 (by have := HH.out.2.2.1; have := Hlen.out; omega) (by have := HH.out.2.2.1; have := Hlen.out; omega)
      rw [HH.out.2.2.1, ← Hlen.out.1] at HC
      rw [← HLc.out] at HC
      replace HC := Lib.hid HC
      have cv7 := hv7.cell
      have H7 := Lib.hid (And.intro hT7 (And.intro hH7 (And.intro hgl7 hK7)))
      clear e7 hT7 hH7 hgl7 hv7 hDl hDg hK7
      gi_wp2
      refine (callsIn_wide.2 HC.out).mono ?_
      rintro e w8 ⟨rfl, q8, e8⟩
      rw [show n = S.length by rw [Hlen.out.1, HH.out.2.2.1]] at e8
      rw [HLc.out] at e8
      obtain ⟨hT8, hR8⟩ := compact_rd H7.out.2.1 H7.out.2.2.1 e8
      have hDl : D < w7.heap.size := (Array.getElem?_eq_some_iff.1 H7.out.2.2.2).1
      have hDg : D ≠ g := fun e => by have h1 := HV.out.2; rw [e, HH.out.2.2.2.2] at h1; cases h1
      have hK8 := (hT8.other hDl hDg).trans H7.out.2.2.2
      have hB8 : Below b0 w w8 := (HBl.out.1.trans (H7.out.1.below (by have := HH.out.2.2.2.1; have := Hs3.out; omega) HBl.out.2)).trans (hT8.below (by have := HH.out.2.2.2.1; have := Hs3.out; omega) (Nat.le_trans HBl.out.2 H7.out.1.size))
      have hs8 : b0 ≤ w8.heap.size := Nat.le_trans HBl.out.2 (Nat.le_trans H7.out.1.size hT8.size)
      have H8 := Lib.hid (And.intro hR8 (And.intro hK8 (And.intro hB8 hs8)))
      clear e8 hT8 hR8 hDl hDg hK8 hB8 hs8
      gi_wp2
      refine ⟨by simp, .inl ⟨_, _, rfl, run_takeDeferred H8.out.2.1, ?_⟩⟩
      refine ⟨_, results_tmp2 rfl _ _ _, ⟨_, _, rfl, ?_⟩, ?_⟩
      · rw [HLc.out]
        have h := (Rd.own 0 w8.heap.size (some ⟨g, 0, none⟩) (Lib.compact S).length (fun i => .int .i64 ((Lib.compact S).getD i 0)))
        refine Rd.more (h _ _ (some D) H8.out.1 (grownBy_putObj' w8 D _) (fun r e => ?_)) (by simp)
        injection e with e
        subst e
        exact ⟨Nat.zero_le _, _, H8.out.2.1, rfl⟩
      · first | exact H8.out.2.2.1.putObj (by have := Hs3.out; have := HS6.out; omega) H8.out.2.2.2 _ | (rw [Hb0.out]; exact H8.out.2.2.1.putObj (by have := Hs3.out; have := HS6.out; omega) H8.out.2.2.2 _)
  case stop =>
    rintro D c k W _ _ h _ _
    exact h.elim
end Go.Proofs.YthmgngmhnjeegaaDoor
