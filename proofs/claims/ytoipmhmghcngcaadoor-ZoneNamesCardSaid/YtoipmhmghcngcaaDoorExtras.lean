/-
  The iterator of what a zone's summers add: zone.extras, walked. Conditions stand at each theorem.
-/
import Derived.Test.YtoipmhmghcngcaaDoorZoneSame
import Derived.Test.YtoipmhmghcngcaaDoorRangeT
import Derived.Test.YtoipmhmghcngcaaDoorRowWorld
import Derived.Test.YtoipmhmghcngcaaDoorShelfZone
import Derived.Shelf.Abstract
import Derived.OwnWalkIn
import Derived.TacticsInMore
import Derived.LoopNIn
import Derived.LoopIn
import Derived.Outline
namespace Go.Proofs.YtoipmhmghcngcaaDoor
open Go Go.RowKit Go.Kw Go.Kw.Cv Go.Shelf
attribute [local go_sem] Oper.semAt_some
set_option linter.unusedVariables false
set_option linter.unusedSimpArgs false

theorem keepsB {W W' : World} (h : Below W.heap.size W W') : KeepsOthers W W' := ⟨h.size, fun k o hk _ => (h.block k (Array.getElem?_eq_some_iff.1 hk).1).trans hk⟩
theorem compact_le (zs : List Int) : (Lib.compact zs).length ≤ zs.length := by
  unfold Lib.compact Lib.compactUpTo
  rw [List.length_map]
  have := List.length_filter_le (Lib.keeps zs.toArray) (List.range zs.length)
  rwa [List.length_range] at this
/-- Behind the sort, behind compact. -/
theorem sorted_holds {w w' : World} {g : Nat} {l S : List Int} {n : Nat} {os : Array Obj} (hH : Sort.Holds (Value.int .i64) w g 0 l.toArray) (hg : g < w.heap.size) (hl : S.length = l.length) (e : w' = Sort.grow (Sort.putRow (Value.int .i64) (Sort.ahead w n) g 0 S.toArray) os) :
    RowTurn g w w' ∧ Sort.Holds (Value.int .i64) w' g 0 S.toArray := by
  subst e
  refine ⟨⟨n, S.toArray, os, rfl⟩, ?_⟩
  refine Sort.holds_grow _ _ _ _ _ _ (by rw [Sort.size_putRow]; exact hg) ?_
  exact Sort.holds_putRow _ _ _ _ l.toArray S.toArray (Sort.holds_ahead _ _ _ _ _ _ hH) (by simpa using hl)
theorem compact_rd {w w' : World} {g : Nat} {S : List Int} {q : Nat} (hH : Sort.Holds (Value.int .i64) w g 0 S.toArray) (hg : g < w.heap.size) (e : w' = Sort.putRow (Value.int .i64) (Sort.ahead w q) g 0 (Lib.compact S ++ List.replicate (S.length - (Lib.compact S).length) 0).toArray) :
    RowTurn g w w' ∧ RdN w' w'.heap.size (some ⟨g, 0, none⟩) (Lib.compact S) := by
  have hle := compact_le S
  obtain ⟨Z, hZ⟩ : ∃ Z, Lib.compact S ++ List.replicate (S.length - (Lib.compact S).length) 0 = Z := ⟨_, rfl⟩
  have hZl : Z.length = S.length := by rw [← hZ, List.length_append, List.length_replicate]; omega
  rw [hZ] at e
  have hT := sorted_holds (os := #[]) hH hg hZl (by first | exact e | (rw [Sort.grow_empty]; exact e))
  refine ⟨hT.1, .inr ⟨g, 0, rfl, Nat.lt_of_lt_of_le hg hT.1.size, fun i hi => ?_⟩⟩
  have h := (hT.2 i (by first | (simp; omega) | (rw [List.size_toArray]; omega))).1
  rw [h]
  have h1 : i < Z.length := by omega
  have h2 : Z[i]? = (Lib.compact S)[i]? := by rw [← hZ, List.getElem?_append_left hi]
  have h3 : Z.toArray[i]! = Z[i] := by simp [h1]
  rw [h3]
  rw [List.getElem?_eq_getElem h1, List.getElem?_eq_getElem hi] at h2
  injection h2 with h2
  rw [h2]
  simp [hi]
theorem rowTurn_kind {b : Nat} {w w' : World} (h : RowTurn b w w') {cur : Array Value} {ty : TypeId} {fr : Nat × Nat} (hg : w.heap[b]? = some (.cells cur ty fr)) : ∃ cur', w'.heap[b]? = some (.cells cur' ty fr) := by
  have hlt := (Array.getElem?_eq_some_iff.1 hg).1
  obtain ⟨n, d, os, rfl⟩ := h
  rw [Sort.heap_grow_old _ _ (by rw [Sort.size_putRow]; exact hlt)]
  show ∃ cur', ((Sort.ahead w n).heap.modify b _)[b]? = _
  rw [Array.getElem?_modify, if_pos rfl]
  rw [show (Sort.ahead w n).heap[b]? = some (.cells cur ty fr) from hg]
  exact ⟨_, rfl⟩
/-- Rules' cells in blocks below B. -/
def RdRl (W : World) (B : Nat) (A : Option Addr) (lr : Nat) (g : Nat → Nat → Int) : Prop := Rd W B A (lr * 11) (fun i => .int (kI (i % 11)) (g (i / 11) (i % 11)))
theorem RdRl.at_ {W : World} {B : Nat} {A : Option Addr} {lr : Nat} {g : Nat → Nat → Int} (h : RdRl W B A lr g) {r : Nat} (hr : r < lr) :
    ∃ b off, A = some ⟨b, off, none⟩ ∧ b < B ∧ ∀ j, j < 11 → W.cell? ⟨b, off + r * 11 + j, none⟩ = some (.int .i64 (g r j)) := by
  rcases h with h0 | ⟨b, off, e, hb, hc⟩
  · omega
  · refine ⟨b, off, e, hb, fun j hj => ?_⟩
    have := hc (r * 11 + j) (by omega)
    rw [← Nat.add_assoc] at this
    rw [this]
    show some (Value.int .i64 (g ((r * 11 + j) / 11) ((r * 11 + j) % 11))) = _
    rw [show (r * 11 + j) / 11 = r by omega, show (r * 11 + j) % 11 = j by omega]
theorem rdz_rl {w : World} {A : Option Addr} {lr cr : Nat} {g : Nat → Nat → Int} (h : RdZ w A lr cr g) : RdRl w w.heap.size A lr g := h.2.2.2.1
/-- What the iterator holds of memory: the zone's box, the rules, the table. -/
def HoldE (zB B : Nat) (o : Int) (A : Option Addr) (lr cr : Nat) (g : Nat → Nat → Int) (W : World) : Prop :=
  W.heap[zB]? = some (.cells #[.int .i64 o, .slice A lr cr] 24 (0, 0)) ∧ RdRl W B A lr g ∧ B ≤ W.heap.size ∧ Lens W
theorem HoldE.go {zB B : Nat} {o : Int} {A : Option Addr} {lr cr : Nat} {g : Nat → Nat → Int} {W W' : World} (h : HoldE zB B o A lr cr g W) (hb : Below W.heap.size W W') : HoldE zB B o A lr cr g W' :=
  ⟨blk_below h.1 hb, Rd.below h.2.1 (hb.mono h.2.2.1), Nat.le_trans h.2.2.1 hb.size, h.2.2.2.go hb⟩
theorem HoldE.own {B₀ zB B : Nat} {o : Int} {A : Option Addr} {lr cr : Nat} {g : Nat → Nat → Int} : OwnW B₀ (HoldE zB B o A lr cr g) := by
  refine block_ownW.and ((Rd.own _ _ _ _ _).and (OwnW.and ?_ (Lens.own _)))
  intro W W' row h hg hr
  exact Nat.le_trans h hg.size
/-- Its row of numbers, between the yields: block and cells. -/
def HoldN (zB B B1 : Nat) (o : Int) (A : Option Addr) (lr cr : Nat) (g : Nat → Nat → Int) (t : Nat × Array Value) (W : World) : Prop :=
  HoldE zB B o A lr cr g W ∧ (B1 ≤ t.1 ∧ ∀ i, i < (exL g lr).length → t.2[i]? = some (.int .i64 ((exL g lr).getD i 0))) ∧ W.heap[t.1]? = some (.cells t.2 3 (0, 0))
theorem HoldN.own {B₀ zB B B1 : Nat} {o : Int} {A : Option Addr} {lr cr : Nat} {g : Nat → Nat → Int} {t : Nat × Array Value} : OwnW B₀ (HoldN zB B B1 o A lr cr g t) :=
  HoldE.own.and ((OwnW.const _).and block_ownW)
theorem extras_calls (o : Int) (A : Option Addr) (lr cr : Nat) (w : World) :
    Calls Tryd.prog 40 #[zonC o A lr cr] w fun e w' => e = .returned (.func (.func 48) #[] #[.pointer (some ⟨w.heap.size, 0, none⟩)]) ∧ w' = w.alloc (.cells #[.int .i64 o, .slice A lr cr] 24) := by
  unfold zonC
  go_enter Tryd.func40, Tryd.ntmps40
  go_wp2
  go_ret
  exact ⟨rfl, rfl⟩
/-- The numbers of the first k rules. -/
def exPre (g : Nat → Nat → Int) (k : Nat) : List Int := 0 :: (List.range k).map (fun i => g i 10)
theorem exPre_step (g : Nat → Nat → Int) (k : Nat) : exPre g (k + 1) = exPre g k ++ [g k 10] := by
  unfold exPre; rw [List.range_succ, List.map_append]; rfl
theorem exPre_len (g : Nat → Nat → Int) (k : Nat) : (exPre g k).length = k + 1 := by unfold exPre; simp
set_option maxRecDepth 100000 in
set_option maxHeartbeats 16000000 in
theorem extras_seq (zB B B1 : Nat) (o : Int) (A : Option Addr) (lr cr : Nat) (g : Nat → Nat → Int) (hlr : lr ≤ 100) :
    SeqTW Tryd.prog 48 #[.pointer (some ⟨zB, 0, none⟩)] (fun x : Int => #[.int .i64 x]) (exL g lr) (fun A B => Below A.heap.size A B)
      (fun W => HoldE zB B o A lr cr g W ∧ B1 ≤ W.heap.size) (fun _ => HoldN zB B B1 o A lr cr g) (fun _ => True) (fun _ _ => True) := by
  intro lo J Jx hJ hJx hY W ⟨hH, hB1⟩ h0
  have hF := wide_fn
  obtain ⟨b0, hb0⟩ : ∃ b0, W.heap.size = b0 := ⟨_, rfl⟩
  have Hb0 := Lib.hid hb0
  have HH := Lib.hid hH
  have HJ := Lib.hid h0
  have HY := Lib.hid hY
  have Hlr := Lib.hid hlr
  refine callsIn_of_wp Tryd.func48 rfl (hF _) ?_ rfl
  simp only [Tryd.ntmps48, List.size_toArray, List.length_cons, List.length_nil, Nat.reduceAdd, Nat.reduceSub, Array.replicate_succ, Array.replicate_zero, List.push_toArray, List.append_toArray, List.nil_append, List.cons_append]
  have hst := bstep W (.cells #[.int .i64 0] 3)
  have e1 := cell_of_row (W.alloc (.cells #[.int .i64 0] 3)) zB 1 _ _ _ (blk_below hH.1 hst)
  have ho0 : (W.alloc (.cells #[.int .i64 0] 3)).ownsRow b0 3 1 (.slice (some ⟨b0, 0, none⟩) 1 1) 1 (ivI (exPre g 0)) :=
    ⟨rfl, .inr ⟨b0, 1, #[.int .i64 0], rfl, Nat.le_refl _, by rw [← hb0]; exact World.alloc_heap_new W _, Nat.le_refl _, by decide, rfl, rfl⟩⟩
  rw [hb0] at hst
  have hs0 : b0 ≤ (W.alloc (.cells #[.int .i64 0] 3)).heap.size := by simp [hb0]
  have HO0 := Lib.hid (And.intro ho0 (And.intro hst hs0))
  have HJJ := Lib.hid hJ
  have HB1 := Lib.hid hB1
  clear hH h0 hY ho0 hst hs0 hJ hJx hB1 hlr
  gi_wp2_with (first | (refine wpIn_scope ?_) | (refine wpIn_label ?_))
  clear e1
  gi_loopw [3, 12] (fun v i wr => ∃ k : Nat, k ≤ lr ∧ i = .int .i64 k ∧ wr.ownsRow b0 3 1 v (k + 1) (ivI (exPre g k)) ∧ Below b0 W wr ∧ b0 ≤ wr.heap.size) (fun _ i _ => lr - (intOf i).toNat)
  case atStart => exact ⟨0, Nat.zero_le _, rfl, HO0.out.1, HO0.out.2.1, HO0.out.2.2⟩
  case round =>
    obtain ⟨k, hk, rfl, hown, hbl, hbs⟩ := hrel
    by_cases hlt : k < lr
    · have hI : (k : Int) < lr := by omega
      obtain ⟨sb, off, rfl, hsb, hc⟩ := HH.out.2.1.at_ hlt
      have hsb0 : sb < b0 := by have := HH.out.2.2.1; have := Hb0.out; omega
      have hc' : ∀ j, j < 11 → wr.cell? ⟨sb, off + k * 11 + j, none⟩ = some (.int .i64 (g k j)) := fun j hj => (hbl.cell (p := ⟨sb, off + k * 11 + j, none⟩) hsb0).trans (hc j hj)
      have c0 : wr.cell? ⟨sb, off + k * 11, none⟩ = some (.int .i64 (g k 0)) := hc' 0 (by omega)
      have c1 := hc' 1 (by omega)
      have c2 := hc' 2 (by omega)
      have c3 := hc' 3 (by omega)
      have c4 := hc' 4 (by omega)
      have c5 := hc' 5 (by omega)
      have c6 := hc' 6 (by omega)
      have c7 := hc' 7 (by omega)
      have c8 := hc' 8 (by omega)
      have c9 := hc' 9 (by omega)
      have c10 := hc' 10 (by omega)
      obtain ⟨W1, hW1⟩ : ∃ W1, wr.alloc (.cells #[.int .i64 (g k 0), .int .i64 (g k 1), .int .i64 (g k 2), .int .i64 (g k 3), .int .i64 (g k 4), .int .i64 (g k 5), .int .i64 (g k 6), .int .i64 (g k 7), .int .i64 (g k 8), .int .i64 (g k 9), .int .i64 (g k 10)] 31) = W1 := ⟨_, rfl⟩
      have hst : Below wr.heap.size wr W1 := hW1 ▸ bstep wr _
      have hrS : W1.heap[wr.heap.size]? = some (.cells #[.int .i64 (g k 0), .int .i64 (g k 1), .int .i64 (g k 2), .int .i64 (g k 3), .int .i64 (g k 4), .int .i64 (g k 5), .int .i64 (g k 6), .int .i64 (g k 7), .int .i64 (g k 8), .int .i64 (g k 9), .int .i64 (g k 10)] 31 (0, 0)) := hW1 ▸ World.alloc_heap_new wr _
      have d10 := cell_of_row W1 wr.heap.size 10 _ _ _ hrS
      have hs1 : b0 ≤ W1.heap.size := Nat.le_trans hbs hst.size
      obtain ⟨v', W5, hrun, hr, gr⟩ := append_one W1 b0 (own_below hown hst) (g k 10) (by have := Hlr.out; omega) hs1
      have hB5 : Below b0 W W5 := hbl.trans (((hst.mono hbs).alloc hs1 _).grown gr (Nat.le_trans hs1 (by simp)) (fun j e => (own_block hown e).1))
      have hs5 : b0 ≤ W5.heap.size := Nat.le_trans (Nat.le_trans hs1 (by simp)) gr.size
      rw [← exPre_step] at hr
      obtain ⟨-, gb, cb, rfl, -⟩ := own_holds hr (Nat.succ_pos _)
      have HE := Lib.hid (And.intro hr (And.intro hB5 hs5))
      have Hk := Lib.hid (show k + 1 ≤ lr from hlt)
      have w1 : IntKind.i64.wrap ((k : Int) + 1) = (k : Int) + 1 := i64_same _ (by have := Hlr.out; omega)
      have X1 := Lib.hid (wrap64_in ((k : Int) + 1) (by have := Hlr.out; omega))
      clear hc hc' hown hbl hbs hk hlt hst hrS hs1 gr hB5 hs5 hr
      have x1 := X1.out
      gi_wp2_with (gi_at_builtin; refine wpListIn_append_run hrun rfl rfl rfl rfl rfl ?_; clear hrun)
      clear x1
      go_roundw
      case rel => exact ⟨k + 1, Hk.out, by push_cast; rfl, HE.out.1, HE.out.2.1, HE.out.2.2⟩
      case measure => exact meas_z lr k Hk.out
    · obtain rfl : k = lr := by omega
      have hI : ¬ ((k : Int) < k) := by omega
      obtain ⟨hlen, gb, cb, rfl, hgb, hnc, ⟨cur, hgc⟩, hHo⟩ := own_holds hown (Nat.succ_pos _)
      have hgl := (Array.getElem?_eq_some_iff.1 hgc).1
      have HS := Tryd.slices_Sort_int gb 0 cb (exPre g k) wr hHo hgl (by rw [exPre_len]; have := Hlr.out; omega)
      obtain ⟨S, hS⟩ : ∃ S, (exPre g k).mergeSort (fun x y => decide (x ≤ y)) = S := ⟨_, rfl⟩
      have hSl : S.length = (exPre g k).length := by rw [← hS]; exact List.length_mergeSort _
      have hLc : exL g k = Lib.compact S := by unfold exL; rw [show exRaw g k = exPre g k from rfl, hS]
      rw [hS, ← hlen] at HS
      replace HS := Lib.hid HS
      have HLc := Lib.hid hLc
      have HBl := Lib.hid (And.intro hbl hbs)
      have HHo := Lib.hid (And.intro hHo (And.intro hgl (And.intro hSl (And.intro hgb hgc))))
      have Hlen := Lib.hid (And.intro hlen hnc)
      clear hS hSl hLc hown hlen hbl hbs hHo hgl hgc hgb hnc
      gi_wp2_with (first | (refine wpIn_scope ?_) | (refine wpIn_label ?_))
      refine (callsIn_wide.2 HS.out).mono ?_
      rintro e w7 ⟨rfl, n7, os, e7⟩
      obtain ⟨hT7, hH7⟩ := sorted_holds HHo.out.1 HHo.out.2.1 HHo.out.2.2.1 e7
      have hgl7 : gb < w7.heap.size := Nat.lt_of_lt_of_le HHo.out.2.1 hT7.size
      have HC := Tryd.slices_Compact_int gb 0 cb S w7 hH7 (by have := HHo.out.2.2.1; have := exPre_len g k; have := Hlr.out; omega) (by have := HHo.out.2.2.1; have := Hlen.out; omega)
      rw [HHo.out.2.2.1, ← Hlen.out.1] at HC
      rw [← HLc.out] at HC
      replace HC := Lib.hid HC
      have H7 := Lib.hid (And.intro hT7 (And.intro hH7 hgl7))
      clear e7 hT7 hH7 hgl7
      gi_wp2_with (first | (refine wpIn_scope ?_) | (refine wpIn_label ?_))
      refine (callsIn_wide.2 HC.out).mono ?_
      rintro e w8 ⟨rfl, q8, e8⟩
      rw [show k + 1 = S.length by rw [HHo.out.2.2.1, ← Hlen.out.1]] at e8
      rw [HLc.out] at e8
      obtain ⟨hT8, hR8⟩ := compact_rd H7.out.2.1 H7.out.2.2 e8
      clear e8
      obtain ⟨cur7, hk7⟩ := rowTurn_kind H7.out.1 HHo.out.2.2.2.2
      obtain ⟨cur8, hk8⟩ := rowTurn_kind hT8 hk7
      rw [← HLc.out] at hR8
      have hcells : ∀ i, i < (exL g k).length → cur8[i]? = some (.int .i64 ((exL g k).getD i 0)) := fun i hi => by
        obtain ⟨b2, o2, e2, -, hc2⟩ := hR8.at_ hi
        injection e2 with e2; injection e2 with e3 e4; subst e3 e4
        rw [Nat.zero_add] at hc2
        rw [cell_of_row w8 gb i _ _ _ hk8] at hc2
        exact hc2
      have hB8 : Below b0 W w8 := (HBl.out.1.trans (H7.out.1.below HHo.out.2.2.2.1 HBl.out.2)).trans (hT8.below HHo.out.2.2.2.1 (Nat.le_trans HBl.out.2 H7.out.1.size))
      rw [← Hb0.out] at hB8
      have hN8 : HoldN zB B B1 o A k cr g (gb, cur8) w8 := ⟨HH.out.go hB8, ⟨Nat.le_trans HB1.out (by rw [Hb0.out]; exact HHo.out.2.2.2.1), hcells⟩, hk8⟩
      have hJ8 := HJJ.out 0 W w8 HJ.out hB8
      obtain ⟨m, hm⟩ : ∃ m, (exL g k).length = m := ⟨_, rfl⟩
      rw [hm]
      have Hm := Lib.hid hm
      clear hm hcells hB8 hk8 hk7 hR8 hT8
      gi_wp2_with (first | (refine wpIn_scope ?_) | (refine wpIn_label ?_))
      gi_loopw [7, 27] (fun _ i wq => ∃ j : Nat, j ≤ m ∧ i = .int .i64 j ∧ J j wq ∧ HoldN zB B B1 o A k cr g (gb, cur8) wq) (fun _ i _ => m - (intOf i).toNat)
      case atStart => exact ⟨0, Nat.zero_le _, rfl, hJ8, hN8⟩
      case round =>
        obtain ⟨j, hj, rfl, hJj, hNj⟩ := hrel
        by_cases hlt : j < m
        · have hI : (j : Int) < m := by omega
          have hjl : j < (exL g k).length := by rw [Hm.out]; exact hlt
          have hx : (exL g k)[j]? = some ((exL g k).getD j 0) := by rw [List.getElem?_eq_getElem hjl]; simp [hjl]
          have c0 : wr.cell? ⟨gb, j, none⟩ = some (.int .i64 ((exL g k).getD j 0)) := (cell_of_row wr gb j _ _ _ hNj.2.2).trans (hNj.2.1.2 j hjl)
          obtain ⟨x, hxe⟩ : ∃ x, (exL g k).getD j 0 = x := ⟨_, rfl⟩
          rw [hxe] at hx c0
          obtain ⟨fn, tmps, assign, body, hy, hYR⟩ := HY.out j (gb, cur8) x wr hx hJj hNj
          have w1 : IntKind.i64.wrap ((j : Int) + 1) = (j : Int) + 1 := i64_same _ (by have := Hm.out; have := compact_le S; have := HHo.out.2.2.1; have := exPre_len g k; have := Hlr.out; have h2 := congrArg List.length HLc.out; omega)
          have X1 := Lib.hid (wrap64_in ((j : Int) + 1) (by have := Hm.out; have := compact_le S; have := HHo.out.2.2.1; have := exPre_len g k; have := Hlr.out; have h2 := congrArg List.length HLc.out; omega))
          have Hj := Lib.hid (show j + 1 ≤ m from hlt)
          have Hjl := Lib.hid hjl
          clear hxe hlt hjl hj hx hJj hNj hJ8 hN8
          gi_wp2
          refine hYR.mono ?_
          rintro e W3 ⟨hG3, (⟨rfl, hJ3⟩ | ⟨rfl, hJx3⟩)⟩
          · have x1 := X1.out
            clear hy
            gi_wp2
            clear x1
            go_roundw
            case rel => exact ⟨j + 1, Hj.out, by push_cast; rfl, hJ3, hG3⟩
            case measure => exact meas_z m j Hj.out
          · clear hy
            gi_wp2_with (first | (refine wpIn_scope ?_) | (refine wpIn_label ?_))
            try simp only [Exit.noGoto]
            go_end0
            first | exact ⟨⟨_, rfl⟩, .inr ⟨j, Hjl.out, hJx3, trivial⟩⟩ | exact ⟨⟨_, rfl⟩, .inr ⟨j, Hjl.out, hJx3⟩⟩
        · obtain rfl : j = m := by omega
          have hI : ¬ ((j : Int) < j) := by omega
          clear hJ8 hN8
          gi_wp2
          go_end0
          first | exact ⟨⟨_, rfl⟩, .inl ⟨by rw [Hm.out]; exact hJj, trivial⟩⟩ | (rw [Hm.out]; exact ⟨⟨_, rfl⟩, .inl hJj⟩)
end Go.Proofs.YtoipmhmghcngcaaDoor
