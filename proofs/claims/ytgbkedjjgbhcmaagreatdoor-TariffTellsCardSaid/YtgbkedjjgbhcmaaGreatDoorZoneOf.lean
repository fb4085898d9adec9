/-
  A year's rule, walked: slices.IndexFunc, zone.Of. Conditions stand at each theorem.
-/
import Derived.Test.YtgbkedjjgbhcmaaGreatDoorZoneRef
import Derived.Test.YtgbkedjjgbhcmaaGreatDoorAt
namespace Go.Proofs.YtgbkedjjgbhcmaaGreatDoor
open Go Go.RowKit Go.Kw Go.Kw.Cv Go.Shelf
set_option linter.unusedVariables false
set_option linter.unusedSimpArgs false

/-- A rule as a value. -/
def rulV (f : Nat → Int) : Value := .agg #[.int .i64 (f 0), .int .i64 (f 1), .int .i64 (f 2), .int .i64 (f 3), .int .i64 (f 4), .int .i64 (f 5), .int .i64 (f 6), .int .i64 (f 7), .int .i64 (f 8), .int .i64 (f 9), .int .i64 (f 10)]
theorem set11_below {B b : Nat} {W W' : World} (h : Below B W W') (hb : B ≤ b) (u0 u1 u2 u3 u4 u5 u6 u7 u8 u9 u10 : Value) : Below B W (((((((((((W'.setCell ⟨b, 0, none⟩ u0).setCell ⟨b, 1, none⟩ u1).setCell ⟨b, 2, none⟩ u2).setCell ⟨b, 3, none⟩ u3).setCell ⟨b, 4, none⟩ u4).setCell ⟨b, 5, none⟩ u5).setCell ⟨b, 6, none⟩ u6).setCell ⟨b, 7, none⟩ u7).setCell ⟨b, 8, none⟩ u8).setCell ⟨b, 9, none⟩ u9).setCell ⟨b, 10, none⟩ u10) := by
  replace h := h.setCell (p := ⟨b, 0, none⟩) hb u0
  replace h := h.setCell (p := ⟨b, 1, none⟩) hb u1
  replace h := h.setCell (p := ⟨b, 2, none⟩) hb u2
  replace h := h.setCell (p := ⟨b, 3, none⟩) hb u3
  replace h := h.setCell (p := ⟨b, 4, none⟩) hb u4
  replace h := h.setCell (p := ⟨b, 5, none⟩) hb u5
  replace h := h.setCell (p := ⟨b, 6, none⟩) hb u6
  replace h := h.setCell (p := ⟨b, 7, none⟩) hb u7
  replace h := h.setCell (p := ⟨b, 8, none⟩) hb u8
  replace h := h.setCell (p := ⟨b, 9, none⟩) hb u9
  replace h := h.setCell (p := ⟨b, 10, none⟩) hb u10
  exact h
theorem set11_row {b : Nat} {W : World} {t : TypeId} {a0 a1 a2 a3 a4 a5 a6 a7 a8 a9 a10 : Value} (h : W.heap[b]? = some (.cells #[a0, a1, a2, a3, a4, a5, a6, a7, a8, a9, a10] t (0, 0))) (u0 u1 u2 u3 u4 u5 u6 u7 u8 u9 u10 : Value) :
    (((((((((((W.setCell ⟨b, 0, none⟩ u0).setCell ⟨b, 1, none⟩ u1).setCell ⟨b, 2, none⟩ u2).setCell ⟨b, 3, none⟩ u3).setCell ⟨b, 4, none⟩ u4).setCell ⟨b, 5, none⟩ u5).setCell ⟨b, 6, none⟩ u6).setCell ⟨b, 7, none⟩ u7).setCell ⟨b, 8, none⟩ u8).setCell ⟨b, 9, none⟩ u9).setCell ⟨b, 10, none⟩ u10).heap[b]? = some (.cells #[u0, u1, u2, u3, u4, u5, u6, u7, u8, u9, u10] t (0, 0)) := by
  replace h : (W.setCell ⟨b, 0, none⟩ u0).heap[b]? = some (.cells #[u0, a1, a2, a3, a4, a5, a6, a7, a8, a9, a10] t (0, 0)) := heap_setCell_same _ b 0 _ _ u0 h
  replace h : ((W.setCell ⟨b, 0, none⟩ u0).setCell ⟨b, 1, none⟩ u1).heap[b]? = some (.cells #[u0, u1, a2, a3, a4, a5, a6, a7, a8, a9, a10] t (0, 0)) := heap_setCell_same _ b 1 _ _ u1 h
  replace h : (((W.setCell ⟨b, 0, none⟩ u0).setCell ⟨b, 1, none⟩ u1).setCell ⟨b, 2, none⟩ u2).heap[b]? = some (.cells #[u0, u1, u2, a3, a4, a5, a6, a7, a8, a9, a10] t (0, 0)) := heap_setCell_same _ b 2 _ _ u2 h
  replace h : ((((W.setCell ⟨b, 0, none⟩ u0).setCell ⟨b, 1, none⟩ u1).setCell ⟨b, 2, none⟩ u2).setCell ⟨b, 3, none⟩ u3).heap[b]? = some (.cells #[u0, u1, u2, u3, a4, a5, a6, a7, a8, a9, a10] t (0, 0)) := heap_setCell_same _ b 3 _ _ u3 h
  replace h : (((((W.setCell ⟨b, 0, none⟩ u0).setCell ⟨b, 1, none⟩ u1).setCell ⟨b, 2, none⟩ u2).setCell ⟨b, 3, none⟩ u3).setCell ⟨b, 4, none⟩ u4).heap[b]? = some (.cells #[u0, u1, u2, u3, u4, a5, a6, a7, a8, a9, a10] t (0, 0)) := heap_setCell_same _ b 4 _ _ u4 h
  replace h : ((((((W.setCell ⟨b, 0, none⟩ u0).setCell ⟨b, 1, none⟩ u1).setCell ⟨b, 2, none⟩ u2).setCell ⟨b, 3, none⟩ u3).setCell ⟨b, 4, none⟩ u4).setCell ⟨b, 5, none⟩ u5).heap[b]? = some (.cells #[u0, u1, u2, u3, u4, u5, a6, a7, a8, a9, a10] t (0, 0)) := heap_setCell_same _ b 5 _ _ u5 h
  replace h : (((((((W.setCell ⟨b, 0, none⟩ u0).setCell ⟨b, 1, none⟩ u1).setCell ⟨b, 2, none⟩ u2).setCell ⟨b, 3, none⟩ u3).setCell ⟨b, 4, none⟩ u4).setCell ⟨b, 5, none⟩ u5).setCell ⟨b, 6, none⟩ u6).heap[b]? = some (.cells #[u0, u1, u2, u3, u4, u5, u6, a7, a8, a9, a10] t (0, 0)) := heap_setCell_same _ b 6 _ _ u6 h
  replace h : ((((((((W.setCell ⟨b, 0, none⟩ u0).setCell ⟨b, 1, none⟩ u1).setCell ⟨b, 2, none⟩ u2).setCell ⟨b, 3, none⟩ u3).setCell ⟨b, 4, none⟩ u4).setCell ⟨b, 5, none⟩ u5).setCell ⟨b, 6, none⟩ u6).setCell ⟨b, 7, none⟩ u7).heap[b]? = some (.cells #[u0, u1, u2, u3, u4, u5, u6, u7, a8, a9, a10] t (0, 0)) := heap_setCell_same _ b 7 _ _ u7 h
  replace h : (((((((((W.setCell ⟨b, 0, none⟩ u0).setCell ⟨b, 1, none⟩ u1).setCell ⟨b, 2, none⟩ u2).setCell ⟨b, 3, none⟩ u3).setCell ⟨b, 4, none⟩ u4).setCell ⟨b, 5, none⟩ u5).setCell ⟨b, 6, none⟩ u6).setCell ⟨b, 7, none⟩ u7).setCell ⟨b, 8, none⟩ u8).heap[b]? = some (.cells #[u0, u1, u2, u3, u4, u5, u6, u7, u8, a9, a10] t (0, 0)) := heap_setCell_same _ b 8 _ _ u8 h
  replace h : ((((((((((W.setCell ⟨b, 0, none⟩ u0).setCell ⟨b, 1, none⟩ u1).setCell ⟨b, 2, none⟩ u2).setCell ⟨b, 3, none⟩ u3).setCell ⟨b, 4, none⟩ u4).setCell ⟨b, 5, none⟩ u5).setCell ⟨b, 6, none⟩ u6).setCell ⟨b, 7, none⟩ u7).setCell ⟨b, 8, none⟩ u8).setCell ⟨b, 9, none⟩ u9).heap[b]? = some (.cells #[u0, u1, u2, u3, u4, u5, u6, u7, u8, u9, a10] t (0, 0)) := heap_setCell_same _ b 9 _ _ u9 h
  replace h : (((((((((((W.setCell ⟨b, 0, none⟩ u0).setCell ⟨b, 1, none⟩ u1).setCell ⟨b, 2, none⟩ u2).setCell ⟨b, 3, none⟩ u3).setCell ⟨b, 4, none⟩ u4).setCell ⟨b, 5, none⟩ u5).setCell ⟨b, 6, none⟩ u6).setCell ⟨b, 7, none⟩ u7).setCell ⟨b, 8, none⟩ u8).setCell ⟨b, 9, none⟩ u9).setCell ⟨b, 10, none⟩ u10).heap[b]? = some (.cells #[u0, u1, u2, u3, u4, u5, u6, u7, u8, u9, u10] t (0, 0)) := heap_setCell_same _ b 10 _ _ u10 h
  exact h
theorem rul_size : (Tryz.prog.info? 90).map (·.size) = some 11 := by kernel_rfl
theorem res_rul {fn : Func} {p t2 : Tmp} (h : fn.results = #[.cell p 90, .tmp t2]) {tmps : Array Value} {w : World} {g : Nat} {a0 a1 a2 a3 a4 a5 a6 a7 a8 a9 a10 : Value} (hp : tmps.getD p undef = .pointer (some ⟨g, 0, none⟩)) (hg : w.heap[g]? = some (.cells #[a0, a1, a2, a3, a4, a5, a6, a7, a8, a9, a10] 90 (0, 0))) :
    (results fn tmps).run Tryz.prog w = .ok (.tuple #[.agg #[a0, a1, a2, a3, a4, a5, a6, a7, a8, a9, a10], tmps.getD t2 undef]) w :=
  results_cell_tmp h tmps w g _ _ _ _ hp hg Tryz.underlying90 rfl rul_size
set_option maxRecDepth 100000 in
set_option maxHeartbeats 8000000 in
theorem of1_calls (f : Nat → Int) (y : Int) (p : Nat) (w : World) (hp : w.heap[p]? = some (.cells #[.int .i64 y] 3 (0, 0))) :
    Calls Tryz.prog 96 #[rulV f, .pointer (some ⟨p, 0, none⟩)] w fun e w' => e = .returned (.bool (decide (f 0 ≤ y) && decide (y ≤ f 1))) ∧ Below w.heap.size w w' := by
  obtain ⟨W1, hW1⟩ : ∃ W1, w.alloc (.cells #[.int .i64 (f 0), .int .i64 (f 1), .int .i64 (f 2), .int .i64 (f 3), .int .i64 (f 4), .int .i64 (f 5), .int .i64 (f 6), .int .i64 (f 7), .int .i64 (f 8), .int .i64 (f 9), .int .i64 (f 10)] 90) = W1 := ⟨_, rfl⟩
  have hst : Below w.heap.size w W1 := hW1 ▸ bstep w _
  have hr := blk_below hp hst
  have c0 := cell_of_row W1 p 0 _ _ _ hr
  have hrn : W1.heap[w.heap.size]? = some (.cells #[.int .i64 (f 0), .int .i64 (f 1), .int .i64 (f 2), .int .i64 (f 3), .int .i64 (f 4), .int .i64 (f 5), .int .i64 (f 6), .int .i64 (f 7), .int .i64 (f 8), .int .i64 (f 9), .int .i64 (f 10)] 90 (0, 0)) := hW1 ▸ World.alloc_heap_new w _
  have d0 := cell_of_row W1 w.heap.size 0 _ _ _ hrn
  have d1 := cell_of_row W1 w.heap.size 1 _ _ _ hrn
  have HI := Lib.hid (zin_calls y (f 0) (f 1))
  unfold rulV
  clear hp hr hrn
  go_enter Tryz.func96, Tryz.ntmps96
  go_wp2_with fail
  refine (HI.out _).mono ?_
  rintro e w3 ⟨rfl, e3⟩
  rw [e3]; clear e3 w3
  go_wp2_with fail
  go_ret
  exact ⟨rfl, hst⟩
noncomputable def idxV (lr : Nat) (g : Nat → Nat → Int) (y : Int) : Int := if rulF g y lr < lr then (rulF g y lr : Int) else -1
set_option maxRecDepth 100000 in
set_option maxHeartbeats 8000000 in
theorem indexFunc_calls (A : Option Addr) (lr cr : Nat) (g : Nat → Nat → Int) (y : Int) (p : Nat) (w : World) (hR : RdZ w A lr cr g) (hp : w.heap[p]? = some (.cells #[.int .i64 y] 3 (0, 0))) :
    Calls Tryz.prog 95 #[.slice A lr cr, .func (.func 96) #[] #[.pointer (some ⟨p, 0, none⟩)]] w fun e w' => e = .returned (.int .i64 (idxV lr g y)) ∧ Below w.heap.size w w' := by
  obtain ⟨b0, hb0⟩ : ∃ b0, w.heap.size = b0 := ⟨_, rfl⟩
  have Hb0 := Lib.hid hb0
  have HR := Lib.hid hR
  have hla := hR.1
  have hca := hR.2.1
  have hmx : maxLen = 9223372036854775807 := rfl
  have Hlen := Lib.hid (show lr ≤ 9223372036854775807 by omega)
  have HP := Lib.hid hp
  have hB0 := Below.refl b0 w
  clear hR hla hca hmx hp
  go_enter Tryz.func95, Tryz.ntmps95
  go_wp2_with fail
  go_loopw [5, 8] (fun s5 i wr => ∃ k : Nat, k ≤ lr ∧ i = .int .i64 k ∧ (∀ j, j < k → inYearZ g j y = false) ∧ Below b0 w wr) (fun _ i _ => lr - (intOf i).toNat)
  case atStart => exact ⟨0, by omega, rfl, fun j hj => absurd hj (by omega), hB0⟩
  case round =>
    obtain ⟨k, hk, rfl, hA, hB⟩ := hrel
    clear hB0
    by_cases hlt : k < lr
    · have hI : (k : Int) < lr := by omega
      obtain ⟨sb, off, rfl, hsb, hc⟩ := HR.out.at_ (by omega) hlt
      have hsb0 : sb < b0 := by have := Hb0.out; omega
      have hc' : ∀ j, j < 11 → wr.cell? ⟨sb, off + k * 11 + j, none⟩ = some (.int .i64 (g k j)) := fun j hj => (hB.cell (p := ⟨sb, off + k * 11 + j, none⟩) hsb0).trans (hc j hj)
      have c0 : wr.cell? ⟨sb, off + k * 11, none⟩ = some (.int .i64 (g k 0)) := hc' 0 (by omega)
      have c1 := hc' 1 (by omega)
      have c2 := hc' 2 (by omega)
      have c3 := hc' 3 (by omega)
      have c4 := hc' 4 (by omega)
      have c5 := hc' 5 (by omega)
      have c6 := hc' 6 (by omega)
      have c7 := hc' 7 (by omega)
      have c8 := hc' 8 (by omega)
      have c9 := hc' 9 (by omega)
      have c10 := hc' 10 (by omega)
      have HO := of1_calls (g k) y p wr (blk_below HP.out (Hb0.out.symm ▸ hB))
      unfold rulV at HO
      obtain ⟨V, hV⟩ : ∃ V, (decide (g k 0 ≤ y) && decide (y ≤ g k 1)) = V := ⟨_, rfl⟩
      rw [hV] at HO
      replace HO := Lib.hid HO
      have HV := Lib.hid (show inYearZ g k y = V from hV)
      have w1 : IntKind.i64.wrap ((k : Int) + 1) = (k : Int) + 1 := i64_same _ (by have := Hlen.out; omega)
      have X1 := Lib.hid (wrap64_in ((k : Int) + 1) (by have := Hlen.out; omega))
      have Hk := Lib.hid (show k + 1 ≤ lr from hlt)
      have Hlt := Lib.hid hlt
      have HA := Lib.hid hA
      have HB := Lib.hid hB
      clear hc hc' hA hB hk hlt hV
      cases V with
      | true =>
        go_wp2_with fail
        refine HO.out.mono ?_
        rintro e w4 ⟨rfl, hb4⟩
        go_wp2_with fail
        go_ret
        have hF : rulF g y lr = k := rulF_unique g y lr k (by have := Hlt.out; omega) (fun _ => HV.out) HA.out
        have hlt := Hlt.out
        have hv : idxV lr g y = (k : Int) := by unfold idxV; rw [hF, if_pos hlt]
        rw [hv]
        have hZ := HB.out.trans (hb4.mono (Hb0.out ▸ HB.out.size))
        exact ⟨rfl, by first | exact hZ | (rw [Hb0.out]; exact hZ)⟩
      | false =>
        have x1 := X1.out
        go_wp2_with fail
        refine HO.out.mono ?_
        rintro e w4 ⟨rfl, hb4⟩
        go_wp2_with fail
        clear x1
        exact ⟨⟨k + 1, Hk.out, by push_cast; rfl, fun j hj => by
          by_cases e : j = k
          · rw [e]; exact HV.out
          · exact HA.out j (by omega), HB.out.trans (hb4.mono (Hb0.out ▸ HB.out.size))⟩, meas_z lr k Hk.out⟩
    · obtain rfl : k = lr := by omega
      have hI : ¬ ((k : Int) < k) := by omega
      have HBq := Lib.hid hB
      have hF : rulF g y k = k := rulF_unique g y k k (Nat.le_refl _) (fun h => absurd h (Nat.lt_irrefl _)) hA
      have hv : idxV k g y = -1 := by unfold idxV; rw [hF, if_neg (Nat.lt_irrefl _)]
      have Hv := Lib.hid hv
      clear hA hk hlt hB hF hv
      go_wp2_with fail
      go_ret
      rw [Hv.out]
      exact ⟨rfl, by first | exact HBq.out | (rw [Hb0.out]; exact HBq.out)⟩
/-- The rule of a year: its numbers (0: there is none), and whether there is one. -/
def OfIs (o : Int) (lr : Nat) (g : Nat → Nat → Int) (y : Int) : Prop := zonOk o lr g ∧ rulF g y lr < lr
noncomputable instance (o : Int) (lr : Nat) (g : Nat → Nat → Int) (y : Int) : Decidable (OfIs o lr g y) := Classical.propDecidable _
noncomputable def ofG (o : Int) (lr : Nat) (g : Nat → Nat → Int) (y : Int) : Nat → Int := if OfIs o lr g y then g (rulF g y lr) else fun _ => 0
noncomputable def ofB (o : Int) (lr : Nat) (g : Nat → Nat → Int) (y : Int) : Bool := decide (OfIs o lr g y)
theorem of_yes {o : Int} {lr : Nat} {g : Nat → Nat → Int} {y : Int} (h : OfIs o lr g y) : ofG o lr g y = g (rulF g y lr) ∧ ofB o lr g y = true := ⟨if_pos h, decide_eq_true h⟩
theorem of_not {o : Int} {lr : Nat} {g : Nat → Nat → Int} {y : Int} (h : ¬ OfIs o lr g y) : ofG o lr g y = (fun _ => 0) ∧ ofB o lr g y = false := ⟨if_neg h, decide_eq_false h⟩
set_option maxRecDepth 100000 in
set_option maxHeartbeats 16000000 in
theorem zOf_calls (o : Int) (A : Option Addr) (lr cr : Nat) (g : Nat → Nat → Int) (y : Int) (w : World) (hR : RdZ w A lr cr g) :
    Calls Tryz.prog 83 #[zonC o A lr cr, .int .i64 y] w fun e w' => e = .returned (.tuple #[rulV (ofG o lr g y), .bool (ofB o lr g y)]) ∧ Below w.heap.size w w' := by
  obtain ⟨b0, hb0⟩ : ∃ b0, w.heap.size = b0 := ⟨_, rfl⟩
  have Hb0 := Lib.hid hb0
  obtain ⟨W1, hW1⟩ : ∃ W1, w.alloc (.cells #[.int .i64 o, .slice A lr cr] 24) = W1 := ⟨_, rfl⟩
  have hst1 : Below w.heap.size w W1 := hW1 ▸ bstep w _
  have hs1 : W1.heap.size = b0 + 1 := by rw [← hW1, World.size_alloc, hb0]
  have hr1 : W1.heap[b0]? = some (.cells #[.int .i64 o, .slice A lr cr] 24 (0, 0)) := by rw [← hb0, ← hW1]; exact World.alloc_heap_new w _
  obtain ⟨W2, hW2⟩ : ∃ W2, W1.alloc (.cells #[.int .i64 y] 3) = W2 := ⟨_, rfl⟩
  have hst2 : Below W1.heap.size W1 W2 := hW2 ▸ bstep W1 _
  have hs2 : W2.heap.size = b0 + 2 := by rw [← hW2, World.size_alloc, hs1]
  have hr2 : W2.heap[b0 + 1]? = some (.cells #[.int .i64 y] 3 (0, 0)) := by rw [← hs1, ← hW2]; exact World.alloc_heap_new W1 _
  obtain ⟨W3, hW3⟩ : ∃ W3, W2.alloc (.cells #[.int .i64 0, .int .i64 0, .int .i64 0, .int .i64 0, .int .i64 0, .int .i64 0, .int .i64 0, .int .i64 0, .int .i64 0, .int .i64 0, .int .i64 0] 90) = W3 := ⟨_, rfl⟩
  have hst3 : Below W2.heap.size W2 W3 := hW3 ▸ bstep W2 _
  have hs3 : W3.heap.size = b0 + 3 := by rw [← hW3, World.size_alloc, hs2]
  have hr3 : W3.heap[b0 + 2]? = some (.cells #[.int .i64 0, .int .i64 0, .int .i64 0, .int .i64 0, .int .i64 0, .int .i64 0, .int .i64 0, .int .i64 0, .int .i64 0, .int .i64 0, .int .i64 0] 90 (0, 0)) := by rw [← hs2, ← hW3]; exact World.alloc_heap_new W2 _
  have hB3 := bnext hst1 (bnext hst2 hst3)
  have hz3 := blk_below (blk_below hr1 hst2) hst3
  have hy3 := blk_below hr2 hst3
  have e0 := cell_of_row W3 b0 0 _ _ _ hz3
  have e1 := cell_of_row W3 b0 1 _ _ _ hz3
  have HC := zCheck_calls o A lr cr g W3 (hR.go hB3)
  unfold zonC at HC ⊢
  have Hle := Lib.hid (rulF_le g y lr)
  by_cases hok : zonOk o lr g
  · rw [show zonE o lr g = 0 from if_pos hok] at HC
    replace HC := Lib.hid HC
    have HX := Lib.hid (fun W hb => indexFunc_calls A lr cr g y (b0 + 1) W ((hR.go hB3).go hb) (blk_below hy3 hb))
    by_cases hi : rulF g y lr < lr
    · obtain ⟨q1, q2⟩ := of_yes (show OfIs o lr g y from ⟨hok, hi⟩)
      rw [q1, q2]
      rw [show idxV lr g y = (rulF g y lr : Int) from if_pos hi] at HX
      have hRd := hR
      obtain ⟨F, hF⟩ : ∃ F, rulF g y lr = F := ⟨_, rfl⟩
      rw [hF] at HX ⊢
      rw [hF] at hi
      obtain ⟨sb, off, rfl, hsb, hc⟩ := hRd.at_ (by omega) hi
      have kI : decide ((F : Int) < 0) = false := decide_eq_false (by omega)
      have kJ : (0 : Int) ≤ F ∧ (F : Int) < lr := by omega
      have Hc := Lib.hid hc
      have HBB := Lib.hid hB3
      unfold rulV
      clear q1 q2 hok hi hF hRd hR hc hst1 hst2 hst3 hr1 hr2 hy3
      go_enter Tryz.func83, Tryz.ntmps83
      go_wp2_with fail
      refine HC.out.mono ?_
      rintro e w4 ⟨rfl, hb4⟩
      have hz4 := blk_below hz3 hb4
      have e0 := cell_of_row w4 b0 0 _ _ _ hz4
      have e1 := cell_of_row w4 b0 1 _ _ _ hz4
      go_wp2_with fail
      refine (HX.out w4 hb4).mono ?_
      rintro e w5 ⟨rfl, hb5⟩
      have hz5 := blk_below hz4 hb5
      have e0 := cell_of_row w5 b0 0 _ _ _ hz5
      have e1 := cell_of_row w5 b0 1 _ _ _ hz5
      have hb35 := bnext hb4 hb5
      have HS := blk_below hr3 hb35
      have hB5 := HBB.out.trans (hb35.mono HBB.out.size)
      have hc' : ∀ j, j < 11 → w5.cell? ⟨sb, off + F * 11 + j, none⟩ = some (.int .i64 (g F j)) := fun j hj => (hB5.cell (p := ⟨sb, off + F * 11 + j, none⟩) hsb).trans (Hc.out j hj)
      have c0 : w5.cell? ⟨sb, off + F * 11, none⟩ = some (.int .i64 (g F 0)) := hc' 0 (by omega)
      have c1 := hc' 1 (by omega)
      have c2 := hc' 2 (by omega)
      have c3 := hc' 3 (by omega)
      have c4 := hc' 4 (by omega)
      have c5 := hc' 5 (by omega)
      have c6 := hc' 6 (by omega)
      have c7 := hc' 7 (by omega)
      have c8 := hc' 8 (by omega)
      have c9 := hc' 9 (by omega)
      have c10 := hc' 10 (by omega)
      have d0 := cell_of_row w5 (b0 + 2) 0 _ _ _ HS
      have f0 := blk_frozen HS 0
      have d1 := cell_of_row w5 (b0 + 2) 1 _ _ _ HS
      have f1 := blk_frozen HS 1
      have d2 := cell_of_row w5 (b0 + 2) 2 _ _ _ HS
      have f2 := blk_frozen HS 2
      have d3 := cell_of_row w5 (b0 + 2) 3 _ _ _ HS
      have f3 := blk_frozen HS 3
      have d4 := cell_of_row w5 (b0 + 2) 4 _ _ _ HS
      have f4 := blk_frozen HS 4
      have d5 := cell_of_row w5 (b0 + 2) 5 _ _ _ HS
      have f5 := blk_frozen HS 5
      have d6 := cell_of_row w5 (b0 + 2) 6 _ _ _ HS
      have f6 := blk_frozen HS 6
      have d7 := cell_of_row w5 (b0 + 2) 7 _ _ _ HS
      have f7 := blk_frozen HS 7
      have d8 := cell_of_row w5 (b0 + 2) 8 _ _ _ HS
      have f8 := blk_frozen HS 8
      have d9 := cell_of_row w5 (b0 + 2) 9 _ _ _ HS
      have f9 := blk_frozen HS 9
      have d10 := cell_of_row w5 (b0 + 2) 10 _ _ _ HS
      have f10 := blk_frozen HS 10
      clear hc' hb4 hb5 hz4 hz5 hb35
      go_wp2_with fail
      refine bodyPost_ret (res_rul rfl rfl (set11_row HS _ _ _ _ _ _ _ _ _ _ _ )) rfl ?_
      exact ⟨rfl, set11_below hB5 (by have := Hb0.out; omega) _ _ _ _ _ _ _ _ _ _ _ ⟩
    · obtain ⟨q1, q2⟩ := of_not (show ¬ OfIs o lr g y from fun h => hi h.2)
      rw [q1, q2]
      rw [show idxV lr g y = -1 from if_neg hi] at HX
      have HBB := Lib.hid hB3
      unfold rulV
      clear q1 q2 hok hi hR hst1 hst2 hst3 hr1 hr2 hy3
      go_enter Tryz.func83, Tryz.ntmps83
      go_wp2_with fail
      refine HC.out.mono ?_
      rintro e w4 ⟨rfl, hb4⟩
      have hz4 := blk_below hz3 hb4
      have e0 := cell_of_row w4 b0 0 _ _ _ hz4
      have e1 := cell_of_row w4 b0 1 _ _ _ hz4
      go_wp2_with fail
      refine (HX.out w4 hb4).mono ?_
      rintro e w5 ⟨rfl, hb5⟩
      have hb35 := bnext hb4 hb5
      have HS := blk_below hr3 hb35
      have hB5 := HBB.out.trans (hb35.mono HBB.out.size)
      have d0 := cell_of_row w5 (b0 + 2) 0 _ _ _ HS
      have f0 := blk_frozen HS 0
      have d1 := cell_of_row w5 (b0 + 2) 1 _ _ _ HS
      have f1 := blk_frozen HS 1
      have d2 := cell_of_row w5 (b0 + 2) 2 _ _ _ HS
      have f2 := blk_frozen HS 2
      have d3 := cell_of_row w5 (b0 + 2) 3 _ _ _ HS
      have f3 := blk_frozen HS 3
      have d4 := cell_of_row w5 (b0 + 2) 4 _ _ _ HS
      have f4 := blk_frozen HS 4
      have d5 := cell_of_row w5 (b0 + 2) 5 _ _ _ HS
      have f5 := blk_frozen HS 5
      have d6 := cell_of_row w5 (b0 + 2) 6 _ _ _ HS
      have f6 := blk_frozen HS 6
      have d7 := cell_of_row w5 (b0 + 2) 7 _ _ _ HS
      have f7 := blk_frozen HS 7
      have d8 := cell_of_row w5 (b0 + 2) 8 _ _ _ HS
      have f8 := blk_frozen HS 8
      have d9 := cell_of_row w5 (b0 + 2) 9 _ _ _ HS
      have f9 := blk_frozen HS 9
      have d10 := cell_of_row w5 (b0 + 2) 10 _ _ _ HS
      have f10 := blk_frozen HS 10
      clear hb4 hb5 hz4 hb35
      go_wp2_with fail
      refine bodyPost_ret (res_rul rfl rfl (set11_row HS _ _ _ _ _ _ _ _ _ _ _ )) rfl ?_
      exact ⟨rfl, set11_below hB5 (by have := Hb0.out; omega) _ _ _ _ _ _ _ _ _ _ _ ⟩
  · rw [show zonE o lr g = 70 from if_neg hok] at HC
    replace HC := Lib.hid HC
    obtain ⟨q1, q2⟩ := of_not (show ¬ OfIs o lr g y from fun h => hok h.1)
    rw [q1, q2]
    have HBB := Lib.hid hB3
    unfold rulV
    clear q1 q2 hok hR hst1 hst2 hst3 hr1 hr2 hy3
    go_enter Tryz.func83, Tryz.ntmps83
    go_wp2_with fail
    refine HC.out.mono ?_
    rintro e w4 ⟨rfl, hb4⟩
    have HS := blk_below hr3 hb4
    have hB5 := HBB.out.trans (hb4.mono HBB.out.size)
    have d0 := cell_of_row w4 (b0 + 2) 0 _ _ _ HS
    have f0 := blk_frozen HS 0
    have d1 := cell_of_row w4 (b0 + 2) 1 _ _ _ HS
    have f1 := blk_frozen HS 1
    have d2 := cell_of_row w4 (b0 + 2) 2 _ _ _ HS
    have f2 := blk_frozen HS 2
    have d3 := cell_of_row w4 (b0 + 2) 3 _ _ _ HS
    have f3 := blk_frozen HS 3
    have d4 := cell_of_row w4 (b0 + 2) 4 _ _ _ HS
    have f4 := blk_frozen HS 4
    have d5 := cell_of_row w4 (b0 + 2) 5 _ _ _ HS
    have f5 := blk_frozen HS 5
    have d6 := cell_of_row w4 (b0 + 2) 6 _ _ _ HS
    have f6 := blk_frozen HS 6
    have d7 := cell_of_row w4 (b0 + 2) 7 _ _ _ HS
    have f7 := blk_frozen HS 7
    have d8 := cell_of_row w4 (b0 + 2) 8 _ _ _ HS
    have f8 := blk_frozen HS 8
    have d9 := cell_of_row w4 (b0 + 2) 9 _ _ _ HS
    have f9 := blk_frozen HS 9
    have d10 := cell_of_row w4 (b0 + 2) 10 _ _ _ HS
    have f10 := blk_frozen HS 10
    clear hb4
    go_wp2_with fail
    refine bodyPost_ret (res_rul rfl rfl (set11_row HS _ _ _ _ _ _ _ _ _ _ _ )) rfl ?_
    exact ⟨rfl, set11_below hB5 (by have := Hb0.out; omega) _ _ _ _ _ _ _ _ _ _ _ ⟩
end Go.Proofs.YtgbkedjjgbhcmaaGreatDoor
