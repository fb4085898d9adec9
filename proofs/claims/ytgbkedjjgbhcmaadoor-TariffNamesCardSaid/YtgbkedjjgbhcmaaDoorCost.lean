/-
  Cost of package tariff, walked. Conditions stand at each theorem.
-/
import Derived.Test.YtgbkedjjgbhcmaaDoorCostSeq
import Derived.Test.YtgbkedjjgbhcmaaDoorIntsOwn
import Derived.Shelf.RegionOpen
import Derived.TacticsInMore
import Derived.LoopNIn
import Derived.LoopIn
import Derived.BigRegionIn
namespace Go.Proofs.YtgbkedjjgbhcmaaDoor
open Go Go.RowKit Go.Kw Go.Shelf
attribute [local go_sem] Oper.semAt_some
set_option linter.unusedVariables false
set_option linter.unusedSimpArgs false

/-- The first error among k pairs (0: none); the sum of k pairs; what a Cost is told. -/
def errAt (g : Nat → Nat → Int) : Nat → Int
  | 0 => 0
  | k + 1 => if errAt g k = 0 then (costV g k).2 else errAt g k
def sumC (g : Nat → Nat → Int) : Nat → Int
  | 0 => 0
  | k + 1 => sumC g k + (costV g k).1
def costOut (g : Nat → Nat → Int) (len : Nat) : Int × Int × Int :=
  if errAt g len = 0 then if sumC g len ≤ 4611686018427387904 then (sumC g len, costF g len 0, 0) else (0, 0, 10) else (0, 0, errAt g len)
theorem errAt_stay (g : Nat → Nat → Int) (k : Nat) (h : errAt g k ≠ 0) : ∀ n, k ≤ n → errAt g n = errAt g k
  | 0, hn => by obtain rfl : k = 0 := by omega
                rfl
  | n + 1, hn => by
    rcases Nat.lt_or_ge n k with h1 | h1
    · obtain rfl : k = n + 1 := by omega
      rfl
    · have := errAt_stay g k h n h1
      show (if errAt g n = 0 then _ else errAt g n) = _
      rw [if_neg (by rw [this]; exact h), this]
theorem sumC_lo (g : Nat → Nat → Int) : ∀ k, 0 ≤ sumC g k ∧ sumC g k ≤ 4611686018427387904 * (k : Int)
  | 0 => by show (0 : Int) ≤ 0 ∧ (0 : Int) ≤ _; omega
  | k + 1 => by
    have h1 := sumC_lo g k
    have h2 := payV_cost 0 0 (g k 0) (g k 1) (costF g k) (costF_ok g k)
    show 0 ≤ sumC g k + (payV 0 0 (g k 0) (g k 1) (costF g k)).1 ∧ sumC g k + (payV 0 0 (g k 0) (g k 1) (costF g k)).1 ≤ _
    push_cast; omega
/-- The sum's numbers. -/
def sumL (g : Nat → Nat → Int) (k : Nat) : List Int := 0 :: (List.range k).map fun i => (costV g i).1
theorem sumL_len (g : Nat → Nat → Int) (k : Nat) : (sumL g k).length = k + 1 := by simp [sumL]
theorem sumL_step (g : Nat → Nat → Int) (k : Nat) : sumL g k ++ [(costV g k).1] = sumL g (k + 1) := by simp [sumL, List.range_succ]
theorem sumL_sum (g : Nat → Nat → Int) : ∀ k, (sumL g k).sum = sumC g k
  | 0 => rfl
  | k + 1 => by rw [← sumL_step, List.sum_append, sumL_sum g k]; simp [sumC]
theorem sumL_in (g : Nat → Nat → Int) (k : Nat) : ∀ i, i < (sumL g k).length → inR ((sumL g k).getD i 0) := by
  intro i hi
  rw [List.getD_eq_getElem?_getD, List.getElem?_eq_getElem hi]
  have hm : (sumL g k)[i] ∈ sumL g k := List.getElem_mem hi
  rcases List.mem_cons.1 hm with h | h
  · show inR (sumL g k)[i]
    rw [h]; unfold inR; omega
  · obtain ⟨j, -, hj⟩ := List.mem_map.1 h
    have := payV_cost 0 0 (g j 0) (g j 1) (costF g j) (costF_ok g j)
    show inR (sumL g k)[i]
    rw [← hj]; unfold inR costV; omega
/-- What stands at the head of round k: no error, the sum's row. -/
def CostI (b0 : Nat) (w : World) (g : Nat → Nat → Int) (k : Nat) (W : World) : Prop :=
  errAt g k = 0 ∧ Boxed W b0 32 (.int .i64 0) ∧ (∃ q c, Boxed W (b0 + 1 + 1 + 1) 56 (.slice (some ⟨q, 0, none⟩) (k + 1) c) ∧ OwnI W (b0 + 1 + 1) q (k + 1) c (sumL g k) ∧ (q = b0 + 1 + 1 ∨ b0 + 1 + 1 + 1 + 1 + 1 < q)) ∧ (Below b0 w W ∧ b0 ≤ W.heap.size)
def CostX (b0 : Nat) (w : World) (g : Nat → Nat → Int) (c : Code) (k : Nat) (W : World) : Prop :=
  c = .exit 0 ∧ errAt g k ≠ 0 ∧ Boxed W b0 32 (.int .i64 (errAt g k)) ∧ (Below b0 w W ∧ b0 ≤ W.heap.size)
theorem costI_own (b0 B : Nat) (hB : b0 ≤ B) (w : World) (g : Nat → Nat → Int) (k : Nat) : OwnW B (CostI b0 w g k) :=
  (OwnW.const _).and ((boxed_ownW _ _ _ _).and ((OwnW.ex fun q => OwnW.ex fun c => (boxed_ownW _ _ _ _).and (OwnI.own.and (OwnW.const _))).and (below_own hB)))
theorem costX_own (b0 B : Nat) (hB : b0 ≤ B) (w : World) (g : Nat → Nat → Int) (c : Code) (k : Nat) : OwnW B (CostX b0 w g c k) :=
  (OwnW.const _).and ((OwnW.const _).and ((boxed_ownW _ _ _ _).and (below_own hB)))
theorem costI_only {b0 : Nat} {w : World} {g : Nat → Nat → Int} {k : Nat} {A B : World} (h : CostI b0 w g k A) (ho : Only (b0 + 1) A B) : CostI b0 w g k B := by
  obtain ⟨h1, h2, ⟨q, c, h3, h4, h5⟩, h6, h7⟩ := h
  refine ⟨h1, boxOnly h2 ho (by omega), ⟨q, c, boxOnly h3 ho (by omega), h4.kept ?_ ho.size, h5⟩, ho.below h6 (by omega) (by omega), Nat.le_trans h7 ho.size⟩
  obtain ⟨o, hq⟩ : ∃ o, A.heap[q]? = some o := by
    rw [Array.getElem?_eq_getElem h4.2.1]; exact ⟨_, rfl⟩
  rw [hq]; exact ho.row2 hq (by omega)
theorem costX_only {b0 : Nat} {w : World} {g : Nat → Nat → Int} {c : Code} {k : Nat} {A B : World} (h : CostX b0 w g c k A) (ho : Only (b0 + 1) A B) : CostX b0 w g c k B := by
  obtain ⟨h1, h2, h3, h6, h7⟩ := h
  exact ⟨h1, h2, boxOnly h3 ho (by omega), ho.below h6 (by omega) (by omega), Nat.le_trans h7 ho.size⟩
theorem row_new (w : World) (z : Int) (base : Nat) (hb : base ≤ w.heap.size) : OwnI (w.alloc (.cells #[.int .i64 z] 2)) base w.heap.size 1 1 [z] :=
  ⟨⟨rfl, .inr ⟨w.heap.size, 1, #[.int .i64 z], rfl, hb, World.alloc_heap_new w _, Nat.le_refl _, by unfold maxLen; omega, rfl, rfl⟩⟩, by simp, rfl⟩
theorem six_facts (w W6 : World) (b0 : Nat) (A : Option Addr) (len cap : Nat) (hb0 : w.heap.size = b0) (hW6 : ((((((w.alloc (.cells #[.int .i64 0] 32)).alloc (.cells (purC fun _ => 0) 28)).alloc (.cells #[.int .i64 0] 2)).alloc (.cells #[.slice (some ⟨b0 + 1 + 1, 0, none⟩) 1 1] 56)).alloc (.cells #[.pointer (some ⟨b0 + 1, 0, none⟩)] 24)).alloc (.cells #[.slice A len cap] 40)) = W6) :
    Boxed W6 b0 32 (.int .i64 0) ∧ PB 28 W6 (b0 + 1) (fun _ => 0) ∧ OwnI W6 (b0 + 1 + 1) (b0 + 1 + 1) 1 1 [0] ∧ Boxed W6 (b0 + 1 + 1 + 1) 56 (.slice (some ⟨b0 + 1 + 1, 0, none⟩) 1 1) ∧
      Boxed W6 (b0 + 1 + 1 + 1 + 1) 24 (.pointer (some ⟨b0 + 1, 0, none⟩)) ∧ Boxed W6 (b0 + 1 + 1 + 1 + 1 + 1) 40 (.slice A len cap) ∧ Below b0 w W6 ∧ W6.heap.size = b0 + 1 + 1 + 1 + 1 + 1 + 1 := by
  obtain ⟨w1, h1⟩ : ∃ w1, w.alloc (.cells #[.int .i64 0] 32) = w1 := ⟨_, rfl⟩
  rw [h1] at hW6
  obtain ⟨w2, h2⟩ : ∃ w2, w1.alloc (.cells (purC fun _ => 0) 28) = w2 := ⟨_, rfl⟩
  rw [h2] at hW6
  obtain ⟨w3, h3⟩ : ∃ w3, w2.alloc (.cells #[.int .i64 0] 2) = w3 := ⟨_, rfl⟩
  rw [h3] at hW6
  obtain ⟨w4, h4⟩ : ∃ w4, w3.alloc (.cells #[.slice (some ⟨b0 + 1 + 1, 0, none⟩) 1 1] 56) = w4 := ⟨_, rfl⟩
  rw [h4] at hW6
  obtain ⟨w5, h5⟩ : ∃ w5, w4.alloc (.cells #[.pointer (some ⟨b0 + 1, 0, none⟩)] 24) = w5 := ⟨_, rfl⟩
  rw [h5] at hW6
  have s1 : w1.heap.size = b0 + 1 := by rw [← h1, World.size_alloc, hb0]
  have s2 : w2.heap.size = b0 + 1 + 1 := by rw [← h2, World.size_alloc, s1]
  have s3 : w3.heap.size = b0 + 1 + 1 + 1 := by rw [← h3, World.size_alloc, s2]
  have s4 : w4.heap.size = b0 + 1 + 1 + 1 + 1 := by rw [← h4, World.size_alloc, s3]
  have s5 : w5.heap.size = b0 + 1 + 1 + 1 + 1 + 1 := by rw [← h5, World.size_alloc, s4]
  have s6 : W6.heap.size = b0 + 1 + 1 + 1 + 1 + 1 + 1 := by rw [← hW6, World.size_alloc, s5]
  have st := fun (w : World) (o : Obj) => (Below.refl w.heap.size w).alloc (Nat.le_refl _) o
  have t1 : Below w.heap.size w w1 := h1 ▸ st w _
  have t2 : Below w1.heap.size w1 w2 := h2 ▸ st w1 _
  have t3 : Below w2.heap.size w2 w3 := h3 ▸ st w2 _
  have t4 : Below w3.heap.size w3 w4 := h4 ▸ st w3 _
  have t5 : Below w4.heap.size w4 w5 := h5 ▸ st w4 _
  have t6 : Below w5.heap.size w5 W6 := hW6 ▸ st w5 _
  have u5 : Below w4.heap.size w4 W6 := bnext t5 t6
  have u4 : Below w3.heap.size w3 W6 := bnext t4 u5
  have u3 : Below w2.heap.size w2 W6 := bnext t3 u4
  have u2 : Below w1.heap.size w1 W6 := bnext t2 u3
  have u1 : Below w.heap.size w W6 := bnext t1 u2
  have bx : ∀ (w w' : World) (t : TypeId) (v : Value) (W : World), w.alloc (.cells #[v] t) = w' → Below w'.heap.size w' W → Boxed W w.heap.size t v := fun w w' t v W e hb => by
    subst e; exact (hb.block _ (by simp)).trans (Boxed.new w t v)
  refine ⟨?_, ?_, ?_, ?_, ?_, ?_, hb0 ▸ u1, s6⟩
  · rw [← hb0]; exact bx w w1 _ _ _ h1 u2
  · rw [← s1]; subst h2; exact (PB.new _ w1 _).next u3
  · rw [← s2]; subst h3
    have := row_new w2 0 w2.heap.size (Nat.le_refl _)
    exact this.kept (u4.block _ this.2.1) u4.size
  · rw [← s3, ← s2]; rw [← s2] at h4; exact bx w3 w4 _ _ _ h4 u5
  · rw [← s4]; exact bx w4 w5 _ _ _ h5 t6
  · rw [← s5]; exact bx w5 W6 _ _ _ hW6 (Below.refl _ _)
theorem cost_round (b0 : Nat) (w : World) (g : Nat → Nat → Int) (k : Nat) (W1 w' : World) (A : Option Addr) (len q q' c' : Nat) {c : Nat} {W2 : World} (hK2 : KeepsOthers W1 W2) (hKO : KeepsOthers W2 w') (he : errAt g k = 0) (hz1 : (costV g k).2 = 0)
    (hE : Boxed w' b0 32 (.int .i64 0)) (hP : PB 28 w' (b0 + 1) (costF g (k + 1))) (hC : Boxed w' (b0 + 1 + 1 + 1 + 1) 24 (.pointer (some ⟨b0 + 1, 0, none⟩))) (hR : RdP w' b0 A len g)
    (hfr : w'.frozen? ⟨b0 + 1 + 1 + 1, 0, none⟩ = false) (hS : Boxed w' (b0 + 1 + 1 + 1) 56 (.slice (some ⟨q, 0, none⟩) (k + 1) c)) (hO : OwnI w' (b0 + 1 + 1) q' (k + 1 + 1) c' (sumL g (k + 1))) (hq : q' = b0 + 1 + 1 ∨ b0 + 1 + 1 + 1 + 1 + 1 < q')
    (hB : Below b0 w w') (hs : b0 ≤ w'.heap.size) :
    KeepsOthers W1 (w'.setCell ⟨b0 + 1 + 1 + 1, 0, none⟩ (.slice (some ⟨q', 0, none⟩) (k + 1 + 1) c')) ∧ HoldP (w'.setCell ⟨b0 + 1 + 1 + 1, 0, none⟩ (.slice (some ⟨q', 0, none⟩) (k + 1 + 1) c')) b0 (b0 + 1) (b0 + 1 + 1 + 1 + 1) A len g (k + 1) ∧
      CostI b0 w g (k + 1) (w'.setCell ⟨b0 + 1 + 1 + 1, 0, none⟩ (.slice (some ⟨q', 0, none⟩) (k + 1 + 1) c')) := by
  have gx : ∀ j, j ≠ b0 + 1 + 1 + 1 → (w'.setCell ⟨b0 + 1 + 1 + 1, 0, none⟩ (.slice (some ⟨q', 0, none⟩) (k + 1 + 1) c')).heap[j]? = w'.heap[j]? := fun j hj => heap_setCell_other w' ⟨b0 + 1 + 1 + 1, 0, none⟩ j _ hj
  have hbl : Below b0 w' (w'.setCell ⟨b0 + 1 + 1 + 1, 0, none⟩ (.slice (some ⟨q', 0, none⟩) (k + 1 + 1) c')) := (Below.refl b0 w').setCell (by show b0 ≤ b0 + 1 + 1 + 1; omega) _
  refine ⟨(hK2.trans hKO).trans (KeepsOthers.setCell _ _ _), ⟨(gx _ (by omega)).trans hP, (gx _ (by omega)).trans hC, Rd.below hR hbl⟩, ?_, (gx _ (by omega)).trans hE, ⟨q', c', hS.set _, hO.kept (gx _ (by omega)) (by simp), hq⟩, hB.trans hbl, by simpa using hs⟩
  show (if errAt g k = 0 then (costV g k).2 else errAt g k) = 0
  rw [if_pos he, hz1]
theorem res_cost {tmps : Array Value} {W : World} {b0 : Nat} {z : Int} (hp : tmps.getD 4 undef = .pointer (some ⟨b0, 0, none⟩)) (hE : Boxed W b0 32 (.int .i64 z)) :
    (results Tryd.f11 tmps).run Tryd.prog W = .ok (.tuple #[tmps.getD 2 undef, tmps.getD 3 undef, .int .i64 z]) W := by
  have hr : Tryd.f11.results = #[.tmp 2, .tmp 3, .cell 4 32] := by rfl
  have hc := hE.cell
  have hp' : tmps[4]?.getD undef = .pointer (some ⟨b0, 0, none⟩) := by simpa using hp
  simp [results, hr, go_sem, hp', hc]
set_option maxRecDepth 100000 in
set_option maxHeartbeats 4000000 in
theorem cost_calls (A : Option Addr) (len cap : Nat) (hl2 : len ≤ 200) (hcap : cap ≤ maxLen) (hlen : len ≤ cap) (g : Nat → Nat → Int) (w : World) (hR : RdP w w.heap.size A len g) :
    Calls Tryd.prog 11 #[.slice A len cap] w fun e w' => e = .returned (.tuple #[.int .i64 (costOut g len).1, .int .i64 (costOut g len).2.1, .int .i64 (costOut g len).2.2]) ∧ Below w.heap.size w w' := by
  have hF := wide_fn
  have hz1 := pur_zero
  obtain ⟨b0, hb0⟩ : ∃ b0, w.heap.size = b0 := ⟨_, rfl⟩
  have Hb0 := Lib.hid hb0
  refine calls_of_marks Tryd.func11 rfl ?_
  simp only [Tryd.ntmps11, List.size_toArray, List.length_cons, List.length_nil, Nat.reduceAdd, Nat.reduceSub, Array.replicate_succ, Array.replicate_zero, List.push_toArray, List.append_toArray, List.nil_append, List.cons_append]
  gi_wp2_with (first | (refine wpIn_scope ?_) | (refine wpIn_label ?_) | (gi_at_call 22; refine (callsIn_wide.2 (paid_calls _ _ _ _ _)).mono ?_; rintro e w' ⟨rfl, rfl⟩) )
  obtain ⟨W6, hW6⟩ : ∃ W6, ((((((w.alloc (.cells #[.int .i64 0] 32)).alloc (.cells (purC fun _ => 0) 28)).alloc (.cells #[.int .i64 0] 2)).alloc (.cells #[.slice (some ⟨b0 + 1 + 1, 0, none⟩) 1 1] 56)).alloc (.cells #[.pointer (some ⟨b0 + 1, 0, none⟩)] 24)).alloc (.cells #[.slice A len cap] 40)) = W6 := ⟨_, rfl⟩
  obtain ⟨bE, pB, bR, bS, bP, bL, hB6, hs6⟩ := six_facts w W6 b0 A len cap hb0 hW6
  rw [hW6]
  clear hW6 hz1
  have hR6 : RdP W6 b0 A len g := Rd.below (hb0 ▸ hR) hB6
  refine wpIn_rangeX rfl (by decide) (gf := 44) (lb := #[.pointer (some ⟨b0 + 1 + 1 + 1 + 1 + 1, 0, none⟩), .pointer (some ⟨b0 + 1 + 1 + 1 + 1, 0, none⟩)]) rfl trivial (enters_of Tryd.func44 (by kernel_rfl) rfl)
    (paid_seq b0 (b0 + 1) (b0 + 1 + 1 + 1 + 1) (b0 + 1 + 1 + 1 + 1 + 1) (by omega) (by omega) A len cap hcap hlen (by omega) g) (fun A B h => h.keeps) (fun _ => rfl)
    ((block_ownW.and ((boxed_ownW _ _ _ _).and (Rd.own _ _ _ _ _))).and (cell_own _ _ _)) (fun _ => block_ownW.and ((boxed_ownW _ _ _ _).and (Rd.own _ _ _ _ _))) block_ownW (fun _ => OwnW.const _) ⟨⟨pB, bP, hR6⟩, bL.cell⟩
    (CostI b0 w g) (CostX b0 w g) (fun k => costI_own b0 _ (by omega) w g k) (fun c k => costX_own b0 _ (by omega) w g c k) (fun k A B h e => costI_only h e) (fun c k A B h e => costX_only h e)
    ⟨rfl, bE, ⟨b0 + 1 + 1, 1, bS, bR, .inl rfl⟩, hB6, by omega⟩ ?round ?done ?stop
  case round =>
    rintro lo k x W hx _ _
    gi_wp2
    refine ⟨trivial, ?_⟩
    rintro W1 ⟨he, hE, ⟨q, c, hS, hO, hq⟩, hB⟩ ⟨hP, hC, hRp⟩ hsz
    have hkl : k < len := by have := (List.getElem?_eq_some_iff.1 hx).1; rwa [costL_len] at this
    have hxv : x = costV g k := by have := costL_at g len k hkl; rw [hx] at this; injection this
    obtain ⟨y, z⟩ := x
    have hy1 : (costV g k).1 = y := by rw [← hxv]
    have hz1 : (costV g k).2 = z := by rw [← hxv]
    have hs1 : errAt g (k + 1) = z := by show (if errAt g k = 0 then (costV g k).2 else errAt g k) = z; rw [if_pos he, hz1]
    have cE := hE.cell
    have fE := hE.frozen
    have ne3 : b0 + 1 + 1 + 1 ≠ b0 := by omega
    clear hxv hx
    have hE2 := hE.set (.int .i64 z)
    obtain ⟨W2, hW2⟩ : ∃ W2, W1.setCell ⟨b0, 0, none⟩ (.int .i64 z) = W2 := ⟨_, rfl⟩
    have g2 : ∀ j, j ≠ b0 → W2.heap[j]? = W1.heap[j]? := fun j hj => by rw [← hW2]; exact heap_setCell_other W1 ⟨b0, 0, none⟩ j _ hj
    have s2 : W2.heap.size = W1.heap.size := by rw [← hW2]; simp
    have hS2 : Boxed W2 (b0 + 1 + 1 + 1) 56 (.slice (some ⟨q, 0, none⟩) (k + 1) c) := (g2 _ ne3).trans hS
    have hO2 := hO.kept (g2 q (by omega)) (by rw [s2]; exact Nat.le_refl _)
    have hP2 : PB 28 W2 (b0 + 1) (costF g (k + 1)) := (g2 _ (by omega)).trans hP
    have hC2 : Boxed W2 (b0 + 1 + 1 + 1 + 1) 24 (.pointer (some ⟨b0 + 1, 0, none⟩)) := (g2 _ (by omega)).trans hC
    have hB2 : Below b0 W1 W2 := by rw [← hW2]; exact (Below.refl b0 W1).setCell (by simp) _
    have hK2 : KeepsOthers W1 W2 := by rw [← hW2]; exact KeepsOthers.setCell _ _ _
    have hR2 : RdP W2 b0 A len g := Rd.below hRp hB2
    have cE2 := hE2.cell
    rw [hW2] at hE2 cE2
    have cS2 := hS2.cell
    have fS2 := hS2.frozen
    by_cases hz : z = 0
    · subst hz
      obtain ⟨q', c', w', hrun, hO3, hq3, hK, hKO⟩ := append_own W2 (b0 + 1 + 1) q (k + 1) c hO2 y (by rw [sumL_len]; omega) (by have := hB.2; have := hO.2.1; omega) (by omega)
      have hst : sumL g k ++ [y] = sumL g (k + 1) := by rw [← hy1]; exact sumL_step g k
      rw [hst] at hO3
      have hS3 : Boxed w' (b0 + 1 + 1 + 1) 56 (.slice (some ⟨q, 0, none⟩) (k + 1) c) := heap_kept hK hS2 (by show b0 + 1 + 1 + 1 ≠ q; omega)
      have cS3 := hS3.cell
      have fS3 := hS3.frozen
      have hE3 : Boxed w' b0 32 (.int .i64 0) := heap_kept hK hE2 (by show b0 ≠ q; omega)
      have hP3 : PB 28 w' (b0 + 1) (costF g (k + 1)) := heap_kept hK hP2 (by show b0 + 1 ≠ q; omega)
      have hC3 : Boxed w' (b0 + 1 + 1 + 1 + 1) 24 (.pointer (some ⟨b0 + 1, 0, none⟩)) := heap_kept hK hC2 (by show b0 + 1 + 1 + 1 + 1 ≠ q; omega)
      have hB3 : Below b0 W2 w' := hK.below (by have := hB.2; omega) (fun k hk => by show k ≠ q; omega)
      have hR3 : RdP w' b0 A len g := Rd.below hR2 hB3
      rw [s2] at hrun
      have HX := Lib.hid (cost_round b0 w g k W1 w' A len q q' c' hK2 hKO he hz1 hE3 hP3 hC3 hR3 hS3.frozen hS3 hO3 (by rcases hq3 with h | h <;> omega) (hB.1.trans (hB2.trans hB3)) (by have := hK.size; have := hB.2; omega))
      subst hW2
      gi_wp2_with (gi_at_builtin; refine wpListIn_append_run hrun rfl rfl rfl rfl rfl ?_; clear hrun)
      exact HX.out
    · have hzb : (z != 0) = true := by simpa using hz
      have hzc : (z == 0) = false := by simpa using hz
      have hX : CostX b0 w g (.exit 0) (k + 1) W2 := ⟨rfl, by rw [hs1]; exact hz, by rw [hs1]; exact hE2, hB.1.trans hB2, by rw [s2]; exact hB.2⟩
      have HX := Lib.hid (show KeepsOthers W1 W2 ∧ HoldP W2 b0 (b0 + 1) (b0 + 1 + 1 + 1 + 1) A len g (k + 1) ∧ CostX b0 w g (.exit 0) (k + 1) W2 from ⟨hK2, ⟨hP2, hC2, hR2⟩, hX⟩)
      subst hW2
      gi_wp2
      exact HX.out
  case done =>
    rintro D W hD ⟨he, hE, ⟨q, c, hS, hO, hq⟩, hB⟩ hPd hK
    rw [costL_len] at he hS hO
    have cE := hE.cell
    have cS := hS.cell
    have fE := hE.frozen
    have hSum := sum_calls (some ⟨q, 0, none⟩) c (sumL g len) (by rw [sumL_len]; omega) (sumL_in g len) W hO.rd
    rw [sumL_len, sumL_sum] at hSum
    have H0 := Lib.hid he
    obtain ⟨S, hS0⟩ : ∃ S, sumC g len = S := ⟨_, rfl⟩
    have hlo := (sumC_lo g len).1
    rw [hS0] at hSum hlo
    by_cases hin : S ≤ 4611686018427387904
    · rw [okV_in (by unfold inR; omega)] at hSum
      have HSum := Lib.hid hSum
      have ho : costOut g len = (S, costF g len 0, 0) := by unfold costOut; rw [if_pos he, hS0, if_pos hin]
      have HRst := Lib.hid (fun W h => rest_calls 0 0 (costF g len) (b0 + 1) W h)
      have hr : restV 0 0 (costF g len) = costF g len 0 := by unfold restV; rw [if_pos (by decide)]; rfl
      rw [hr] at HRst
      have Ho := Lib.hid ho
      clear hr ho hSum he hS0
      have k1 : decide (S > 4611686018427387904) = false := by simp; omega
      gi_wp2
      refine (callsIn_wide.2 HSum.out).mono ?_
      rintro e w2 ⟨rfl, hb2⟩
      have hE2 : Boxed w2 b0 32 (.int .i64 0) := blk_below hE hb2
      have cE2 := hE2.cell
      have fE2 := hE2.frozen
      have hP2 := PB.next hPd hb2
      have hP3 := hP2.far (p := ⟨b0, 0, none⟩) (by simp) (.int .i64 0)
      have hB2 := hB.1.trans (hb2.mono hB.2)
      have hK2 : w2.heap[D]? = some (.deferred (some [])) := (hb2.block D (Array.getElem?_eq_some_iff.1 hK).1).trans hK
      gi_wp2
      refine (callsIn_wide.2 (HRst.out _ hP3)).mono ?_
      rintro e w3 ⟨rfl, rfl⟩
      gi_wp2
      rw [Exit.noGoto_ret]
      have hE4 : Boxed ((w2.setCell ⟨b0, 0, none⟩ (.int .i64 0)).setCell ⟨b0, 0, none⟩ (.int .i64 0)) b0 32 (.int .i64 0) := (hE2.set _).set _
      have hK4 := ((KeepsOthers.setCell w2 ⟨b0, 0, none⟩ (.int .i64 0)).trans (KeepsOthers.setCell _ ⟨b0, 0, none⟩ (.int .i64 0))).same D _ hK2 rfl
      refine ⟨by simp, .inl ⟨_, _, rfl, run_takeDeferred hK4, ?_⟩⟩
      refine ⟨_, res_cost rfl ((boxed_ownW b0 b0 _ _).putObj _ hE4 (by omega) hK4 rfl), ?_, ?_⟩
      · rw [Ho.out]; rfl
      · rw [Hb0.out]
        exact (((hB2.setCell (p := ⟨b0, 0, none⟩) (Nat.le_refl _) _).setCell (p := ⟨b0, 0, none⟩) (Nat.le_refl _) _)).putObj (by omega) (by simpa using Nat.le_trans hB.2 hb2.size) _
    · have ho : costOut g len = (0, 0, 10) := by unfold costOut; rw [if_pos he, hS0, if_neg hin]
      have Ho := Lib.hid ho
      by_cases hin2 : inR S
      · rw [okV_in hin2] at hSum
        have HSum := Lib.hid hSum
        have k1 : decide (S > 4611686018427387904) = true := by simp; omega
        clear ho hSum he hS0 hin2
        gi_wp2
        refine (callsIn_wide.2 HSum.out).mono ?_
        rintro e w2 ⟨rfl, hb2⟩
        have hE2 : Boxed w2 b0 32 (.int .i64 0) := blk_below hE hb2
        have cE2 := hE2.cell
        have fE2 := hE2.frozen
        have hB2 := hB.1.trans (hb2.mono hB.2)
        have hK2 : w2.heap[D]? = some (.deferred (some [])) := (hb2.block D (Array.getElem?_eq_some_iff.1 hK).1).trans hK
        gi_wp2
        rw [Exit.noGoto_ret]
        have hE4 : Boxed ((w2.setCell ⟨b0, 0, none⟩ (.int .i64 0)).setCell ⟨b0, 0, none⟩ (.int .i64 10)) b0 32 (.int .i64 10) := (hE2.set _).set _
        have hK4 := ((KeepsOthers.setCell w2 ⟨b0, 0, none⟩ (.int .i64 0)).trans (KeepsOthers.setCell _ ⟨b0, 0, none⟩ (.int .i64 10))).same D _ hK2 rfl
        refine ⟨by simp, .inl ⟨_, _, rfl, run_takeDeferred hK4, ?_⟩⟩
        refine ⟨_, res_cost rfl ((boxed_ownW b0 b0 _ _).putObj _ hE4 (by omega) hK4 rfl), ?_, ?_⟩
        · rw [Ho.out]; rfl
        · rw [Hb0.out]
          exact (((hB2.setCell (p := ⟨b0, 0, none⟩) (Nat.le_refl _) _).setCell (p := ⟨b0, 0, none⟩) (Nat.le_refl _) _)).putObj (by omega) (by simpa using Nat.le_trans hB.2 hb2.size) _
      · rw [okV_out hin2] at hSum
        have HSum := Lib.hid hSum
        clear ho hSum he hS0 hin2 hin
        gi_wp2
        refine (callsIn_wide.2 HSum.out).mono ?_
        rintro e w2 ⟨rfl, hb2⟩
        have hE2 : Boxed w2 b0 32 (.int .i64 0) := blk_below hE hb2
        have cE2 := hE2.cell
        have fE2 := hE2.frozen
        have hB2 := hB.1.trans (hb2.mono hB.2)
        have hK2 : w2.heap[D]? = some (.deferred (some [])) := (hb2.block D (Array.getElem?_eq_some_iff.1 hK).1).trans hK
        gi_wp2
        rw [Exit.noGoto_ret]
        have hE4 : Boxed ((w2.setCell ⟨b0, 0, none⟩ (.int .i64 10)).setCell ⟨b0, 0, none⟩ (.int .i64 10)) b0 32 (.int .i64 10) := (hE2.set _).set _
        have hK4 := ((KeepsOthers.setCell w2 ⟨b0, 0, none⟩ (.int .i64 10)).trans (KeepsOthers.setCell _ ⟨b0, 0, none⟩ (.int .i64 10))).same D _ hK2 rfl
        refine ⟨by simp, .inl ⟨_, _, rfl, run_takeDeferred hK4, ?_⟩⟩
        refine ⟨_, res_cost rfl ((boxed_ownW b0 b0 _ _).putObj _ hE4 (by omega) hK4 rfl), ?_, ?_⟩
        · rw [Ho.out]; rfl
        · rw [Hb0.out]
          exact (((hB2.setCell (p := ⟨b0, 0, none⟩) (Nat.le_refl _) _).setCell (p := ⟨b0, 0, none⟩) (Nat.le_refl _) _)).putObj (by omega) (by simpa using Nat.le_trans hB.2 hb2.size) _
  case stop =>
    rintro D c k W hD hk ⟨rfl, hne, hE, hB⟩ _ hK
    rw [costL_len] at hk
    have hst := errAt_stay g (k + 1) hne len (by omega)
    have ho : costOut g len = (0, 0, errAt g (k + 1)) := by unfold costOut; rw [if_neg (by rw [hst]; exact hne), hst]
    have cE := hE.cell
    have fE := hE.frozen
    have hb1 : (errAt g (k + 1) != 0) = true := by simpa using hne
    have hb2 : (errAt g (k + 1) == 0) = false := by simpa using hne
    have Ho := Lib.hid ho
    clear ho hst
    gi_wp2
    gi_region
    gi_wp2
    rw [Exit.noGoto_ret]
    have hE4 : Boxed (W.setCell ⟨b0, 0, none⟩ (.int .i64 (errAt g (k + 1)))).drew b0 32 (.int .i64 (errAt g (k + 1))) := hE.set _
    have hK4 : (W.setCell ⟨b0, 0, none⟩ (.int .i64 (errAt g (k + 1)))).drew.heap[D]? = some (.deferred (some [])) := (KeepsOthers.setCell W ⟨b0, 0, none⟩ (.int .i64 (errAt g (k + 1)))).same D _ hK rfl
    refine ⟨by simp, .inl ⟨_, _, rfl, run_takeDeferred hK4, ?_⟩⟩
    refine ⟨_, res_cost rfl ((boxed_ownW b0 b0 _ _).putObj _ hE4 (by omega) hK4 rfl), ?_, ?_⟩
    · rw [Ho.out]; rfl
    · rw [Hb0.out]
      exact Below.putObj (below_dN (hB.1.setCell (p := ⟨b0, 0, none⟩) (Nat.le_refl _) _) 1) (by omega) (by simpa using hB.2) _
end Go.Proofs.YtgbkedjjgbhcmaaDoor
