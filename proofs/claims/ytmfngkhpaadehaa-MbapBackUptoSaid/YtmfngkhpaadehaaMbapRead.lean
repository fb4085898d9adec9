/-
  'broken' of package mbap, walked. Conditions: at most 1,000,000 bytes.
-/
import Derived.Test.YtmfngkhpaadehaaMbapBytes
import Derived.Test.YtmfngkhpaadehaaBits
import Derived.RegionTactic
import Derived.Deep.RegionHeld3
import Derived.Deep.RegionLaw
import Derived.Deep.QuietTactic
import Derived.BigQuiet
import Derived.Laws.CopyRow
import Derived.Laws.IdiomCopy
import Derived.Laws.CopyOwn
import Derived.ChangeKeysEq
namespace Go.Proofs.Ytmfngkhpaadehaa
open Go Go.RowKit Go.Kw Go.Kw.Mb
set_option linter.unusedVariables false
set_option linter.unusedSimpArgs false

theorem bAt_none (l : List UInt8) (i : Nat) (h : l.length ≤ i) : bAt l i = 0 := by
  unfold bAt; rw [List.getD_eq_getElem?_getD, List.getElem?_eq_none h]; rfl
/-- 'copy(a[:], x)', a an array of two bytes. -/
theorem copy_two (W : World) (g : Nat) (ty T : TypeId) (hg : W.heap[g]? = some (.cells #[.int .u8 0, .int .u8 0] T (0, 0))) (A : Option Addr) (c n : Nat) (l : List UInt8) (hR : RdB W W.heap.size A l) (hn : n = l.length) (hz : A = none → l.length = 0) :
    ∃ k W', (Builtin.copy_ #[22, 22] ty #[.slice (some ⟨g, 0, none⟩) 2 2, .slice A n c]).run Try.prog W = .ok (.int .i64 k) W' ∧ W'.heap[g]? = some (.cells #[.int .u8 (bAt l 0), .int .u8 (bAt l 1)] T (0, 0)) ∧ Below g W W' ∧ Kept (fun b => b ≠ g) W W' := by
  subst hn
  have hs : (Try.prog.info? 5).map (·.size) = some 1 := by kernel_rfl
  rcases Nat.eq_zero_or_pos l.length with h0 | h0
  · refine ⟨0, W, run_copy_none (P := Try.prog) W _ _ ty 5 _ _ _ _ _ _ Try.underlying22 hs (by rw [h0]; rfl), ?_, Below.refl _ _, Kept.refl _ _⟩
    rw [bAt_none l 0 (by omega), bAt_none l 1 (by omega)]; exact hg
  · rcases hR with h | ⟨b, off, rfl, hlt, hc⟩
    · omega
    · have hrow : ∀ cs : List Value, cs.length = Nat.min l.length 2 → (∀ j v, cs[j]? = some v → v = Value.int .u8 (bAt l j)) → ∃ k : Int, (Builtin.copy_ #[22, 22] ty #[.slice (some ⟨g, 0, none⟩) 2 2, .slice (some ⟨b, off, none⟩) l.length c]).run Try.prog W = .ok (Value.int .i64 k) (W.setRow g (([] : List Value) ++ cs ++ [Value.int .u8 0, Value.int .u8 0].drop (0 + cs.length)).toArray) := fun cs h1 h2 => by
        have hmin : Nat.min l.length 2 ≤ 2 := Nat.min_le_right _ _
        have hmin2 : Nat.min l.length 2 ≤ l.length := Nat.min_le_left _ _
        refine ⟨_, run_copy_row (P := Try.prog) W _ _ ty 5 g 0 2 2 ⟨b, off, none⟩ l.length c _ T cs Try.underlying22 hs hg h1 (fun j v hj => ?_) (by rw [h1]; simpa using hmin) (fun v hv => ?_)⟩
        · have hjl : j < cs.length := (List.getElem?_eq_some_iff.1 hj).1
          rw [h2 j v hj, Go.WideShapes.add_plain]
          exact hc j (by omega)
        · obtain ⟨j, hj⟩ := List.mem_iff_getElem?.1 hv
          rw [h2 j v hj]; rfl
      have hkept : ∀ cs, Kept (fun b => b ≠ g) W (W.setRow g cs) := fun cs => ⟨rfl, rfl, rfl, by simp [World.setRow], fun k hk hs => setRow_other W g k cs hs⟩
      rcases Nat.lt_or_ge l.length 2 with h1 | h1
      · obtain ⟨k, hk⟩ := hrow [.int .u8 (bAt l 0)] (by rw [show l.length = 1 by omega]; rfl) (fun j v hj => by match j, hj with | 0, hj => simpa using hj.symm)
        refine ⟨k, _, hk, ?_, below_setRow (Below.refl _ _) (Nat.le_refl _) _, hkept _⟩
        rw [bAt_none l 1 (by omega)]
        exact setRow_heap W g _ _ T _ hg
      · obtain ⟨k, hk⟩ := hrow [.int .u8 (bAt l 0), .int .u8 (bAt l 1)] (by rw [show Nat.min l.length 2 = 2 from Nat.min_eq_right h1]; rfl) (fun j v hj => by match j, hj with | 0, hj => simpa using hj.symm | 1, hj => simpa using hj.symm)
        exact ⟨k, _, hk, setRow_heap W g _ _ T _ hg, below_setRow (Below.refl _ _) (Nat.le_refl _) _, hkept _⟩

theorem eq_u8 (d : Nat) (W : World) (x y : Int) : (Op.equalIn (d + 1) 5 (.int .u8 x) (.int .u8 y)).run Try.prog W = .ok (x == y) W := by
  simp [Op.equalIn, run_underlying Try.underlying5]
theorem eq_two (d : Nat) (W : World) (x y : Int) : (Op.equalIn (d + 1 + 1) 64 (.agg #[.int .u8 x, .int .u8 y]) (.agg #[.int .u8 0, .int .u8 0])).run Try.prog W = .ok (x == 0 && y == 0) W := by
  obtain ⟨i0, hi0, hz0, hs0, hb0⟩ := info_parts eb.inf
  have hc : Try.prog.cellsOf 5 = 1 := by kernel_rfl
  have p0 : ∀ a b : Int, (part 5 #[Value.int .u8 a, Value.int .u8 b] 0).run Try.prog W = .ok (.int .u8 a) W := fun a b => by kernel_rfl
  have p1 : ∀ a b : Int, (part 5 #[Value.int .u8 a, Value.int .u8 b] 1).run Try.prog W = .ok (.int .u8 b) W := fun a b => by kernel_rfl
  rw [run_equalIn_array W (d + 1) _ _ Try.underlying64 hi0, hc]
  simp [Op.eqItems, List.range_succ, p0, p1, eq_u8]
  cases hx : x == 0 <;> cases hy : y == 0 <;> simp_all

theorem brk_two (l : List UInt8) (h : (bAt l 2 == 0 && bAt l 3 == 0) = false) : brk l = true := by
  rw [brk_iff]
  by_cases h2 : bAt l 2 = 0
  · have h3 : bAt l 3 ≠ 0 := fun e => by rw [h2, e] at h; cases h
    exact .inr (.inl ⟨Nat.lt_of_not_le fun hl => h3 (bAt_none l 3 hl), h3⟩)
  · exact .inl ⟨Nat.lt_of_not_le fun hl => h2 (bAt_none l 2 hl), h2⟩
theorem brk_rest (l : List UInt8) (h : (bAt l 2 == 0 && bAt l 3 == 0) = true) : brk l = (decide (6 ≤ l.length) && (decide (sz l < 2) || decide (254 < sz l))) := by
  simp only [Bool.and_eq_true, beq_iff_eq] at h
  unfold brk
  rw [h.1, h.2]
  simp

/-- 'copy' as a step of a drawn region, its run known. -/
theorem step_copy_run {P : Program} {ops : Array Oper} {o : Oper} {a : Act} {w : World} {K : Act → World → Prop} {Q : Exit → Act → World → Prop} {E : Prop}
    (hg : o.guard = none) (d x : Operand) (dT sT : TypeId) (hop : o.op = Op.call { callee := Callee.builtin Builtin.copy, args := #[d, x], argTypes := #[dT, sT] })
    (v u : Value) (hd : a.eval d = v) (hx : a.eval x = u) {v' : Value} {w' : World} (hr : (Builtin.copy_ #[dT, sT] o.type #[v, u]).run P w = .ok v' w') (hK : K (a.put o.dst v') w') :
    if Region.wanted o (yielded ops a.tmps) = true then Oper.wp P o a w K Q else E := by
  have hw : Region.wanted o (yielded ops a.tmps) = true := by simp [Region.wanted, hg]
  rw [if_pos hw]
  unfold Oper.wp
  simp [execOp, hop, resolve, invoke, builtin, hd, hx, hr, Result.andThen]
  exact hK

theorem ret_bool {a b : Bool} (h : a = b) : Ending.returned (.bool a) = .returned (.bool b) := by rw [h]
set_option maxHeartbeats 1000000 in
theorem broken_calls (A : Option Addr) (c : Nat) (l : List UInt8) (hl : l.length ≤ 1000000) (w : World) (hR : RdB w w.heap.size A l) (hz : A = none → l.length = 0) (hc : l.length ≤ c) (hc2 : c ≤ 9223372036854775807) :
    Calls Try.prog 22 #[.slice A l.length c] w fun e w' => e = .returned (.bool (brk l)) ∧ Below w.heap.size w w' := by
  obtain ⟨W1, hW1⟩ : ∃ W1, (w.alloc (.cells #[.int .u8 0, .int .u8 0] 64)).drew = W1 := ⟨_, rfl⟩
  have hg : W1.heap[w.heap.size]? = some (.cells #[.int .u8 0, .int .u8 0] 64 (0, 0)) := by rw [← hW1]; exact World.alloc_heap_new w _
  have hb1 : Below w.heap.size w W1 := by rw [← hW1]; exact ((Below.refl _ w).alloc (Nat.le_refl _) _).drew
  have hR1 := hR.go hb1
  obtain ⟨r, hr⟩ : ∃ r, brk l = r := ⟨_, rfl⟩
  rw [hr]
  obtain ⟨z, hzz⟩ : ∃ z, (bAt l 2 == 0 && bAt l 3 == 0) = z := ⟨_, rfl⟩
  have Hz := Lib.hid hzz
  have Hr := Lib.hid hr
  clear hr hzz
  by_cases h3 : 3 ≤ l.length
  · rcases hR with h | ⟨b, off, rfl, hlt, hcs⟩
    · omega
    · have r2 := RdY.drop (RdY.of (S := fun _ => True) hR1 (fun _ _ => trivial)) 2
      obtain ⟨k, W2, hcp, hg2, hb2, -⟩ := copy_two W1 w.heap.size 3 _ hg _ (c - 2) (l.length - 2) _ r2.rd (by simp) (by simp)
      have c0 : W2.cell? ⟨w.heap.size, 0, none⟩ = some (.int .u8 (bAt l 2)) := by rw [World.cell?, hg2]; simp [bAt_drop]
      have c1 : W2.cell? ⟨w.heap.size, 1, none⟩ = some (.int .u8 (bAt l 3)) := by rw [World.cell?, hg2]; simp [bAt_drop]
      have hcs2 : ∀ i, i < l.length → W2.cell? ⟨b, off + i, none⟩ = some (.int .u8 (bAt l i)) := fun i hi => by
        rw [← hcs i hi]; exact (hb1.trans hb2).cell (p := ⟨b, off + i, none⟩) hlt
      have hb3 := hb1.trans hb2
      have HC := Lib.hid hcs2
      have heq : (Op.equalIn 10000 64 (.agg #[.int .u8 (bAt l 2), .int .u8 (bAt l 3)]) (.agg #[.int .u8 0, .int .u8 0])).run Try.prog W2 = .ok (bAt l 2 == 0 && bAt l 3 == 0) W2 := eq_two 9998 W2 _ _
      rw [Hz.out] at heq
      have q1 : (2 : Int) ≤ (l.length : Int) := by omega
      have q2 : (l.length : Int) ≤ (c : Int) := by omega
      have q3 : ¬ c = 2 := by omega
      have q4 : min (2 : Int) (l.length : Int) = 2 := by omega
      clear hg hb1 hR1 hcs r2 hg2 hb2 hz hcs2
      cases z with
      | false =>
        go_enter Try.func22, Try.ntmps22
        go_wp2_with fail
        go_region
        clear hW1 hcp
        go_wp2
        go_ret
        exact ⟨ret_bool (by rw [← Hr.out, brk_two l Hz.out]), hb3⟩
      | true =>
        by_cases h6 : 6 ≤ l.length
        · have i4 := HC.out 4 (by omega)
          have i5 := HC.out 5 (by omega)
          have q6 : (6 : Int) ≤ (l.length : Int) := by omega
          have a4 := bAt_lo l 4
          have b4 := bAt_hi l 4
          have a5 := bAt_lo l 5
          have b5 := bAt_hi l 5
          have ho := or_shl8 (bAt l 4) (bAt l 5) a4 b4 a5 b5
          go_enter Try.func22, Try.ntmps22
          go_wp2_with fail
          go_region
          clear hW1 hcp
          go_wp2
          go_quiet (fail)
          have hs : bAt l 4 * 256 + bAt l 5 = sz l := rfl
          rw [hs]
          have Hs0 := sz_lo l
          have Hs1 := sz_hi l
          have hb4 := hb3.drewN nq
          clear hs ho a4 b4 a5 b5 i4 i5 c0 c1 heq
          generalize W2.drewN nq = W3 at *
          go_wp2
          all_goals (go_ret; exact ⟨ret_bool (by rw [← Hr.out, brk_rest l Hz.out]; simp; omega), hb4⟩)
        · have q6 : (l.length : Int) < 6 := by omega
          go_enter Try.func22, Try.ntmps22
          go_wp2_with fail
          go_region
          clear hW1 hcp
          go_wp2
          go_ret
          exact ⟨ret_bool (by rw [← Hr.out, brk_rest l Hz.out]; simp; omega), hb3⟩
  · have hcp : ∀ a, (Builtin.copy_ #[22, 22] 3 #[.slice (some ⟨w.heap.size, 0, none⟩) 2 2, .slice a 0 (c - l.length)]).run Try.prog W1 = .ok (.int .i64 0) W1 := fun a =>
      run_copy_none (P := Try.prog) W1 _ _ 3 5 _ _ _ _ _ _ Try.underlying22 (by kernel_rfl) (by rfl)
    have c0 : W1.cell? ⟨w.heap.size, 0, none⟩ = some (.int .u8 0) := by rw [World.cell?, hg]; rfl
    have c1 : W1.cell? ⟨w.heap.size, 1, none⟩ = some (.int .u8 0) := by rw [World.cell?, hg]; rfl
    have heq : (Op.equalIn 10000 64 (.agg #[.int .u8 0, .int .u8 0]) (.agg #[.int .u8 0, .int .u8 0])).run Try.prog W1 = .ok true W1 := eq_two 9998 W1 0 0
    have q1 : (l.length : Int) < 6 := by omega
    have q2 : (l.length : Int) ≤ (c : Int) := by omega
    have q4 : min (2 : Int) (l.length : Int) = l.length := by omega
    have hzt : (bAt l 2 == 0 && bAt l 3 == 0) = true := by rw [bAt_none l 2 (by omega), bAt_none l 3 (by omega)]; rfl
    have Hzt := Lib.hid hzt
    clear hg hR1 hR hz hzt
    go_enter Try.func22, Try.ntmps22
    go_wp2_with fail
    go_region
    all_goals
      clear hcp
      go_wp2
      all_goals (go_ret; exact ⟨ret_bool (by rw [← Hr.out, brk_rest l Hzt.out]; simp; omega), hb1⟩)
end Go.Proofs.Ytmfngkhpaadehaa
