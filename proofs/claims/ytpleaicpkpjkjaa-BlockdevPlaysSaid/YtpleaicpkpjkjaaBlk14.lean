/-
  slices.Backward over a device's cache, walked. Conditions stand at each theorem.
-/
import Derived.Test.YtpleaicpkpjkjaaBlk13
import Derived.Test.YtpleaicpkpjkjaaHeldIn
import Derived.TacticsInMore
import Derived.LoopNIn
import Derived.LoopIn
import Derived.Outline
import Derived.Shelf.Abstract
namespace Go.Proofs.Ytpleaicpkpjkjaa
open Go Go.RowKit Go.Kw Go.Shelf
attribute [local go_sem] Oper.semAt_some
set_option linter.unusedVariables false
set_option linter.unusedSimpArgs false

/-- The cache, as an iterator holds it: the slice's box, the writes' cells. -/
def HoldC (b1 B : Nat) (CA : Option Addr) (cc : Nat) (C : List (Nat × List UInt8)) (W : World) : Prop :=
  Boxed W b1 65 (.slice CA C.length cc) ∧ Rd W B CA (C.length * 129) (fun i => (cacC C).getD i undef)
theorem HoldC.own {B₀ b1 B : Nat} {CA : Option Addr} {cc : Nat} {C : List (Nat × List UInt8)} : OwnW B₀ (HoldC b1 B CA cc C) := (boxed_ownW _ _ _ _).and (Rd.own _ _ _ _ _)
theorem rd_cache {W : World} {B : Nat} {CA : Option Addr} {C : List (Nat × List UInt8)} (h : Rd W B CA (C.length * 129) (fun i => (cacC C).getD i undef)) (hC : ∀ x ∈ C, x.2.length = 128) {k : Nat} (hk : k < C.length) : ∃ cb off, CA = some ⟨cb, off, none⟩ ∧ cb < B ∧ W.rangeAt cb (off + k * 129) (cW (C.getD k default)) := by
  rcases h with h0 | ⟨b, off, e, hb, hc⟩
  · omega
  · refine ⟨b, off, e, hb, fun j v hv => ?_⟩
    have hj : j < 129 := by have h1 := (List.getElem?_eq_some_iff.1 hv).1; rwa [cW_len (hC _ (getD_mem' hk))] at h1
    have := hc (k * 129 + j) (by have : (k + 1) * 129 ≤ C.length * 129 := Nat.mul_le_mul_right _ hk; omega)
    rw [Nat.add_assoc, this]
    show some ((cacC C).getD (k * 129 + j) undef) = some v
    rw [List.getD_eq_getElem?_getD, cacC_get hC k hk j hj, hv]; rfl
/-- What the device's cache is, held. -/
theorem holdC_of {w : World} {B B1 : Nat} {CA : Option Addr} {cc : Nat} {C : List (Nat × List UInt8)} (h : w.ownsRow B 71 129 (.slice CA C.length cc) C.length (cacC C)) (hB : w.heap.size ≤ B1) : Rd w B1 CA (C.length * 129) (fun i => (cacC C).getD i undef) := by
  rcases h.2 with ⟨h', h0⟩ | ⟨g, cap, cur, h', hb, hg, hnc, hcm, hcs, ht⟩
  · exact .inl (by omega)
  · injection h' with h1 h2 h3
    subst h1 h3
    refine .inr ⟨g, 0, rfl, Nat.lt_of_lt_of_le (Array.getElem?_eq_some_iff.1 hg).1 hB, fun i hi => ?_⟩
    rw [Nat.zero_add, h.cellAt i hi]
    have : i < (cacC C).length := by rw [h.1]; exact hi
    show (cacC C)[i]? = some ((cacC C).getD i undef)
    rw [List.getD_eq_getElem?_getD, List.getElem?_eq_getElem this]; rfl
def backE (C : List (Nat × List UInt8)) (i : Nat) : Array Value := #[.int .i64 (i : Int), .agg (cW (C.getD i default)).toArray]
theorem backward_calls (w : World) (A : Option Addr) (n c : Nat) : Calls Try.prog 33 #[.slice A n c] w fun e w' =>
    e = .returned (.func (.func 44) #[] #[.pointer (some ⟨w.heap.size, 0, none⟩)]) ∧ w' = w.alloc (.cells #[.slice A n c] 65) := by
  go_enter Try.func33, Try.ntmps33
  go_wp2
  go_ret
  exact ⟨rfl, rfl⟩
theorem back_at (n k : Nat) (h : k < n) : (List.range n).reverse[k]? = some (n - 1 - k) := by
  rw [List.getElem?_reverse (by simpa using h), List.length_range, List.getElem?_range (by omega)]
set_option maxRecDepth 100000 in
set_option maxHeartbeats 8000000 in
theorem back_seq (b1 B : Nat) (CA : Option Addr) (cc : Nat) (C : List (Nat × List UInt8)) (hC : ∀ x ∈ C, x.2.length = 128) (hm : C.length ≤ 256) :
    SeqW Try.prog 44 #[.pointer (some ⟨b1, 0, none⟩)] (backE C) (List.range C.length).reverse (fun A B => Below A.heap.size A B)
      (fun W => HoldC b1 B CA cc C W ∧ B ≤ W.heap.size) (fun _ W => HoldC b1 B CA cc C W ∧ B ≤ W.heap.size) (fun _ => True) (fun _ _ => True) := by
  intro lo J Jx hJ hJx hY W ⟨hH, hB⟩ h0
  have hF := wide_fn
  have HY := Lib.hid hY
  have HC := Lib.hid hC
  have Hm := Lib.hid hm
  have c0 := hH.1.cell
  rw [List.length_reverse, List.length_range]
  have w1 : IntKind.i64.wrap ((C.length : Int) - 1) = (C.length : Int) - 1 := IntWalk.i64_in _ (by omega)
  have w1' : wrap64 ((C.length : Int) - 1) = (C.length : Int) - 1 := wrap64_in' _ (by omega)
  clear hY hJ hJx hC hm
  refine callsIn_of_wp Try.func44 rfl (hF _) ?_ rfl
  simp only [Try.ntmps44, List.size_toArray, List.length_cons, List.length_nil, Nat.reduceAdd, Nat.reduceSub, Array.replicate_succ, Array.replicate_zero, List.push_toArray, List.append_toArray, List.nil_append, List.cons_append]
  gi_wp2
  clear c0 w1 w1'
  gi_loopw [3] (fun i wr => ∃ k : Nat, k ≤ C.length ∧ i = .int .i64 ((C.length : Int) - 1 - k) ∧ J k wr ∧ HoldC b1 B CA cc C wr ∧ B ≤ wr.heap.size) (fun i _ => (intOf i + 1).toNat)
  case atStart => exact ⟨0, Nat.zero_le _, by simp, h0, hH, hB⟩
  case round =>
    obtain ⟨k, hk, rfl, hJk, hHk, hBs⟩ := hrel
    clear h0 hH hB
    have c0 := hHk.1.cell
    by_cases hlt : k < C.length
    · obtain ⟨q, hq⟩ : ∃ q : Nat, q = C.length - 1 - k := ⟨_, rfl⟩
      have hqi : (C.length : Int) - 1 - k = (q : Int) := by omega
      rw [hqi]
      have hql : q < C.length := by omega
      have hI : (q : Int) < (C.length : Int) := by omega
      have hk0 : (0 : Int) ≤ (q : Int) := by omega
      have kg : decide ((q : Int) ≥ 0) = true := decide_eq_true hk0
      obtain ⟨cb, off, rfl, hcb, hrg⟩ := rd_cache hHk.2 HC.out hql
      have hxl := HC.out _ (getD_mem' hql)
      obtain ⟨fn, tmps, assign, body, hy, hYR⟩ := HY.out k q wr (by rw [back_at _ _ hlt, hq]) hJk ⟨hHk, hBs⟩
      unfold backE at hy
      obtain ⟨x, hx⟩ : ∃ x, C.getD q default = x := ⟨_, rfl⟩
      rw [hx] at hy hrg hxl
      have HI := Lib.hid (show (Try.prog.info? 71).map (·.size) = some (cW x).length by rw [cW_len hxl]; kernel_rfl)
      have HR := Lib.hid hrg
      have Hq := Lib.hid (And.intro hlt hq)
      have X1 := Lib.hid (show wrap64 ((q : Int) - 1) = (q : Int) - 1 from wrap64_in' _ (by have := Hm.out; omega))
      clear hx hrg hlt hq hqi hql hJk hHk hBs hk hxl
      gi_wp2_with (first | (refine wpListIn_via wide_wide rfl (by intro c hc; cases hc) (fun K hK => wp_load_mid _ _ rfl _ _ rfl _ _ HR.out Try.underlying71 (by rfl) HI.out (hK _ _ ?_)); clear hK K))
      refine hYR.mono ?_
      rintro e W3 ⟨hG3, (⟨rfl, hJ3⟩ | ⟨rfl, hJx3⟩)⟩
      · clear hy
        gi_wp2
        rw [X1.out]
        go_roundw
        case rel => exact ⟨k + 1, Hq.out.1, by have := Hq.out.2; have := Hq.out.1; push_cast; congr 1; omega, hJ3, hG3⟩
        case measure => simp [intOf]
      · clear hy
        gi_wp2
        first | (refine bodyPost_ret (results_none rfl _ _ _) rfl ?_) | go_end0
        first | exact ⟨⟨_, rfl⟩, .inr ⟨k, Hq.out.1, hJx3, trivial⟩⟩ | exact ⟨⟨_, rfl⟩, .inr ⟨k, Hq.out.1, hJx3⟩⟩
    · obtain rfl : k = C.length := by omega
      have hI : decide ((C.length : Int) - 1 - (C.length : Int) ≥ 0) = false := decide_eq_false (by omega)
      gi_wp2
      go_end0
      first | exact ⟨⟨_, rfl⟩, .inl ⟨hJk, trivial⟩⟩ | exact ⟨⟨_, rfl⟩, .inl hJk⟩
end Go.Proofs.Ytpleaicpkpjkjaa
