/-
  Texts that the proof leans on, merged by program, part 7. Conditions stand at each theorem.
-/
import Derived.Test.YtgbkedjjgbhcmaaDoorTarM2
import Derived.Test.YtgbkedjjgbhcmaaDoorTarM3
import Derived.Test.YtgbkedjjgbhcmaaDoorTarM4
import Derived.Test.YtgbkedjjgbhcmaaDoorTarM5
import Derived.Test.YtgbkedjjgbhcmaaDoorTarM6
import Derived.Shelf.Abstract
import Derived.OwnWalkIn
import Derived.TacticsInMore
import Derived.LoopNIn
import Derived.LoopIn
import Derived.Outline
import Derived.Shelf.RegionOpen
import Derived.Laws.StructEq
/-
  Sum of package fixq, walked: its words, its closure. Conditions: at most 1,000 numbers, in their range.
-/
namespace Go.Proofs.YtgbkedjjgbhcmaaDoor
open Go Go.RowKit Go.Kw Go.Shelf
attribute [local go_sem] Oper.semAt_some
set_option linter.unusedVariables false
set_option linter.unusedSimpArgs false

theorem run_store_func {P : Program} {a : Addr} {m : Mode} (f : Fn) (r : Array Value) (b : Array Value) (w : World) : (store a (.func f r b) m).run P w = stored P w a (.func f r b) m := run_store P w a _ m rfl
attribute [local go_sem] run_store_func
theorem add64_run (x y c : Int) (hx : 0 ≤ x) (hy : 0 ≤ y) (hc0 : 0 ≤ c) (hc : c ≤ 1) (w : World) :
    (callFunc 42 #[.int .u64 x, .int .u64 y, .int .u64 c]).run Tryd.prog w =
      .ok (.value (.tuple #[.int .u64 ((x + y + c) % 18446744073709551616), .int .u64 ((x + y + c) / 18446744073709551616)])) w := by
  rw [run_callFunc_extern Tryd.func42 (by kernel_rfl) (by kernel_rfl) (by kernel_rfl) (e := add64Entry) (by kernel_rfl), run_add64 x y c hx hy hc0 hc]
  rfl

theorem put_calls (B C : Nat) (lo hi a b : Int) (hlo : 0 ≤ lo) (hhi : 0 ≤ hi) (ha : 0 ≤ a) (hb : 0 ≤ b) (hs : lo + a < 36893488147419103232) (hBC : B ≠ C) (w : World) (hB : Boxed w B 66 (.int .u64 lo)) (hC : Boxed w C 66 (.int .u64 hi)) :
    Calls Tryd.prog 45 #[.int .u64 a, .int .u64 b, .pointer (some ⟨B, 0, none⟩), .pointer (some ⟨C, 0, none⟩)] w fun e w' => (∃ v, e = .returned v) ∧
      w' = (w.setCell ⟨B, 0, none⟩ (.int .u64 ((lo + a) % 18446744073709551616))).setCell ⟨C, 0, none⟩ (.int .u64 ((hi + b + (lo + a) / 18446744073709551616) % 18446744073709551616)) := by
  have h1 := add64_run lo a 0 hlo ha (by omega) (by omega)
  rw [Int.add_zero] at h1
  have h2 := add64_run hi b ((lo + a) / 18446744073709551616) hhi hb (by omega) (by omega)
  have c1 := hB.cell
  have f1 := hB.frozen
  have c2 := hC.cell
  have f2 := hC.frozen
  go_enter Tryd.func45, Tryd.ntmps45
  go_wp2_with (simp only [h1, h2])
  go_end0
  exact ⟨⟨_, rfl⟩, rfl⟩

theorem words_calls (A : Option Addr) (n c : Nat) (w : World) :
    Calls Tryd.prog 46 #[.slice A n c] w fun e w' => e = .returned (.func (.func 69) #[] #[.pointer (some ⟨w.heap.size, 0, none⟩)]) ∧ w' = w.alloc (.cells #[.slice A n c] 56) := by
  go_enter Tryd.func46, Tryd.ntmps46
  go_wp2
  go_ret
  exact ⟨rfl, rfl⟩

def RdI (w : World) (B : Nat) (A : Option Addr) (zs : List Int) : Prop := Rd w B A zs.length (fun i => .int .i64 (zs.getD i 0))

set_option maxRecDepth 100000 in
set_option maxHeartbeats 2000000 in
theorem words_seq (B B0 : Nat) (A : Option Addr) (c : Nat) (zs : List Int) (hl : zs.length ≤ 1000000) (hr : ∀ i, i < zs.length → inR (zs.getD i 0)) :
    SeqW Tryd.prog 69 #[.pointer (some ⟨B, 0, none⟩)] (fun x : Int => #[.int .u64 (x % 18446744073709551616), .int .u64 ((x / 9223372036854775808) % 18446744073709551616)]) zs (fun A B => A = B)
      (fun W => W.cell? ⟨B, 0, none⟩ = some (.slice A zs.length c) ∧ RdI W B0 A zs) (fun _ W => RdI W B0 A zs) (fun _ => True) (fun _ _ => True) := by
  intro lo J Jx hJ hJx hY W ⟨hB, hR⟩ h0
  have hF := wide_fn
  refine callsIn_of_wp Tryd.func69 rfl (hF _) ?_ rfl
  simp only [Tryd.ntmps69, List.size_toArray, List.length_cons, List.length_nil, Nat.reduceAdd, Nat.reduceSub, Array.replicate_succ, Array.replicate_zero, List.push_toArray, List.append_toArray, List.nil_append, List.cons_append]
  gi_wp2
  gi_loopw [4, 7] (fun _ i wr => ∃ k : Nat, k ≤ zs.length ∧ i = .int .i64 k ∧ J k wr ∧ RdI wr B0 A zs)
    (fun _ i _ => zs.length - (intOf i).toNat)
  case atStart => exact ⟨0, Nat.zero_le _, rfl, h0, hR⟩
  case round =>
    obtain ⟨k, hk, rfl, hJs, hRs⟩ := hrel
    by_cases hlt : k < zs.length
    · obtain ⟨b, off, rfl, hbs, hc⟩ := Rd.at_ hRs hlt
      obtain ⟨x, hx⟩ : ∃ x, zs.getD k 0 = x := ⟨_, rfl⟩
      have hg : zs[k]? = some x := by rw [← hx]; simp [List.getD, hlt]
      have hxr := hr k hlt
      rw [hx] at hc hxr
      obtain ⟨fn, tmps, assign, body, hy, hYR⟩ := hY k _ wr hg hJs hRs
      have w2 : IntKind.u64.wrap (x / 9223372036854775808) = (x / 9223372036854775808) % 18446744073709551616 := IntKind.wrap_u64 _
      have w1 : IntKind.u64.wrap x = x % 18446744073709551616 := IntKind.wrap_u64 x
      clear hY hx hr
      gi_wp2
      refine hYR.mono ?_
      rintro e W3 ⟨hR3, (⟨rfl, hJ3⟩ | ⟨rfl, hJx3⟩)⟩
      · gi_wp2
        go_roundw
        case rel => exact ⟨k + 1, by omega, by simp, hJ3, hR3⟩
        case measure => simp [intOf]; omega
      · gi_wp2
        refine bodyPost_ret (results_none rfl _ _ _) rfl ?_
        exact ⟨⟨_, rfl⟩, .inr ⟨k, hlt, hJx3, trivial⟩⟩
    · obtain rfl : k = zs.length := by omega
      gi_wp2
      go_end0
      exact ⟨⟨_, rfl⟩, .inl ⟨hJs, trivial⟩⟩

/-- The number that both words make. -/
def lowI (xs : List Int) : Int := xs.sum % 18446744073709551616
def highI (xs : List Int) : Int := xs.sum / 18446744073709551616 % 18446744073709551616
theorem sum_snoc (xs : List Int) (k : Nat) (x : Int) (h : xs[k]? = some x) : (xs.take (k + 1)).sum = (xs.take k).sum + x := by
  obtain ⟨hlt, rfl⟩ := List.getElem?_eq_some_iff.1 h
  rw [List.take_succ_eq_append_getElem hlt, List.sum_append]; simp
theorem low_step (S x : Int) (hx : inR x) : (S % 18446744073709551616 + x % 18446744073709551616) % 18446744073709551616 = (S + x) % 18446744073709551616 := by omega
theorem high_step (S x : Int) (hx : inR x) : (S / 18446744073709551616 % 18446744073709551616 + x / 9223372036854775808 % 18446744073709551616 + (S % 18446744073709551616 + x % 18446744073709551616) / 18446744073709551616) % 18446744073709551616 = (S + x) / 18446744073709551616 % 18446744073709551616 := by
  unfold inR at hx
  have e1 : S = 18446744073709551616 * (S / 18446744073709551616) + S % 18446744073709551616 := by omega
  have r1 : 0 ≤ S % 18446744073709551616 ∧ S % 18446744073709551616 < 18446744073709551616 := by omega
  generalize S / 18446744073709551616 = q at *
  generalize S % 18446744073709551616 = r at *
  subst e1
  by_cases h0 : 0 ≤ x
  · have h1 : x / 9223372036854775808 = 0 := by omega
    have h2 : x % 18446744073709551616 = x := by omega
    have h3 : (18446744073709551616 * q + r + x) / 18446744073709551616 = q + (r + x) / 18446744073709551616 := by omega
    rw [h1, h2, h3]; omega
  · have h1 : x / 9223372036854775808 = -1 := by omega
    have h2 : x % 18446744073709551616 = x + 18446744073709551616 := by omega
    have h3 : (18446744073709551616 * q + r + x) / 18446744073709551616 = q + (r + (x + 18446744073709551616)) / 18446744073709551616 - 1 := by omega
    rw [h1, h2, h3]; omega

theorem sum_bound (zs : List Int) (h : ∀ x ∈ zs, inR x) : -(9223372036854775808 * (zs.length : Int)) ≤ zs.sum ∧ zs.sum ≤ 9223372036854775808 * (zs.length : Int) := by
  induction zs with
  | nil => simp
  | cons x zs ih =>
    have h1 := h x (by simp)
    have h2 := ih (fun y hy => h y (by simp [hy]))
    unfold inR at h1
    rw [List.sum_cons, List.length_cons]; push_cast; omega
theorem sum_test (zs : List Int) (hl : zs.length ≤ 1000) (hr : ∀ i, i < zs.length → inR (zs.getD i 0)) :
    (inR zs.sum → (IntKind.u64.wrap (wrap64 (lowI zs) / 9223372036854775808) == highI zs) = true ∧ wrap64 (lowI zs) = zs.sum) ∧
    (¬ inR zs.sum → (IntKind.u64.wrap (wrap64 (lowI zs) / 9223372036854775808) == highI zs) = false) := by
  obtain ⟨b1, b2⟩ := sum_bound zs (fun x hx => by
    obtain ⟨i, hi, rfl⟩ := List.mem_iff_getElem.1 hx
    have := hr i hi
    rwa [List.getD_eq_getElem?_getD, List.getElem?_eq_getElem hi] at this)
  rw [IntKind.wrap_u64]
  unfold lowI highI wrap64 inR
  generalize zs.sum = S at *
  have hb : -(9223372036854775808 * 1000) ≤ S ∧ S ≤ 9223372036854775808 * 1000 := by omega
  clear b1 b2 hr hl
  have e1 : S = 18446744073709551616 * (S / 18446744073709551616) + S % 18446744073709551616 := by omega
  have r1 : 0 ≤ S % 18446744073709551616 ∧ S % 18446744073709551616 < 18446744073709551616 := by omega
  generalize S / 18446744073709551616 = q at *
  generalize S % 18446744073709551616 = r at *
  subst e1
  have hq : -5000 ≤ q ∧ q ≤ 5000 := by omega
  by_cases hr : r < 9223372036854775808
  · have h1 : ((r + 9223372036854775808) % 18446744073709551616 - 9223372036854775808) = r := by omega
    have h2 : r / 9223372036854775808 % 18446744073709551616 = 0 := by omega
    rw [h1, h2]
    refine ⟨fun h => ⟨?_, by omega⟩, fun h => ?_⟩
    · simp only [beq_iff_eq]; omega
    · simp only [beq_eq_false_iff_ne, ne_eq]; omega
  · have h1 : ((r + 9223372036854775808) % 18446744073709551616 - 9223372036854775808) = r - 18446744073709551616 := by omega
    have h2 : (r - 18446744073709551616) / 9223372036854775808 % 18446744073709551616 = 18446744073709551615 := by omega
    rw [h1, h2]
    refine ⟨fun h => ⟨?_, by omega⟩, fun h => ?_⟩
    · simp only [beq_iff_eq]; omega
    · simp only [beq_eq_false_iff_ne, ne_eq]; omega

set_option maxRecDepth 100000 in
set_option maxHeartbeats 2000000 in
theorem sum_calls (A : Option Addr) (c : Nat) (zs : List Int) (hl : zs.length ≤ 1000) (hr : ∀ i, i < zs.length → inR (zs.getD i 0)) (w : World) (hR : RdI w w.heap.size A zs) :
    Calls Tryd.prog 23 #[.slice A zs.length c] w fun e w' => e = .returned (okV zs.sum) ∧ Below w.heap.size w w' := by
  have hF := wide_fn
  refine calls_of_marks Tryd.func23 rfl ?_
  simp only [Tryd.ntmps23, List.size_toArray, List.length_cons, List.length_nil, Nat.reduceAdd, Nat.reduceSub, Array.replicate_succ, Array.replicate_zero, List.push_toArray, List.append_toArray, List.nil_append, List.cons_append]
  obtain ⟨W2, hW2⟩ : ∃ W2, ((w.alloc (.cells #[.int .u64 0] 66)).alloc (.cells #[.int .u64 0] 66)) = W2 := ⟨_, rfl⟩
  have hs2 : W2.heap.size = w.heap.size + 1 + 1 := by rw [← hW2]; simp
  have bL := (Boxed.new w 66 (.int .u64 0)).alloc (.cells #[.int .u64 0] 66)
  have bH := Boxed.new (w.alloc (.cells #[.int .u64 0] 66)) 66 (.int .u64 0)
  have bP := Boxed.new W2 107 .nilFunc
  have hB2 : Below w.heap.size w W2 := by rw [← hW2]; exact ((Below.refl _ w).alloc (Nat.le_refl _) _).alloc (by simp) _
  simp only [World.size_alloc] at bH
  rw [hW2] at bL bH
  rw [hs2] at bP
  have cP := bP.cell
  have fP := bP.frozen
  obtain ⟨W3, hW3⟩ : ∃ W3, W2.alloc (.cells #[.nilFunc] 107) = W3 := ⟨_, rfl⟩
  have bL3 := bL.alloc (.cells #[.nilFunc] 107)
  have bH3 := bH.alloc (.cells #[.nilFunc] 107)
  have hB3 : Below w.heap.size w W3 := by rw [← hW3]; exact hB2.alloc (by rw [hs2]; omega) _
  have hs3 : W3.heap.size = w.heap.size + 1 + 1 + 1 := by rw [← hW3]; simp [hs2]
  rw [hW3] at bP bL3 bH3 cP fP
  clear bL bH hB2
  gi_wp2_with (first | (refine wpIn_scope ?_) | (refine wpIn_label ?_) | (gi_at_call 46; refine (callsIn_wide.2 (words_calls _ _ _ _)).mono ?_; rintro e w' ⟨rfl, rfl⟩) )
  clear hW2 hW3 hs2
  gi_wp2_with (first | (refine wpIn_scope ?_) | (refine wpIn_label ?_) | (gi_at_call 46; refine (callsIn_wide.2 (words_calls _ _ _ _)).mono ?_; rintro e w' ⟨rfl, rfl⟩))
  obtain ⟨fv, hfv⟩ : ∃ fv : Value, .func (.func 45) #[] #[.pointer (some ⟨w.heap.size, 0, none⟩), .pointer (some ⟨w.heap.size + 1, 0, none⟩)] = fv := ⟨_, rfl⟩
  have bP4 := (bP.set fv).alloc (.cells #[.slice A zs.length c] 56)
  have bL4 := (bL3.kept (grownBy_setCell' W3 (w.heap.size + 1 + 1) fv) (by simp; omega)).alloc (.cells #[.slice A zs.length c] 56)
  have bH4 := (bH3.kept (grownBy_setCell' W3 (w.heap.size + 1 + 1) fv) (by simp)).alloc (.cells #[.slice A zs.length c] 56)
  have bS := Boxed.new (W3.setCell ⟨w.heap.size + 1 + 1, 0, none⟩ fv) 56 (.slice A zs.length c)
  have hB4 : Below w.heap.size w ((W3.setCell ⟨w.heap.size + 1 + 1, 0, none⟩ fv).alloc (.cells #[.slice A zs.length c] 56)) := (hB3.setCell (p := ⟨w.heap.size + 1 + 1, 0, none⟩) (by simp; omega) fv).alloc (by simp [hs3]; omega) _
  rw [show (W3.setCell ⟨w.heap.size + 1 + 1, 0, none⟩ fv).heap.size = w.heap.size + 1 + 1 + 1 from by simp [hs3]] at bS
  rw [hfv]
  obtain ⟨W0, hW0⟩ : ∃ W0, ((W3.setCell ⟨w.heap.size + 1 + 1, 0, none⟩ fv).alloc (.cells #[.slice A zs.length c] 56)) = W0 := ⟨_, rfl⟩
  have hs0 : W0.heap.size = w.heap.size + 1 + 1 + 1 + 1 := by rw [← hW0]; simp [hs3]
  rw [hW0] at bP4 bL4 bH4 bS hB4 ⊢
  clear bP bL3 bH3 cP fP hB3 hs3 hW0
  refine wpIn_rangeX rfl (by decide) (gf := 69) (lb := #[.pointer (some ⟨w.heap.size + 1 + 1 + 1, 0, none⟩)]) rfl trivial (enters_of Tryd.func69 (by kernel_rfl) rfl)
    (words_seq (w.heap.size + 1 + 1 + 1) w.heap.size A c zs (by omega) hr) (fun A B h => h ▸ KeepsOthers.refl _) (fun _ => rfl)
    ((cell_own _ _ _).and (Rd.own _ _ _ _ _)) (fun _ => Rd.own _ _ _ _ _) (OwnW.const _) (fun _ => OwnW.const _) ⟨bS.cell, hR.below hB4⟩
    (fun k W => Boxed W w.heap.size 66 (.int .u64 (lowI (zs.take k))) ∧ Boxed W (w.heap.size + 1) 66 (.int .u64 (highI (zs.take k))) ∧ Boxed W (w.heap.size + 1 + 1) 107 fv ∧ (Below w.heap.size w W ∧ w.heap.size ≤ W.heap.size))
    (fun _ _ _ => False)
    (fun k => (boxed_ownW _ _ _ _).and ((boxed_ownW _ _ _ _).and ((boxed_ownW _ _ _ _).and (below_own (by omega))))) (fun _ _ => OwnW.const _) (fun k A B h e => e ▸ h) (fun _ _ _ _ h _ => h)
    ⟨by simpa [lowI] using bL4, by simpa [highI] using bH4, bP4, hB4, by omega⟩ ?round ?done ?stop
  case round =>
    rintro lo k x W hx _ _
    gi_wp2
    refine ⟨trivial, ?_⟩
    rintro W1 ⟨hn, hp, hq, hB⟩ hG hsz
    have hkl : k < zs.length := (List.getElem?_eq_some_iff.1 hx).1
    have hxr : inR x := by have := hr k hkl; rw [List.getD_eq_getElem?_getD, hx] at this; exact this
    subst hfv
    have hcq := hq.cell
    have hcall := put_calls w.heap.size (w.heap.size + 1) (lowI (zs.take k)) (highI (zs.take k)) (x % 18446744073709551616) (x / 9223372036854775808 % 18446744073709551616) (by unfold lowI; omega) (by unfold highI; omega) (by omega) (by omega) (by unfold lowI; omega) (by omega) W1 hn hp
    gi_wp2_with (gi_at_call 45; refine (CallsIn.inRound lo (callsIn_wide.2 hcall)).mono ?_; rintro e w' ⟨⟨v, rfl⟩, rfl⟩)
    have e1 : (lowI (zs.take k) + x) % 18446744073709551616 = lowI (zs.take (k + 1)) := by
      unfold lowI; rw [sum_snoc zs k x hx]; omega
    have e2 : (highI (zs.take k) + x / 9223372036854775808 % 18446744073709551616 + (lowI (zs.take k) + x % 18446744073709551616) / 18446744073709551616) % 18446744073709551616 = highI (zs.take (k + 1)) := by
      unfold lowI highI; rw [sum_snoc zs k x hx]; exact high_step _ x hxr
    refine ⟨(KeepsOthers.setCell _ _ _).trans (KeepsOthers.setCell _ _ _), Rd.setCell (Rd.setCell hG (Nat.le_refl _) _) (by simp) _, ?_, ?_, ?_, (hB.1.setCell (p := ⟨w.heap.size, 0, none⟩) (Nat.le_refl _) _).setCell (p := ⟨w.heap.size + 1, 0, none⟩) (by simp) _, Nat.le_trans hB.2 ((KeepsOthers.setCell _ _ _).trans (KeepsOthers.setCell _ _ _)).size⟩
    · rw [← e1]; exact (hn.set _).kept (row := some (w.heap.size + 1)) (grownBy_setCell' _ (w.heap.size + 1) _) (by simp)
    · rw [← e2]; exact (hp.kept (grownBy_setCell' _ w.heap.size _) (by simp)).set _
    · exact (hq.kept (grownBy_setCell' _ w.heap.size _) (by simp; omega)).kept (grownBy_setCell' _ (w.heap.size + 1) _) (by simp)
  case done =>
    rintro D W hD ⟨hn, hp, hq, hB⟩ _ hK
    rw [List.take_length] at hn hp
    have hcn := hn.cell
    have hcp := hp.cell
    obtain ⟨q1, q2⟩ := sum_test zs hl hr
    by_cases hin : inR zs.sum
    · have ht := q1 hin
      have Hin := Lib.hid hin
      have Ht := Lib.hid ht.2
      replace ht := ht.1
      clear q1 q2 hin
      gi_wp2
      refine ⟨by simp, .inl ⟨_, _, rfl, run_takeDeferred hK, ?_⟩⟩
      rw [okV_in Hin.out, Ht.out]
      exact ⟨_, results_tmp2 rfl _ _ _, rfl, hB.1.putObj (by omega) hB.2 _⟩
    · have ht := q2 hin
      have Hin := Lib.hid hin
      clear q1 q2 hin
      gi_wp2
      refine ⟨by simp, .inl ⟨_, _, rfl, run_takeDeferred hK, ?_⟩⟩
      rw [okV_out Hin.out]
      exact ⟨_, results_tmp2 rfl _ _ _, rfl, hB.1.putObj (by omega) hB.2 _⟩
  case stop =>
    rintro D c k W _ _ h _ _
    exact h.elim
end Go.Proofs.YtgbkedjjgbhcmaaDoor

/-
  Whether a tariff may be: tariff.Check, walked. Conditions stand at each theorem.
-/
namespace Go.Proofs.YtgbkedjjgbhcmaaDoor
open Go Go.RowKit Go.Kw Go.Kw.Cv Go.Shelf
set_option linter.unusedVariables false
set_option linter.unusedSimpArgs false

def tcF (b : Nat) (f : Nat) : Value := .func (.func f) #[] #[.pointer (some ⟨b, 0, none⟩)]
/-- Where the loop over the parts stands. -/
def TcI (x : Tar) (z : Int) : Prop := (z = 0) ∨ (z = 1 ∧ tE1 x = 0) ∨ (z = 2 ∧ tE1 x = 0 ∧ tE2 x = 0) ∨ (z = 3 ∧ tE1 x = 0 ∧ tE2 x = 0 ∧ tE3 x = 0) ∨ (z = 4 ∧ tE1 x = 0 ∧ tE2 x = 0 ∧ tE3 x = 0 ∧ tE4 x = 0)
set_option maxRecDepth 100000 in
set_option maxHeartbeats 16000000 in
theorem tarCheck_calls (x : Tar) (w : World) (hT : RdTar w x) (hL : Lens w) :
    Calls Tryd.prog 15 #[tarV x] w fun e w' => e = .returned (.int .i64 (tarE x)) ∧ Below w.heap.size w w' := by
  obtain ⟨b0, hb0⟩ : ∃ b0, w.heap.size = b0 := ⟨_, rfl⟩
  have Hb0 := Lib.hid hb0
  obtain ⟨W1, hW1⟩ : ∃ W1, w.alloc (.cells (tarRow x) 54) = W1 := ⟨_, rfl⟩
  have hst : Below w.heap.size w W1 := hW1 ▸ bstep w _
  have hr : W1.heap[b0]? = some (.cells (tarRow x) 54 (0, 0)) := by rw [← hb0, ← hW1]; exact World.alloc_heap_new w _
  have hz1 : W1.heap.size = b0 + 1 := by rw [← hW1]; simp [hb0]
  obtain ⟨W2, hW2⟩ : ∃ W2, W1.alloc (.cells #[tcF b0 30, tcF b0 32, tcF b0 34, tcF b0 36] 95) = W2 := ⟨_, rfl⟩
  have hst2 : Below W1.heap.size W1 W2 := hW2 ▸ bstep W1 _
  have hF : W2.heap[b0 + 1]? = some (.cells #[tcF b0 30, tcF b0 32, tcF b0 34, tcF b0 36] 95 (0, 0)) := by rw [← hz1, ← hW2]; exact World.alloc_heap_new W1 _
  have hz2 : W2.heap.size = b0 + 1 + 1 := by rw [← hW2]; simp [hz1]
  have hb2 := bnext hst hst2
  have HX := Lib.hid (And.intro (hT.go hb2) (And.intro (hL.go hb2) (And.intro (blk_below hr hst2) (And.intro hF hb2))))
  unfold tarRow at hW1
  unfold tcF at hW2
  unfold tarV tarRow
  obtain ⟨E, hE⟩ : ∃ E, tarE x = E := ⟨_, rfl⟩
  have HE := Lib.hid hE
  rw [hE]
  have hB0 := Below.refl W2.heap.size W2
  clear hst hr hst2 hF hb2 hT hL hE
  go_enter Tryd.func15, Tryd.ntmps15
  go_wp2_with fail
  clear hW1 hW2
  go_loopw [12] (fun iv wr => ∃ z : Int, iv = .int .i64 z ∧ TcI x z ∧ Below W2.heap.size W2 wr) (fun iv _ => 4 - (intOf iv).toNat)
  case atStart => exact ⟨0, rfl, .inl rfl, hB0⟩
  case round =>
    obtain ⟨z, rfl, hz, hB⟩ := hrel
    clear hB0
    obtain ⟨x1, x2, x3, x4, x5⟩ := HX.out
    have y3 := blk_below x3 hB
    have y4 := blk_below x4 hB
    have hT := x1.go hB
    have hL := x2.go hB
    have HB := Lib.hid (And.intro hB (bnext x5 hB))
    clear x1 x2 x3 x4 x5 hB
    rcases hz with rfl | ⟨rfl, e1⟩ | ⟨rfl, e1, e2⟩ | ⟨rfl, e1, e2, e3⟩ | ⟨rfl, e1, e2, e3, e4⟩
    · have c0 := cell_of_row wr (b0 + 1) 0 _ _ _ y4
      have hC := tC1_calls x b0 wr hT hL y3
      obtain ⟨X, hX⟩ : ∃ X, tE1 x = X := ⟨_, rfl⟩
      rw [hX] at hC
      have HC := Lib.hid hC
      have HEs := Lib.hid hX
      unfold tcF at c0
      clear hC hX hT hL y3 y4 
      by_cases h0 : X = 0
      · have k0 : (X != 0) = false := by simp [h0]
        have Hz := Lib.hid (show TcI x 1 by
          obtain hX := HEs.out
          rw [h0] at hX
          unfold TcI
          simp [hX])
        clear h0
        go_wp2_with fail
        refine HC.out.mono ?_
        rintro e w4 ⟨rfl, hb4⟩
        have HB4 := Lib.hid (HB.out.1.trans (hb4.mono HB.out.1.size))
        clear hb4
        go_wp2_with fail
        exact ⟨⟨1, rfl, Hz.out, HB4.out⟩, by first | decide | (simp [intOf]; done) | (simp [intOf]; omega)⟩
      · have k0 : (X != 0) = true := by simp [h0]
        have Hno := Lib.hid (show E = X by
          obtain hX := HEs.out
          rw [← HE.out]
          unfold tarE
          simp [hX, h0])
        clear h0
        go_wp2_with fail
        refine HC.out.mono ?_
        rintro e w4 ⟨rfl, hb4⟩
        have HB4 := Lib.hid (bnext HB.out.2 hb4)
        clear hb4
        go_wp2_with fail
        go_ret
        rw [Hno.out]
        exact ⟨rfl, by first | exact HB4.out | (rw [Hb0.out]; exact HB4.out)⟩
    · have c0 := cell_of_row wr (b0 + 1) 1 _ _ _ y4
      have hC := tC2_calls x b0 wr hT hL y3
      obtain ⟨X, hX⟩ : ∃ X, tE2 x = X := ⟨_, rfl⟩
      rw [hX] at hC
      have HC := Lib.hid hC
      have HEs := Lib.hid (And.intro e1 (hX))
      unfold tcF at c0
      clear hC hX hT hL y3 y4 e1
      by_cases h0 : X = 0
      · have k0 : (X != 0) = false := by simp [h0]
        have Hz := Lib.hid (show TcI x 2 by
          obtain ⟨e1, hX⟩ := HEs.out
          rw [h0] at hX
          unfold TcI
          simp [e1, hX])
        clear h0
        go_wp2_with fail
        refine HC.out.mono ?_
        rintro e w4 ⟨rfl, hb4⟩
        have HB4 := Lib.hid (HB.out.1.trans (hb4.mono HB.out.1.size))
        clear hb4
        go_wp2_with fail
        exact ⟨⟨2, rfl, Hz.out, HB4.out⟩, by first | decide | (simp [intOf]; done) | (simp [intOf]; omega)⟩
      · have k0 : (X != 0) = true := by simp [h0]
        have Hno := Lib.hid (show E = X by
          obtain ⟨e1, hX⟩ := HEs.out
          rw [← HE.out]
          unfold tarE
          simp [e1, hX, h0])
        clear h0
        go_wp2_with fail
        refine HC.out.mono ?_
        rintro e w4 ⟨rfl, hb4⟩
        have HB4 := Lib.hid (bnext HB.out.2 hb4)
        clear hb4
        go_wp2_with fail
        go_ret
        rw [Hno.out]
        exact ⟨rfl, by first | exact HB4.out | (rw [Hb0.out]; exact HB4.out)⟩
    · have c0 := cell_of_row wr (b0 + 1) 2 _ _ _ y4
      have hC := tC3_calls x b0 wr hT hL y3
      obtain ⟨X, hX⟩ : ∃ X, tE3 x = X := ⟨_, rfl⟩
      rw [hX] at hC
      have HC := Lib.hid hC
      have HEs := Lib.hid (And.intro e1 (And.intro e2 (hX)))
      unfold tcF at c0
      clear hC hX hT hL y3 y4 e1 e2
      by_cases h0 : X = 0
      · have k0 : (X != 0) = false := by simp [h0]
        have Hz := Lib.hid (show TcI x 3 by
          obtain ⟨e1, e2, hX⟩ := HEs.out
          rw [h0] at hX
          unfold TcI
          simp [e1, e2, hX])
        clear h0
        go_wp2_with fail
        refine HC.out.mono ?_
        rintro e w4 ⟨rfl, hb4⟩
        have HB4 := Lib.hid (HB.out.1.trans (hb4.mono HB.out.1.size))
        clear hb4
        go_wp2_with fail
        exact ⟨⟨3, rfl, Hz.out, HB4.out⟩, by first | decide | (simp [intOf]; done) | (simp [intOf]; omega)⟩
      · have k0 : (X != 0) = true := by simp [h0]
        have Hno := Lib.hid (show E = X by
          obtain ⟨e1, e2, hX⟩ := HEs.out
          rw [← HE.out]
          unfold tarE
          simp [e1, e2, hX, h0])
        clear h0
        go_wp2_with fail
        refine HC.out.mono ?_
        rintro e w4 ⟨rfl, hb4⟩
        have HB4 := Lib.hid (bnext HB.out.2 hb4)
        clear hb4
        go_wp2_with fail
        go_ret
        rw [Hno.out]
        exact ⟨rfl, by first | exact HB4.out | (rw [Hb0.out]; exact HB4.out)⟩
    · have c0 := cell_of_row wr (b0 + 1) 3 _ _ _ y4
      have hC := tC4_calls x b0 wr hT hL y3
      obtain ⟨X, hX⟩ : ∃ X, tE4 x = X := ⟨_, rfl⟩
      rw [hX] at hC
      have HC := Lib.hid hC
      have HEs := Lib.hid (And.intro e1 (And.intro e2 (And.intro e3 (hX))))
      unfold tcF at c0
      clear hC hX hT hL y3 y4 e1 e2 e3
      by_cases h0 : X = 0
      · have k0 : (X != 0) = false := by simp [h0]
        have Hz := Lib.hid (show TcI x 4 by
          obtain ⟨e1, e2, e3, hX⟩ := HEs.out
          rw [h0] at hX
          unfold TcI
          simp [e1, e2, e3, hX])
        clear h0
        go_wp2_with fail
        refine HC.out.mono ?_
        rintro e w4 ⟨rfl, hb4⟩
        have HB4 := Lib.hid (HB.out.1.trans (hb4.mono HB.out.1.size))
        clear hb4
        go_wp2_with fail
        exact ⟨⟨4, rfl, Hz.out, HB4.out⟩, by first | decide | (simp [intOf]; done) | (simp [intOf]; omega)⟩
      · have k0 : (X != 0) = true := by simp [h0]
        have Hno := Lib.hid (show E = X by
          obtain ⟨e1, e2, e3, hX⟩ := HEs.out
          rw [← HE.out]
          unfold tarE
          simp [e1, e2, e3, hX, h0])
        clear h0
        go_wp2_with fail
        refine HC.out.mono ?_
        rintro e w4 ⟨rfl, hb4⟩
        have HB4 := Lib.hid (bnext HB.out.2 hb4)
        clear hb4
        go_wp2_with fail
        go_ret
        rw [Hno.out]
        exact ⟨rfl, by first | exact HB4.out | (rw [Hb0.out]; exact HB4.out)⟩
    · have hE5 : E = tE5 x := by
        rw [← HE.out]
        unfold tarE
        simp [e1, e2, e3, e4]
      have hC := containsEight_calls x.vA x.nv x.cv x.vf x.vF x.vp wr hT.2.2.2.2
      have h5 : tE5 x = if x.nv = 0 then 110 else if noEight x = true then 110 else 0 := rfl
      unfold noEight at h5
      obtain ⟨V, hV⟩ : ∃ V, anyI (fun k => (((x.vF k).2.1 : Int) != 8)) x.nv = V := ⟨_, rfl⟩
      rw [hV] at hC h5
      have HC := Lib.hid hC
      unfold tarRow at y3
      have c6 := cell_of_row wr b0 6 _ _ _ y3
      clear hC hV hT hL y3 y4 e1 e2 e3 e4
      by_cases h0 : x.nv = 0
      · have k0 : ((x.nv : Int) == 0) = true := beq_iff_eq.2 (by omega)
        have Hno := Lib.hid (show E = 110 by rw [hE5, h5, if_pos h0])
        clear h0 hE5 h5
        go_wp2_with fail
        try go_quiet (fail)
        try go_wp2_with fail
        go_ret
        rw [Hno.out]
        exact ⟨rfl, by first | exact HB.out.2 | exact HB.out.2.drewN _ | (rw [Hb0.out]; exact HB.out.2) | (rw [Hb0.out]; exact HB.out.2.drewN _)⟩
      · have k0 : ((x.nv : Int) == 0) = false := beq_eq_false_iff_ne.2 (by omega)
        have Hno := Lib.hid (show E = if V = true then 110 else 0 by rw [hE5, h5, if_neg h0])
        clear h0 hE5 h5
        cases V
        all_goals
          go_wp2_with fail
          refine HC.out.mono ?_
          rintro e w4 ⟨rfl, hb4⟩
          have HB4 := Lib.hid (bnext HB.out.2 hb4)
          clear hb4
          go_wp2_with fail
          go_ret
          rw [Hno.out]
          exact ⟨rfl, by first | exact HB4.out | (rw [Hb0.out]; exact HB4.out)⟩
end Go.Proofs.YtgbkedjjgbhcmaaDoor

/-
  The stretches of a plan: bands.stretches and its iterator, walked. Conditions stand at each theorem.
-/
namespace Go.Proofs.YtgbkedjjgbhcmaaDoor
open Go Go.RowKit Go.Kw Go.Kw.Cv Go.Shelf
attribute [local go_sem] Oper.semAt_some
set_option linter.unusedVariables false
set_option linter.unusedSimpArgs false

theorem stretches_calls (A : Option Addr) (n c : Nat) (w : World) :
    Calls Tryd.prog 50 #[.slice A n c] w fun e w' => e = .returned (.func (.func 70) #[] #[.pointer (some ⟨w.heap.size, 0, none⟩)]) ∧ w' = w.alloc (.cells #[.slice A n c] 83) := by
  go_enter Tryd.func50, Tryd.ntmps50
  go_wp2
  go_ret
  exact ⟨rfl, rfl⟩
/-- A stretch: from when on, until when, which band. -/
def strL (n : Nat) (g : Nat → Nat → Int) : List (Int × Int × Int) := (List.range n).map fun i => (g i 0, swEnd n g i, g i 1)
theorem strL_len (n : Nat) (g : Nat → Nat → Int) : (strL n g).length = n := by simp [strL]
theorem strL_at (n : Nat) (g : Nat → Nat → Int) {k : Nat} (h : k < n) : (strL n g)[k]? = some (g k 0, swEnd n g k, g k 1) := by simp [strL, h]
def strE (x : Int × Int × Int) : Array Value := #[.agg #[.int .i64 x.1, .int .i64 x.2.1], .int .i64 x.2.2]
/-- What the iterator holds: the slice's box, its entries in blocks below B. -/
def HoldT (cb B : Nat) (A : Option Addr) (n c : Nat) (g : Nat → Nat → Int) (W : World) : Prop :=
  Boxed W cb 83 (.slice A n c) ∧ Rd W B A (n * 2) (fun i => .int (kI (i % 2)) (g (i / 2) (i % 2)))
theorem HoldT.own {B₀ cb B : Nat} {A : Option Addr} {n c : Nat} {g : Nat → Nat → Int} : OwnW B₀ (HoldT cb B A n c g) := (boxed_ownW _ _ _ _).and (Rd.own _ _ _ _ _)
/-- THE ITERATOR'S WALK. -/
theorem rd_sw {W : World} {B : Nat} {A : Option Addr} {n : Nat} {g : Nat → Nat → Int} (h : Rd W B A (n * 2) (fun i => .int (kI (i % 2)) (g (i / 2) (i % 2)))) {k : Nat} (hk : k < n) : ∃ b off, A = some ⟨b, off, none⟩ ∧ b < B ∧ W.cell? ⟨b, off + k * 2, none⟩ = some (.int .i64 (g k 0)) ∧ W.cell? ⟨b, off + k * 2 + 1, none⟩ = some (.int .i64 (g k 1)) := by
  rcases h with h0 | ⟨b, off, e, hb, hc⟩
  · omega
  · refine ⟨b, off, e, hb, ?_, ?_⟩
    · have := hc (k * 2) (by omega)
      rw [this]
      show some (Value.int .i64 (g (k * 2 / 2) (k * 2 % 2))) = _
      rw [show k * 2 / 2 = k by omega, show k * 2 % 2 = 0 by omega]
    · have := hc (k * 2 + 1) (by omega)
      rw [← Nat.add_assoc] at this
      rw [this]
      show some (Value.int .i64 (g ((k * 2 + 1) / 2) ((k * 2 + 1) % 2))) = _
      rw [show (k * 2 + 1) / 2 = k by omega, show (k * 2 + 1) % 2 = 1 by omega]
set_option maxRecDepth 100000 in
set_option maxHeartbeats 8000000 in
theorem stretches_seq (cb B : Nat) (A : Option Addr) (n c : Nat) (g : Nat → Nat → Int) (hn : n ≤ 1000) (hc : n ≤ c ∧ c ≤ maxLen) :
    SeqW Tryd.prog 70 #[.pointer (some ⟨cb, 0, none⟩)] strE (strL n g) (fun A B => Below A.heap.size A B)
      (fun W => HoldT cb B A n c g W ∧ B ≤ W.heap.size) (fun _ W => HoldT cb B A n c g W ∧ B ≤ W.heap.size) (fun _ => True) (fun _ _ => True) := by
  intro lo J Jx hJ hJx hY W ⟨hH, hB⟩ h0
  have hF := wide_fn
  have HY := Lib.hid hY
  have HJJ := Lib.hid hJ
  have Hn := Lib.hid hn
  have hcn : (n : Int) ≤ (c : Int) := by omega
  have c0 := hH.1.cell
  rw [strL_len]
  clear hY hJ hJx
  refine callsIn_of_wp Tryd.func70 rfl (hF _) ?_ rfl
  simp only [Tryd.ntmps70, List.size_toArray, List.length_cons, List.length_nil, Nat.reduceAdd, Nat.reduceSub, Array.replicate_succ, Array.replicate_zero, List.push_toArray, List.append_toArray, List.nil_append, List.cons_append]
  gi_wp2
  clear c0
  gi_loopw [8] (fun i wr => ∃ k : Nat, k ≤ n ∧ i = .int .i64 k ∧ J k wr ∧ HoldT cb B A n c g wr ∧ B ≤ wr.heap.size) (fun i _ => n - (intOf i).toNat)
  case atStart => exact ⟨0, Nat.zero_le _, rfl, h0, hH, hB⟩
  case round =>
    obtain ⟨k, hk, rfl, hJk, hHk, hBs⟩ := hrel
    clear h0 hH hB
    by_cases hlt : k < n
    · have hI : (k : Int) < n := by omega
      obtain ⟨b, off, rfl, hbs, p0, p1⟩ := rd_sw hHk.2 hlt
      have hv := strL_at n g hlt
      obtain ⟨W1, hW1⟩ : ∃ W1, wr.alloc (.cells #[.int .i64 (g k 0), .int .i64 (g k 1)] 82) = W1 := ⟨_, rfl⟩
      have hst : Below wr.heap.size wr W1 := hW1 ▸ bstep wr _
      have hr1 : W1.heap[wr.heap.size]? = some (.cells #[.int .i64 (g k 0), .int .i64 (g k 1)] 82 (0, 0)) := hW1 ▸ World.alloc_heap_new wr _
      have d0 := cell_of_row W1 wr.heap.size 0 _ _ _ hr1
      have d1 := cell_of_row W1 wr.heap.size 1 _ _ _ hr1
      have hH1 : HoldT cb B (some ⟨b, off, none⟩) n c g W1 := ⟨blk_below hHk.1 hst, Rd.below hHk.2 (hst.mono hBs)⟩
      have cb1 := hH1.1.cell
      have hR1 := hH1.2
      have w1 : IntKind.i64.wrap ((k : Int) + 1) = (k : Int) + 1 := i64_same _ (by have := Hn.out; omega)
      have X1 := Lib.hid (wrap64_in ((k : Int) + 1) (by have := Hn.out; omega))
      by_cases hk2 : k + 1 < n
      · have hkI : ((k : Int) + 1 < (n : Int)) := by omega
        have hend : swEnd n g k = g (k + 1) 0 := if_pos hk2
        rw [hend] at hv
        obtain ⟨b2, o2, e5, -, q2⟩ := rd_sw hR1 hk2
        injection e5 with e5
        injection e5 with e6 e7
        subst e6 e7
        have hk3 : (0 : Int) ≤ (k : Int) + 1 := by omega
        have hkT : ((k : Int) + 1).toNat = k + 1 := by omega
        obtain ⟨fn, tmps, assign, body, hy, hYR⟩ := HY.out k _ W1 hv (HJJ.out k _ _ hJk hst) ⟨hH1, Nat.le_trans hBs hst.size⟩
        have HX := Lib.hid (And.intro hJk hst)
        have Hk := Lib.hid (show k + 1 ≤ n from hlt)
        unfold strE at hy
        have x1 := X1.out
        clear hv hJk hst hr1 hHk hBs hR1 hH1 hlt hk hend hk2
        gi_wp2
        refine hYR.mono ?_
        rintro e W3 ⟨hG3, (⟨rfl, hJ3⟩ | ⟨rfl, hJx3⟩)⟩
        · clear hy
          gi_wp2
          clear x1
          go_roundw
          case rel => exact ⟨k + 1, Hk.out, by push_cast; rfl, hJ3, hG3⟩
          case measure => exact meas_z n k Hk.out
        · clear hy
          gi_wp2
          first | (refine bodyPost_ret (results_none rfl _ _ _) rfl ?_) | go_end0
          first | exact ⟨⟨_, rfl⟩, .inr ⟨k, Hk.out, hJx3, trivial⟩⟩ | exact ⟨⟨_, rfl⟩, .inr ⟨k, Hk.out, hJx3⟩⟩
      · have hkI : ¬ ((k : Int) + 1 < (n : Int)) := by omega
        have hend : swEnd n g k = 1440 := if_neg hk2
        rw [hend] at hv
        obtain ⟨fn, tmps, assign, body, hy, hYR⟩ := HY.out k _ W1 hv (HJJ.out k _ _ hJk hst) ⟨hH1, Nat.le_trans hBs hst.size⟩
        have HX := Lib.hid (And.intro hJk hst)
        have Hk := Lib.hid (show k + 1 ≤ n from hlt)
        unfold strE at hy
        have x1 := X1.out
        clear hv hJk hst hr1 hHk hBs hR1 hH1 hlt hk hend hk2
        gi_wp2
        refine hYR.mono ?_
        rintro e W3 ⟨hG3, (⟨rfl, hJ3⟩ | ⟨rfl, hJx3⟩)⟩
        · clear hy
          gi_wp2
          clear x1
          go_roundw
          case rel => exact ⟨k + 1, Hk.out, by push_cast; rfl, hJ3, hG3⟩
          case measure => exact meas_z n k Hk.out
        · clear hy
          gi_wp2
          first | (refine bodyPost_ret (results_none rfl _ _ _) rfl ?_) | go_end0
          first | exact ⟨⟨_, rfl⟩, .inr ⟨k, Hk.out, hJx3, trivial⟩⟩ | exact ⟨⟨_, rfl⟩, .inr ⟨k, Hk.out, hJx3⟩⟩
    · obtain rfl : k = n := by omega
      have hI : ¬ ((k : Int) < k) := by omega
      gi_wp2
      go_end0
      first | exact ⟨⟨_, rfl⟩, .inl ⟨hJk, trivial⟩⟩ | exact ⟨⟨_, rfl⟩, .inl hJk⟩
end Go.Proofs.YtgbkedjjgbhcmaaDoor

/-
  A minute's band: bands.Band of a plan that may be, walked. Conditions stand at each theorem.
-/
namespace Go.Proofs.YtgbkedjjgbhcmaaDoor
open Go Go.RowKit Go.Kw Go.Kw.Cv Go.Shelf
attribute [local go_sem] Oper.semAt_some
set_option linter.unusedVariables false
set_option linter.unusedSimpArgs false

/-- An iterator whose values are known early, as one whose values are known late. -/
theorem seqX_late {α : Type} {F : Fence} {n : Nat} {P : Program} {g : Nat} {lb : Array Value} {encs : α → Array Value} {xs : List α} {Ab : World → World → Prop} {Gi : World → Prop} {G : Nat → World → Prop} {Gd : World → Prop} {Gs : Nat → World → Prop}
    (h : SeqX F n P g lb encs xs Ab Gi G Gd Gs) : SeqV F n P g lb xs.length (fun k v _ => ∃ x, xs[k]? = some x ∧ v = encs x) Ab Gi G Gd Gs :=
  fun l J Jx hJ hJx hY W hG h0 => h l J Jx hJ hJx (fun k x W1 hx hj hg => hY k (encs x) W1 (List.getElem?_eq_some_iff.1 hx).1 ⟨x, hx, rfl⟩ hj hg) W hG h0
theorem keepsBel {W W' : World} (h : Below W.heap.size W W') : KeepsOthers W W' := ⟨h.size, fun k o hk _ => (h.block k (Array.getElem?_eq_some_iff.1 hk).1).trans hk⟩
theorem sizeOwn (B₀ n : Nat) : OwnW B₀ (fun W => n ≤ W.heap.size) := fun _ _ _ h hg _ => Nat.le_trans h hg.size
/-- No stretch so far ends behind the minute; its box, and the band's. -/
def BandI (b0 p : Nat) (w : World) (n : Nat) (g : Nat → Nat → Int) (m : Int) (k : Nat) (W : World) : Prop :=
  (∀ j, j < k → swEnd n g j ≤ m) ∧ Boxed W b0 3 (.int .i64 m) ∧ Boxed W p 3 (.int .i64 0) ∧ Below b0 w W ∧ b0 ≤ W.heap.size
def BandX (b0 p : Nat) (w : World) (n : Nat) (g : Nat → Nat → Int) (m : Int) (c : Code) (k : Nat) (W : World) : Prop :=
  c = .exit 0 ∧ (∃ q, k = q + 1 ∧ q < n ∧ m < swEnd n g q ∧ (∀ j, j < q → swEnd n g j ≤ m) ∧ Boxed W p 3 (.int .i64 (g q 1))) ∧ Below b0 w W ∧ b0 ≤ W.heap.size
theorem bandI_own (b0 p : Nat) (w : World) (n : Nat) (g : Nat → Nat → Int) (m : Int) (k : Nat) (B : Nat) (hB : b0 ≤ B) : OwnW B (BandI b0 p w n g m k) :=
  (OwnW.const _).and ((boxed_ownW _ _ _ _).and ((boxed_ownW _ _ _ _).and (below_own hB)))
theorem bandX_own (b0 p : Nat) (w : World) (n : Nat) (g : Nat → Nat → Int) (m : Int) (c : Code) (k : Nat) (B : Nat) (hB : b0 ≤ B) : OwnW B (BandX b0 p w n g m c k) :=
  (OwnW.const _).and ((OwnW.ex fun q => (OwnW.const _).and ((OwnW.const _).and ((OwnW.const _).and ((OwnW.const _).and (boxed_ownW _ _ _ _))))).and (below_own hB))
theorem bandI_go {b0 p : Nat} {w : World} {n : Nat} {g : Nat → Nat → Int} {m : Int} {k : Nat} {A B : World} (h : BandI b0 p w n g m k A) (hb : Below A.heap.size A B) : BandI b0 p w n g m k B :=
  ⟨h.1, blk_below h.2.1 hb, blk_below h.2.2.1 hb, h.2.2.2.1.trans (hb.mono h.2.2.2.2), Nat.le_trans h.2.2.2.2 hb.size⟩
theorem bandX_go {b0 p : Nat} {w : World} {n : Nat} {g : Nat → Nat → Int} {m : Int} {c : Code} {k : Nat} {A B : World} (h : BandX b0 p w n g m c k A) (hb : Below A.heap.size A B) : BandX b0 p w n g m c k B := by
  obtain ⟨h1, ⟨q, h2, h3, h4, h5, h6⟩, h7, h8⟩ := h
  exact ⟨h1, ⟨q, h2, h3, h4, h5, blk_below h6 hb⟩, h7.trans (hb.mono h8), Nat.le_trans h8 hb.size⟩
theorem planE_ok {n : Nat} {g : Nat → Nat → Int} (h : planOk n g) : planE n g = 0 := if_pos h
theorem results_tmp45 {fn : Func} (hr : fn.results = #[.tmp 4, .tmp 5]) (tmps : Array Value) (P : Program) (W : World) : (results fn tmps).run P W = .ok (.tuple #[tmps.getD 4 undef, tmps.getD 5 undef]) W := by
  simp [results, hr, go_sem]
set_option maxRecDepth 100000 in
set_option maxHeartbeats 8000000 in
theorem band_calls (A : Option Addr) (n c : Nat) (g : Nat → Nat → Int) (m : Int) (hok : planOk n g) (hm : 0 ≤ m ∧ m < 1440) (w : World) (hR : IRows 2 kI w A n c g) :
    Calls Tryd.prog 25 #[.slice A n c, .int .i64 m] w fun e w' => e = .returned (.tuple #[.int .i64 (bandV n g m), .bool true]) ∧ Below w.heap.size w w' := by
  have hF := wide_fn
  obtain ⟨b0, hb0⟩ : ∃ b0, w.heap.size = b0 := ⟨_, rfl⟩
  have Hb0 := Lib.hid hb0
  have hst := bstep w (.cells #[.int .i64 m] 3)
  have hX := checkPlan_calls A n c g (w.alloc (.cells #[.int .i64 m] 3)) (hR.go hst)
  rw [planE_ok hok] at hX
  have HX := Lib.hid hX
  have HS := Lib.hid (And.intro hst (And.intro (Boxed.new w 3 (.int .i64 m)) hR))
  have HM := Lib.hid hm
  have HK := Lib.hid hok
  have k0 : decide (m < 0) = false := decide_eq_false (by omega)
  have k1 : decide (m ≥ 1440) = false := decide_eq_false (by omega)
  clear hst hX hR hm hok
  refine calls_of_marks Tryd.func25 rfl ?_
  simp only [Tryd.ntmps25, List.size_toArray, List.length_cons, List.length_nil, Nat.reduceAdd, Nat.reduceSub, Array.replicate_succ, Array.replicate_zero, List.push_toArray, List.append_toArray, List.nil_append, List.cons_append]
  gi_wp2_with (first | (refine wpIn_scope ?_) | (refine wpIn_label ?_))
  refine (callsIn_wide.2 HX.out).mono ?_
  rintro e w2 ⟨rfl, hb2⟩
  obtain ⟨h1, h2, h3⟩ := HS.out
  have hw2 : Below w.heap.size w w2 := bnext h1 hb2
  have bM : Boxed w2 b0 3 (.int .i64 m) := by rw [← Hb0.out]; exact blk_below h2 hb2
  have cM := bM.cell
  have hb0w : b0 ≤ w2.heap.size := by have := hw2.size; omega
  obtain ⟨p, hp⟩ : ∃ p, w2.heap.size = p := ⟨_, rfl⟩
  have Hp := Lib.hid hp
  have bO : Boxed (w2.alloc (.cells #[.int .i64 0] 3)) p 3 (.int .i64 0) := by rw [← hp]; exact Boxed.new w2 _ _
  have hs1 := bstep w2 (.cells #[.int .i64 0] 3)
  have bM1 := blk_below bM hs1
  have hz1 : (w2.alloc (.cells #[.int .i64 0] 3)).heap.size = p + 1 := by simp [hp]
  have HW := Lib.hid (And.intro hw2 (And.intro hb0w (And.intro bM1 (And.intro bO (And.intro hs1 hz1)))))
  have HR := Lib.hid h3
  clear h1 h2 h3 hw2 bM hb2 hb0w bO hs1 bM1 hz1
  gi_wp2_with (first | (refine wpIn_scope ?_) | (refine wpIn_label ?_))
  clear cM
  obtain ⟨hw2, hb0w, bM1, bO, hs1, hz1⟩ := HW.out
  obtain ⟨W3, hW3⟩ : ∃ W3, w2.alloc (.cells #[.int .i64 0] 3) = W3 := ⟨_, rfl⟩
  rw [hW3] at bM1 bO hs1 hz1
  have hw3 := bnext hw2 hs1
  refine (callsIn_wide.2 (stretches_calls A n c _)).mono ?_
  rw [hW3]
  have hs4 := bstep W3 (.cells #[.slice A n c] 83)
  have bS : Boxed (W3.alloc (.cells #[.slice A n c] 83)) (p + 1) 83 (.slice A n c) := by rw [← hz1]; exact Boxed.new W3 _ _
  have bM4 := blk_below bM1 hs4
  have bO4 := blk_below bO hs4
  have hw4 := bnext hw3 hs4
  have hz4 : (W3.alloc (.cells #[.slice A n c] 83)).heap.size = p + 2 := by simp [hz1]
  obtain ⟨W4, hW4⟩ : ∃ W4, W3.alloc (.cells #[.slice A n c] 83) = W4 := ⟨_, rfl⟩
  rw [hW4] at bS bM4 bO4 hw4 hz4
  rw [hW4, hz1]
  rintro e w4 ⟨rfl, rfl⟩
  have hR4 := HR.out.go hw4
  have hRd : Rd w4 b0 A (n * 2) (fun i => .int (kI (i % 2)) (g (i / 2) (i % 2))) := by
    have h := HR.out.2.2.2.1
    rw [Hb0.out] at h
    exact Rd.below h (Hb0.out ▸ hw4)
  have hcc := And.intro HR.out.1 HR.out.2.1
  have hn48 := HK.out.1.2.1
  rw [Hb0.out] at hw4
  clear hW3 hW4 hw2 hs1 hz1 hw3 hs4 bM1 bO hR4
  gi_wp2_with (first | (refine wpIn_scope ?_) | (refine wpIn_label ?_))
  have hpb : b0 ≤ p := by have := Hp.out; omega
  refine wpIn_rangeV rfl (by decide) (gf := 70) (lb := #[.pointer (some ⟨p + 1, 0, none⟩)]) rfl trivial (enters_of Tryd.func70 (by kernel_rfl) rfl)
    (seqX_late (stretches_seq (p + 1) b0 A n c g (by omega) hcc)) (fun A B h => keepsBel h) (fun k v W hv => by obtain ⟨x, -, rfl⟩ := hv; rfl)
    (HoldT.own.and (sizeOwn _ _)) (fun _ => HoldT.own.and (sizeOwn _ _)) (OwnW.const _) (fun _ => OwnW.const _) ⟨⟨bS, hRd⟩, by omega⟩
    (BandI b0 p w n g m) (BandX b0 p w n g m) (fun k => bandI_own _ _ _ _ _ _ _ _ (by omega)) (fun c k => bandX_own _ _ _ _ _ _ _ _ _ (by omega)) (fun k A B h hb => bandI_go h hb) (fun c k A B h hb => bandX_go h hb)
    ⟨fun j hj => absurd hj (by omega), bM4, bO4, hw4, by omega⟩ ?round ?done ?stop
  case round =>
    rintro lo k x W hk ⟨x, hx, rfl⟩ hI hG
    rw [strL_len] at hk
    rw [strL_at n g hk] at hx
    injection hx with hx
    subst hx
    unfold strE
    obtain ⟨W1, hW1⟩ : ∃ W1, W.alloc (.cells #[.int .i64 (g k 0), .int .i64 (swEnd n g k)] 118) = W1 := ⟨_, rfl⟩
    have hst : Below W.heap.size W W1 := hW1 ▸ bstep W _
    have hr1 : W1.heap[W.heap.size]? = some (.cells #[.int .i64 (g k 0), .int .i64 (swEnd n g k)] 118 (0, 0)) := hW1 ▸ World.alloc_heap_new W _
    obtain ⟨q, hq⟩ : ∃ q, W.heap.size = q := ⟨_, rfl⟩
    have Hq := Lib.hid hq
    rw [hq] at hr1
    have HI := Lib.hid hI
    have HG := Lib.hid (show HoldT (p + 1) b0 A n c g W1 ∧ b0 ≤ W1.heap.size from ⟨⟨blk_below hG.1.1 hst, Rd.below hG.1.2 (hst.mono hG.2)⟩, Nat.le_trans hG.2 hst.size⟩)
    have Hst := Lib.hid hst
    have Hr1 := Lib.hid hr1
    have HW1 := Lib.hid hW1
    clear bS bM4 bO4 hw4 hz4 hRd hcc hn48 hI hG hst hr1 hW1
    gi_wp2
    rw [HW1.out]
    refine ⟨keepsBel Hst.out, bandI_go HI.out Hst.out, HG.out, fun X => X.heap[q]? = some (.cells #[.int .i64 (g k 0), .int .i64 (swEnd n g k)] 118 (0, 0)), block_ownW, Hr1.out, ?_⟩
    rintro X hrX ⟨hall, hbM, hbO, hbw, hbs⟩ hGX hszX
    have cM := hbM.cell
    have c1 := cell_of_row X q 1 _ _ _ hrX
    obtain ⟨E, hE⟩ : ∃ E, swEnd n g k = E := ⟨_, rfl⟩
    rw [hE] at c1
    have HE := Lib.hid hE
    obtain ⟨D, hD⟩ : ∃ D, g k 1 = D := ⟨_, rfl⟩
    rw [hD]
    clear hE
    by_cases hlt : m < E
    · have kl : decide (m < E) = true := decide_eq_true hlt
      have fO := hbO.frozen
      have cO := hbO.cell
      have HH := Lib.hid (show KeepsOthers X (X.setCell ⟨p, 0, none⟩ (.int .i64 D)) ∧ (HoldT (p + 1) b0 A n c g (X.setCell ⟨p, 0, none⟩ (.int .i64 D)) ∧ b0 ≤ (X.setCell ⟨p, 0, none⟩ (.int .i64 D)).heap.size) ∧ BandX b0 p w n g m (.exit 0) (k + 1) (X.setCell ⟨p, 0, none⟩ (.int .i64 D)) from
        ⟨KeepsOthers.setCell _ _ _, ⟨⟨(heap_setCell_other X ⟨p, 0, none⟩ (p + 1) _ (by show p + 1 ≠ p; omega)).trans hGX.1.1, Rd.setCell hGX.1.2 (by show b0 ≤ p; exact hpb) _⟩, by simpa using hGX.2⟩,
          rfl, ⟨k, rfl, hk, by rw [HE.out]; exact hlt, hall, by rw [hD]; exact hbO.set _⟩, hbw.setCell (p := ⟨p, 0, none⟩) hpb _, by simpa using hbs⟩)
      clear hD hall hbM hbO hbw hbs hGX hszX hrX hlt
      gi_wp2
      exact HH.out
    · have kl : decide (m < E) = false := decide_eq_false hlt
      have HH := Lib.hid (show KeepsOthers X X ∧ (HoldT (p + 1) b0 A n c g X ∧ b0 ≤ X.heap.size) ∧ BandI b0 p w n g m (k + 1) X from
        ⟨KeepsOthers.refl _, hGX, fun j hj => by
          by_cases e : j = k
          · rw [e, HE.out]; omega
          · exact hall j (by omega), hbM, hbO, hbw, hbs⟩)
      clear hD hall hbM hbO hbw hbs hGX hszX hrX hlt
      gi_wp2
      exact HH.out
  case done =>
    rintro D W hD ⟨hall, hbM, hbO, hbw, hbs⟩ _ hK
    exfalso
    rw [strL_len] at hall
    have h1 := HK.out.1.1
    have h2 := hall (n - 1) (by omega)
    unfold swEnd at h2
    rw [if_neg (by omega)] at h2
    have := HM.out.2
    omega
  case stop =>
    rintro D c k W hD hk ⟨rfl, ⟨q, hkq, hq, h1, h2, hbO⟩, hbw, hbs⟩ _ hK
    obtain rfl : q = k := by omega
    have hDb : b0 ≤ D := by rw [hz4] at hD; omega
    have hv : bandV n g m = g q 1 := by unfold bandV; rw [swAt_first HK.out HM.out hq h1 h2]
    have HV := Lib.hid hv
    have cb := hbO.cell
    clear hv h1 h2 bS bM4 bO4 hw4 hz4 hRd hcc hn48
    gi_wp2
    refine ⟨by simp, .inl ⟨_, _, rfl, run_takeDeferred hK, ?_⟩⟩
    refine ⟨_, results_tmp45 rfl _ _ _, by rw [HV.out]; rfl, ?_⟩
    first | exact hbw.putObj hDb hbs _ | (rw [Hb0.out]; exact hbw.putObj hDb hbs _)
end Go.Proofs.YtgbkedjjgbhcmaaDoor

/-
  Whether a zone may be, by the document: kilowattref07.change, May, walked. Conditions stand at each theorem.
-/
namespace Go.Proofs.YtgbkedjjgbhcmaaDoor
open Go Go.RowKit Go.Kw Go.Kw.Cv Go.Shelf
set_option linter.unusedVariables false
set_option linter.unusedSimpArgs false

end Go.Proofs.YtgbkedjjgbhcmaaDoor

/-
  An instant's moment: civil.At, walked. Conditions stand at each theorem.
-/
namespace Go.Proofs.YtgbkedjjgbhcmaaDoor
open Go Go.RowKit Go.Kw Go.Kw.Cv Go.Shelf
set_option linter.unusedVariables false
set_option linter.unusedSimpArgs false

/-- A moment's cells. -/
def momC (y m d h mi s : Int) : Array Value := #[.int .i64 y, .int .i64 m, .int .i64 d, .int .i64 h, .int .i64 mi, .int .i64 s]
noncomputable def momV (t : Int) : Value := .agg #[.int .i64 (zD (t / 86400)).1, .int .i64 (zD (t / 86400)).2.1, .int .i64 (zD (t / 86400)).2.2, .int .i64 (t % 86400 / 3600), .int .i64 (t % 86400 / 60 % 60), .int .i64 (t % 86400 % 60)]
theorem set6_below {B b : Nat} {W W' : World} (h : Below B W W') (hb : B ≤ b) (u0 u1 u2 u3 u4 u5 : Value) : Below B W ((((((W'.setCell ⟨b, 0, none⟩ u0).setCell ⟨b, 1, none⟩ u1).setCell ⟨b, 2, none⟩ u2).setCell ⟨b, 3, none⟩ u3).setCell ⟨b, 4, none⟩ u4).setCell ⟨b, 5, none⟩ u5) :=
  (((((h.setCell (p := ⟨b, 0, none⟩) hb u0).setCell (p := ⟨b, 1, none⟩) hb u1).setCell (p := ⟨b, 2, none⟩) hb u2).setCell (p := ⟨b, 3, none⟩) hb u3).setCell (p := ⟨b, 4, none⟩) hb u4).setCell (p := ⟨b, 5, none⟩) hb u5
theorem set6_row {b : Nat} {W : World} {t : TypeId} {a0 a1 a2 a3 a4 a5 : Value} (h : W.heap[b]? = some (.cells #[a0, a1, a2, a3, a4, a5] t (0, 0))) (u0 u1 u2 u3 u4 u5 : Value) :
    ((((((W.setCell ⟨b, 0, none⟩ u0).setCell ⟨b, 1, none⟩ u1).setCell ⟨b, 2, none⟩ u2).setCell ⟨b, 3, none⟩ u3).setCell ⟨b, 4, none⟩ u4).setCell ⟨b, 5, none⟩ u5).heap[b]? = some (.cells #[u0, u1, u2, u3, u4, u5] t (0, 0)) :=
  heap_setCell_same _ b 5 _ _ u5 (heap_setCell_same _ b 4 _ _ u4 (heap_setCell_same _ b 3 _ _ u3 (heap_setCell_same _ b 2 _ _ u2 (heap_setCell_same _ b 1 _ _ u1 (heap_setCell_same _ b 0 _ _ u0 h)))))
theorem mom_size : (Tryd.prog.info? 151).map (·.size) = some 6 := by kernel_rfl
theorem res_mom {fn : Func} {p t2 : Tmp} (h : fn.results = #[.cell p 151, .tmp t2]) {tmps : Array Value} {w : World} {g : Nat} {a0 a1 a2 a3 a4 a5 : Value} (hp : tmps.getD p undef = .pointer (some ⟨g, 0, none⟩)) (hg : w.heap[g]? = some (.cells #[a0, a1, a2, a3, a4, a5] 151 (0, 0))) :
    (results fn tmps).run Tryd.prog w = .ok (.tuple #[.agg #[a0, a1, a2, a3, a4, a5], tmps.getD t2 undef]) w :=
  results_cell_tmp h tmps w g _ _ _ _ hp hg Tryd.underlying151 rfl mom_size
set_option maxRecDepth 100000 in
set_option maxHeartbeats 8000000 in
theorem at_ok (t : Int) (h : secOk t) (w : World) (hL : Lens w) : Calls Tryd.prog 71 #[.int .i64 t] w fun e w' => e = .returned (.tuple #[momV t, .int .i64 0]) ∧ Below w.heap.size w w' := by
  obtain ⟨b0, hb0⟩ : ∃ b0, w.heap.size = b0 := ⟨_, rfl⟩
  have Hb0 := Lib.hid hb0
  have hd := sec_day h
  obtain ⟨hok, hday⟩ := zD_spec _ hd
  unfold secOk at h
  have HO := of_calls _ _ _ hok
  rw [hday] at HO
  unfold momV
  obtain ⟨T, hT⟩ : ∃ T, zD (t / 86400) = T := ⟨_, rfl⟩
  rw [hT] at HO ⊢
  obtain ⟨y, m, d⟩ := T
  dsimp only at HO ⊢
  obtain ⟨q, hq⟩ : ∃ q, t / 86400 = q := ⟨_, rfl⟩
  obtain ⟨s, hs⟩ : ∃ s, t % 86400 = s := ⟨_, rfl⟩
  rw [hq] at HO hd
  rw [hs]
  have hsr : 0 ≤ s ∧ s < 86400 := by omega
  have k1 : decide (t < 0) = false := decide_eq_false (by omega)
  have k2 : decide (t ≥ 253402300800) = false := decide_eq_false (by omega)
  have e1 : t.tdiv 86400 = q := by rw [Int.tdiv_eq_ediv_of_nonneg (by omega)]; exact hq
  have e2 : t.tmod 86400 = s := by rw [Int.tmod_eq_emod_of_nonneg (by omega)]; exact hs
  have e3 : s.tdiv 3600 = s / 3600 := Int.tdiv_eq_ediv_of_nonneg hsr.1
  have e4 : s.tdiv 60 = s / 60 := Int.tdiv_eq_ediv_of_nonneg hsr.1
  have e5 : (s / 60).tmod 60 = s / 60 % 60 := Int.tmod_eq_emod_of_nonneg (by omega)
  have e6 : s.tmod 60 = s % 60 := Int.tmod_eq_emod_of_nonneg hsr.1
  have a1 := i64_same q (by omega)
  have a2 := i64_same s (by omega)
  have a3 := i64_same (s / 3600) (by omega)
  have a4 := i64_same (s / 60) (by omega)
  have a5 := i64_same (s / 60 % 60) (by omega)
  have a6 := i64_same (s % 60) (by omega)
  replace HO := Lib.hid HO
  obtain ⟨W1, hW1⟩ : ∃ W1, w.alloc (.cells #[.int .i64 0, .int .i64 0, .int .i64 0, .int .i64 0, .int .i64 0, .int .i64 0] 151) = W1 := ⟨_, rfl⟩
  have hst : Below w.heap.size w W1 := hW1 ▸ bstep w _
  have hr0 : W1.heap[b0]? = some (.cells #[.int .i64 0, .int .i64 0, .int .i64 0, .int .i64 0, .int .i64 0, .int .i64 0] 151 (0, 0)) := by rw [← hb0, ← hW1]; exact World.alloc_heap_new w _
  have hL1 := hL.go hst
  have hs1 : W1.heap.size = b0 + 1 := by rw [← hW1, World.size_alloc, hb0]
  clear h hd hok hday hT hq hs hsr hL
  go_enter Tryd.func71, Tryd.ntmps71
  go_wp2_with fail
  refine (HO.out W1 hL1).mono ?_
  rintro e w3 ⟨rfl, hb3⟩
  have hr3 := blk_below hr0 hb3
  have hs3 : b0 + 1 ≤ w3.heap.size := by rw [← hs1]; exact hb3.size
  obtain ⟨b1, hb1⟩ : ∃ b1, w3.heap.size = b1 := ⟨_, rfl⟩
  obtain ⟨W4, hW4⟩ : ∃ W4, w3.alloc (.cells #[.int .i64 y, .int .i64 m, .int .i64 d] 121) = W4 := ⟨_, rfl⟩
  have hst4 : Below w3.heap.size w3 W4 := hW4 ▸ bstep w3 _
  have hrd : W4.heap[b1]? = some (.cells #[.int .i64 y, .int .i64 m, .int .i64 d] 121 (0, 0)) := by rw [← hb1, ← hW4]; exact World.alloc_heap_new w3 _
  have HS := blk_below hr3 hst4
  have hbb := bnext hst (bnext hb3 hst4)
  have f0 := blk_frozen HS 0
  have d0 := cell_of_row W4 b0 0 _ _ _ HS
  have f1 := blk_frozen HS 1
  have d1 := cell_of_row W4 b0 1 _ _ _ HS
  have f2 := blk_frozen HS 2
  have d2 := cell_of_row W4 b0 2 _ _ _ HS
  have f3 := blk_frozen HS 3
  have d3 := cell_of_row W4 b0 3 _ _ _ HS
  have f4 := blk_frozen HS 4
  have d4 := cell_of_row W4 b0 4 _ _ _ HS
  have f5 := blk_frozen HS 5
  have d5 := cell_of_row W4 b0 5 _ _ _ HS
  have g0 := cell_of_row W4 b1 0 _ _ _ hrd
  have g1 := cell_of_row W4 b1 1 _ _ _ hrd
  have g2 := cell_of_row W4 b1 2 _ _ _ hrd
  clear hst hr0 hL1 hb3 hr3 hst4 hrd hW1
  go_wp2_with fail
  refine bodyPost_ret (res_mom rfl rfl (set6_row HS _ _ _ _ _ _)) rfl ?_
  exact ⟨rfl, set6_below hbb (by have := Hb0.out; omega) _ _ _ _ _ _⟩
def mom0 : Value := .agg #[.int .i64 0, .int .i64 0, .int .i64 0, .int .i64 0, .int .i64 0, .int .i64 0]
set_option maxRecDepth 100000 in
set_option maxHeartbeats 8000000 in
theorem at_bad (t : Int) (h : ¬ secOk t) (w : World) : Calls Tryd.prog 71 #[.int .i64 t] w fun e w' => e = .returned (.tuple #[mom0, .int .i64 60]) ∧ Below w.heap.size w w' := by
  obtain ⟨b0, hb0⟩ : ∃ b0, w.heap.size = b0 := ⟨_, rfl⟩
  have Hb0 := Lib.hid hb0
  unfold secOk at h
  unfold mom0
  obtain ⟨W1, hW1⟩ : ∃ W1, w.alloc (.cells #[.int .i64 0, .int .i64 0, .int .i64 0, .int .i64 0, .int .i64 0, .int .i64 0] 151) = W1 := ⟨_, rfl⟩
  have hst : Below w.heap.size w W1 := hW1 ▸ bstep w _
  have hr0 : W1.heap[b0]? = some (.cells #[.int .i64 0, .int .i64 0, .int .i64 0, .int .i64 0, .int .i64 0, .int .i64 0] 151 (0, 0)) := by rw [← hb0, ← hW1]; exact World.alloc_heap_new w _
  have hs1 : W1.heap.size = b0 + 1 := by rw [← hW1, World.size_alloc, hb0]
  have f0 := blk_frozen hr0 0
  have d0 := cell_of_row W1 b0 0 _ _ _ hr0
  have f1 := blk_frozen hr0 1
  have d1 := cell_of_row W1 b0 1 _ _ _ hr0
  have f2 := blk_frozen hr0 2
  have d2 := cell_of_row W1 b0 2 _ _ _ hr0
  have f3 := blk_frozen hr0 3
  have d3 := cell_of_row W1 b0 3 _ _ _ hr0
  have f4 := blk_frozen hr0 4
  have d4 := cell_of_row W1 b0 4 _ _ _ hr0
  have f5 := blk_frozen hr0 5
  have d5 := cell_of_row W1 b0 5 _ _ _ hr0
  have HS := hr0
  by_cases h1 : t < 0
  · have k1 : decide (t < 0) = true := decide_eq_true h1
    clear h h1 hr0
    go_enter Tryd.func71, Tryd.ntmps71
    go_wp2_with fail
    refine bodyPost_ret (res_mom rfl rfl (set6_row HS _ _ _ _ _ _)) rfl ?_
    exact ⟨rfl, set6_below hst (by have := Hb0.out; omega) _ _ _ _ _ _⟩
  · have k1 : decide (t < 0) = false := decide_eq_false h1
    have k2 : decide (t ≥ 253402300800) = true := decide_eq_true (by omega)
    clear h h1 hr0
    go_enter Tryd.func71, Tryd.ntmps71
    go_wp2_with fail
    refine bodyPost_ret (res_mom rfl rfl (set6_row HS _ _ _ _ _ _)) rfl ?_
    exact ⟨rfl, set6_below hst (by have := Hb0.out; omega) _ _ _ _ _ _⟩
end Go.Proofs.YtgbkedjjgbhcmaaDoor
