/-
  Sum of package fixq, walked: its words, its closure. Conditions: at most 1,000 numbers, in their range.
-/
import Derived.Test.YtbbbjgilbddabaaFixqArith
namespace Go.Proofs.Ytbbbjgilbddabaa
open Go Go.RowKit Go.Kw Go.Shelf
attribute [local go_sem] Oper.semAt_some
set_option linter.unusedVariables false
set_option linter.unusedSimpArgs false

theorem run_store_func {P : Program} {a : Addr} {m : Mode} (f : Fn) (r : Array Value) (b : Array Value) (w : World) : (store a (.func f r b) m).run P w = stored P w a (.func f r b) m := run_store P w a _ m rfl
attribute [local go_sem] run_store_func
theorem add64_run (x y c : Int) (hx : 0 ≤ x) (hy : 0 ≤ y) (hc0 : 0 ≤ c) (hc : c ≤ 1) (w : World) :
    (callFunc 40 #[.int .u64 x, .int .u64 y, .int .u64 c]).run Try.prog w =
      .ok (.value (.tuple #[.int .u64 ((x + y + c) % 18446744073709551616), .int .u64 ((x + y + c) / 18446744073709551616)])) w := by
  rw [run_callFunc_extern Try.func40 (by kernel_rfl) (by kernel_rfl) (by kernel_rfl) (e := add64Entry) (by kernel_rfl), run_add64 x y c hx hy hc0 hc]
  rfl

theorem put_calls (B C : Nat) (lo hi a b : Int) (hlo : 0 ≤ lo) (hhi : 0 ≤ hi) (ha : 0 ≤ a) (hb : 0 ≤ b) (hs : lo + a < 36893488147419103232) (hBC : B ≠ C) (w : World) (hB : Boxed w B 36 (.int .u64 lo)) (hC : Boxed w C 36 (.int .u64 hi)) :
    Calls Try.prog 39 #[.int .u64 a, .int .u64 b, .pointer (some ⟨B, 0, none⟩), .pointer (some ⟨C, 0, none⟩)] w fun e w' => (∃ v, e = .returned v) ∧
      w' = (w.setCell ⟨B, 0, none⟩ (.int .u64 ((lo + a) % 18446744073709551616))).setCell ⟨C, 0, none⟩ (.int .u64 ((hi + b + (lo + a) / 18446744073709551616) % 18446744073709551616)) := by
  have h1 := add64_run lo a 0 hlo ha (by omega) (by omega)
  rw [Int.add_zero] at h1
  have h2 := add64_run hi b ((lo + a) / 18446744073709551616) hhi hb (by omega) (by omega)
  have c1 := hB.cell
  have f1 := hB.frozen
  have c2 := hC.cell
  have f2 := hC.frozen
  go_enter Try.func39, Try.ntmps39
  go_wp2_with (simp only [h1, h2])
  go_end0
  exact ⟨⟨_, rfl⟩, rfl⟩

theorem words_calls (A : Option Addr) (n c : Nat) (w : World) :
    Calls Try.prog 41 #[.slice A n c] w fun e w' => e = .returned (.func (.func 50) #[] #[.pointer (some ⟨w.heap.size, 0, none⟩)]) ∧ w' = w.alloc (.cells #[.slice A n c] 32) := by
  go_enter Try.func41, Try.ntmps41
  go_wp2
  go_ret
  exact ⟨rfl, rfl⟩

def RdI (w : World) (B : Nat) (A : Option Addr) (zs : List Int) : Prop := Rd w B A zs.length (fun i => .int .i64 (zs.getD i 0))

set_option maxRecDepth 100000 in
set_option maxHeartbeats 2000000 in
theorem words_seq (B B0 : Nat) (A : Option Addr) (c : Nat) (zs : List Int) (hl : zs.length ≤ 1000000) (hr : ∀ i, i < zs.length → inR (zs.getD i 0)) :
    SeqW Try.prog 50 #[.pointer (some ⟨B, 0, none⟩)] (fun x : Int => #[.int .u64 (x % 18446744073709551616), .int .u64 ((x / 9223372036854775808) % 18446744073709551616)]) zs (fun A B => A = B)
      (fun W => W.cell? ⟨B, 0, none⟩ = some (.slice A zs.length c) ∧ RdI W B0 A zs) (fun _ W => RdI W B0 A zs) (fun _ => True) (fun _ _ => True) := by
  intro lo J Jx hJ hJx hY W ⟨hB, hR⟩ h0
  have hF := wide_fn
  refine callsIn_of_wp Try.func50 rfl (hF _) ?_ rfl
  simp only [Try.ntmps50, List.size_toArray, List.length_cons, List.length_nil, Nat.reduceAdd, Nat.reduceSub, Array.replicate_succ, Array.replicate_zero, List.push_toArray, List.append_toArray, List.nil_append, List.cons_append]
  gi_wp2
  gi_loopw [4, 7] (fun _ i wr => ∃ k : Nat, k ≤ zs.length ∧ i = .int .i64 k ∧ J k wr ∧ RdI wr B0 A zs)
    (fun _ i _ => zs.length - (intOf i).toNat)
  case atStart => exact ⟨0, Nat.zero_le _, rfl, h0, hR⟩
  case round =>
    obtain ⟨k, hk, rfl, hJs, hRs⟩ := hrel
    by_cases hlt : k < zs.length
    · obtain ⟨b, off, rfl, hbs, hc⟩ := Rd.at_ hRs hlt
      obtain ⟨x, hx⟩ : ∃ x, zs.getD k 0 = x := ⟨_, rfl⟩
      have hg : zs[k]? = some x := by rw [← hx]; simp [List.getD, hlt]
      have hxr := hr k hlt
      rw [hx] at hc hxr
      obtain ⟨fn, tmps, assign, body, hy, hYR⟩ := hY k _ wr hg hJs hRs
      have w2 : IntKind.u64.wrap (x / 9223372036854775808) = (x / 9223372036854775808) % 18446744073709551616 := IntKind.wrap_u64 _
      have w1 : IntKind.u64.wrap x = x % 18446744073709551616 := IntKind.wrap_u64 x
      clear hY hx hr
      gi_wp2
      refine hYR.mono ?_
      rintro e W3 ⟨hR3, (⟨rfl, hJ3⟩ | ⟨rfl, hJx3⟩)⟩
      · gi_wp2
        go_roundw
        case rel => exact ⟨k + 1, by omega, by simp, hJ3, hR3⟩
        case measure => simp [intOf]; omega
      · gi_wp2
        refine bodyPost_ret (results_none rfl _ _ _) rfl ?_
        exact ⟨⟨_, rfl⟩, .inr ⟨k, hlt, hJx3, trivial⟩⟩
    · obtain rfl : k = zs.length := by omega
      gi_wp2
      go_end0
      exact ⟨⟨_, rfl⟩, .inl ⟨hJs, trivial⟩⟩

/-- The number that both words make. -/
def lowI (xs : List Int) : Int := xs.sum % 18446744073709551616
def highI (xs : List Int) : Int := xs.sum / 18446744073709551616 % 18446744073709551616
theorem sum_snoc (xs : List Int) (k : Nat) (x : Int) (h : xs[k]? = some x) : (xs.take (k + 1)).sum = (xs.take k).sum + x := by
  obtain ⟨hlt, rfl⟩ := List.getElem?_eq_some_iff.1 h
  rw [List.take_succ_eq_append_getElem hlt, List.sum_append]; simp
theorem low_step (S x : Int) (hx : inR x) : (S % 18446744073709551616 + x % 18446744073709551616) % 18446744073709551616 = (S + x) % 18446744073709551616 := by omega
theorem high_step (S x : Int) (hx : inR x) : (S / 18446744073709551616 % 18446744073709551616 + x / 9223372036854775808 % 18446744073709551616 + (S % 18446744073709551616 + x % 18446744073709551616) / 18446744073709551616) % 18446744073709551616 = (S + x) / 18446744073709551616 % 18446744073709551616 := by
  unfold inR at hx
  have e1 : S = 18446744073709551616 * (S / 18446744073709551616) + S % 18446744073709551616 := by omega
  have r1 : 0 ≤ S % 18446744073709551616 ∧ S % 18446744073709551616 < 18446744073709551616 := by omega
  generalize S / 18446744073709551616 = q at *
  generalize S % 18446744073709551616 = r at *
  subst e1
  by_cases h0 : 0 ≤ x
  · have h1 : x / 9223372036854775808 = 0 := by omega
    have h2 : x % 18446744073709551616 = x := by omega
    have h3 : (18446744073709551616 * q + r + x) / 18446744073709551616 = q + (r + x) / 18446744073709551616 := by omega
    rw [h1, h2, h3]; omega
  · have h1 : x / 9223372036854775808 = -1 := by omega
    have h2 : x % 18446744073709551616 = x + 18446744073709551616 := by omega
    have h3 : (18446744073709551616 * q + r + x) / 18446744073709551616 = q + (r + (x + 18446744073709551616)) / 18446744073709551616 - 1 := by omega
    rw [h1, h2, h3]; omega

theorem sum_bound (zs : List Int) (h : ∀ x ∈ zs, inR x) : -(9223372036854775808 * (zs.length : Int)) ≤ zs.sum ∧ zs.sum ≤ 9223372036854775808 * (zs.length : Int) := by
  induction zs with
  | nil => simp
  | cons x zs ih =>
    have h1 := h x (by simp)
    have h2 := ih (fun y hy => h y (by simp [hy]))
    unfold inR at h1
    rw [List.sum_cons, List.length_cons]; push_cast; omega
theorem sum_test (zs : List Int) (hl : zs.length ≤ 1000) (hr : ∀ i, i < zs.length → inR (zs.getD i 0)) :
    (inR zs.sum → (IntKind.u64.wrap (wrap64 (lowI zs) / 9223372036854775808) == highI zs) = true ∧ wrap64 (lowI zs) = zs.sum) ∧
    (¬ inR zs.sum → (IntKind.u64.wrap (wrap64 (lowI zs) / 9223372036854775808) == highI zs) = false) := by
  obtain ⟨b1, b2⟩ := sum_bound zs (fun x hx => by
    obtain ⟨i, hi, rfl⟩ := List.mem_iff_getElem.1 hx
    have := hr i hi
    rwa [List.getD_eq_getElem?_getD, List.getElem?_eq_getElem hi] at this)
  rw [IntKind.wrap_u64]
  unfold lowI highI wrap64 inR
  generalize zs.sum = S at *
  have hb : -(9223372036854775808 * 1000) ≤ S ∧ S ≤ 9223372036854775808 * 1000 := by omega
  clear b1 b2 hr hl
  have e1 : S = 18446744073709551616 * (S / 18446744073709551616) + S % 18446744073709551616 := by omega
  have r1 : 0 ≤ S % 18446744073709551616 ∧ S % 18446744073709551616 < 18446744073709551616 := by omega
  generalize S / 18446744073709551616 = q at *
  generalize S % 18446744073709551616 = r at *
  subst e1
  have hq : -5000 ≤ q ∧ q ≤ 5000 := by omega
  by_cases hr : r < 9223372036854775808
  · have h1 : ((r + 9223372036854775808) % 18446744073709551616 - 9223372036854775808) = r := by omega
    have h2 : r / 9223372036854775808 % 18446744073709551616 = 0 := by omega
    rw [h1, h2]
    refine ⟨fun h => ⟨?_, by omega⟩, fun h => ?_⟩
    · simp only [beq_iff_eq]; omega
    · simp only [beq_eq_false_iff_ne, ne_eq]; omega
  · have h1 : ((r + 9223372036854775808) % 18446744073709551616 - 9223372036854775808) = r - 18446744073709551616 := by omega
    have h2 : (r - 18446744073709551616) / 9223372036854775808 % 18446744073709551616 = 18446744073709551615 := by omega
    rw [h1, h2]
    refine ⟨fun h => ⟨?_, by omega⟩, fun h => ?_⟩
    · simp only [beq_iff_eq]; omega
    · simp only [beq_eq_false_iff_ne, ne_eq]; omega

set_option maxRecDepth 100000 in
set_option maxHeartbeats 2000000 in
theorem sum_calls (A : Option Addr) (c : Nat) (zs : List Int) (hl : zs.length ≤ 1000) (hr : ∀ i, i < zs.length → inR (zs.getD i 0)) (w : World) (hR : RdI w w.heap.size A zs) :
    Calls Try.prog 16 #[.slice A zs.length c] w fun e w' => e = .returned (okV zs.sum) ∧ Below w.heap.size w w' := by
  have hF := wide_fn
  refine calls_of_marks Try.func16 rfl ?_
  simp only [Try.ntmps16, List.size_toArray, List.length_cons, List.length_nil, Nat.reduceAdd, Nat.reduceSub, Array.replicate_succ, Array.replicate_zero, List.push_toArray, List.append_toArray, List.nil_append, List.cons_append]
  obtain ⟨W2, hW2⟩ : ∃ W2, ((w.alloc (.cells #[.int .u64 0] 36)).alloc (.cells #[.int .u64 0] 36)) = W2 := ⟨_, rfl⟩
  have hs2 : W2.heap.size = w.heap.size + 1 + 1 := by rw [← hW2]; simp
  have bL := (Boxed.new w 36 (.int .u64 0)).alloc (.cells #[.int .u64 0] 36)
  have bH := Boxed.new (w.alloc (.cells #[.int .u64 0] 36)) 36 (.int .u64 0)
  have bP := Boxed.new W2 79 .nilFunc
  have hB2 : Below w.heap.size w W2 := by rw [← hW2]; exact ((Below.refl _ w).alloc (Nat.le_refl _) _).alloc (by simp) _
  simp only [World.size_alloc] at bH
  rw [hW2] at bL bH
  rw [hs2] at bP
  have cP := bP.cell
  have fP := bP.frozen
  obtain ⟨W3, hW3⟩ : ∃ W3, W2.alloc (.cells #[.nilFunc] 79) = W3 := ⟨_, rfl⟩
  have bL3 := bL.alloc (.cells #[.nilFunc] 79)
  have bH3 := bH.alloc (.cells #[.nilFunc] 79)
  have hB3 : Below w.heap.size w W3 := by rw [← hW3]; exact hB2.alloc (by rw [hs2]; omega) _
  have hs3 : W3.heap.size = w.heap.size + 1 + 1 + 1 := by rw [← hW3]; simp [hs2]
  rw [hW3] at bP bL3 bH3 cP fP
  clear bL bH hB2
  gi_wp2_with (first | (refine wpIn_scope ?_) | (refine wpIn_label ?_) | (gi_at_call 41; refine (callsIn_wide.2 (words_calls _ _ _ _)).mono ?_; rintro e w' ⟨rfl, rfl⟩) )
  clear hW2 hW3 hs2
  gi_wp2_with (first | (refine wpIn_scope ?_) | (refine wpIn_label ?_) | (gi_at_call 41; refine (callsIn_wide.2 (words_calls _ _ _ _)).mono ?_; rintro e w' ⟨rfl, rfl⟩))
  obtain ⟨fv, hfv⟩ : ∃ fv : Value, .func (.func 39) #[] #[.pointer (some ⟨w.heap.size, 0, none⟩), .pointer (some ⟨w.heap.size + 1, 0, none⟩)] = fv := ⟨_, rfl⟩
  have bP4 := (bP.set fv).alloc (.cells #[.slice A zs.length c] 32)
  have bL4 := (bL3.kept (grownBy_setCell' W3 (w.heap.size + 1 + 1) fv) (by simp; omega)).alloc (.cells #[.slice A zs.length c] 32)
  have bH4 := (bH3.kept (grownBy_setCell' W3 (w.heap.size + 1 + 1) fv) (by simp)).alloc (.cells #[.slice A zs.length c] 32)
  have bS := Boxed.new (W3.setCell ⟨w.heap.size + 1 + 1, 0, none⟩ fv) 32 (.slice A zs.length c)
  have hB4 : Below w.heap.size w ((W3.setCell ⟨w.heap.size + 1 + 1, 0, none⟩ fv).alloc (.cells #[.slice A zs.length c] 32)) := (hB3.setCell (p := ⟨w.heap.size + 1 + 1, 0, none⟩) (by simp; omega) fv).alloc (by simp [hs3]; omega) _
  rw [show (W3.setCell ⟨w.heap.size + 1 + 1, 0, none⟩ fv).heap.size = w.heap.size + 1 + 1 + 1 from by simp [hs3]] at bS
  rw [hfv]
  obtain ⟨W0, hW0⟩ : ∃ W0, ((W3.setCell ⟨w.heap.size + 1 + 1, 0, none⟩ fv).alloc (.cells #[.slice A zs.length c] 32)) = W0 := ⟨_, rfl⟩
  have hs0 : W0.heap.size = w.heap.size + 1 + 1 + 1 + 1 := by rw [← hW0]; simp [hs3]
  rw [hW0] at bP4 bL4 bH4 bS hB4 ⊢
  clear bP bL3 bH3 cP fP hB3 hs3 hW0
  refine wpIn_rangeX rfl (by decide) (gf := 50) (lb := #[.pointer (some ⟨w.heap.size + 1 + 1 + 1, 0, none⟩)]) rfl trivial (enters_of Try.func50 (by kernel_rfl) rfl)
    (words_seq (w.heap.size + 1 + 1 + 1) w.heap.size A c zs (by omega) hr) (fun A B h => h ▸ KeepsOthers.refl _) (fun _ => rfl)
    ((cell_own _ _ _).and (Rd.own _ _ _ _ _)) (fun _ => Rd.own _ _ _ _ _) (OwnW.const _) (fun _ => OwnW.const _) ⟨bS.cell, hR.below hB4⟩
    (fun k W => Boxed W w.heap.size 36 (.int .u64 (lowI (zs.take k))) ∧ Boxed W (w.heap.size + 1) 36 (.int .u64 (highI (zs.take k))) ∧ Boxed W (w.heap.size + 1 + 1) 79 fv ∧ (Below w.heap.size w W ∧ w.heap.size ≤ W.heap.size))
    (fun _ _ _ => False)
    (fun k => (boxed_ownW _ _ _ _).and ((boxed_ownW _ _ _ _).and ((boxed_ownW _ _ _ _).and (below_own (by omega))))) (fun _ _ => OwnW.const _) (fun k A B h e => e ▸ h) (fun _ _ _ _ h _ => h)
    ⟨by simpa [lowI] using bL4, by simpa [highI] using bH4, bP4, hB4, by omega⟩ ?round ?done ?stop
  case round =>
    rintro lo k x W hx _ _
    gi_wp2
    refine ⟨trivial, ?_⟩
    rintro W1 ⟨hn, hp, hq, hB⟩ hG hsz
    have hkl : k < zs.length := (List.getElem?_eq_some_iff.1 hx).1
    have hxr : inR x := by have := hr k hkl; rw [List.getD_eq_getElem?_getD, hx] at this; exact this
    subst hfv
    have hcq := hq.cell
    have hcall := put_calls w.heap.size (w.heap.size + 1) (lowI (zs.take k)) (highI (zs.take k)) (x % 18446744073709551616) (x / 9223372036854775808 % 18446744073709551616) (by unfold lowI; omega) (by unfold highI; omega) (by omega) (by omega) (by unfold lowI; omega) (by omega) W1 hn hp
    gi_wp2_with (gi_at_call 39; refine (CallsIn.inRound lo (callsIn_wide.2 hcall)).mono ?_; rintro e w' ⟨⟨v, rfl⟩, rfl⟩)
    have e1 : (lowI (zs.take k) + x) % 18446744073709551616 = lowI (zs.take (k + 1)) := by
      unfold lowI; rw [sum_snoc zs k x hx]; omega
    have e2 : (highI (zs.take k) + x / 9223372036854775808 % 18446744073709551616 + (lowI (zs.take k) + x % 18446744073709551616) / 18446744073709551616) % 18446744073709551616 = highI (zs.take (k + 1)) := by
      unfold lowI highI; rw [sum_snoc zs k x hx]; exact high_step _ x hxr
    refine ⟨(KeepsOthers.setCell _ _ _).trans (KeepsOthers.setCell _ _ _), Rd.setCell (Rd.setCell hG (Nat.le_refl _) _) (by simp) _, ?_, ?_, ?_, (hB.1.setCell (p := ⟨w.heap.size, 0, none⟩) (Nat.le_refl _) _).setCell (p := ⟨w.heap.size + 1, 0, none⟩) (by simp) _, Nat.le_trans hB.2 ((KeepsOthers.setCell _ _ _).trans (KeepsOthers.setCell _ _ _)).size⟩
    · rw [← e1]; exact (hn.set _).kept (row := some (w.heap.size + 1)) (grownBy_setCell' _ (w.heap.size + 1) _) (by simp)
    · rw [← e2]; exact (hp.kept (grownBy_setCell' _ w.heap.size _) (by simp)).set _
    · exact (hq.kept (grownBy_setCell' _ w.heap.size _) (by simp; omega)).kept (grownBy_setCell' _ (w.heap.size + 1) _) (by simp)
  case done =>
    rintro D W hD ⟨hn, hp, hq, hB⟩ _ hK
    rw [List.take_length] at hn hp
    have hcn := hn.cell
    have hcp := hp.cell
    obtain ⟨q1, q2⟩ := sum_test zs hl hr
    by_cases hin : inR zs.sum
    · have ht := q1 hin
      have Hin := Lib.hid hin
      have Ht := Lib.hid ht.2
      replace ht := ht.1
      clear q1 q2 hin
      gi_wp2
      refine ⟨by simp, .inl ⟨_, _, rfl, run_takeDeferred hK, ?_⟩⟩
      rw [okV_in Hin.out, Ht.out]
      exact ⟨_, results_tmp2 rfl _ _ _, rfl, hB.1.putObj (by omega) hB.2 _⟩
    · have ht := q2 hin
      have Hin := Lib.hid hin
      clear q1 q2 hin
      gi_wp2
      refine ⟨by simp, .inl ⟨_, _, rfl, run_takeDeferred hK, ?_⟩⟩
      rw [okV_out Hin.out]
      exact ⟨_, results_tmp2 rfl _ _ _, rfl, hB.1.putObj (by omega) hB.2 _⟩
  case stop =>
    rintro D c k W _ _ h _ _
    exact h.elim
end Go.Proofs.Ytbbbjgilbddabaa
