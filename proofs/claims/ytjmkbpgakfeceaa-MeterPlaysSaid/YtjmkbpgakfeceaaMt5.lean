/-
  A meter: a span beyond the bound, turn, walked. Conditions stand at each theorem. (Printed by gen_mt5.py.)
-/
import Derived.Test.YtjmkbpgakfeceaaMt4
import Derived.Deep.Cut
namespace Go.Proofs.Ytjmkbpgakfeceaa
open Go Go.RowKit Go.Kw Go.Kw.Mt
set_option linter.unusedVariables false
set_option linter.unusedSimpArgs false

set_option maxRecDepth 100000 in
set_option maxHeartbeats 16000000 in
theorem pass_span (w : World) (b : Nat) (nr : Int) (s : Stp) (m : M) (t' : Int) (d fl i : Nat) (hs : MayS s) (hok : Ok s m i) (hB : MtB w b nr s m) (ht : m.t ≤ t') (ht2 : t' < 253402300800) (hd : d < 4294967296) (hfl : fl < 16) (hsp : t' / s.len - m.o > 1000) :
    Calls Try.prog 35 #[.pointer (some ⟨b, 0, none⟩), .agg #[.int .i64 t', .int .u32 (d : Int), .int .i64 (fl : Int)]] w fun e w' => e = .returned (.tuple #[.slice none 0 0, .int .i64 242]) ∧ Below w.heap.size w w' := by
  have hF := wide_fn
  have hl := hs.ok.len
  have htt := hok.t
  have hq0 : 0 ≤ t' / s.len := Int.ediv_nonneg (by omega) (by omega)
  have hq1 : t' / s.len ≤ t' := Int.ediv_le_self _ (by omega)
  have ho0 : 0 ≤ m.o := by
    rcases Int.lt_or_le m.o 0 with h | h
    · have h1 := Int.mul_le_mul_of_nonneg_right (show m.o + 1 ≤ 0 by omega) (show 0 ≤ s.len by omega)
      have := hok.o
      omega
    · exact h
  obtain ⟨q0, hq⟩ : ∃ q0, t' / s.len = q0 := ⟨_, rfl⟩
  have HQ := Lib.hid (show IntKind.i64.wrap (t'.tdiv s.len) = q0 by rw [Int.tdiv_eq_ediv_of_nonneg (by omega), hq]; exact wrapI_at _ (by omega))
  have Hz := Lib.hid (show ¬ s.len = 0 by omega)
  rw [hq] at hq0 hq1 hsp
  have X1 := Lib.hid (wrapI_at (q0 - m.o) (by omega))
  have HH := Lib.hid hsp
  -- the boxes
  obtain ⟨b2, hb2⟩ : ∃ b2, w.heap.size = b2 := ⟨_, rfl⟩
  obtain ⟨w1, hw1⟩ : ∃ w1, (w.alloc (.cells #[.pointer (some ⟨b, 0, none⟩)] 35)).alloc (.cells (spC t' d fl) 81) = w1 := ⟨_, rfl⟩
  have hst : Below w.heap.size w w1 := hw1 ▸ bnext (bstep w _) (bstep _ _)
  have hx2 : Boxed w1 b2 35 (.pointer (some ⟨b, 0, none⟩)) := by rw [← hb2, ← hw1]; exact blk_below (blk_new w _ _) (bstep _ _)
  have hx3 : w1.heap[b2 + 1]? = some (.cells (spC t' d fl) 81 (0, 0)) := by
    have := blk_new (w.alloc (.cells #[.pointer (some ⟨b, 0, none⟩)] 35)) (spC t' d fl) 81
    rw [hw1, World.size_alloc, hb2] at this
    exact this
  have HC := Lib.hid (show w1.drew.cell? ⟨b2, 0, none⟩ = some (.pointer (some ⟨b, 0, none⟩)) ∧ w1.drew.cell? ⟨b2 + 1, 0, none⟩ = some (.int .i64 t') ∧ w1.drew.cell? ⟨b, 5, none⟩ = some (.int .i64 s.len) ∧ w1.drew.cell? ⟨b, 10, none⟩ = some (.int .i64 m.o) by
    obtain ⟨c0, c1, c2, c3, c4, c5, c6, c7, c8, c9, c10, c11, c12, c13⟩ := (hB.go hst).cells
    exact ⟨Boxed.cell hx2, blk_cell hx3 0 rfl, c5, c10⟩)
  have Hst := Lib.hid (hst.trans ((Below.refl _ w1).drew.mono hst.size))
  clear hs hok hB ht ht2 hd hfl hsp hl htt hq0 hq1 ho0 hq hst hx2 hx3
  refine calls_of_marks Try.func35 rfl ?_
  simp only [Try.ntmps35, List.size_toArray, List.length_cons, List.length_nil, Nat.reduceAdd, Nat.reduceSub, Array.replicate_succ, Array.replicate_zero, List.push_toArray, List.append_toArray, List.nil_append, List.cons_append]
  have hspc : spC t' d fl = #[.int .i64 t', .int .u32 (d : Int), .int .i64 (fl : Int)] := rfl
  rw [hspc] at hw1
  gi_wp2_with (first | (refine wpIn_scope ?_) | (refine wpIn_label ?_))
  clear hw1 hb2
  refine wpIn_normal (wpIn_wide.2 ?_)
  refine wp_region_held_drew (S := (fun Y => Y.cell? ⟨b2, 0, none⟩ = some (.pointer (some ⟨b, 0, none⟩)) ∧ Y.cell? ⟨b2 + 1, 0, none⟩ = some (.int .i64 t') ∧ Y.cell? ⟨b, 5, none⟩ = some (.int .i64 s.len) ∧ Y.cell? ⟨b, 10, none⟩ = some (.int .i64 m.o))) (by kernel_rfl) HC.out (fun hHeld => ?_)
  refine wpAnyH_take (i := 0) (v := ?_) rfl (by kernel_rfl) (by kernel_rfl) (by kernel_rfl) (fun _ _ _ h => h) (Or.inl ⟨by kernel_rfl, ?_⟩) (by assumption) ?_
  rotate_left
  · intro w hSw; (try dsimp only at hSw); go_simp; try with_reducible rfl
  simp only [Act.put, List.getElem_toArray, List.getElem_cons_succ, List.getElem_cons_zero, List.setIfInBounds_toArray, List.set_cons_zero, List.set_cons_succ]
  refine wpAnyH_take (i := 1) (v := ?_) rfl (by kernel_rfl) (by kernel_rfl) (by kernel_rfl) (fun _ _ _ h => h) (Or.inl ⟨by kernel_rfl, ?_⟩) (by assumption) ?_
  rotate_left
  · intro w hSw; (try dsimp only at hSw); go_simp; try with_reducible rfl
  simp only [Act.put, List.getElem_toArray, List.getElem_cons_succ, List.getElem_cons_zero, List.setIfInBounds_toArray, List.set_cons_zero, List.set_cons_succ]
  refine wpAnyH_take (i := 2) (v := ?_) rfl (by kernel_rfl) (by kernel_rfl) (by kernel_rfl) (fun _ _ _ h => h) (Or.inl ⟨by kernel_rfl, ?_⟩) (by assumption) ?_
  rotate_left
  · intro w hSw; (try dsimp only at hSw); go_simp; try with_reducible rfl
  simp only [Act.put, List.getElem_toArray, List.getElem_cons_succ, List.getElem_cons_zero, List.setIfInBounds_toArray, List.set_cons_zero, List.set_cons_succ]
  refine wpAnyH_take (i := 3) (v := ?_) rfl (by kernel_rfl) (by kernel_rfl) (by kernel_rfl) (fun _ _ _ h => h) (Or.inl ⟨by kernel_rfl, ?_⟩) (by assumption) ?_
  rotate_left
  · intro w hSw; (try dsimp only at hSw); go_simp; try with_reducible rfl
  simp only [Act.put, List.getElem_toArray, List.getElem_cons_succ, List.getElem_cons_zero, List.setIfInBounds_toArray, List.set_cons_zero, List.set_cons_succ]
  refine wpAnyH_take (i := 4) (v := ?_) rfl (by kernel_rfl) (by kernel_rfl) (by kernel_rfl) (fun _ _ _ h => h) (Or.inl ⟨by kernel_rfl, ?_⟩) (by assumption) ?_
  rotate_left
  · intro w hSw; (try dsimp only at hSw); go_simp; try with_reducible rfl
  simp only [Act.put, List.getElem_toArray, List.getElem_cons_succ, List.getElem_cons_zero, List.setIfInBounds_toArray, List.set_cons_zero, List.set_cons_succ]
  refine wpAnyH_take (i := 5) (v := ?_) rfl (by kernel_rfl) (by kernel_rfl) (by kernel_rfl) (fun _ _ _ h => h) (Or.inl ⟨by kernel_rfl, ?_⟩) (by assumption) ?_
  rotate_left
  · intro w hSw; (try dsimp only at hSw); go_simp; try with_reducible rfl
  simp only [Act.put, List.getElem_toArray, List.getElem_cons_succ, List.getElem_cons_zero, List.setIfInBounds_toArray, List.set_cons_zero, List.set_cons_succ]
  refine wpAnyH_take (i := 6) (v := ?_) rfl (by kernel_rfl) (by kernel_rfl) (by kernel_rfl) (fun _ _ _ h => h) (Or.inl ⟨by kernel_rfl, ?_⟩) (by assumption) ?_
  rotate_left
  · intro w hSw; (try dsimp only at hSw); go_simp; try with_reducible rfl
  simp only [Act.put, List.getElem_toArray, List.getElem_cons_succ, List.getElem_cons_zero, List.setIfInBounds_toArray, List.set_cons_zero, List.set_cons_succ]
  refine wpAnyH_take (i := 7) (v := .int .i64 q0) rfl (by kernel_rfl) (by kernel_rfl) (by kernel_rfl) (fun _ _ _ h => h) (Or.inl ⟨by kernel_rfl, ?_⟩) (by assumption) ?_
  · intro w hSw; (try dsimp only at hSw)
    have hq := HQ.out; go_simp; exact Hz.out
  simp only [Act.put, List.getElem_toArray, List.getElem_cons_succ, List.getElem_cons_zero, List.setIfInBounds_toArray, List.set_cons_zero, List.set_cons_succ]
  refine wpAnyH_take (i := 8) (v := ?_) rfl (by kernel_rfl) (by kernel_rfl) (by kernel_rfl) (fun _ _ _ h => h) (Or.inl ⟨by kernel_rfl, ?_⟩) (by assumption) ?_
  rotate_left
  · intro w hSw; (try dsimp only at hSw); go_simp; try with_reducible rfl
  simp only [Act.put, List.getElem_toArray, List.getElem_cons_succ, List.getElem_cons_zero, List.setIfInBounds_toArray, List.set_cons_zero, List.set_cons_succ]
  refine wpAnyH_take (i := 9) (v := ?_) rfl (by kernel_rfl) (by kernel_rfl) (by kernel_rfl) (fun _ _ _ h => h) (Or.inl ⟨by kernel_rfl, ?_⟩) (by assumption) ?_
  rotate_left
  · intro w hSw; (try dsimp only at hSw); go_simp; try with_reducible rfl
  simp only [Act.put, List.getElem_toArray, List.getElem_cons_succ, List.getElem_cons_zero, List.setIfInBounds_toArray, List.set_cons_zero, List.set_cons_succ]
  refine wpAnyH_take (i := 10) (v := ?_) rfl (by kernel_rfl) (by kernel_rfl) (by kernel_rfl) (fun _ _ _ h => h) (Or.inl ⟨by kernel_rfl, ?_⟩) (by assumption) ?_
  rotate_left
  · intro w hSw; (try dsimp only at hSw); go_simp; try with_reducible rfl
  simp only [Act.put, List.getElem_toArray, List.getElem_cons_succ, List.getElem_cons_zero, List.setIfInBounds_toArray, List.set_cons_zero, List.set_cons_succ]
  refine wpAnyH_take (i := 11) (v := ?_) rfl (by kernel_rfl) (by kernel_rfl) (by kernel_rfl) (fun _ _ _ h => h) (Or.inl ⟨by kernel_rfl, ?_⟩) (by assumption) ?_
  rotate_left
  · intro w hSw; (try dsimp only at hSw); go_simp; try with_reducible rfl
  simp only [Act.put, List.getElem_toArray, List.getElem_cons_succ, List.getElem_cons_zero, List.setIfInBounds_toArray, List.set_cons_zero, List.set_cons_succ]
  refine wpAnyH_take (i := 12) (v := .int .i64 (q0 - m.o)) rfl (by kernel_rfl) (by kernel_rfl) (by kernel_rfl) (fun _ _ _ h => h) (Or.inl ⟨by kernel_rfl, ?_⟩) (by assumption) ?_
  · intro w hSw; (try dsimp only at hSw)
    have x1 := X1.out; go_simp
  simp only [Act.put, List.getElem_toArray, List.getElem_cons_succ, List.getElem_cons_zero, List.setIfInBounds_toArray, List.set_cons_zero, List.set_cons_succ]
  refine wpAnyH_take (i := 13) (v := .bool true) rfl (by kernel_rfl) (by kernel_rfl) (by kernel_rfl) (fun _ _ _ h => h) (Or.inl ⟨by kernel_rfl, ?_⟩) (by assumption) ?_
  · intro w hSw; (try dsimp only at hSw)
    have k1 : decide (q0 - m.o > 1000) = true := decide_eq_true HH.out
    go_simp
  simp only [Act.put, List.getElem_toArray, List.getElem_cons_succ, List.getElem_cons_zero, List.setIfInBounds_toArray, List.set_cons_zero, List.set_cons_succ]
  refine wpAnyH_done (by kernel_rfl) ?_ _
  simp only [normalOnly]
  gi_wp2_with (first | (refine wpIn_scope ?_) | (refine wpIn_label ?_))
  refine ⟨_, results_tmp45 rfl _ _ _, rfl, Hst.out⟩

/-- turn at a bad instant. -/
theorem turn_time (w : World) (b : Nat) (nr : Int) (s : Stp) (m : M) (hs : MayS s) (hB : MtB w b nr s m) (t : Int) (f : Value) (ht : timeBad t) :
    Calls Try.prog 31 #[.pointer (some ⟨b, 0, none⟩), .int .i64 t, f] w fun e w' => e = .returned (.tuple #[.slice none 0 0, .int .i64 60]) ∧ Below w.heap.size w w' := by
  have hl := hs.ok.len
  have hN := mnone_calls w b nr s m hB
  rw [show (s.len == 0) = false from beq_eq_false_iff_ne.2 (by omega)] at hN
  have HN := Lib.hid hN
  have Ht := Lib.hid ht
  unfold timeBad at ht
  clear hs hl hN hB
  rcases Int.lt_or_le t 0 with h0 | h0
  · have k0 : decide (t < 0) = true := decide_eq_true h0
    clear h0 ht
    go_enter Try.func31, Try.ntmps31
    go_wp2_with fail
    refine HN.out.mono ?_
    rintro e w0 ⟨rfl, hb⟩
    have Hb := Lib.hid hb
    clear hb
    go_wp2_with fail
    go_ret2
    exact ⟨rfl, Hb.out⟩
  · have k0 : decide (t < 0) = false := decide_eq_false (by omega)
    have k1 : decide (t ≥ 253402300800) = true := decide_eq_true (by omega)
    clear h0 ht
    go_enter Try.func31, Try.ntmps31
    go_wp2_with fail
    refine HN.out.mono ?_
    rintro e w0 ⟨rfl, hb⟩
    have Hb := Lib.hid hb
    clear hb
    go_wp2_with fail
    go_ret2
    exact ⟨rfl, Hb.out⟩

set_option maxHeartbeats 8000000 in
/-- turn, where what it does says no error. -/
theorem turn_Sample (w : World) (b : Nat) (nr : Int) (s : Stp) (m : M) (hs : MayS s) (hB : MtB w b nr s m) (t : Int) (ht : ¬ timeBad t) (b0 b1 b2 : Nat) (R : Value → World → Prop)
    (hdo : ∀ W, Below w.heap.size w W → Calls Try.prog 32 #[.pointer (some ⟨b0, 0, none⟩), .pointer (some ⟨b1, 0, none⟩), .pointer (some ⟨b2, 0, none⟩)] W fun e w' => ∃ v, e = .returned (.tuple #[v, .int .i64 0]) ∧ R v w') :
    Calls Try.prog 31 #[.pointer (some ⟨b, 0, none⟩), .int .i64 t, .func (.func 32) #[] #[.pointer (some ⟨b0, 0, none⟩), .pointer (some ⟨b1, 0, none⟩), .pointer (some ⟨b2, 0, none⟩)]] w fun e w' => ∃ v, e = .returned (.tuple #[v, .int .i64 0]) ∧ R v w' := by
  have hl := hs.ok.len
  have hN := mnone_calls w b nr s m hB
  rw [show (s.len == 0) = false from beq_eq_false_iff_ne.2 (by omega)] at hN
  have HN := Lib.hid hN
  have H0 := Lib.hid hB
  have HD := Lib.hid hdo
  unfold timeBad at ht
  have k0 : decide (t < 0) = false := decide_eq_false (by omega)
  have k1 : decide (t ≥ 253402300800) = false := decide_eq_false (by omega)
  clear hs hl hN hB hdo ht
  go_enter Try.func31, Try.ntmps31
  go_wp2_with fail
  refine HN.out.mono ?_
  rintro e w0 ⟨rfl, hb⟩
  obtain ⟨c0, c1, c2, c3, c4, c5, c6, c7, c8, c9, c10, c11, c12, c13⟩ := (H0.out.go hb).cells
  have Hb := Lib.hid hb
  clear hb
  go_wp2_with fail
  refine (HD.out _ (bnext Hb.out (bstep w0 _))).mono ?_
  rintro e w2 ⟨v, rfl, hR⟩
  have HR := Lib.hid hR
  clear hR c0 c1 c2 c3 c4 c5 c6 c7 c8 c9 c10 c11 c12 c13
  go_wp2_with fail
  go_ret2
  exact ⟨_, rfl, HR.out⟩
set_option maxRecDepth 100000 in
set_option maxHeartbeats 8000000 in
/-- turn, where what it does says an error: the meter is put back. -/
theorem turn_Sample_no (w : World) (b : Nat) (nr : Int) (s : Stp) (m : M) (hs : MayS s) (hB : MtB w b nr s m) (t : Int) (ht : ¬ timeBad t) (b0 b1 b2 : Nat) (er : Int) (her : er ≠ 0)
    (hdo : ∀ W, Below w.heap.size w W → Calls Try.prog 32 #[.pointer (some ⟨b0, 0, none⟩), .pointer (some ⟨b1, 0, none⟩), .pointer (some ⟨b2, 0, none⟩)] W fun e w' => ∃ v, e = .returned (.tuple #[v, .int .i64 er]) ∧ (∃ m', MtB w' b nr s m') ∧ Kept (fun x => x ≠ b) W w') :
    Calls Try.prog 31 #[.pointer (some ⟨b, 0, none⟩), .int .i64 t, .func (.func 32) #[] #[.pointer (some ⟨b0, 0, none⟩), .pointer (some ⟨b1, 0, none⟩), .pointer (some ⟨b2, 0, none⟩)]] w fun e w' => e = .returned (.tuple #[.slice none 0 0, .int .i64 er]) ∧ MtB w' b nr s m ∧ Kept (fun x => x ≠ b) w w' := by
  have hl := hs.ok.len
  have hN := mnone_calls w b nr s m hB
  rw [show (s.len == 0) = false from beq_eq_false_iff_ne.2 (by omega)] at hN
  have HN := Lib.hid hN
  have H0 := Lib.hid hB
  have HD := Lib.hid hdo
  unfold timeBad at ht
  have k0 : decide (t < 0) = false := decide_eq_false (by omega)
  have k1 : decide (t ≥ 253402300800) = false := decide_eq_false (by omega)
  have k2 : (er != 0) = true := by simp [her]
  clear hs hl hN hB hdo ht
  go_enter Try.func31, Try.ntmps31
  go_wp2_with fail
  refine HN.out.mono ?_
  rintro e w0 ⟨rfl, hb⟩
  obtain ⟨c0, c1, c2, c3, c4, c5, c6, c7, c8, c9, c10, c11, c12, c13⟩ := (H0.out.go hb).cells
  have Hb := Lib.hid hb
  obtain ⟨b9, hb9⟩ : ∃ b9, w0.heap.size = b9 := ⟨_, rfl⟩
  obtain ⟨w1, hw1⟩ : ∃ w1, w0.alloc (.cells (mtC nr s m) 72) = w1 := ⟨_, rfl⟩
  have hst : Below w0.heap.size w0 w1 := hw1 ▸ bstep w0 _
  have hr : w1.heap[b9]? = some (.cells (mtC nr s m) 72 (0, 0)) := by rw [← hb9, ← hw1]; exact blk_new w0 _ _
  have H1 := Lib.hid (And.intro (bnext hb hst) (And.intro hr (show b < b9 by have := (H0.out.go hb).lt; omega)))
  clear hb hst hr
  unfold mtC at hw1
  go_wp2_with fail
  clear c0 c1 c2 c3 c4 c5 c6 c7 c8 c9 c10 c11 c12 c13 hw1 hb9
  refine (HD.out w1 H1.out.1).mono ?_
  rintro e w2 ⟨v, rfl, ⟨m', hm'⟩, hk⟩
  have hr2 := heap_kept hk H1.out.2.1 (by have := H1.out.2.2; omega)
  have HR := Lib.hid (show w2.rangeAt b9 0 (mtC nr s m).toList from fun j v hv => blk_cell hr2 (0 + j) (by rw [Nat.zero_add]; simpa using hv))
  have HI := Lib.hid (show (Try.prog.info? 72).map (·.size) = some (mtC nr s m).toList.length by rw [Array.length_toList, mtC_size]; exact eMtS)
  have HI2 := Lib.hid (show (Try.prog.info? 72).map (·.size) = some (mtC nr s m).size by rw [mtC_size]; exact eMtS)
  have HO := Lib.hid (show (mtC nr s m').size = (mtC nr s m).size by rw [mtC_size, mtC_size])
  have HA := Lib.hid (mtC_all nr s m)
  have HZ := Lib.hid hm'
  have HK := Lib.hid ((H1.out.1.keptS (fun x => x ≠ b)).trans (hk.setRow (g := b) (fun e => e rfl) (mtC nr s m)))
  have HM := Lib.hid (show MtB (w2.setRow b (mtC nr s m)) b nr s m from hm'.row)
  clear hr2 hm' hk
  go_upto_region 8 with fail
  refine wp_region_lit ?_
  refine wpList_plain rfl fun K hK => ?_
  go_simp
  refine hK _ _ ?_
  clear hK K
  try simp only [Act.put, List.getElem_toArray, List.getElem_cons_succ, List.getElem_cons_zero, List.setIfInBounds_toArray, List.set_cons_zero, List.set_cons_succ]
  refine wpList_load_mid rfl 72 (.tmp 8) rfl b9 0 rfl _ _ HR.out Try.underlying72 (by rfl) HI.out ?_
  try simp only [Array.toArray_toList]
  try simp only [Act.put, List.getElem_toArray, List.getElem_cons_succ, List.getElem_cons_zero, List.setIfInBounds_toArray, List.set_cons_zero, List.set_cons_succ]
  obtain ⟨mv, hmv⟩ : ∃ mv, mtC nr s m = mv := ⟨_, rfl⟩
  rw [hmv] at HI2 HO HA HM HK ⊢
  refine wpList_plain rfl fun K hK => ?_
  go_simp
  refine hK _ _ ?_
  clear hK K
  try simp only [Act.put, List.getElem_toArray, List.getElem_cons_succ, List.getElem_cons_zero, List.setIfInBounds_toArray, List.set_cons_zero, List.set_cons_succ]
  refine wpList_plain rfl fun K hK => ?_
  refine wp_store_row 72 (.tmp 33) (.tmp 32) rfl b mv rfl rfl 72 (mtC nr s m') HZ.out HI2.out HO.out HA.out ?_
  refine hK _ _ ?_
  clear hK K
  go_wp2_with fail
  go_ret2
  exact ⟨rfl, HM.out, HK.out⟩
set_option maxHeartbeats 8000000 in
/-- turn, where what it does says no error. -/
theorem turn_Replace (w : World) (b : Nat) (nr : Int) (s : Stp) (m : M) (hs : MayS s) (hB : MtB w b nr s m) (t : Int) (ht : ¬ timeBad t) (b0 b1 b2 : Nat) (R : Value → World → Prop)
    (hdo : ∀ W, Below w.heap.size w W → Calls Try.prog 37 #[.pointer (some ⟨b0, 0, none⟩), .pointer (some ⟨b1, 0, none⟩), .pointer (some ⟨b2, 0, none⟩)] W fun e w' => ∃ v, e = .returned (.tuple #[v, .int .i64 0]) ∧ R v w') :
    Calls Try.prog 31 #[.pointer (some ⟨b, 0, none⟩), .int .i64 t, .func (.func 37) #[] #[.pointer (some ⟨b0, 0, none⟩), .pointer (some ⟨b1, 0, none⟩), .pointer (some ⟨b2, 0, none⟩)]] w fun e w' => ∃ v, e = .returned (.tuple #[v, .int .i64 0]) ∧ R v w' := by
  have hl := hs.ok.len
  have hN := mnone_calls w b nr s m hB
  rw [show (s.len == 0) = false from beq_eq_false_iff_ne.2 (by omega)] at hN
  have HN := Lib.hid hN
  have H0 := Lib.hid hB
  have HD := Lib.hid hdo
  unfold timeBad at ht
  have k0 : decide (t < 0) = false := decide_eq_false (by omega)
  have k1 : decide (t ≥ 253402300800) = false := decide_eq_false (by omega)
  clear hs hl hN hB hdo ht
  go_enter Try.func31, Try.ntmps31
  go_wp2_with fail
  refine HN.out.mono ?_
  rintro e w0 ⟨rfl, hb⟩
  obtain ⟨c0, c1, c2, c3, c4, c5, c6, c7, c8, c9, c10, c11, c12, c13⟩ := (H0.out.go hb).cells
  have Hb := Lib.hid hb
  clear hb
  go_wp2_with fail
  refine (HD.out _ (bnext Hb.out (bstep w0 _))).mono ?_
  rintro e w2 ⟨v, rfl, hR⟩
  have HR := Lib.hid hR
  clear hR c0 c1 c2 c3 c4 c5 c6 c7 c8 c9 c10 c11 c12 c13
  go_wp2_with fail
  go_ret2
  exact ⟨_, rfl, HR.out⟩
set_option maxRecDepth 100000 in
set_option maxHeartbeats 8000000 in
/-- turn, where what it does says an error: the meter is put back. -/
theorem turn_Replace_no (w : World) (b : Nat) (nr : Int) (s : Stp) (m : M) (hs : MayS s) (hB : MtB w b nr s m) (t : Int) (ht : ¬ timeBad t) (b0 b1 b2 : Nat) (er : Int) (her : er ≠ 0)
    (hdo : ∀ W, Below w.heap.size w W → Calls Try.prog 37 #[.pointer (some ⟨b0, 0, none⟩), .pointer (some ⟨b1, 0, none⟩), .pointer (some ⟨b2, 0, none⟩)] W fun e w' => ∃ v, e = .returned (.tuple #[v, .int .i64 er]) ∧ (∃ m', MtB w' b nr s m') ∧ Kept (fun x => x ≠ b) W w') :
    Calls Try.prog 31 #[.pointer (some ⟨b, 0, none⟩), .int .i64 t, .func (.func 37) #[] #[.pointer (some ⟨b0, 0, none⟩), .pointer (some ⟨b1, 0, none⟩), .pointer (some ⟨b2, 0, none⟩)]] w fun e w' => e = .returned (.tuple #[.slice none 0 0, .int .i64 er]) ∧ MtB w' b nr s m ∧ Kept (fun x => x ≠ b) w w' := by
  have hl := hs.ok.len
  have hN := mnone_calls w b nr s m hB
  rw [show (s.len == 0) = false from beq_eq_false_iff_ne.2 (by omega)] at hN
  have HN := Lib.hid hN
  have H0 := Lib.hid hB
  have HD := Lib.hid hdo
  unfold timeBad at ht
  have k0 : decide (t < 0) = false := decide_eq_false (by omega)
  have k1 : decide (t ≥ 253402300800) = false := decide_eq_false (by omega)
  have k2 : (er != 0) = true := by simp [her]
  clear hs hl hN hB hdo ht
  go_enter Try.func31, Try.ntmps31
  go_wp2_with fail
  refine HN.out.mono ?_
  rintro e w0 ⟨rfl, hb⟩
  obtain ⟨c0, c1, c2, c3, c4, c5, c6, c7, c8, c9, c10, c11, c12, c13⟩ := (H0.out.go hb).cells
  have Hb := Lib.hid hb
  obtain ⟨b9, hb9⟩ : ∃ b9, w0.heap.size = b9 := ⟨_, rfl⟩
  obtain ⟨w1, hw1⟩ : ∃ w1, w0.alloc (.cells (mtC nr s m) 72) = w1 := ⟨_, rfl⟩
  have hst : Below w0.heap.size w0 w1 := hw1 ▸ bstep w0 _
  have hr : w1.heap[b9]? = some (.cells (mtC nr s m) 72 (0, 0)) := by rw [← hb9, ← hw1]; exact blk_new w0 _ _
  have H1 := Lib.hid (And.intro (bnext hb hst) (And.intro hr (show b < b9 by have := (H0.out.go hb).lt; omega)))
  clear hb hst hr
  unfold mtC at hw1
  go_wp2_with fail
  clear c0 c1 c2 c3 c4 c5 c6 c7 c8 c9 c10 c11 c12 c13 hw1 hb9
  refine (HD.out w1 H1.out.1).mono ?_
  rintro e w2 ⟨v, rfl, ⟨m', hm'⟩, hk⟩
  have hr2 := heap_kept hk H1.out.2.1 (by have := H1.out.2.2; omega)
  have HR := Lib.hid (show w2.rangeAt b9 0 (mtC nr s m).toList from fun j v hv => blk_cell hr2 (0 + j) (by rw [Nat.zero_add]; simpa using hv))
  have HI := Lib.hid (show (Try.prog.info? 72).map (·.size) = some (mtC nr s m).toList.length by rw [Array.length_toList, mtC_size]; exact eMtS)
  have HI2 := Lib.hid (show (Try.prog.info? 72).map (·.size) = some (mtC nr s m).size by rw [mtC_size]; exact eMtS)
  have HO := Lib.hid (show (mtC nr s m').size = (mtC nr s m).size by rw [mtC_size, mtC_size])
  have HA := Lib.hid (mtC_all nr s m)
  have HZ := Lib.hid hm'
  have HK := Lib.hid ((H1.out.1.keptS (fun x => x ≠ b)).trans (hk.setRow (g := b) (fun e => e rfl) (mtC nr s m)))
  have HM := Lib.hid (show MtB (w2.setRow b (mtC nr s m)) b nr s m from hm'.row)
  clear hr2 hm' hk
  go_upto_region 8 with fail
  refine wp_region_lit ?_
  refine wpList_plain rfl fun K hK => ?_
  go_simp
  refine hK _ _ ?_
  clear hK K
  try simp only [Act.put, List.getElem_toArray, List.getElem_cons_succ, List.getElem_cons_zero, List.setIfInBounds_toArray, List.set_cons_zero, List.set_cons_succ]
  refine wpList_load_mid rfl 72 (.tmp 8) rfl b9 0 rfl _ _ HR.out Try.underlying72 (by rfl) HI.out ?_
  try simp only [Array.toArray_toList]
  try simp only [Act.put, List.getElem_toArray, List.getElem_cons_succ, List.getElem_cons_zero, List.setIfInBounds_toArray, List.set_cons_zero, List.set_cons_succ]
  obtain ⟨mv, hmv⟩ : ∃ mv, mtC nr s m = mv := ⟨_, rfl⟩
  rw [hmv] at HI2 HO HA HM HK ⊢
  refine wpList_plain rfl fun K hK => ?_
  go_simp
  refine hK _ _ ?_
  clear hK K
  try simp only [Act.put, List.getElem_toArray, List.getElem_cons_succ, List.getElem_cons_zero, List.setIfInBounds_toArray, List.set_cons_zero, List.set_cons_succ]
  refine wpList_plain rfl fun K hK => ?_
  refine wp_store_row 72 (.tmp 33) (.tmp 32) rfl b mv rfl rfl 72 (mtC nr s m') HZ.out HI2.out HO.out HA.out ?_
  refine hK _ _ ?_
  clear hK K
  go_wp2_with fail
  go_ret2
  exact ⟨rfl, HM.out, HK.out⟩
end Go.Proofs.Ytjmkbpgakfeceaa
