/-
  What the laws of meters share: some, open, alive, fine, walked. Conditions stand at each theorem. (Printed by gen_mt11.py.)
-/
import Derived.Test.YtjmkbpgakfeceaaMt10
namespace Go.Proofs.Ytjmkbpgakfeceaa
open Go Go.RowKit Go.Kw Go.Kw.Mt
set_option linter.unusedVariables false
set_option linter.unusedSimpArgs false

/-- The chapter's meter. -/
def s0 : Stp := ⟨1, 1, 1000, 900, 900⟩
def ex1 : M := (sampleV s0 zeroM 100 4294967290).2.2
def ex2 : M := (sampleV s0 ex1 400 4).2.2
theorem may_s0 : MayS s0 := ⟨by simp [mayP, s0], by simp [s0], by simp [s0]⟩
theorem ok_ex1 : Ok s0 ex1 1 := sample_ok may_s0.ok (zero_ok may_s0.ok (i := 0)) 100 (by decide)
theorem ok_ex2 : Ok s0 ex2 2 := sample_ok may_s0.ok ok_ex1 400 (by decide)
theorem below_kept {B b : Nat} {w w1 w' : World} (h1 : Below B w w1) (h2 : Kept (fun x => x ≠ b) w1 w') (hb : B ≤ b) (hB : B ≤ w.heap.size) : Below B w w' :=
  ⟨h2.os.trans h1.os, h2.tape.trans h1.tape, h2.output.trans h1.output, Nat.le_trans h1.size h2.size, fun k hk => (h2.block k (by have := h1.size; omega) (by show k ≠ b; omega)).trans (h1.block k hk)⟩

set_option maxRecDepth 100000 in
theorem built_one (en : Int) (f : Nat) : Try.prog.built 45 [(0, .int .i64 1), (1, .int .i64 3), (3, .int .i64 en), (7, .int .i64 (f : Int))] = some (enC 3 ⟨1, 0, en, f, 0⟩) := by
  obtain ⟨i, hi, hz⟩ := Option.map_eq_some_iff.1 eEn
  have hf : ∃ fs, Try.prog.underlying 45 = some (.struct fs) ∧ fs.toList.mapM (fun f => (Try.prog.info? f.type).map fun i => (f.offset, i.size)) = some [(0, 1), (1, 1), (2, 1), (3, 1), (4, 1), (5, 1), (6, 1), (7, 1), (8, 1), (9, 1), (10, 32)] := ⟨_, rfl, by kernel_rfl⟩
  obtain ⟨fs, hu, hm⟩ := hf
  unfold Program.built
  rw [hi, hu]
  dsimp only
  rw [hz, hm]
  dsimp only
  unfold enC
  rfl
theorem RowE.up {w : World} {B B' : Nat} {A : Option Addr} {nr : Int} {L : List En} (h : RowE w B A nr L) (hb : B ≤ B') : RowE w B' A nr L := by
  rcases h with h | ⟨b, o, hA, h1, h⟩
  · exact .inl h
  · exact .inr ⟨b, o, hA, Nat.lt_of_lt_of_le h1 hb, h⟩
theorem rowE_one (w : World) (nr : Int) (x : En) : RowE (w.alloc (.cells (enC nr x) 45)) (w.heap.size + 1) (some ⟨w.heap.size, 0, none⟩) nr [x] := by
  refine .inr ⟨w.heap.size, 0, rfl, by omega, fun i y hy j v hv => ?_⟩
  have hi : i = 0 := by
    have := (List.getElem?_eq_some_iff.1 hy).1
    simp at this
    exact this
  subst hi
  obtain rfl : x = y := by simpa using hy
  refine blk_cell (blk_new w (enC nr x) 45) (0 + 0 * 42 + j) ?_
  rw [show 0 + 0 * 42 + j = j by omega]
  rw [← Array.getElem?_toList]
  exact hv
theorem mopen_ok (w : World) (b : Nat) (nr : Int) (s : Stp) (m : M) (i : Nat) (hs : MayS s) (hok : Ok s m i) (hi : i ≤ 201) (h : MtB w b nr s m) (hbg : m.bg = true) :
    Calls Try.prog 15 #[.pointer (some ⟨b, 0, none⟩)] w fun e w' => e = .returned (.tuple #[.int .i64 (m.o * s.len), .int .i64 (m.k + (eng s m.c : Int) - m.fr), .int .i64 (m.f : Int), .bool true]) ∧ Below w.heap.size w w' := by
  have hl := hs.ok.len
  have hk := hok.k
  have hfr := hok.fr
  have hc := hok.c
  have ho := hok.o
  have ht := hok.t
  have hic : (i : Int) * 9007199254740992 ≤ 201 * 9007199254740992 := Int.mul_le_mul_of_nonneg_right (by omega) (by omega)
  have hic2 : i * 4294967296 ≤ 201 * 4294967296 := Nat.mul_le_mul_right _ hi
  have ho0 : 0 ≤ m.o := by
    rcases Int.lt_or_le m.o 0 with h | h
    · have h1 := Int.mul_le_mul_of_nonneg_right (show m.o + 1 ≤ 0 by omega) (show 0 ≤ s.len by omega)
      omega
    · exact h
  have h0 := Int.mul_nonneg ho0 (show 0 ≤ s.len by omega)
  exact mopen_yes w b nr s m hs h hbg (by omega) hfr ⟨hk.1, by omega⟩ ⟨h0, by omega⟩

set_option maxHeartbeats 8000000 in
theorem some_calls (w : World) : Calls Try.prog 26 #[] w fun e w' => ∃ b, e = .returned (.pointer (some ⟨b, 0, none⟩)) ∧ w.heap.size ≤ b ∧ MtB w' b 3 s0 ex2 ∧ Below w.heap.size w w' := by
  have hn : (∀ W : World, Calls Try.prog 13 #[.int .i64 3, .agg #[.int .u64 1, .int .u64 1, .int .u32 1000, .int .i64 900, .int .i64 900]] W fun e w' => ∃ b, e = .returned (.tuple #[.pointer (some ⟨b, 0, none⟩), .int .i64 0]) ∧ W.heap.size ≤ b ∧ MtB w' b 3 s0 zeroM ∧ Below W.heap.size W w') := fun W => mnew_calls W 3 s0 may_s0 (by decide)
  have HN := Lib.hid hn
  clear hn
  go_enter Try.func26, Try.ntmps26
  go_wp2_with fail
  refine (HN.out _).mono ?_
  rintro e w1 ⟨b, rfl, hb, hm, hbl⟩
  have H1 := Lib.hid (And.intro hm (And.intro hbl hb))
  clear hm hbl hb
  go_wp2_with fail
  refine (mSample_calls w1 b 3 s0 zeroM 0 may_s0 (zero_ok may_s0.ok) (by decide) H1.out.1 100 4294967290 (by decide)).mono ?_
  rintro e w2 ⟨A, k, c, rfl, -, hm, hk, -⟩
  have H2 := Lib.hid (And.intro hm (below_kept H1.out.2.1 hk H1.out.2.2 (Nat.le_refl _)))
  clear hm hk
  go_wp2_with fail
  refine (mSample_calls w2 b 3 s0 ex1 1 may_s0 ok_ex1 (by decide) H2.out.1 400 4 (by decide)).mono ?_
  rintro e w3 ⟨A, k, c, rfl, -, hm, hk, -⟩
  have H3 := Lib.hid (And.intro hm (below_kept H2.out.2 hk H1.out.2.2 (Nat.le_refl _)))
  clear hm hk
  go_wp2_with fail
  go_ret
  exact ⟨b, rfl, H1.out.2.2, H3.out.1, H3.out.2⟩
theorem open_true (w : World) (b : Nat) (nr : Int) (s : Stp) (m : M) (i : Nat) (hs : MayS s) (hok : Ok s m i) (hi : i ≤ 201) (hB : MtB w b nr s m) (hbg : m.bg = true) (st en fl : Int) (h1 : m.o * s.len = st) (h2 : m.k + (eng s m.c : Int) - m.fr = en) (h3 : (m.f : Int) = fl) :
    Calls Try.prog 27 #[.pointer (some ⟨b, 0, none⟩), .int .i64 st, .int .i64 en, .int .i64 fl] w fun e w' => e = .returned (.bool true) ∧ Below w.heap.size w w' := by
  have HO := Lib.hid (mopen_ok w b nr s m i hs hok hi hB hbg)
  rw [h1, h2, h3] at HO
  clear h1 h2 h3 hs hok hB hbg
  go_enter Try.func27, Try.ntmps27
  go_wp2_with fail
  refine HO.out.mono ?_
  rintro e w1 ⟨rfl, hb⟩
  have Hb := Lib.hid hb
  clear hb
  have q1 : (st == st) = true := beq_self_eq_true _
  have q2 : (en == en) = true := beq_self_eq_true _
  have q3 : (fl == fl) = true := beq_self_eq_true _
  go_wp2_with fail
  go_ret
  exact ⟨rfl, Hb.out⟩
theorem alive_calls (w : World) : Calls Try.prog 11 #[] w fun e w' => e = .returned (.bool true) ∧ Below w.heap.size w w' := by
  go_enter Try.func11, Try.ntmps11
  go_wp2_with fail
  refine (some_calls w).mono ?_
  rintro e w1 ⟨b, rfl, hb, hm, hbl⟩
  have H1 := Lib.hid (And.intro hm (And.intro hbl hb))
  clear hm hbl hb
  go_wp2_with fail
  refine (open_true w1 b 3 s0 ex2 2 may_s0 ok_ex2 (by decide) H1.out.1 (by decide) 0 10 1 (by decide) (by decide) (by decide)).mono ?_
  rintro e w2 ⟨rfl, hb2⟩
  have H2 := Lib.hid (And.intro (H1.out.1.go hb2) (bnext H1.out.2.1 hb2))
  clear hb2
  go_wp2_with fail
  have hs2 : sampleV s0 ex2 1300 904 = (0, [⟨1, 0, 510, 1, 0⟩], (sampleV s0 ex2 1300 904).2.2) := by
    have h1 : (sampleV s0 ex2 1300 904).1 = 0 := by kernel_rfl
    have h2 : (sampleV s0 ex2 1300 904).2.1 = [⟨1, 0, 510, 1, 0⟩] := by kernel_rfl
    exact Prod.ext h1 (Prod.ext h2 rfl)
  have hc := mSample_calls w2 b 3 s0 ex2 2 may_s0 ok_ex2 (by decide) H2.out.1 1300 904 (by decide)
  rw [hs2] at hc
  refine hc.mono ?_
  rintro e w3 ⟨A, k, c, rfl, ho, hm, hk, hkk⟩
  have H3 := Lib.hid (And.intro (own_rowE ho hkk) (below_kept H2.out.2 hk H1.out.2.2 (Nat.le_refl _)))
  obtain rfl : k = 1 := hkk
  clear ho hm hk hs2 hc
  have HBu := built_one 510 1
  go_wp2_with fail
  refine (same_yes (w3.alloc (.cells (enC 3 ⟨1, 0, 510, 1, 0⟩) 45)) A (some ⟨w3.heap.size, 0, none⟩) c 1 3 [⟨1, 0, 510, 1, 0⟩] (by decide) ((H3.out.1.go (bstep w3 _)).up (by rw [World.size_alloc]; omega)) (by rw [World.size_alloc]; exact rowE_one w3 3 _)).mono ?_
  rintro e w4 ⟨rfl, hb4⟩
  have H4 := Lib.hid (bnext (bnext H3.out.2 (bstep w3 _)) hb4)
  clear hb4
  go_wp2_with fail
  go_ret
  exact ⟨rfl, H4.out⟩
theorem eSetS : (Try.prog.info? 25).map (·.size) = some 5 := by kernel_rfl
theorem results_one_cell {P : Program} {fn : Func} {p : Tmp} {ty : TypeId} (h : fn.results = #[.cell p ty]) (tmps : Array Value) (w : World) (g : Nat) (t : TypeId) (cs : Array Value) (fr : Nat × Nat) (d : TypeDesc)
    (hp : tmps.getD p undef = .pointer (some ⟨g, 0, none⟩)) (hg : w.heap[g]? = some (.cells cs t fr))
    (hu : P.underlying ty = some d) (hd : (match d with | .struct _ | .array _ _ => true | _ => false) = true) (hi : (P.info? ty).map (·.size) = some cs.size) :
    (results fn tmps).run P w = .ok (.agg cs) w := by
  have hp' : tmps[p]?.getD undef = .pointer (some ⟨g, 0, none⟩) := by simpa using hp
  simp [results, h, hp', asAddr, run_loadVar_row w g t ty cs fr d hg hu hd hi]
/-- A setup that may be, out of any. -/
def fineS (num den bound : Nat) (gap len : Int) : Stp := ⟨1 + num % 1048576, 1 + den % 1048576, bound, max 0 gap, if mayP (1 + num % 1048576 : Nat) (1 + den % 1048576 : Nat) (max 0 gap) len then len else 900⟩
theorem fine_may (num den bound : Nat) (gap len : Int) (hb : bound < 4294967296) (hg : gap < 9223372036854775808) : MayS (fineS num den bound gap len) := by
  refine ⟨?_, hb, by show max 0 gap < _; omega⟩
  unfold fineS
  dsimp only
  split
  · next h => exact h
  · unfold mayP; omega
set_option maxRecDepth 100000 in
set_option maxHeartbeats 8000000 in
theorem fine_calls (w : World) (num den bound : Nat) (gap len : Int) (hn : num < 18446744073709551616) (hd : den < 18446744073709551616) (hb : bound < 4294967296) (hg : -9223372036854775808 ≤ gap ∧ gap < 9223372036854775808) :
    Calls Try.prog 12 #[setV (num : Int) (den : Int) (bound : Int) gap len] w fun e w' => e = .returned (setV ((fineS num den bound gap len).num : Int) ((fineS num den bound gap len).den : Int) (bound : Int) (fineS num den bound gap len).gap (fineS num den bound gap len).len) ∧ Below w.heap.size w w' := by
  obtain ⟨R, hR⟩ : ∃ R, fineS num den bound gap len = R := ⟨_, rfl⟩
  rw [hR]
  obtain ⟨n1, hn1⟩ : ∃ n1 : Int, 1 + (num : Int) % 1048576 = n1 := ⟨_, rfl⟩
  obtain ⟨n2, hn2⟩ : ∃ n2 : Int, 1 + (den : Int) % 1048576 = n2 := ⟨_, rfl⟩
  have c1 : ((1 + num % 1048576 : Nat) : Int) = n1 := by omega
  have c2 : ((1 + den % 1048576 : Nat) : Int) = n2 := by omega
  have e1 : (R.num : Int) = n1 := by rw [← hR]; exact c1
  have e2 : (R.den : Int) = n2 := by rw [← hR]; exact c2
  have e4 : R.gap = max 0 gap := by rw [← hR]; rfl
  have e5 : R.len = if mayP n1 n2 (max 0 gap) len then len else 900 := by
    rw [← hR]
    show (if mayP ((1 + num % 1048576 : Nat) : Int) ((1 + den % 1048576 : Nat) : Int) (max 0 gap) len then len else 900) = _
    rw [c1, c2]
  rw [e1, e2, e4, e5]
  clear hR e1 e2 e4 e5 c1 c2 R
  have HCk := Lib.hid (fun G W => check_calls n1 n2 (bound : Int) G len W)
  unfold setV at HCk ⊢
  have Hn := Lib.hid (And.intro hn1 hn2)
  clear hn1 hn2
  by_cases hg0 : 0 < gap
  · have hG : max 0 gap = gap := by omega
    rw [hG]
    obtain ⟨b0, hb0⟩ : ∃ b0, w.heap.size = b0 := ⟨_, rfl⟩
    obtain ⟨w2, hw2⟩ : ∃ x, (w.alloc (.cells #[.int .u64 n1, .int .u64 n2, .int .u32 (bound : Int), .int .i64 gap, .int .i64 len] 25)).alloc (.cells #[.int .u64 0, .int .u64 0, .int .u32 0, .int .i64 0, .int .i64 0] 25) = x := ⟨_, rfl⟩
    have hst : Below w.heap.size w w2 := hw2 ▸ bnext (bstep w _) (bstep _ _)
    have hr1 : w2.heap[b0]? = some (.cells #[.int .u64 n1, .int .u64 n2, .int .u32 (bound : Int), .int .i64 gap, .int .i64 len] 25 (0, 0)) := by rw [← hb0, ← hw2]; exact blk_below (blk_new w _ _) (bstep _ _)
    have hr2 : w2.heap[b0 + 1]? = some (.cells #[.int .u64 0, .int .u64 0, .int .u32 0, .int .i64 0, .int .i64 0] 25 (0, 0)) := by
      have := blk_new (w.alloc (.cells #[.int .u64 n1, .int .u64 n2, .int .u32 (bound : Int), .int .i64 gap, .int .i64 len] 25)) #[.int .u64 0, .int .u64 0, .int .u32 0, .int .i64 0, .int .i64 0] 25
      rw [hw2, World.size_alloc, hb0] at this
      exact this
    have H2 := Lib.hid (And.intro hst (And.intro hr1 hr2))
    have q0 : w2.cell? ⟨b0, 0, none⟩ = some (.int .u64 n1) := blk_cell hr1 0 rfl
    have q1 : w2.cell? ⟨b0, 1, none⟩ = some (.int .u64 n2) := blk_cell hr1 1 rfl
    have q2 : w2.cell? ⟨b0, 2, none⟩ = some (.int .u32 (bound : Int)) := blk_cell hr1 2 rfl
    have q3 : w2.cell? ⟨b0, 3, none⟩ = some (.int .i64 gap) := blk_cell hr1 3 rfl
    have q4 : w2.cell? ⟨b0, 4, none⟩ = some (.int .i64 len) := blk_cell hr1 4 rfl
    have f3 := blk_frozen hr1 3
    have y1 := Hn.out.1
    have y2 := Hn.out.2
    clear hst hr1 hr2 hG hn hd hb hg
    go_enter Try.func12, Try.ntmps12
    go_wp2_with fail
    refine (HCk.out gap _).mono ?_
    rintro e w3 ⟨rfl, hb3⟩
    clear hw2 q0 q1 q2 q3 q4 f3
    have hr1 : w3.heap[b0]? = some (.cells #[.int .u64 n1, .int .u64 n2, .int .u32 (bound : Int), .int .i64 gap, .int .i64 len] 25 (0, 0)) := blk_below (bset H2.out.2.1 (i := 3) (.int .i64 gap)) hb3
    have hr2 : w3.heap[b0 + 1]? = some (.cells #[.int .u64 0, .int .u64 0, .int .u32 0, .int .i64 0, .int .i64 0] 25 (0, 0)) := blk_below ((Below.heap_setCell _ _ _ _ (by show b0 + 1 ≠ b0; omega)).trans H2.out.2.2) hb3
    have hst3 : Below w.heap.size w w3 := bnext (H2.out.1.setCell (p := ⟨b0, 3, none⟩) (by show w.heap.size ≤ b0; omega) _) hb3
    have H3 := Lib.hid (And.intro hst3 (And.intro hr1 hr2))
    have q0 : w3.cell? ⟨b0, 0, none⟩ = some (.int .u64 n1) := blk_cell hr1 0 rfl
    have q1 : w3.cell? ⟨b0, 1, none⟩ = some (.int .u64 n2) := blk_cell hr1 1 rfl
    have q2 : w3.cell? ⟨b0, 2, none⟩ = some (.int .u32 (bound : Int)) := blk_cell hr1 2 rfl
    have q3 : w3.cell? ⟨b0, 3, none⟩ = some (.int .i64 gap) := blk_cell hr1 3 rfl
    have q4 : w3.cell? ⟨b0, 4, none⟩ = some (.int .i64 len) := blk_cell hr1 4 rfl
    have f4 := blk_frozen hr1 4
    clear hr1 hr2 hst3 hb3
    by_cases hm : mayP n1 n2 gap len
    · have Hm := Lib.hid hm
      simp only [if_pos hm]
      clear hm
      have HZ := Lib.hid H3.out.2.2
      have HI2 := Lib.hid (show (Try.prog.info? 25).map (·.size) = some (#[Value.int .u64 n1, .int .u64 n2, .int .u32 (bound : Int), .int .i64 gap, .int .i64 len]).size from eSetS)
      go_upto_region 6 with fail
      clear f4
      go_wp2_with (first | (refine' wpList_store_row rfl _ _ _ rfl _ _ rfl rfl _ _ HZ.out HI2.out rfl (by simp [Value.oneCell']) ?_))
      refine bodyPost_ret (results_one_cell rfl _ _ (b0 + 1) _ _ _ _ rfl (setRow_heap _ _ _ _ _ _ HZ.out) Try.underlying25 rfl HI2.out) rfl ?_
      exact ⟨rfl, by rw [← hb0]; exact belowSetRow H3.out.1 (by omega) _⟩
    · have Hm := Lib.hid hm
      simp only [if_neg hm]
      clear hm
      have HZ := Lib.hid ((Below.heap_setCell w3 ⟨b0, 4, none⟩ (.int .i64 900) _ (by show b0 + 1 ≠ b0; omega)).trans H3.out.2.2)
      have HI2 := Lib.hid (show (Try.prog.info? 25).map (·.size) = some (#[Value.int .u64 n1, .int .u64 n2, .int .u32 (bound : Int), .int .i64 gap, .int .i64 900]).size from eSetS)
      go_upto_region 6 with fail
      clear f4
      go_wp2_with (first | (refine' wpList_store_row rfl _ _ _ rfl _ _ rfl rfl _ _ HZ.out HI2.out rfl (by simp [Value.oneCell']) ?_))
      refine bodyPost_ret (results_one_cell rfl _ _ (b0 + 1) _ _ _ _ rfl (setRow_heap _ _ _ _ _ _ HZ.out) Try.underlying25 rfl HI2.out) rfl ?_
      exact ⟨rfl, by rw [← hb0]; exact belowSetRow (H3.out.1.setCell (p := ⟨w.heap.size, 4, none⟩) (Nat.le_refl _) _) (by omega) _⟩

  · have hG : max 0 gap = 0 := by omega
    rw [hG]
    obtain ⟨b0, hb0⟩ : ∃ b0, w.heap.size = b0 := ⟨_, rfl⟩
    obtain ⟨w2, hw2⟩ : ∃ x, (w.alloc (.cells #[.int .u64 n1, .int .u64 n2, .int .u32 (bound : Int), .int .i64 0, .int .i64 len] 25)).alloc (.cells #[.int .u64 0, .int .u64 0, .int .u32 0, .int .i64 0, .int .i64 0] 25) = x := ⟨_, rfl⟩
    have hst : Below w.heap.size w w2 := hw2 ▸ bnext (bstep w _) (bstep _ _)
    have hr1 : w2.heap[b0]? = some (.cells #[.int .u64 n1, .int .u64 n2, .int .u32 (bound : Int), .int .i64 0, .int .i64 len] 25 (0, 0)) := by rw [← hb0, ← hw2]; exact blk_below (blk_new w _ _) (bstep _ _)
    have hr2 : w2.heap[b0 + 1]? = some (.cells #[.int .u64 0, .int .u64 0, .int .u32 0, .int .i64 0, .int .i64 0] 25 (0, 0)) := by
      have := blk_new (w.alloc (.cells #[.int .u64 n1, .int .u64 n2, .int .u32 (bound : Int), .int .i64 0, .int .i64 len] 25)) #[.int .u64 0, .int .u64 0, .int .u32 0, .int .i64 0, .int .i64 0] 25
      rw [hw2, World.size_alloc, hb0] at this
      exact this
    have H2 := Lib.hid (And.intro hst (And.intro hr1 hr2))
    have q0 : w2.cell? ⟨b0, 0, none⟩ = some (.int .u64 n1) := blk_cell hr1 0 rfl
    have q1 : w2.cell? ⟨b0, 1, none⟩ = some (.int .u64 n2) := blk_cell hr1 1 rfl
    have q2 : w2.cell? ⟨b0, 2, none⟩ = some (.int .u32 (bound : Int)) := blk_cell hr1 2 rfl
    have q3 : w2.cell? ⟨b0, 3, none⟩ = some (.int .i64 0) := blk_cell hr1 3 rfl
    have q4 : w2.cell? ⟨b0, 4, none⟩ = some (.int .i64 len) := blk_cell hr1 4 rfl
    have f3 := blk_frozen hr1 3
    have y1 := Hn.out.1
    have y2 := Hn.out.2
    clear hst hr1 hr2 hG hn hd hb hg
    go_enter Try.func12, Try.ntmps12
    go_wp2_with fail
    refine (HCk.out 0 _).mono ?_
    rintro e w3 ⟨rfl, hb3⟩
    clear hw2 q0 q1 q2 q3 q4 f3
    have hr1 : w3.heap[b0]? = some (.cells #[.int .u64 n1, .int .u64 n2, .int .u32 (bound : Int), .int .i64 0, .int .i64 len] 25 (0, 0)) := blk_below H2.out.2.1 hb3
    have hr2 : w3.heap[b0 + 1]? = some (.cells #[.int .u64 0, .int .u64 0, .int .u32 0, .int .i64 0, .int .i64 0] 25 (0, 0)) := blk_below H2.out.2.2 hb3
    have hst3 : Below w.heap.size w w3 := bnext H2.out.1 hb3
    have H3 := Lib.hid (And.intro hst3 (And.intro hr1 hr2))
    have q0 : w3.cell? ⟨b0, 0, none⟩ = some (.int .u64 n1) := blk_cell hr1 0 rfl
    have q1 : w3.cell? ⟨b0, 1, none⟩ = some (.int .u64 n2) := blk_cell hr1 1 rfl
    have q2 : w3.cell? ⟨b0, 2, none⟩ = some (.int .u32 (bound : Int)) := blk_cell hr1 2 rfl
    have q3 : w3.cell? ⟨b0, 3, none⟩ = some (.int .i64 0) := blk_cell hr1 3 rfl
    have q4 : w3.cell? ⟨b0, 4, none⟩ = some (.int .i64 len) := blk_cell hr1 4 rfl
    have f4 := blk_frozen hr1 4
    clear hr1 hr2 hst3 hb3
    by_cases hm : mayP n1 n2 0 len
    · have Hm := Lib.hid hm
      simp only [if_pos hm]
      clear hm
      have HZ := Lib.hid H3.out.2.2
      have HI2 := Lib.hid (show (Try.prog.info? 25).map (·.size) = some (#[Value.int .u64 n1, .int .u64 n2, .int .u32 (bound : Int), .int .i64 0, .int .i64 len]).size from eSetS)
      go_upto_region 6 with fail
      clear f4
      go_wp2_with (first | (refine' wpList_store_row rfl _ _ _ rfl _ _ rfl rfl _ _ HZ.out HI2.out rfl (by simp [Value.oneCell']) ?_))
      refine bodyPost_ret (results_one_cell rfl _ _ (b0 + 1) _ _ _ _ rfl (setRow_heap _ _ _ _ _ _ HZ.out) Try.underlying25 rfl HI2.out) rfl ?_
      exact ⟨rfl, by rw [← hb0]; exact belowSetRow H3.out.1 (by omega) _⟩
    · have Hm := Lib.hid hm
      simp only [if_neg hm]
      clear hm
      have HZ := Lib.hid ((Below.heap_setCell w3 ⟨b0, 4, none⟩ (.int .i64 900) _ (by show b0 + 1 ≠ b0; omega)).trans H3.out.2.2)
      have HI2 := Lib.hid (show (Try.prog.info? 25).map (·.size) = some (#[Value.int .u64 n1, .int .u64 n2, .int .u32 (bound : Int), .int .i64 0, .int .i64 900]).size from eSetS)
      go_upto_region 6 with fail
      clear f4
      go_wp2_with (first | (refine' wpList_store_row rfl _ _ _ rfl _ _ rfl rfl _ _ HZ.out HI2.out rfl (by simp [Value.oneCell']) ?_))
      refine bodyPost_ret (results_one_cell rfl _ _ (b0 + 1) _ _ _ _ rfl (setRow_heap _ _ _ _ _ _ HZ.out) Try.underlying25 rfl HI2.out) rfl ?_
      exact ⟨rfl, by rw [← hb0]; exact belowSetRow (H3.out.1.setCell (p := ⟨w.heap.size, 4, none⟩) (Nat.le_refl _) _) (by omega) _⟩
end Go.Proofs.Ytjmkbpgakfeceaa
