/-
  MeterPlays: a call to both meters (do), walked. Conditions stand at each theorem. (Printed by gen_plm2.py.)
-/
import Derived.Test.YtjmkbpgakfeceaaPlM1
namespace Go.Proofs.Ytjmkbpgakfeceaa
open Go Go.RowKit Go.Kw Go.Kw.Mt Go.Kw.Nm
set_option linter.unusedVariables false
set_option linter.unusedSimpArgs false

/-- What a call leaves of both meters. -/
def DoP (w : World) (b r : Nat) (nr : Int) (s : Stp) (i : Nat) (e : Ending) (w' : World) : Prop :=
  e = .returned (.bool true) ∧ ∃ m2, MtB w' b nr s m2 ∧ RtB w' r nr s m2 ∧ Ok s m2 (i + 1) ∧ Kept (fun x => x ≠ b ∧ x ≠ r) w w'
theorem sample_len (s : Stp) (m : M) (t : Int) (v : Nat) : (sampleV s m t v).2.1.length ≤ 1001 := by
  rw [sample_form]
  split
  · simp
  · split
    · simp
    · split
      · simp
      · next h =>
        show (_ ++ _ : List En).length ≤ 1001
        rw [List.length_append, passE_length]
        have h1 : many s (backM m t) (max t m.t) ≤ 1000 := by unfold many; rw [(back_same t).2.2.2.1]; omega
        split
        · show _ + 1 ≤ _; omega
        · show _ + 0 ≤ _; omega
theorem repl_len (s : Stp) (m : M) (t : Int) (v : Nat) : (replV s m t v).2.1.length ≤ 1001 := by
  rw [repl_form]
  split
  · simp
  · split
    · simp
    · split
      · simp
      · split
        · simp
        · next h =>
          show (passE _ _ _ _ _ _).length ≤ 1001
          rw [passE_length]
          unfold many; omega
theorem rSample_calls (w : World) (r : Nat) (nr : Int) (s : Stp) (m : M) (i : Nat) (hs : MayS s) (hok : Ok s m i) (hi : i ≤ 200) (hB : RtB w r nr s m) (t : Int) (v : Nat) (hv : v < 4294967296) :
    Calls Try.prog 39 #[.pointer (some ⟨r, 0, none⟩), .int .i64 t, .int .u32 (v : Int)] w (AnsR w r nr s (sampleV s m t v)) := by
  by_cases ht : timeBad t
  · rw [sample_form, if_pos ht]
    refine (rsample_time w r nr s m i hs hok hi hB t v hv ht).mono ?_
    rintro e w' ⟨he, hb⟩
    exact AnsR.no he (hB.go hb) (hb.keptS _)
  cases hbg : m.bg with
  | false =>
    rw [sample_form, if_neg ht, if_pos hbg]
    refine (rsample_first w r nr s m i hs hok hi hB t v hv ht hbg).mono ?_
    rintro e w' ⟨he, hm, hk⟩
    exact AnsR.no he hm hk
  | true => exact rsample_next w r nr s m i hs hok hi hB t v hv ht hbg
theorem rReplace_calls (w : World) (r : Nat) (nr : Int) (s : Stp) (m : M) (i : Nat) (hs : MayS s) (hok : Ok s m i) (hi : i ≤ 200) (hB : RtB w r nr s m) (t : Int) (v : Nat) (hv : v < 4294967296) :
    Calls Try.prog 40 #[.pointer (some ⟨r, 0, none⟩), .int .i64 t, .int .u32 (v : Int)] w (AnsR w r nr s (replV s m t v)) := by
  by_cases ht : timeBad t
  · rw [repl_form, if_pos ht]
    refine (rrepl_time w r nr s m i hs hok hi hB t v hv ht).mono ?_
    rintro e w' ⟨he, hb⟩
    exact AnsR.no he (hB.go hb) (hb.keptS _)
  cases hbg : m.bg with
  | false =>
    rw [repl_form, if_neg ht, if_pos hbg]
    refine (rrepl_first w r nr s m i hs hok hi hB t v hv ht hbg).mono ?_
    rintro e w' ⟨he, hm, hk⟩
    exact AnsR.no he hm hk
  | true => exact rrepl_next w r nr s m i hs hok hi hB t v hv ht hbg

set_option maxRecDepth 100000 in
set_option maxHeartbeats 32000000 in
theorem do_calls (w : World) (b r : Nat) (nr : Int) (s : Stp) (m : M) (i : Nat) (hs : MayS s) (hok : Ok s m i) (hi : i ≤ 200) (hB : MtB w b nr s m) (hR : RtB w r nr s m) (hbr : b ≠ r) (kd t : Int) (v : Nat) (hv : v < 4294967296) :
    Calls Try.prog 24 #[.pointer (some ⟨b, 0, none⟩), .pointer (some ⟨r, 0, none⟩), .agg #[.int .i64 kd, .int .i64 t, .int .u32 (v : Int)]] w (DoP w b r nr s i) := by
  obtain ⟨b5, hb5⟩ : ∃ b5, w.heap.size = b5 := ⟨_, rfl⟩
  obtain ⟨w1, hw1⟩ : ∃ x, w.alloc (.cells #[.int .i64 kd, .int .i64 t, .int .u32 (v : Int)] 56) = x := ⟨_, rfl⟩
  have hst : Below w.heap.size w w1 := hw1 ▸ bstep w _
  have hr5 : w1.heap[b5]? = some (.cells #[.int .i64 kd, .int .i64 t, .int .u32 (v : Int)] 56 (0, 0)) := by rw [← hb5, ← hw1]; exact blk_new w _ _
  have hl1 := hB.lt
  have hl2 := hR.lt
  have q0 : w1.cell? ⟨b5, 0, none⟩ = some (.int .i64 kd) := blk_cell hr5 0 rfl
  have q1 : w1.cell? ⟨b5, 1, none⟩ = some (.int .i64 t) := blk_cell hr5 1 rfl
  have q2 : w1.cell? ⟨b5, 2, none⟩ = some (.int .u32 (v : Int)) := blk_cell hr5 2 rfl
  have H1 := Lib.hid (And.intro hst (And.intro hr5 (And.intro (hB.go hst) (And.intro (hR.go hst) (show b < b5 ∧ r < b5 ∧ b < w.heap.size ∧ r < w.heap.size by omega)))))
  have HH := Lib.hid (And.intro hs (And.intro hok (And.intro hi (And.intro hv hbr))))
  clear hs hok hi hB hR hbr hv hst hr5 hl1 hl2
  by_cases k0 : kd = 0
  · have e0 : (kd == 0) = true := beq_iff_eq.2 k0
    clear k0 
    have hmA := mSample_calls w1 b nr s m i HH.out.1 HH.out.2.1 HH.out.2.2.1 H1.out.2.2.1 t v HH.out.2.2.2.1
    have hok2 := sample_ok HH.out.1.ok HH.out.2.1 t (v := v) HH.out.2.2.2.1
    have hrA := fun W (h : RtB W r nr s m) => rSample_calls W r nr s m i HH.out.1 HH.out.2.1 HH.out.2.2.1 h t v HH.out.2.2.2.1
    have hlen := sample_len s m t v
    obtain ⟨er, L, m2, hX⟩ : ∃ er L m2, sampleV s m t v = (er, L, m2) := ⟨_, _, _, rfl⟩
    rw [hX] at hmA hok2 hlen
    have Hlen := Lib.hid (show L.length ≤ 1001 from hlen)
    simp only [hX] at hrA
    have HmA := Lib.hid hmA
    have HrA := Lib.hid hrA
    have Hok2 := Lib.hid hok2
    clear hmA hrA hok2 hX hlen
    go_enter Try.func24, Try.ntmps24
    go_wp2_with fail
    clear hw1 hb5
    refine HmA.out.mono ?_
    rintro e w2 ⟨A, k, c, rfl, ho, hm, hk, hkk⟩
    obtain rfl : k = L.length := hkk
    have hr2 : RtB w2 r nr s m := H1.out.2.2.2.1.kept hk (fun e => HH.out.2.2.2.2 e.symm)
    have h52 := heap_kept hk H1.out.2.1 (by have := H1.out.2.2.2.2; omega : b5 ≠ b)
    have p1 : w2.cell? ⟨b5, 1, none⟩ = some (.int .i64 t) := blk_cell h52 1 rfl
    have p2 : w2.cell? ⟨b5, 2, none⟩ = some (.int .u32 (v : Int)) := blk_cell h52 2 rfl
    have H2 := Lib.hid (And.intro ho (And.intro hm (And.intro hk hr2)))
    clear ho hm hk hr2 h52 q0 q1 q2
    go_wp2_with fail
    refine (HrA.out w2 H2.out.2.2.2).mono ?_
    rintro e w3 ⟨A2, k2, c2, rfl, ho2, hm2, hk2, hkk2⟩
    obtain rfl : k2 = L.length := hkk2
    have hA : RowE w3 w3.heap.size A nr L := (own_rowE (own_keptM H2.out.1 hk2 (fun g e => by have h1 := H2.out.1.lt g e; have h2 := H1.out.1.size; have h3 := H1.out.2.2.2.2; show g ≠ r; omega)) rfl)
    have hA2 : RowE w3 w3.heap.size A2 nr L := own_rowE ho2 rfl
    have hcap : L.length ≤ 9223372036854775807 := by
      rcases ho2.2 with ⟨-, h2⟩ | ⟨_, _, _, -, -, -, h1, h2, -, -⟩
      · omega
      · unfold maxLen at h2; omega
    have hLs : L.length < 4611686018427387904 := by have := Hlen.out; omega
    have HSm := Lib.hid (same_yes w3 A A2 c c2 nr L hLs hA hA2)
    have hmb : MtB w3 b nr s m2 := H2.out.2.1.kept hk2 HH.out.2.2.2.2
    have hkz : Kept (fun x => x ≠ b ∧ x ≠ r) w w3 := ((H1.out.1.keptS _).trans (H2.out.2.2.1.mono (fun x _ h => h.1))).trans (hk2.mono (fun x _ h => h.2))
    have H3 := Lib.hid (And.intro hmb (And.intro hm2 hkz))
    have ke : (er == er) = true := beq_self_eq_true _
    clear ho2 hm2 hk2 hA hA2 hcap hLs hmb hkz p1 p2
    go_wp2_with fail
    refine HSm.out.mono ?_
    rintro e w4 ⟨rfl, hb4⟩
    have H4 := Lib.hid (show DoP w b r nr s i (.returned (.bool true)) w4 from ⟨rfl, m2, H3.out.1.go hb4, H3.out.2.1.go hb4, Hok2.out, H3.out.2.2.trans (hb4.keptS _)⟩)
    clear hb4
    go_wp2_with fail
    go_ret
    exact H4.out
  have e0 : (kd == 0) = false := beq_eq_false_iff_ne.2 k0
  by_cases k1 : kd = 1
  · have e1 : (kd == 1) = true := beq_iff_eq.2 k1
    clear k0 k1
    have hmA := mReplace_calls w1 b nr s m i HH.out.1 HH.out.2.1 HH.out.2.2.1 H1.out.2.2.1 t v HH.out.2.2.2.1
    have hok2 := repl_ok HH.out.1.ok HH.out.2.1 t (v := v) HH.out.2.2.2.1
    have hrA := fun W (h : RtB W r nr s m) => rReplace_calls W r nr s m i HH.out.1 HH.out.2.1 HH.out.2.2.1 h t v HH.out.2.2.2.1
    have hlen := repl_len s m t v
    obtain ⟨er, L, m2, hX⟩ : ∃ er L m2, replV s m t v = (er, L, m2) := ⟨_, _, _, rfl⟩
    rw [hX] at hmA hok2 hlen
    have Hlen := Lib.hid (show L.length ≤ 1001 from hlen)
    simp only [hX] at hrA
    have HmA := Lib.hid hmA
    have HrA := Lib.hid hrA
    have Hok2 := Lib.hid hok2
    clear hmA hrA hok2 hX hlen
    go_enter Try.func24, Try.ntmps24
    go_wp2_with fail
    clear hw1 hb5
    refine HmA.out.mono ?_
    rintro e w2 ⟨A, k, c, rfl, ho, hm, hk, hkk⟩
    obtain rfl : k = L.length := hkk
    have hr2 : RtB w2 r nr s m := H1.out.2.2.2.1.kept hk (fun e => HH.out.2.2.2.2 e.symm)
    have h52 := heap_kept hk H1.out.2.1 (by have := H1.out.2.2.2.2; omega : b5 ≠ b)
    have p1 : w2.cell? ⟨b5, 1, none⟩ = some (.int .i64 t) := blk_cell h52 1 rfl
    have p2 : w2.cell? ⟨b5, 2, none⟩ = some (.int .u32 (v : Int)) := blk_cell h52 2 rfl
    have H2 := Lib.hid (And.intro ho (And.intro hm (And.intro hk hr2)))
    clear ho hm hk hr2 h52 q0 q1 q2
    go_wp2_with fail
    refine (HrA.out w2 H2.out.2.2.2).mono ?_
    rintro e w3 ⟨A2, k2, c2, rfl, ho2, hm2, hk2, hkk2⟩
    obtain rfl : k2 = L.length := hkk2
    have hA : RowE w3 w3.heap.size A nr L := (own_rowE (own_keptM H2.out.1 hk2 (fun g e => by have h1 := H2.out.1.lt g e; have h2 := H1.out.1.size; have h3 := H1.out.2.2.2.2; show g ≠ r; omega)) rfl)
    have hA2 : RowE w3 w3.heap.size A2 nr L := own_rowE ho2 rfl
    have hcap : L.length ≤ 9223372036854775807 := by
      rcases ho2.2 with ⟨-, h2⟩ | ⟨_, _, _, -, -, -, h1, h2, -, -⟩
      · omega
      · unfold maxLen at h2; omega
    have hLs : L.length < 4611686018427387904 := by have := Hlen.out; omega
    have HSm := Lib.hid (same_yes w3 A A2 c c2 nr L hLs hA hA2)
    have hmb : MtB w3 b nr s m2 := H2.out.2.1.kept hk2 HH.out.2.2.2.2
    have hkz : Kept (fun x => x ≠ b ∧ x ≠ r) w w3 := ((H1.out.1.keptS _).trans (H2.out.2.2.1.mono (fun x _ h => h.1))).trans (hk2.mono (fun x _ h => h.2))
    have H3 := Lib.hid (And.intro hmb (And.intro hm2 hkz))
    have ke : (er == er) = true := beq_self_eq_true _
    clear ho2 hm2 hk2 hA hA2 hcap hLs hmb hkz p1 p2
    go_wp2_with fail
    refine HSm.out.mono ?_
    rintro e w4 ⟨rfl, hb4⟩
    have H4 := Lib.hid (show DoP w b r nr s i (.returned (.bool true)) w4 from ⟨rfl, m2, H3.out.1.go hb4, H3.out.2.1.go hb4, Hok2.out, H3.out.2.2.trans (hb4.keptS _)⟩)
    clear hb4
    go_wp2_with fail
    go_ret
    exact H4.out
  have e1 : (kd == 1) = false := beq_eq_false_iff_ne.2 k1
  by_cases k2 : kd = 2
  · have e2 : (kd == 2) = true := beq_iff_eq.2 k2
    clear k0 k1 k2
    have HmA := Lib.hid (mreset_calls w1 b nr s m HH.out.1 H1.out.2.2.1)
    go_enter Try.func24, Try.ntmps24
    go_wp2_with fail
    clear hw1 hb5
    refine HmA.out.mono ?_
    rintro e w2 ⟨⟨u, rfl⟩, hm, hk⟩
    have hr2 : RtB w2 r nr s m := H1.out.2.2.2.1.kept hk (fun e => HH.out.2.2.2.2 e.symm)
    have HS2 := Lib.hid (show w2.drew.cell? ⟨r, 0, none⟩ = some (.int .i64 nr) ∧ w2.drew.cell? ⟨r, 1, none⟩ = some (.int .u64 (s.num : Int)) ∧ w2.drew.cell? ⟨r, 2, none⟩ = some (.int .u64 (s.den : Int)) ∧ w2.drew.cell? ⟨r, 3, none⟩ = some (.int .u32 (s.bound : Int)) ∧ w2.drew.cell? ⟨r, 4, none⟩ = some (.int .i64 s.gap) ∧ w2.drew.cell? ⟨r, 5, none⟩ = some (.int .i64 s.len) by
      obtain ⟨c0, c1, c2, c3, c4, c5, c6, c7, c8, c9, c10, c11, c12, c13⟩ := hr2.cells
      exact ⟨c0, c1, c2, c3, c4, c5⟩)
    have H2 := Lib.hid (And.intro hm (And.intro hk hr2))
    obtain ⟨zv, hzv⟩ : ∃ zv, rtC nr s zeroM = zv := ⟨_, rfl⟩
    have HBu := Lib.hid (show Try.prog.built 65 [(0, .int .i64 nr), (1, .agg #[.int .u64 (s.num : Int), .int .u64 (s.den : Int), .int .u32 (s.bound : Int), .int .i64 s.gap, .int .i64 s.len])] = some zv by rw [built_rt0, ← hzv, rt_zero])
    have HV := Lib.hid (And.intro hzv (And.intro (show zv.size = 14 by rw [← hzv]; rfl) (show zv.all (·.oneCell') = true by rw [← hzv]; exact rtC_all _ _ _)))
    have HZr := Lib.hid (show w2.drew.heap[r]? = some (.cells (rtC nr s m) 65 (0, 0)) from hr2)
    clear hm hk hr2 hzv q0 q1 q2
    go_upto_region 12 with fail
    have HS3 := Lib.hid (show (fun Y => Y.cell? ⟨r, 0, none⟩ = some (.int .i64 nr) ∧ Y.cell? ⟨r, 1, none⟩ = some (.int .u64 (s.num : Int)) ∧ Y.cell? ⟨r, 2, none⟩ = some (.int .u64 (s.den : Int)) ∧ Y.cell? ⟨r, 3, none⟩ = some (.int .u32 (s.bound : Int)) ∧ Y.cell? ⟨r, 4, none⟩ = some (.int .i64 s.gap) ∧ Y.cell? ⟨r, 5, none⟩ = some (.int .i64 s.len)) (w2.drew.setRow r zv) by
      have hrow : RtB (w2.drew.setRow r zv) r nr s zeroM := by rw [← HV.out.1]; exact setRow_heap _ _ _ _ _ _ HZr.out
      obtain ⟨c0, c1, c2, c3, c4, c5, c6, c7, c8, c9, c10, c11, c12, c13⟩ := hrow.cells
      exact ⟨c0, c1, c2, c3, c4, c5⟩)
    refine wp_region_held_drew (S := (fun Y => Y.cell? ⟨r, 0, none⟩ = some (.int .i64 nr) ∧ Y.cell? ⟨r, 1, none⟩ = some (.int .u64 (s.num : Int)) ∧ Y.cell? ⟨r, 2, none⟩ = some (.int .u64 (s.den : Int)) ∧ Y.cell? ⟨r, 3, none⟩ = some (.int .u32 (s.bound : Int)) ∧ Y.cell? ⟨r, 4, none⟩ = some (.int .i64 s.gap) ∧ Y.cell? ⟨r, 5, none⟩ = some (.int .i64 s.len))) (by kernel_rfl) HS2.out (fun hHeld => ?_)
    refine wpAnyH_take (i := 0) (v := ?_) rfl (by kernel_rfl) (by kernel_rfl) (by kernel_rfl) (fun _ _ _ h => h) (Or.inl ⟨by kernel_rfl, ?_⟩) (by assumption) ?_
    rotate_left
    · intro w hSw; (try dsimp only at hSw); go_simp; try with_reducible rfl
    simp only [Act.put, List.getElem_toArray, List.getElem_cons_succ, List.getElem_cons_zero, List.setIfInBounds_toArray, List.set_cons_zero, List.set_cons_succ]
    refine wpAnyH_take (i := 1) (v := ?_) rfl (by kernel_rfl) (by kernel_rfl) (by kernel_rfl) (fun _ _ _ h => h) (Or.inl ⟨by kernel_rfl, ?_⟩) (by assumption) ?_
    rotate_left
    · intro w hSw; (try dsimp only at hSw); go_simp; try with_reducible rfl
    simp only [Act.put, List.getElem_toArray, List.getElem_cons_succ, List.getElem_cons_zero, List.setIfInBounds_toArray, List.set_cons_zero, List.set_cons_succ]
    refine wpAnyH_take (i := 2) (v := ?_) rfl (by kernel_rfl) (by kernel_rfl) (by kernel_rfl) (fun _ _ _ h => h) (Or.inl ⟨by kernel_rfl, ?_⟩) (by assumption) ?_
    rotate_left
    · intro w hSw; (try dsimp only at hSw); go_simp; try with_reducible rfl
    simp only [Act.put, List.getElem_toArray, List.getElem_cons_succ, List.getElem_cons_zero, List.setIfInBounds_toArray, List.set_cons_zero, List.set_cons_succ]
    refine wpAnyH_take (i := 3) (v := ?_) rfl (by kernel_rfl) (by kernel_rfl) (by kernel_rfl) (fun _ _ _ h => h) (Or.inl ⟨by kernel_rfl, ?_⟩) (by assumption) ?_
    rotate_left
    · intro w hSw; (try dsimp only at hSw); go_simp; try with_reducible rfl
    simp only [Act.put, List.getElem_toArray, List.getElem_cons_succ, List.getElem_cons_zero, List.setIfInBounds_toArray, List.set_cons_zero, List.set_cons_succ]
    refine wpAnyH_take (i := 4) (v := ?_) rfl (by kernel_rfl) (by kernel_rfl) (by kernel_rfl) (fun _ _ _ h => h) (Or.inl ⟨by kernel_rfl, ?_⟩) (by assumption) ?_
    rotate_left
    · intro w hSw; (try dsimp only at hSw); go_simp; try with_reducible rfl
    simp only [Act.put, List.getElem_toArray, List.getElem_cons_succ, List.getElem_cons_zero, List.setIfInBounds_toArray, List.set_cons_zero, List.set_cons_succ]
    refine wpAnyH_take (i := 5) (v := ?_) rfl (by kernel_rfl) (by kernel_rfl) (by kernel_rfl) (fun _ _ _ h => h) (Or.inl ⟨by kernel_rfl, ?_⟩) (by assumption) ?_
    rotate_left
    · intro w hSw; (try dsimp only at hSw); go_simp; try with_reducible rfl
    simp only [Act.put, List.getElem_toArray, List.getElem_cons_succ, List.getElem_cons_zero, List.setIfInBounds_toArray, List.set_cons_zero, List.set_cons_succ]
    refine wpAnyH_take (i := 6) (v := ?_) rfl (by kernel_rfl) (by kernel_rfl) (by kernel_rfl) (fun _ _ _ h => h) (Or.inl ⟨by kernel_rfl, ?_⟩) (by assumption) ?_
    rotate_left
    · intro w hSw; (try dsimp only at hSw); go_simp; try with_reducible rfl
    simp only [Act.put, List.getElem_toArray, List.getElem_cons_succ, List.getElem_cons_zero, List.setIfInBounds_toArray, List.set_cons_zero, List.set_cons_succ]
    refine wpAnyH_take (i := 7) (v := ?_) rfl (by kernel_rfl) (by kernel_rfl) (by kernel_rfl) (fun _ _ _ h => h) (Or.inl ⟨by kernel_rfl, ?_⟩) (by assumption) ?_
    rotate_left
    · intro w hSw; (try dsimp only at hSw); go_simp; try with_reducible rfl
    simp only [Act.put, List.getElem_toArray, List.getElem_cons_succ, List.getElem_cons_zero, List.setIfInBounds_toArray, List.set_cons_zero, List.set_cons_succ]
    refine wpAnyH_take (i := 8) (v := ?_) rfl (by kernel_rfl) (by kernel_rfl) (by kernel_rfl) (fun _ _ _ h => h) (Or.inl ⟨by kernel_rfl, ?_⟩) (by assumption) ?_
    rotate_left
    · intro w hSw; (try dsimp only at hSw); go_simp; try with_reducible rfl
    simp only [Act.put, List.getElem_toArray, List.getElem_cons_succ, List.getElem_cons_zero, List.setIfInBounds_toArray, List.set_cons_zero, List.set_cons_succ]
    refine wpAnyH_take (i := 9) (v := .agg zv) rfl (by kernel_rfl) (by kernel_rfl) (by kernel_rfl) (fun _ _ _ h => h) (Or.inl ⟨by kernel_rfl, ?_⟩) (by assumption) ?_
    · intro w hSw; (try dsimp only at hSw)
      exact build_op 65 #[(0, .tmp 81), (1, .tmp 85)] (by rfl) _ (by simp only [List.map_toArray, List.map_cons, List.map_nil, Act.eval]; exact HBu.out) w
    simp only [Act.put, List.getElem_toArray, List.getElem_cons_succ, List.getElem_cons_zero, List.setIfInBounds_toArray, List.set_cons_zero, List.set_cons_succ]
    refine wpAnyH_take (i := 10) (v := ?_) rfl (by kernel_rfl) (by kernel_rfl) (by kernel_rfl) (fun _ _ _ h => h) (Or.inl ⟨by kernel_rfl, ?_⟩) (by assumption) ?_
    rotate_left
    · intro w hSw; (try dsimp only at hSw); go_simp; try with_reducible rfl
    simp only [Act.put, List.getElem_toArray, List.getElem_cons_succ, List.getElem_cons_zero, List.setIfInBounds_toArray, List.set_cons_zero, List.set_cons_succ]
    refine wpAnyH_ready (rs := [11]) (by kernel_rfl) (by simp) ?_
    refine AllReadyH.cons rfl (fun K hK => ?_) AllReadyH.nil
    rw [if_pos (by kernel_rfl)]
    simp only [List.getElem_toArray, List.getElem_cons_succ, List.getElem_cons_zero]
    refine wp_store_row 65 (.tmp 87) (.tmp 86) ?_ r zv ?_ ?_ 65 (rtC nr s m) ?_ ?_ ?_ ?_ ?_
    · rfl
    · rfl
    · rfl
    · exact HZr.out
    · rw [HV.out.2.1]; exact eRtS
    · rw [HV.out.2.1]; rfl
    · exact HV.out.2.2
    refine hK.out _ _ HS3.out (fun hHeld => ?_)
    clear hK K
    try simp only [Act.put, List.getElem_toArray, List.getElem_cons_succ, List.getElem_cons_zero, List.setIfInBounds_toArray, List.set_cons_zero, List.set_cons_succ]
    refine wpAnyH_done (by kernel_rfl) ?_ _
    go_wp2_with fail
    go_ret
    refine ⟨rfl, zeroM, ?_, ?_, zero_ok HH.out.1.ok, ?_⟩
    · exact (setRow_other _ _ _ _ HH.out.2.2.2.2).trans H2.out.1
    · rw [← HV.out.1]; exact setRow_heap _ _ _ _ _ _ HZr.out
    · exact (((H1.out.1.keptS _).trans (H2.out.2.1.mono (fun x _ h => h.1))).drew).setRow (g := r) (fun h => h.2 rfl) _
  · have e2 : (kd == 2) = false := beq_eq_false_iff_ne.2 k2
    clear k0 k1 k2
    go_enter Try.func24, Try.ntmps24
    go_wp2_with fail
    go_ret
    exact ⟨rfl, m, H1.out.2.2.1, H1.out.2.2.2.1, HH.out.2.1.mono (by omega), H1.out.1.keptS _⟩
end Go.Proofs.Ytjmkbpgakfeceaa
