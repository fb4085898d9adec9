/-
  The document's meter: Replace, walked. Conditions stand at each theorem. (Printed by gen_refm4.py.)
-/
import Derived.Test.YtjmkbpgakfeceaaRefM3
namespace Go.Proofs.Ytjmkbpgakfeceaa
open Go Go.RowKit Go.Kw Go.Kw.Mt Go.Kw.Nm
set_option linter.unusedVariables false
set_option linter.unusedSimpArgs false

set_option maxRecDepth 100000 in
set_option maxHeartbeats 32000000 in
theorem rrepl_next (w : World) (r : Nat) (nr : Int) (s : Stp) (m : M) (i : Nat) (hs : MayS s) (hok : Ok s m i) (hi : i ≤ 200) (hB : RtB w r nr s m) (t : Int) (v : Nat) (hv : v < 4294967296) (ht : ¬ timeBad t) (hbg : m.bg = true) : Calls Try.prog 40 #[.pointer (some ⟨r, 0, none⟩), .int .i64 t, .int .u32 (v : Int)] w (AnsR w r nr s (replV s m t v)) := by
  have hxf := repl_form s m t v
  rw [if_neg ht, if_neg (by rw [hbg]; simp)] at hxf
  have HXf := Lib.hid hxf
  clear hxf
  unfold timeBad at ht
  have k0 : decide (t < 0) = false := decide_eq_false (by omega)
  have k1 : decide (t ≥ 253402300800) = false := decide_eq_false (by omega)
  have hrl := hB.lt
  obtain ⟨c0, c1, c2, c3, c4, c5, c6, c7, c8, c9, c10, c11, c12, c13⟩ := hB.cells
  rw [hbg] at c6
  by_cases hbk : t < m.t
  · have k2 : decide (t < m.t) = true := decide_eq_true hbk
    have H0 := Lib.hid (And.intro hB hbk)
    clear hs hok hi hB hv ht hbg hrl hbk c0 c1 c2 c3 c4 c5 c8 c9 c10 c11 c12 c13
    go_enter Try.func40, Try.ntmps40
    go_wp2_with fail
    go_ret2
    rw [HXf.out, if_pos H0.out.2]
    exact AnsR.no rfl H0.out.1 (Kept.refl _ _)
  have k2 : decide (t < m.t) = false := decide_eq_false hbk
  have htt := hok.t
  have hPs : PsI s m t 0 i := ⟨hs, hok, hi, hbg, by omega, by decide⟩
  obtain ⟨b9, hb9⟩ : ∃ b9, w.heap.size = b9 := ⟨_, rfl⟩
  obtain ⟨w1, hw1⟩ : ∃ x, w.alloc (.cells (rtC nr s m) 65) = x := ⟨_, rfl⟩
  have hst : Below w.heap.size w w1 := hw1 ▸ bstep w _
  have hr9 : w1.heap[b9]? = some (.cells (rtC nr s m) 65 (0, 0)) := by rw [← hb9, ← hw1]; exact blk_new w _ _
  have hw1' := hw1
  unfold rtC at hw1'
  rw [hbg] at hw1'
  have H1 := Lib.hid (And.intro (hB.go hst) (And.intro hr9 (And.intro hst (show r ≠ b9 by omega))))
  have HH := Lib.hid (And.intro hPs (And.intro hbk (And.intro hok (And.intro hv (And.intro hi hs)))))
  clear hw1 hs hok hi hB hv hrl htt hPs hst hr9 ht hbg hbk
  by_cases hsp : t / s.len - m.o > 1000
  · have hc := rpass_span w1 r nr s m t 0 i false HH.out.1 H1.out.1 hsp
    have HC := Lib.hid hc
    have Hsp := Lib.hid hsp
    clear hc hsp
    go_enter Try.func40, Try.ntmps40
    go_wp2_with fail
    clear hw1' c0 c1 c2 c3 c4 c5 c6 c7 c8 c9 c10 c11 c12 c13 hb9
    refine HC.out.mono ?_
    rintro e w3 ⟨rfl, hb3⟩
    have hr3 := blk_below H1.out.2.1 hb3
    have HR := Lib.hid (show w3.rangeAt b9 0 (rtC nr s m).toList from fun j v hv => blk_cell hr3 (0 + j) (by rw [Nat.zero_add]; simpa using hv))
    have HI := Lib.hid (show (Try.prog.info? 65).map (·.size) = some (rtC nr s m).toList.length by rw [Array.length_toList, rtC_size]; exact eRtS)
    have HI2 := Lib.hid (show (Try.prog.info? 65).map (·.size) = some (rtC nr s m).size by rw [rtC_size]; exact eRtS)
    have HA := Lib.hid (rtC_all nr s m)
    have HZ := Lib.hid (show RtB w3 r nr s m from H1.out.1.go hb3)
    have HK := Lib.hid (show Kept (fun x => x ≠ r) w (w3.setRow r (rtC nr s m)) from ((H1.out.2.2.1.keptS (fun x => x ≠ r)).trans (hb3.keptS _)).setRow (g := r) (fun e => e rfl) (rtC nr s m))
    have HM := Lib.hid (show RtB (w3.setRow r (rtC nr s m)) r nr s m from RtB.row HZ.out)
    clear hb3 hr3
    go_upto_region 11 with fail
    refine wp_region_lit ?_
    refine wpList_plain rfl fun K hK => ?_
    go_simp
    refine hK _ _ ?_
    clear hK K
    try simp only [Act.put, List.getElem_toArray, List.getElem_cons_succ, List.getElem_cons_zero, List.setIfInBounds_toArray, List.set_cons_zero, List.set_cons_succ]
    refine wpList_load_mid rfl 65 (.tmp 8) rfl b9 0 rfl _ _ HR.out Try.underlying65 (by rfl) HI.out ?_
    try simp only [Array.toArray_toList]
    try simp only [Act.put, List.getElem_toArray, List.getElem_cons_succ, List.getElem_cons_zero, List.setIfInBounds_toArray, List.set_cons_zero, List.set_cons_succ]
    obtain ⟨mv, hmv⟩ : ∃ mv, rtC nr s m = mv := ⟨_, rfl⟩
    have hZ2 : w3.heap[r]? = some (.cells mv 65 (0, 0)) := by rw [← hmv]; exact HZ.out
    have HZ2 := Lib.hid hZ2
    clear hZ2
    rw [hmv] at HI2 HA HM HK ⊢
    refine wpList_plain rfl fun K hK => ?_
    go_simp
    refine hK _ _ ?_
    clear hK K
    try simp only [Act.put, List.getElem_toArray, List.getElem_cons_succ, List.getElem_cons_zero, List.setIfInBounds_toArray, List.set_cons_zero, List.set_cons_succ]
    refine wpList_plain rfl fun K hK => ?_
    refine wp_store_row 65 (.tmp 47) (.tmp 46) rfl r mv rfl rfl 65 mv HZ2.out HI2.out rfl HA.out ?_
    refine hK _ _ ?_
    clear hK K
    go_wp2_with fail
    go_ret2
    rw [HXf.out, if_neg (by have := HH.out.2.1; omega), if_pos Hsp.out]
    exact AnsR.no rfl HM.out HK.out
  have hc := rpasses_calls w1 r nr s m t 0 i false HH.out.1 H1.out.1 hsp 0 (by simp)
  have HC := Lib.hid hc
  have Hsp := Lib.hid hsp
  clear hc hsp
  go_enter Try.func40, Try.ntmps40
  go_wp2_with fail
  clear hw1' c0 c1 c2 c3 c4 c5 c6 c7 c8 c9 c10 c11 c12 c13 hb9
  refine HC.out.mono ?_
  rintro e w5 ⟨A, c, rfl, how, hm5, hk5⟩
  have hokz := pass_ok (d := 0) (fl := 0) HH.out.2.2.2.2.2.ok HH.out.2.2.1 (by decide) HH.out.1.t.1 HH.out.1.t.2 (by decide) HH.out.1.bg
  have hres : replV s m t v = (0, passE s m t 0 (passF s m t 0) (many s m t), { passZ s m t 0 0 with k := (passZ s m t 0 0).k + ((eng s (passZ s m t 0 0).c : Int) - (passZ s m t 0 0).fr), c := 0, fr := 0, v := v, f := (passZ s m t 0 0).f ||| 8 }) := by
    rw [HXf.out, if_neg (by have := HH.out.2.1; omega), if_neg (by have := Hsp.out; omega)]
  obtain ⟨L, hL⟩ : ∃ L, passE s m t 0 (passF s m t 0) (many s m t) = L := ⟨_, rfl⟩
  obtain ⟨mz, hmz⟩ : ∃ mz, passZ s m t 0 0 = mz := ⟨_, rfl⟩
  have hLk : L.length = many s m t := by rw [← hL, passE_length]
  obtain ⟨k, hkm⟩ : ∃ k, many s m t = k := ⟨_, rfl⟩
  rw [hL, hmz] at hres
  rw [hL, hkm] at how
  rw [hmz] at hm5 hokz
  rw [hkm] at hLk ⊢
  have hi := HH.out.2.2.2.2.1
  have hic : ((i : Int) + 1) * 9007199254740992 ≤ 201 * 9007199254740992 := Int.mul_le_mul_of_nonneg_right (by omega) (by omega)
  have hic2 : (i + 1) * 4294967296 ≤ 201 * 4294967296 := Nat.mul_le_mul_right _ (by omega)
  have hzc : mz.c < 9223372036854775808 := by have := hokz.c; omega
  have hzk := hokz.k
  have hzf := hokz.fr
  push_cast at hzk
  have HE := refEnergy_calls mz.c s.num s.den (s.bound : Int) s.gap s.len (by omega)
  have he := enV_ok mz.c s.num s.den s.gap s.len HH.out.2.2.2.2.2.may (by unfold eng at *; omega)
  rw [he] at HE
  unfold setV at HE
  obtain ⟨E, hE⟩ : ∃ E : Nat, mz.c * s.num / s.den = E := ⟨_, rfl⟩
  have hEn : eng s mz.c = E := hE
  rw [hE] at HE
  rw [hEn] at hzk hzf hres
  have HE := Lib.hid HE
  have HRes := Lib.hid hres
  have X1 := Lib.hid (wrapI_at ((E : Int) - mz.fr) (by omega))
  have X2 := Lib.hid (wrapI_at (4611686018427387904 - ((E : Int) - mz.fr)) (by omega))
  have X3 := Lib.hid (wrapI_at (mz.k + (E : Int)) (by omega))
  have X5 := Lib.hid (wrapI_at (mz.k + (E : Int) - mz.fr) (by omega))
  have X4 := Lib.hid (i64_or_nat mz.f 8 (by have := hokz.f; omega) (by omega))
  have Hk8 := Lib.hid (show decide (mz.k > 4611686018427387904 - ((E : Int) - mz.fr)) = false from decide_eq_false (by omega))
  have H5 := Lib.hid (And.intro how (And.intro hm5 (And.intro ((H1.out.2.2.1.keptS (fun x => x ≠ r)).trans hk5) (And.intro hLk (And.intro H1.out.2.2.1.size H1.out.1.lt)))))
  have HSc := Lib.hid (show ∀ Y, Below w5.heap.size w5 Y → (Y.cell? ⟨r, 1, none⟩ = some (.int .u64 (s.num : Int)) ∧ Y.cell? ⟨r, 2, none⟩ = some (.int .u64 (s.den : Int)) ∧ Y.cell? ⟨r, 3, none⟩ = some (.int .u32 (s.bound : Int)) ∧ Y.cell? ⟨r, 4, none⟩ = some (.int .i64 s.gap) ∧ Y.cell? ⟨r, 5, none⟩ = some (.int .i64 s.len) ∧ Y.cell? ⟨r, 9, none⟩ = some (.int .u64 (mz.c : Int)) ∧ Y.cell? ⟨r, 12, none⟩ = some (.int .i64 mz.k) ∧ Y.cell? ⟨r, 13, none⟩ = some (.int .i64 mz.fr)) from fun Y hY => by
    obtain ⟨c0, c1, c2, c3, c4, c5, c6, c7, c8, c9, c10, c11, c12, c13⟩ := (H5.out.2.1.go hY).cells
    exact ⟨c1, c2, c3, c4, c5, c9, c12, c13⟩)
  clear how hm5 hk5 hokz hL hmz hLk hkm hi hic hic2 hzc hzk hzf he hE hEn hres
  go_upto_region 13 with fail
  go_cut [11] from 49 to 60 (fun s11 wx => s11 = .int .i64 (E : Int) ∧ Below w5.heap.size w5 wx)
  case first =>
    refine wp_region_held_drew (S := (fun Y => Y.cell? ⟨r, 1, none⟩ = some (.int .u64 (s.num : Int)) ∧ Y.cell? ⟨r, 2, none⟩ = some (.int .u64 (s.den : Int)) ∧ Y.cell? ⟨r, 3, none⟩ = some (.int .u32 (s.bound : Int)) ∧ Y.cell? ⟨r, 4, none⟩ = some (.int .i64 s.gap) ∧ Y.cell? ⟨r, 5, none⟩ = some (.int .i64 s.len) ∧ Y.cell? ⟨r, 9, none⟩ = some (.int .u64 (mz.c : Int)) ∧ Y.cell? ⟨r, 12, none⟩ = some (.int .i64 mz.k) ∧ Y.cell? ⟨r, 13, none⟩ = some (.int .i64 mz.fr))) (by kernel_rfl) (HSc.out _ (Below.refl _ w5).drew) (fun hHeld => ?_)
    refine wpAnyH_take (i := 0) (v := ?_) rfl (by kernel_rfl) (by kernel_rfl) (by kernel_rfl) (fun _ _ _ h => h) (Or.inl ⟨by kernel_rfl, ?_⟩) (by assumption) ?_
    rotate_left
    · intro w hSw; (try dsimp only at hSw); go_simp; try with_reducible rfl
    simp only [Act.put, List.getElem_toArray, List.getElem_cons_succ, List.getElem_cons_zero, List.setIfInBounds_toArray, List.set_cons_zero, List.set_cons_succ]
    refine wpAnyH_take (i := 1) (v := ?_) rfl (by kernel_rfl) (by kernel_rfl) (by kernel_rfl) (fun _ _ _ h => h) (Or.inl ⟨by kernel_rfl, ?_⟩) (by assumption) ?_
    rotate_left
    · intro w hSw; (try dsimp only at hSw); go_simp; try with_reducible rfl
    simp only [Act.put, List.getElem_toArray, List.getElem_cons_succ, List.getElem_cons_zero, List.setIfInBounds_toArray, List.set_cons_zero, List.set_cons_succ]
    refine wpAnyH_take (i := 2) (v := ?_) rfl (by kernel_rfl) (by kernel_rfl) (by kernel_rfl) (fun _ _ _ h => h) (Or.inl ⟨by kernel_rfl, ?_⟩) (by assumption) ?_
    rotate_left
    · intro w hSw; (try dsimp only at hSw); go_simp; try with_reducible rfl
    simp only [Act.put, List.getElem_toArray, List.getElem_cons_succ, List.getElem_cons_zero, List.setIfInBounds_toArray, List.set_cons_zero, List.set_cons_succ]
    refine wpAnyH_take (i := 3) (v := ?_) rfl (by kernel_rfl) (by kernel_rfl) (by kernel_rfl) (fun _ _ _ h => h) (Or.inl ⟨by kernel_rfl, ?_⟩) (by assumption) ?_
    rotate_left
    · intro w hSw; (try dsimp only at hSw); go_simp; try with_reducible rfl
    simp only [Act.put, List.getElem_toArray, List.getElem_cons_succ, List.getElem_cons_zero, List.setIfInBounds_toArray, List.set_cons_zero, List.set_cons_succ]
    refine wpAnyH_take (i := 4) (v := ?_) rfl (by kernel_rfl) (by kernel_rfl) (by kernel_rfl) (fun _ _ _ h => h) (Or.inl ⟨by kernel_rfl, ?_⟩) (by assumption) ?_
    rotate_left
    · intro w hSw; (try dsimp only at hSw); go_simp; try with_reducible rfl
    simp only [Act.put, List.getElem_toArray, List.getElem_cons_succ, List.getElem_cons_zero, List.setIfInBounds_toArray, List.set_cons_zero, List.set_cons_succ]
    refine wpAnyH_take (i := 5) (v := ?_) rfl (by kernel_rfl) (by kernel_rfl) (by kernel_rfl) (fun _ _ _ h => h) (Or.inl ⟨by kernel_rfl, ?_⟩) (by assumption) ?_
    rotate_left
    · intro w hSw; (try dsimp only at hSw); go_simp; try with_reducible rfl
    simp only [Act.put, List.getElem_toArray, List.getElem_cons_succ, List.getElem_cons_zero, List.setIfInBounds_toArray, List.set_cons_zero, List.set_cons_succ]
    refine wpAnyH_take (i := 6) (v := ?_) rfl (by kernel_rfl) (by kernel_rfl) (by kernel_rfl) (fun _ _ _ h => h) (Or.inl ⟨by kernel_rfl, ?_⟩) (by assumption) ?_
    rotate_left
    · intro w hSw; (try dsimp only at hSw); go_simp; try with_reducible rfl
    simp only [Act.put, List.getElem_toArray, List.getElem_cons_succ, List.getElem_cons_zero, List.setIfInBounds_toArray, List.set_cons_zero, List.set_cons_succ]
    refine wpAnyH_take (i := 7) (v := ?_) rfl (by kernel_rfl) (by kernel_rfl) (by kernel_rfl) (fun _ _ _ h => h) (Or.inl ⟨by kernel_rfl, ?_⟩) (by assumption) ?_
    rotate_left
    · intro w hSw; (try dsimp only at hSw); go_simp; try with_reducible rfl
    simp only [Act.put, List.getElem_toArray, List.getElem_cons_succ, List.getElem_cons_zero, List.setIfInBounds_toArray, List.set_cons_zero, List.set_cons_succ]
    refine wpAnyH_ready (rs := [8]) (by kernel_rfl) (by simp) ?_
    refine AllReadyH.cons rfl (fun K hK => ?_) AllReadyH.nil
    go_simp
    refine (HE.out w5.drew).mono ?_
    rintro e w6 ⟨rfl, hb⟩
    have H6 := Lib.hid ((Below.refl w5.heap.size w5).drew.trans (hb.mono (Nat.le_refl _)))
    clear hb
    try go_wp2_with fail
    refine hK.out _ _ (HSc.out _ H6.out) (fun hHeld => ?_)
    clear hK K
    try simp only [Act.put, List.getElem_toArray, List.getElem_cons_succ, List.getElem_cons_zero, List.setIfInBounds_toArray, List.set_cons_zero, List.set_cons_succ]
    refine wpAnyH_take (i := 9) (v := ?_) rfl (by kernel_rfl) (by kernel_rfl) (by kernel_rfl) (fun _ _ _ h => h) (Or.inl ⟨by kernel_rfl, ?_⟩) (by assumption) ?_
    rotate_left
    · intro w hSw; (try dsimp only at hSw); go_simp; try with_reducible rfl
    simp only [Act.put, List.getElem_toArray, List.getElem_cons_succ, List.getElem_cons_zero, List.setIfInBounds_toArray, List.set_cons_zero, List.set_cons_succ]
    refine wpAnyH_take (i := 10) (v := ?_) rfl (by kernel_rfl) (by kernel_rfl) (by kernel_rfl) (fun _ _ _ h => h) (Or.inl ⟨by kernel_rfl, ?_⟩) (by assumption) ?_
    rotate_left
    · intro w hSw; (try dsimp only at hSw); go_simp; try with_reducible rfl
    simp only [Act.put, List.getElem_toArray, List.getElem_cons_succ, List.getElem_cons_zero, List.setIfInBounds_toArray, List.set_cons_zero, List.set_cons_succ]
    refine wpAnyH_take (i := 11) (v := ?_) rfl (by kernel_rfl) (by kernel_rfl) (by kernel_rfl) (fun _ _ _ h => h) (Or.inl ⟨by kernel_rfl, ?_⟩) (by assumption) ?_
    rotate_left
    · intro w hSw; (try dsimp only at hSw); go_simp; try with_reducible rfl
    simp only [Act.put, List.getElem_toArray, List.getElem_cons_succ, List.getElem_cons_zero, List.setIfInBounds_toArray, List.set_cons_zero, List.set_cons_succ]
    refine wpAnyH_take (i := 12) (v := ?_) rfl (by kernel_rfl) (by kernel_rfl) (by kernel_rfl) (fun _ _ _ h => h) (Or.inl ⟨by kernel_rfl, ?_⟩) (by assumption) ?_
    rotate_left
    · intro w hSw; (try dsimp only at hSw); go_simp; try with_reducible rfl
    simp only [Act.put, List.getElem_toArray, List.getElem_cons_succ, List.getElem_cons_zero, List.setIfInBounds_toArray, List.set_cons_zero, List.set_cons_succ]
    refine wpAnyH_take (i := 13) (v := ?_) rfl (by kernel_rfl) (by kernel_rfl) (by kernel_rfl) (fun _ _ _ h => h) (Or.inl ⟨by kernel_rfl, ?_⟩) (by assumption) ?_
    rotate_left
    · intro w hSw; (try dsimp only at hSw); go_simp; try with_reducible rfl
    simp only [Act.put, List.getElem_toArray, List.getElem_cons_succ, List.getElem_cons_zero, List.setIfInBounds_toArray, List.set_cons_zero, List.set_cons_succ]
    refine wpAnyH_done (by kernel_rfl) ?_ _
    go_wp2_with fail
    go_meet
    exact ⟨rfl, H6.out⟩
  case rest =>
    obtain ⟨rfl, hb6⟩ := hcut
    obtain ⟨w6, rfl⟩ : ∃ x : World, x = wc := ⟨_, rfl⟩
    have H6 := Lib.hid hb6
    clear hb6
    go_upto_region 14 with fail
    refine wp_region_held_drew (S := (fun Y => Y.cell? ⟨r, 1, none⟩ = some (.int .u64 (s.num : Int)) ∧ Y.cell? ⟨r, 2, none⟩ = some (.int .u64 (s.den : Int)) ∧ Y.cell? ⟨r, 3, none⟩ = some (.int .u32 (s.bound : Int)) ∧ Y.cell? ⟨r, 4, none⟩ = some (.int .i64 s.gap) ∧ Y.cell? ⟨r, 5, none⟩ = some (.int .i64 s.len) ∧ Y.cell? ⟨r, 9, none⟩ = some (.int .u64 (mz.c : Int)) ∧ Y.cell? ⟨r, 12, none⟩ = some (.int .i64 mz.k) ∧ Y.cell? ⟨r, 13, none⟩ = some (.int .i64 mz.fr))) (by kernel_rfl) (HSc.out _ H6.out.drew) (fun hHeld => ?_)
    refine wpAnyH_take (i := 0) (v := ?_) rfl (by kernel_rfl) (by kernel_rfl) (by kernel_rfl) (fun _ _ _ h => h) (Or.inl ⟨by kernel_rfl, ?_⟩) (by assumption) ?_
    rotate_left
    · intro w hSw; (try dsimp only at hSw); go_simp; try with_reducible rfl
    simp only [Act.put, List.getElem_toArray, List.getElem_cons_succ, List.getElem_cons_zero, List.setIfInBounds_toArray, List.set_cons_zero, List.set_cons_succ]
    refine wpAnyH_take (i := 1) (v := ?_) rfl (by kernel_rfl) (by kernel_rfl) (by kernel_rfl) (fun _ _ _ h => h) (Or.inl ⟨by kernel_rfl, ?_⟩) (by assumption) ?_
    rotate_left
    · intro w hSw; (try dsimp only at hSw); go_simp; try with_reducible rfl
    simp only [Act.put, List.getElem_toArray, List.getElem_cons_succ, List.getElem_cons_zero, List.setIfInBounds_toArray, List.set_cons_zero, List.set_cons_succ]
    refine wpAnyH_take (i := 2) (v := ?_) rfl (by kernel_rfl) (by kernel_rfl) (by kernel_rfl) (fun _ _ _ h => h) (Or.inl ⟨by kernel_rfl, ?_⟩) (by assumption) ?_
    rotate_left
    · intro w hSw; (try dsimp only at hSw); go_simp; try with_reducible rfl
    simp only [Act.put, List.getElem_toArray, List.getElem_cons_succ, List.getElem_cons_zero, List.setIfInBounds_toArray, List.set_cons_zero, List.set_cons_succ]
    refine wpAnyH_take (i := 3) (v := ?_) rfl (by kernel_rfl) (by kernel_rfl) (by kernel_rfl) (fun _ _ _ h => h) (Or.inl ⟨by kernel_rfl, ?_⟩) (by assumption) ?_
    rotate_left
    · intro w hSw; (try dsimp only at hSw); go_simp; try with_reducible rfl
    simp only [Act.put, List.getElem_toArray, List.getElem_cons_succ, List.getElem_cons_zero, List.setIfInBounds_toArray, List.set_cons_zero, List.set_cons_succ]
    refine wpAnyH_take (i := 4) (v := ?_) rfl (by kernel_rfl) (by kernel_rfl) (by kernel_rfl) (fun _ _ _ h => h) (Or.inl ⟨by kernel_rfl, ?_⟩) (by assumption) ?_
    rotate_left
    · intro w hSw; (try dsimp only at hSw); go_simp; try with_reducible rfl
    simp only [Act.put, List.getElem_toArray, List.getElem_cons_succ, List.getElem_cons_zero, List.setIfInBounds_toArray, List.set_cons_zero, List.set_cons_succ]
    refine wpAnyH_take (i := 5) (v := ?_) rfl (by kernel_rfl) (by kernel_rfl) (by kernel_rfl) (fun _ _ _ h => h) (Or.inl ⟨by kernel_rfl, ?_⟩) (by assumption) ?_
    rotate_left
    · intro w hSw; (try dsimp only at hSw); go_simp; try with_reducible rfl
    simp only [Act.put, List.getElem_toArray, List.getElem_cons_succ, List.getElem_cons_zero, List.setIfInBounds_toArray, List.set_cons_zero, List.set_cons_succ]
    refine wpAnyH_take (i := 6) (v := ?_) rfl (by kernel_rfl) (by kernel_rfl) (by kernel_rfl) (fun _ _ _ h => h) (Or.inl ⟨by kernel_rfl, ?_⟩) (by assumption) ?_
    rotate_left
    · intro w hSw; (try dsimp only at hSw); go_simp; try with_reducible rfl
    simp only [Act.put, List.getElem_toArray, List.getElem_cons_succ, List.getElem_cons_zero, List.setIfInBounds_toArray, List.set_cons_zero, List.set_cons_succ]
    refine wpAnyH_take (i := 7) (v := ?_) rfl (by kernel_rfl) (by kernel_rfl) (by kernel_rfl) (fun _ _ _ h => h) (Or.inl ⟨by kernel_rfl, ?_⟩) (by assumption) ?_
    rotate_left
    · intro w hSw; (try dsimp only at hSw); go_simp; try with_reducible rfl
    simp only [Act.put, List.getElem_toArray, List.getElem_cons_succ, List.getElem_cons_zero, List.setIfInBounds_toArray, List.set_cons_zero, List.set_cons_succ]
    refine wpAnyH_take (i := 8) (v := ?_) rfl (by kernel_rfl) (by kernel_rfl) (by kernel_rfl) (fun _ _ _ h => h) (Or.inl ⟨by kernel_rfl, ?_⟩) (by assumption) ?_
    rotate_left
    · intro w hSw; (try dsimp only at hSw); go_simp; try with_reducible rfl
    simp only [Act.put, List.getElem_toArray, List.getElem_cons_succ, List.getElem_cons_zero, List.setIfInBounds_toArray, List.set_cons_zero, List.set_cons_succ]
    refine wpAnyH_take (i := 9) (v := .int .i64 ((E : Int) - mz.fr)) rfl (by kernel_rfl) (by kernel_rfl) (by kernel_rfl) (fun _ _ _ h => h) (Or.inl ⟨by kernel_rfl, ?_⟩) (by assumption) ?_
    · intro w hSw; (try dsimp only at hSw)
      have x1 := X1.out; go_simp
    simp only [Act.put, List.getElem_toArray, List.getElem_cons_succ, List.getElem_cons_zero, List.setIfInBounds_toArray, List.set_cons_zero, List.set_cons_succ]
    refine wpAnyH_take (i := 10) (v := .int .i64 (4611686018427387904 - ((E : Int) - mz.fr))) rfl (by kernel_rfl) (by kernel_rfl) (by kernel_rfl) (fun _ _ _ h => h) (Or.inl ⟨by kernel_rfl, ?_⟩) (by assumption) ?_
    · intro w hSw; (try dsimp only at hSw)
      have x2 := X2.out; go_simp
    simp only [Act.put, List.getElem_toArray, List.getElem_cons_succ, List.getElem_cons_zero, List.setIfInBounds_toArray, List.set_cons_zero, List.set_cons_succ]
    refine wpAnyH_take (i := 11) (v := .bool false) rfl (by kernel_rfl) (by kernel_rfl) (by kernel_rfl) (fun _ _ _ h => h) (Or.inl ⟨by kernel_rfl, ?_⟩) (by assumption) ?_
    · intro w hSw; (try dsimp only at hSw)
      have k8 := Hk8.out; go_simp
    simp only [Act.put, List.getElem_toArray, List.getElem_cons_succ, List.getElem_cons_zero, List.setIfInBounds_toArray, List.set_cons_zero, List.set_cons_succ]
    refine wpAnyH_done (by kernel_rfl) ?_ _
    clear hHeld
    have HM := Lib.hid (show RtB w6 r nr s mz from H5.out.2.1.go H6.out)
    go_upto_region 17 with fail
    go_cut [11] from 76 to 89 (fun s11 wx => s11 = .int .i64 (E : Int) ∧ RtB wx r nr s { mz with k := mz.k + (E : Int) - mz.fr } ∧ Kept (fun x => x ≠ r) w6 wx)
    case first =>
      have HS1 := Lib.hid (HSc.out _ H6.out.drew.drew)
      have HMd := Lib.hid (show RtB w6.drew.drew r nr s mz from HM.out)
      refine wp_region_held_drew (S := (fun Y => Y.cell? ⟨r, 13, none⟩ = some (.int .i64 mz.fr))) (by kernel_rfl) HS1.out.2.2.2.2.2.2.2 (fun hHeld => ?_)
      refine wpAnyH_take (i := 0) (v := ?_) rfl (by kernel_rfl) (by kernel_rfl) (by kernel_rfl) (fun _ _ _ h => h) (Or.inl ⟨by kernel_rfl, ?_⟩) (by assumption) ?_
      rotate_left
      · intro w hSw; (try dsimp only at hSw); go_simp; try with_reducible rfl
      simp only [Act.put, List.getElem_toArray, List.getElem_cons_succ, List.getElem_cons_zero, List.setIfInBounds_toArray, List.set_cons_zero, List.set_cons_succ]
      refine wpAnyH_take (i := 1) (v := ?_) rfl (by kernel_rfl) (by kernel_rfl) (by kernel_rfl) (fun _ _ _ h => h) (Or.inl ⟨by kernel_rfl, ?_⟩) (by assumption) ?_
      rotate_left
      · intro w hSw; (try dsimp only at hSw); go_simp; try with_reducible rfl
      simp only [Act.put, List.getElem_toArray, List.getElem_cons_succ, List.getElem_cons_zero, List.setIfInBounds_toArray, List.set_cons_zero, List.set_cons_succ]
      refine wpAnyH_take (i := 2) (v := ?_) rfl (by kernel_rfl) (by kernel_rfl) (by kernel_rfl) (fun _ _ _ h => h) (Or.inl ⟨by kernel_rfl, ?_⟩) (by assumption) ?_
      rotate_left
      · intro w hSw; (try dsimp only at hSw); go_simp; try with_reducible rfl
      simp only [Act.put, List.getElem_toArray, List.getElem_cons_succ, List.getElem_cons_zero, List.setIfInBounds_toArray, List.set_cons_zero, List.set_cons_succ]
      refine wpAnyH_take (i := 3) (v := ?_) rfl (by kernel_rfl) (by kernel_rfl) (by kernel_rfl) (fun _ _ _ h => h) (Or.inl ⟨by kernel_rfl, ?_⟩) (by assumption) ?_
      rotate_left
      · intro w hSw; (try dsimp only at hSw); go_simp; try with_reducible rfl
      simp only [Act.put, List.getElem_toArray, List.getElem_cons_succ, List.getElem_cons_zero, List.setIfInBounds_toArray, List.set_cons_zero, List.set_cons_succ]
      refine wpAnyH_take (i := 5) (v := ?_) rfl (by kernel_rfl) (by kernel_rfl) (by kernel_rfl) (fun _ _ _ h => h) (Or.inl ⟨by kernel_rfl, ?_⟩) (by assumption) ?_
      rotate_left
      · intro w hSw; (try dsimp only at hSw); go_simp; try with_reducible rfl
      simp only [Act.put, List.getElem_toArray, List.getElem_cons_succ, List.getElem_cons_zero, List.setIfInBounds_toArray, List.set_cons_zero, List.set_cons_succ]
      refine wpAnyH_take (i := 7) (v := ?_) rfl (by kernel_rfl) (by kernel_rfl) (by kernel_rfl) (fun _ _ _ h => h) (Or.inl ⟨by kernel_rfl, ?_⟩) (by assumption) ?_
      rotate_left
      · intro w hSw; (try dsimp only at hSw); go_simp; try with_reducible rfl
      simp only [Act.put, List.getElem_toArray, List.getElem_cons_succ, List.getElem_cons_zero, List.setIfInBounds_toArray, List.set_cons_zero, List.set_cons_succ]
      refine wpAnyH_take (i := 8) (v := ?_) rfl (by kernel_rfl) (by kernel_rfl) (by kernel_rfl) (fun _ _ _ h => h) (Or.inl ⟨by kernel_rfl, ?_⟩) (by assumption) ?_
      rotate_left
      · intro w hSw; (try dsimp only at hSw); go_simp; try with_reducible rfl
      simp only [Act.put, List.getElem_toArray, List.getElem_cons_succ, List.getElem_cons_zero, List.setIfInBounds_toArray, List.set_cons_zero, List.set_cons_succ]
      refine wpAnyH_take (i := 9) (v := ?_) rfl (by kernel_rfl) (by kernel_rfl) (by kernel_rfl) (fun _ _ _ h => h) (Or.inl ⟨by kernel_rfl, ?_⟩) (by assumption) ?_
      rotate_left
      · intro w hSw; (try dsimp only at hSw); go_simp; try with_reducible rfl
      simp only [Act.put, List.getElem_toArray, List.getElem_cons_succ, List.getElem_cons_zero, List.setIfInBounds_toArray, List.set_cons_zero, List.set_cons_succ]
      refine wpAnyH_take (i := 10) (v := ?_) rfl (by kernel_rfl) (by kernel_rfl) (by kernel_rfl) (fun _ _ _ h => h) (Or.inl ⟨by kernel_rfl, ?_⟩) (by assumption) ?_
      rotate_left
      · intro w hSw; (try dsimp only at hSw); go_simp; try with_reducible rfl
      simp only [Act.put, List.getElem_toArray, List.getElem_cons_succ, List.getElem_cons_zero, List.setIfInBounds_toArray, List.set_cons_zero, List.set_cons_succ]
      refine wpAnyH_ready (rs := [4]) (by kernel_rfl) (by simp) ?_
      refine AllReadyH.cons rfl (fun K hK => ?_) AllReadyH.nil
      have q1 := HM.out.cells.2.2.2.2.2.2.2.2.2.2.2.2.1
      go_simp
      clear q1
      refine hK.out _ _ HS1.out.2.2.2.2.2.2.2 (fun hHeld => ?_)
      clear hK K
      try simp only [Act.put, List.getElem_toArray, List.getElem_cons_succ, List.getElem_cons_zero, List.setIfInBounds_toArray, List.set_cons_zero, List.set_cons_succ]
      refine wpAnyH_take (i := 6) (v := .int .i64 (mz.k + (E : Int))) rfl (by kernel_rfl) (by kernel_rfl) (by kernel_rfl) (fun _ _ _ h => h) (Or.inl ⟨by kernel_rfl, ?_⟩) (by assumption) ?_
      · intro w hSw; (try dsimp only at hSw)
        have x3 := X3.out; go_simp
      simp only [Act.put, List.getElem_toArray, List.getElem_cons_succ, List.getElem_cons_zero, List.setIfInBounds_toArray, List.set_cons_zero, List.set_cons_succ]
      refine wpAnyH_take (i := 11) (v := .int .i64 (mz.k + (E : Int) - mz.fr)) rfl (by kernel_rfl) (by kernel_rfl) (by kernel_rfl) (fun _ _ _ h => h) (Or.inl ⟨by kernel_rfl, ?_⟩) (by assumption) ?_
      · intro w hSw; (try dsimp only at hSw)
        have x5 := X5.out; go_simp
      simp only [Act.put, List.getElem_toArray, List.getElem_cons_succ, List.getElem_cons_zero, List.setIfInBounds_toArray, List.set_cons_zero, List.set_cons_succ]
      refine wpAnyH_take (i := 12) (v := ?_) rfl (by kernel_rfl) (by kernel_rfl) (by kernel_rfl) (fun _ _ _ h => h) (Or.inl ⟨by kernel_rfl, ?_⟩) (by assumption) ?_
      rotate_left
      · intro w hSw; (try dsimp only at hSw); go_simp; try with_reducible rfl
      simp only [Act.put, List.getElem_toArray, List.getElem_cons_succ, List.getElem_cons_zero, List.setIfInBounds_toArray, List.set_cons_zero, List.set_cons_succ]
      refine wpAnyH_take (i := 13) (v := ?_) rfl (by kernel_rfl) (by kernel_rfl) (by kernel_rfl) (fun _ _ _ h => h) (Or.inl ⟨by kernel_rfl, ?_⟩) (by assumption) ?_
      rotate_left
      · intro w hSw; (try dsimp only at hSw); go_simp; try with_reducible rfl
      simp only [Act.put, List.getElem_toArray, List.getElem_cons_succ, List.getElem_cons_zero, List.setIfInBounds_toArray, List.set_cons_zero, List.set_cons_succ]
      refine wpAnyH_ready (rs := [14]) (by kernel_rfl) (by simp) ?_
      refine AllReadyH.cons rfl (fun K hK => ?_) AllReadyH.nil
      have q2 := HM.out.fr 12
      have q1 := HM.out.cells.2.2.2.2.2.2.2.2.2.2.2.2.1
      go_simp
      clear q1 q2
      refine hK.out _ _ (blk_cell (bset HMd.out (i := 12) (.int .i64 (mz.k + (E : Int) - mz.fr))) 13 rfl) (fun hHeld => ?_)
      clear hK K
      try simp only [Act.put, List.getElem_toArray, List.getElem_cons_succ, List.getElem_cons_zero, List.setIfInBounds_toArray, List.set_cons_zero, List.set_cons_succ]
      refine wpAnyH_done (by kernel_rfl) ?_ _
      go_wp2_with fail
      go_meet
      refine ⟨rfl, bset HMd.out (i := 12) (.int .i64 (mz.k + (E : Int) - mz.fr)), ?_⟩
      exact ((Kept.refl _ w6).drew.drew).setCell (p := ⟨r, 12, none⟩) (fun hh => hh rfl) _
    case rest =>
      obtain ⟨rfl, hm7, hk7⟩ := hcut
      obtain ⟨w7, rfl⟩ : ∃ x : World, x = wc := ⟨_, rfl⟩
      obtain ⟨m7, hm7e⟩ : ∃ m7 : M, { mz with k := mz.k + (E : Int) - mz.fr } = m7 := ⟨_, rfl⟩
      rw [hm7e] at hm7
      have hf7 : m7.f = mz.f := by rw [← hm7e]
      obtain ⟨d0, d1, d2, d3, d4, d5, d6, d7, d8, d9, d10, d11, d12, d13⟩ := hm7.cells
      have f8 := hm7.fr 8
      have f9 := hm7.fr 9
      have f11 := hm7.fr 11
      have f13 := hm7.fr 13
      obtain ⟨F2, hF2⟩ : ∃ F2 : Nat, mz.f ||| 8 = F2 := ⟨_, rfl⟩
      have x4 : bits .or .i64 (mz.f : Int) 8 = (F2 : Int) := by have h := X4.out; rw [hF2] at h; exact h
      rw [hf7] at d11
      have H7 := Lib.hid (And.intro hm7 (And.intro hk7 (And.intro hm7e hF2)))
      clear hm7 hk7 hm7e hf7 hF2 d0 d1 d2 d3 d4 d5 d6 d7 d10 d12
      go_wp2_with fail
      go_ret2
      have h0 := H7.out.1
      unfold RtB rtC at h0
      have hfin := bset (bset (bset (bset h0 (i := 13) (.int .i64 0)) (i := 9) (.int .u64 0)) (i := 11) (.int .i64 (F2 : Int))) (i := 8) (.int .u32 (v : Int))
      simp only [List.setIfInBounds_toArray, List.set_cons_succ, List.set_cons_zero] at hfin
      have hkf := ((((Kept.refl (fun x => x ≠ r) w7).setCell (p := ⟨r, 13, none⟩) (fun hh => hh rfl) (.int .i64 0)).setCell (p := ⟨r, 9, none⟩) (fun hh => hh rfl) (.int .u64 0)).setCell (p := ⟨r, 11, none⟩) (fun hh => hh rfl) (.int .i64 (F2 : Int))).setCell (p := ⟨r, 8, none⟩) (fun hh => hh rfl) (.int .u32 (v : Int))
      have hkz := ((H6.out.keptS (fun x => x ≠ r)).trans H7.out.2.1).trans hkf
      rw [HRes.out]
      refine ⟨A, k, c, rfl, own_keptM (own_lowerM H5.out.1 H5.out.2.2.2.2.1) hkz (fun g e => by have h1 := H5.out.1.lt g e; have h2 := H5.out.2.2.2.2.2; show g ≠ r; omega), ?_, H5.out.2.2.1.trans hkz, H5.out.2.2.2.1.symm⟩
      rw [← H7.out.2.2.1] at hfin
      unfold RtB rtC
      rw [show ({ mz with k := mz.k + ((E : Int) - mz.fr), c := 0, fr := 0, v := v, f := mz.f ||| 8 } : M) = ⟨mz.bg, mz.t, v, 0, mz.o, F2, mz.k + (E : Int) - mz.fr, 0⟩ by rw [← H7.out.2.2.2, show mz.k + (E : Int) - mz.fr = mz.k + ((E : Int) - mz.fr) by omega]]
      exact hfin
end Go.Proofs.Ytjmkbpgakfeceaa
