/-
  The document's meter: Sample, walked. Conditions stand at each theorem. (Printed by gen_refm3.py.)
-/
import Derived.Test.YtjmkbpgakfeceaaRefM2
namespace Go.Proofs.Ytjmkbpgakfeceaa
open Go Go.RowKit Go.Kw Go.Kw.Mt Go.Kw.Nm
set_option linter.unusedVariables false
set_option linter.unusedSimpArgs false

theorem rtC_all (nr : Int) (s : Stp) (m : M) : (rtC nr s m).all (·.oneCell') = true := by simp [rtC, Value.oneCell']
theorem rtC_size (nr : Int) (s : Stp) (m : M) : (rtC nr s m).size = 14 := rfl
theorem eRtS : (Try.prog.info? 65).map (·.size) = some 14 := by kernel_rfl
theorem RtB.row {W : World} {b : Nat} {nr : Int} {s : Stp} {m m' : M} (h : RtB W b nr s m) : RtB (W.setRow b (rtC nr s m')) b nr s m' := setRow_heap _ _ _ _ _ _ h
/-- What a call answers and leaves. -/
def AnsR (w : World) (r : Nat) (nr : Int) (s : Stp) (X : Int × List En × M) (e : Ending) (w' : World) : Prop :=
  ∃ A k c, e = .returned (.tuple #[.slice A k c, .int .i64 X.1]) ∧ w'.ownsRow w.heap.size 45 42 (.slice A k c) k (ensC nr X.2.1) ∧ RtB w' r nr s X.2.2 ∧ Kept (fun x => x ≠ r) w w' ∧ k = X.2.1.length
theorem AnsR.no {w w' : World} {r : Nat} {nr : Int} {s : Stp} {m : M} {er : Int} {e : Ending} (he : e = .returned (.tuple #[.slice none 0 0, .int .i64 er])) (hm : RtB w' r nr s m) (hk : Kept (fun x => x ≠ r) w w') : AnsR w r nr s (er, [], m) e w' :=
  ⟨none, 0, 0, he, own_nilE _ _ _, hm, hk, rfl⟩

set_option maxHeartbeats 8000000 in
theorem rsample_time (w : World) (r : Nat) (nr : Int) (s : Stp) (m : M) (i : Nat) (hs : MayS s) (hok : Ok s m i) (hi : i ≤ 200) (hB : RtB w r nr s m) (t : Int) (v : Nat) (hv : v < 4294967296) (ht : timeBad t) : Calls Try.prog 39 #[.pointer (some ⟨r, 0, none⟩), .int .i64 t, .int .u32 (v : Int)] w fun e w' => e = .returned (.tuple #[.slice none 0 0, .int .i64 60]) ∧ Below w.heap.size w w' := by
  unfold timeBad at ht
  clear hs hok hi hB hv
  by_cases h0 : t < 0
  · have k0 : decide (t < 0) = true := decide_eq_true h0
    clear h0 ht
    go_enter Try.func39, Try.ntmps39
    go_wp2_with fail
    go_ret2
    exact ⟨rfl, Below.refl _ _⟩
  · have k0 : decide (t < 0) = false := decide_eq_false h0
    have k1 : decide (t ≥ 253402300800) = true := decide_eq_true (by omega)
    clear h0 ht
    go_enter Try.func39, Try.ntmps39
    go_wp2_with fail
    go_ret2
    exact ⟨rfl, Below.refl _ _⟩
set_option maxHeartbeats 8000000 in
theorem rsample_first (w : World) (r : Nat) (nr : Int) (s : Stp) (m : M) (i : Nat) (hs : MayS s) (hok : Ok s m i) (hi : i ≤ 200) (hB : RtB w r nr s m) (t : Int) (v : Nat) (hv : v < 4294967296) (ht : ¬ timeBad t) (hbg : m.bg = false) : Calls Try.prog 39 #[.pointer (some ⟨r, 0, none⟩), .int .i64 t, .int .u32 (v : Int)] w fun e w' => e = .returned (.tuple #[.slice none 0 0, .int .i64 0]) ∧ RtB w' r nr s (beginM s t v) ∧ Kept (fun x => x ≠ r) w w' := by
  unfold timeBad at ht
  have k0 : decide (t < 0) = false := decide_eq_false (by omega)
  have k1 : decide (t ≥ 253402300800) = false := decide_eq_false (by omega)
  have e6 := hB.cells.2.2.2.2.2.2.1
  rw [hbg] at e6
  have HBg := Lib.hid (rbegins_calls w r nr s m hs hB t v (by omega))
  clear hs hok hi hB hv ht hbg
  go_enter Try.func39, Try.ntmps39
  go_wp2_with fail
  refine HBg.out.mono ?_
  rintro e w1 ⟨⟨u, rfl⟩, hm, hk⟩
  have H1 := Lib.hid (And.intro hm hk)
  clear hm hk
  go_wp2_with fail
  go_ret2
  exact ⟨rfl, H1.out.1, H1.out.2⟩
set_option maxHeartbeats 8000000 in
theorem rrepl_time (w : World) (r : Nat) (nr : Int) (s : Stp) (m : M) (i : Nat) (hs : MayS s) (hok : Ok s m i) (hi : i ≤ 200) (hB : RtB w r nr s m) (t : Int) (v : Nat) (hv : v < 4294967296) (ht : timeBad t) : Calls Try.prog 40 #[.pointer (some ⟨r, 0, none⟩), .int .i64 t, .int .u32 (v : Int)] w fun e w' => e = .returned (.tuple #[.slice none 0 0, .int .i64 60]) ∧ Below w.heap.size w w' := by
  unfold timeBad at ht
  clear hs hok hi hB hv
  by_cases h0 : t < 0
  · have k0 : decide (t < 0) = true := decide_eq_true h0
    clear h0 ht
    go_enter Try.func40, Try.ntmps40
    go_wp2_with fail
    go_ret2
    exact ⟨rfl, Below.refl _ _⟩
  · have k0 : decide (t < 0) = false := decide_eq_false h0
    have k1 : decide (t ≥ 253402300800) = true := decide_eq_true (by omega)
    clear h0 ht
    go_enter Try.func40, Try.ntmps40
    go_wp2_with fail
    go_ret2
    exact ⟨rfl, Below.refl _ _⟩
set_option maxHeartbeats 8000000 in
theorem rrepl_first (w : World) (r : Nat) (nr : Int) (s : Stp) (m : M) (i : Nat) (hs : MayS s) (hok : Ok s m i) (hi : i ≤ 200) (hB : RtB w r nr s m) (t : Int) (v : Nat) (hv : v < 4294967296) (ht : ¬ timeBad t) (hbg : m.bg = false) : Calls Try.prog 40 #[.pointer (some ⟨r, 0, none⟩), .int .i64 t, .int .u32 (v : Int)] w fun e w' => e = .returned (.tuple #[.slice none 0 0, .int .i64 0]) ∧ RtB w' r nr s (beginM s t v) ∧ Kept (fun x => x ≠ r) w w' := by
  unfold timeBad at ht
  have k0 : decide (t < 0) = false := decide_eq_false (by omega)
  have k1 : decide (t ≥ 253402300800) = false := decide_eq_false (by omega)
  have e6 := hB.cells.2.2.2.2.2.2.1
  rw [hbg] at e6
  have HBg := Lib.hid (rbegins_calls w r nr s m hs hB t v (by omega))
  clear hs hok hi hB hv ht hbg
  go_enter Try.func40, Try.ntmps40
  go_wp2_with fail
  refine HBg.out.mono ?_
  rintro e w1 ⟨⟨u, rfl⟩, hm, hk⟩
  have H1 := Lib.hid (And.intro hm hk)
  clear hm hk
  go_wp2_with fail
  go_ret2
  exact ⟨rfl, H1.out.1, H1.out.2⟩
set_option maxRecDepth 100000 in
set_option maxHeartbeats 32000000 in
theorem rsample_next (w : World) (r : Nat) (nr : Int) (s : Stp) (m : M) (i : Nat) (hs : MayS s) (hok : Ok s m i) (hi : i ≤ 200) (hB : RtB w r nr s m) (t : Int) (v : Nat) (hv : v < 4294967296) (ht : ¬ timeBad t) (hbg : m.bg = true) : Calls Try.prog 39 #[.pointer (some ⟨r, 0, none⟩), .int .i64 t, .int .u32 (v : Int)] w (AnsR w r nr s (sampleV s m t v)) := by
  have hxf := sample_form s m t v
  rw [if_neg ht, if_neg (by rw [hbg]; simp)] at hxf
  have HXf := Lib.hid hxf
  clear hxf
  unfold timeBad at ht
  have k0 : decide (t < 0) = false := decide_eq_false (by omega)
  have k1 : decide (t ≥ 253402300800) = false := decide_eq_false (by omega)
  have hrl := hB.lt
  obtain ⟨T, hT⟩ : ∃ T : Int, max t m.t = T := ⟨_, rfl⟩
  obtain ⟨D, hD⟩ : ∃ D : Nat, difV m v = D := ⟨_, rfl⟩
  have hDl : D < 4294967296 := hD ▸ dif_lt v
  obtain ⟨gS, hgS⟩ : ∃ gS : Bool, decide (D > s.bound) = gS := ⟨_, rfl⟩
  obtain ⟨mb, hmb⟩ : ∃ mb, backM m t = mb := ⟨_, rfl⟩
  have hbs := back_same (m := m) t
  have hokb := back_ok (t := t) hok hbg
  rw [hmb] at hbs hokb
  have htt := hok.t
  have hPs : PsI s mb T (smD s m v) i := ⟨hs, hokb, hi, by rw [hbs.2.2.2.2.2.2]; exact hbg, by rw [hbs.1]; omega, smD_lt v⟩
  obtain ⟨D1, hD1⟩ : ∃ D1, smD s m v = D1 := ⟨_, rfl⟩
  have hF1 : smF s m v = if gS = true then 4 else 0 := by unfold smF; rw [hD, ← hgS]; simp
  have hD1v : D1 = if gS = true then 0 else D := by rw [← hD1, ← hgS]; unfold smD; rw [hD]; simp
  have hsus : (difV m v > s.bound) ↔ gS = true := by rw [hD, ← hgS]; exact decide_eq_true_iff.symm
  obtain ⟨b9, hb9⟩ : ∃ b9, w.heap.size = b9 := ⟨_, rfl⟩
  obtain ⟨w1, hw1⟩ : ∃ x, w.alloc (.cells (rtC nr s m) 65) = x := ⟨_, rfl⟩
  have hst : Below w.heap.size w w1 := hw1 ▸ bstep w _
  have hr9 : w1.heap[b9]? = some (.cells (rtC nr s m) 65 (0, 0)) := by rw [← hb9, ← hw1]; exact blk_new w _ _
  obtain ⟨c0, c1, c2, c3, c4, c5, c6, c7, c8, c9, c10, c11, c12, c13⟩ := hB.cells
  rw [hbg] at c6
  have hw1' := hw1
  unfold rtC at hw1'
  rw [hbg] at hw1'
  obtain ⟨gB, hgB⟩ : ∃ gB : Bool, decide (t < m.t) = gB := ⟨_, rfl⟩
  have H1 := Lib.hid (And.intro (hB.go hst) (And.intro hr9 (And.intro hst (show r ≠ b9 by omega))))
  have HH := Lib.hid (And.intro hPs (And.intro hT (And.intro hD (And.intro hDl (And.intro hgS (And.intro hmb (And.intro hbs (And.intro hD1 (And.intro hF1 (And.intro hD1v (And.intro hsus (And.intro hok (And.intro hv (And.intro hgB (And.intro hbg hb9)))))))))))))))
  clear hw1 hs hok hi hB hv hrl hT hD hDl hgS hmb hbs hokb htt hPs hD1 hF1 hD1v hsus hst hr9 hgB ht hbg
  go_enter Try.func39, Try.ntmps39
  go_upto_region 7 with fail
  clear hw1' c0 c1 c2 c3 c4 c5 c6 c7 c8 c9 c10 c11 c12 c13 hb9
  have c7 := H1.out.1.cells.2.2.2.2.2.2.2.1
  have hgB := HH.out.2.2.2.2.2.2.2.2.2.2.2.2.2.1
  go_upto_if 37 with fail
  clear c7 hgB
  go_cut [1] from 38 to 49 (fun s1 wx => s1 = .int .i64 T ∧ RtB wx r nr s mb ∧ Kept (fun x => x ≠ r) w1 wx)
  case first =>
    have hT := HH.out.2.1
    have hmb := HH.out.2.2.2.2.2.1
    have hgB := HH.out.2.2.2.2.2.2.2.2.2.2.2.2.2.1
    have hf16 := HH.out.2.2.2.2.2.2.2.2.2.2.2.1.f
    have c7 := H1.out.1.cells.2.2.2.2.2.2.2.1
    have c11 := H1.out.1.cells.2.2.2.2.2.2.2.2.2.2.2.1
    have f11 := H1.out.1.fr 11
    cases gB with
    | true =>
      have hbk : mb = { m with f := m.f ||| 2 } := by rw [← hmb]; exact if_pos (of_decide_eq_true hgB)
      have X4 : bits .or .i64 (m.f : Int) 2 = ((m.f ||| 2 : Nat) : Int) := i64_or_nat m.f 2 (by omega) (by omega)
      obtain ⟨F2, hF2⟩ : ∃ F2 : Nat, m.f ||| 2 = F2 := ⟨_, rfl⟩
      rw [hF2] at X4 hbk
      have Hbk := Lib.hid (And.intro hbk (show m.t = T by have := of_decide_eq_true hgB; omega))
      clear hbk hF2 hT hmb hgB hf16
      go_wp2_with fail
      go_meet
      refine ⟨congrArg _ Hbk.out.2, ?_, (Kept.refl _ w1).setCell (p := ⟨r, 11, none⟩) (fun hh => hh rfl) _⟩
      rw [Hbk.out.1]
      exact bset H1.out.1 (i := 11) (.int .i64 (F2 : Int))
    | false =>
      have Hbk := Lib.hid (show mb = m ∧ t = T from ⟨by rw [← hmb]; exact if_neg (of_decide_eq_false hgB), by have := of_decide_eq_false hgB; omega⟩)
      clear hT hmb hgB hf16
      go_wp2_with fail
      go_meet
      refine ⟨congrArg _ Hbk.out.2, ?_, Kept.refl _ w1⟩
      rw [Hbk.out.1]
      exact H1.out.1
  case rest =>
    obtain ⟨rfl, hm2, hk2⟩ := hcut
    obtain ⟨w2, rfl⟩ : ∃ x : World, x = wc := ⟨_, rfl⟩
    have H2 := Lib.hid (And.intro hm2 (And.intro hk2 (heap_kept hk2 H1.out.2.1 (fun e => H1.out.2.2.2 e.symm))))
    clear hm2 hk2
    go_upto_region 10 with fail
    go_cut [9] from 50 to 59 (fun s9 wx => s9 = .int .u64 (D : Int) ∧ w2 = wx)
    case first =>
      have c8 := H2.out.1.cells.2.2.2.2.2.2.2.2.1
      rw [HH.out.2.2.2.2.2.2.1.2.1] at c8
      go_wp2_with fail
      go_meet
      refine ⟨congrArg (Value.int .u64) ?_, by first | rfl | trivial⟩
      have h1 := HH.out.2.2.2.2.2.2.2.2.2.2.2.1.v
      have h2 := HH.out.2.2.2.2.2.2.2.2.2.2.2.2.1
      have h3 := HH.out.2.2.1
      unfold difV at h3
      simp only [IntKind.wrap_u64]
      rw [Int.tmod_eq_emod_of_nonneg (Int.emod_nonneg _ (by decide))]
      omega
    case rest =>
      obtain ⟨rfl, hw⟩ := hcut
      subst hw
      go_upto_region 11 with fail
      go_cut [10] from 60 to 67 (fun s10 wx => s10 = .bool gS ∧ w2 = wx)
      case first =>
        have c3 := H2.out.1.cells.2.2.2.1
        go_wp2_with fail
        go_meet
        refine ⟨congrArg Value.bool ?_, by first | rfl | trivial⟩
        rw [← HH.out.2.2.2.2.1]
        apply decide_eq_decide.2
        have h2 := HH.out.1.hs.bound
        simp only [IntKind.wrap_u64]
        omega
      case rest =>
        obtain ⟨rfl, hw⟩ := hcut
        subst hw
        go_upto_if 69 with fail
        go_cut [11] from 78 to 79 (fun s11 wx => s11 = .int .u64 (D1 : Int) ∧ w2 = wx)
        case first =>
          have h1 := HH.out.2.2.2.2.2.2.2.2.2.1
          cases gS with
          | true =>
            have Hh := Lib.hid (show D1 = 0 from h1)
            clear h1
            go_wp2_with fail
            go_meet
            exact ⟨by rw [Hh.out]; rfl, by first | rfl | trivial⟩
          | false =>
            have Hh := Lib.hid (show D1 = D from h1)
            clear h1
            go_wp2_with fail
            go_meet
            exact ⟨by rw [Hh.out], by first | rfl | trivial⟩
        case rest =>
          obtain ⟨rfl, hw⟩ := hcut
          subst hw
          by_cases hsp : T / s.len - mb.o > 1000
          · have hc := rpass_span w2 r nr s mb T D1 i gS (HH.out.2.2.2.2.2.2.2.1 ▸ HH.out.1) H2.out.1 hsp
            have HC := Lib.hid hc
            have Hsp := Lib.hid hsp
            clear hc hsp
            go_wp2_with fail
            refine HC.out.mono ?_
            rintro e w3 ⟨rfl, hb3⟩
            have hr3 := blk_below H2.out.2.2 hb3
            have HR := Lib.hid (show w3.rangeAt b9 0 (rtC nr s m).toList from fun j v hv => blk_cell hr3 (0 + j) (by rw [Nat.zero_add]; simpa using hv))
            have HI := Lib.hid (show (Try.prog.info? 65).map (·.size) = some (rtC nr s m).toList.length by rw [Array.length_toList, rtC_size]; exact eRtS)
            have HI2 := Lib.hid (show (Try.prog.info? 65).map (·.size) = some (rtC nr s m).size by rw [rtC_size]; exact eRtS)
            have HO := Lib.hid (show (rtC nr s mb).size = (rtC nr s m).size by rw [rtC_size, rtC_size])
            have HA := Lib.hid (rtC_all nr s m)
            have HZ := Lib.hid (show RtB w3 r nr s mb from H2.out.1.go hb3)
            have HK := Lib.hid (show Kept (fun x => x ≠ r) w (w3.setRow r (rtC nr s m)) from (((H1.out.2.2.1.keptS (fun x => x ≠ r)).trans H2.out.2.1).trans (hb3.keptS _)).setRow (g := r) (fun e => e rfl) (rtC nr s m))
            have HM := Lib.hid (show RtB (w3.setRow r (rtC nr s m)) r nr s m from RtB.row HZ.out)
            clear hb3 hr3
            go_upto_region 17 with fail
            refine wp_region_lit ?_
            refine wpList_plain rfl fun K hK => ?_
            go_simp
            refine hK _ _ ?_
            clear hK K
            try simp only [Act.put, List.getElem_toArray, List.getElem_cons_succ, List.getElem_cons_zero, List.setIfInBounds_toArray, List.set_cons_zero, List.set_cons_succ]
            refine wpList_load_mid rfl 65 (.tmp 8) rfl b9 0 rfl _ _ HR.out Try.underlying65 (by rfl) HI.out ?_
            try simp only [Array.toArray_toList]
            try simp only [Act.put, List.getElem_toArray, List.getElem_cons_succ, List.getElem_cons_zero, List.setIfInBounds_toArray, List.set_cons_zero, List.set_cons_succ]
            obtain ⟨mv, hmv⟩ : ∃ mv, rtC nr s m = mv := ⟨_, rfl⟩
            rw [hmv] at HI2 HO HA HM HK ⊢
            refine wpList_plain rfl fun K hK => ?_
            go_simp
            refine hK _ _ ?_
            clear hK K
            try simp only [Act.put, List.getElem_toArray, List.getElem_cons_succ, List.getElem_cons_zero, List.setIfInBounds_toArray, List.set_cons_zero, List.set_cons_succ]
            refine wpList_plain rfl fun K hK => ?_
            refine wp_store_row 65 (.tmp 82) (.tmp 81) rfl r mv rfl rfl 65 (rtC nr s mb) HZ.out HI2.out HO.out HA.out ?_
            refine hK _ _ ?_
            clear hK K
            go_wp2_with fail
            go_ret2
            rw [HXf.out, if_pos (by rw [HH.out.2.1, ← HH.out.2.2.2.2.2.2.1.2.2.2.1]; exact Hsp.out)]
            exact AnsR.no rfl HM.out HK.out
          · have hc := rpasses_calls w2 r nr s mb T D1 i gS (HH.out.2.2.2.2.2.2.2.1 ▸ HH.out.1) H2.out.1 hsp (smF s m v) HH.out.2.2.2.2.2.2.2.2.1
            have HC := Lib.hid hc
            have Hsp := Lib.hid hsp
            clear hc hsp
            go_wp2_with fail
            refine HC.out.mono ?_
            rintro e w3 ⟨A, c, rfl, how, hm3, hk3⟩
            obtain ⟨L, hL⟩ : ∃ L, passE s mb T D1 (passF s mb T (smF s m v)) (many s mb T) = L := ⟨_, rfl⟩
            obtain ⟨mz, hmz⟩ : ∃ mz : M, passZ s mb T D1 (smF s m v) = mz := ⟨_, rfl⟩
            have hmn : many s mb T ≤ 1000 := by unfold many; have := Hsp.out; omega
            obtain ⟨k, hkm⟩ : ∃ k, many s mb T = k := ⟨_, rfl⟩
            have hLk : L.length = k := by rw [← hL, passE_length, hkm]
            have hres : (if max t m.t / s.len - m.o > 1000 then ((242 : Int), ([] : List En), m) else (0, passE s (backM m t) (max t m.t) (smD s m v) (passF s (backM m t) (max t m.t) (smF s m v)) (many s (backM m t) (max t m.t)) ++ (if difV m v > s.bound then [⟨2, max t m.t, 0, 0, difV m v⟩] else []), { passZ s (backM m t) (max t m.t) (smD s m v) (smF s m v) with v := v })) = (0, L ++ (if gS = true then [⟨2, T, 0, 0, D⟩] else []), { mz with v := v }) := by
              rw [if_neg (by rw [HH.out.2.1, ← HH.out.2.2.2.2.2.2.1.2.2.2.1]; exact (fun h => absurd h (by have := Hsp.out; omega))), HH.out.2.1, HH.out.2.2.2.2.2.1, HH.out.2.2.2.2.2.2.2.1, hL, hmz, HH.out.2.2.1]
              congr 3
              have h1 := HH.out.2.2.2.2.1
              cases gS with
              | true => rw [if_pos (of_decide_eq_true h1), if_pos rfl]
              | false => rw [if_neg (of_decide_eq_false h1), if_neg (by simp)]
            rw [hL, hkm] at how
            rw [hmz] at hm3
            rw [hkm] at hmn ⊢
            have HRes := Lib.hid hres
            have hkA : Kept (fun x => x ≠ r) w w3 := ((H1.out.2.2.1.keptS (fun x => x ≠ r)).trans H2.out.2.1).trans hk3
            have hB2 : w.heap.size ≤ w2.heap.size := Nat.le_trans H1.out.2.2.1.size H2.out.2.1.size
            have hr2 : r < w2.heap.size := H2.out.1.lt
            have H3 := Lib.hid (And.intro how (And.intro hm3 (And.intro hkA (And.intro hmn (And.intro hLk (And.intro hB2 (And.intro hr2 hk3.size)))))))
            have c8 := hm3.cells.2.2.2.2.2.2.2.2.1
            have f8 := hm3.fr 8
            have hk4 : Kept (fun x => x ≠ r) w3 (w3.setCell ⟨r, 8, none⟩ (.int .u32 (v : Int))) := (Kept.refl _ w3).setCell (p := ⟨r, 8, none⟩) (fun hh => hh rfl) _
            have hm4 := bset hm3 (i := 8) (.int .u32 (v : Int))
            obtain ⟨w4, hw4⟩ : ∃ x, w3.setCell ⟨r, 8, none⟩ (.int .u32 (v : Int)) = x := ⟨_, rfl⟩
            rw [hw4] at hk4 hm4
            have H4 := Lib.hid (show RtB w4 r nr s { mz with v := v } ∧ Kept (fun x => x ≠ r) w3 w4 from ⟨hm4, hk4⟩)
            clear how hm3 hk3 hL hmz hmn hkm hLk hres hkA hB2 hr2 hk4 hm4
            go_upto_region 20 with fail
            clear hw4 c8 f8
            cases gS with
            | false =>
              go_wp2_with fail
              go_ret2
              rw [HXf.out, HRes.out, if_neg (by simp), List.append_nil]
              exact ⟨A, k, c, rfl, own_keptM (own_lowerM H3.out.1 H3.out.2.2.2.2.2.1) H4.out.2 (fun g e => by have := H3.out.1.lt g e; have := H3.out.2.2.2.2.2.2.1; show g ≠ r; omega), H4.out.1, H3.out.2.2.1.trans H4.out.2, H3.out.2.2.2.2.1.symm⟩
            | true =>
              have how4 := own_keptM H3.out.1 H4.out.2 (fun g e => by have := H3.out.1.lt g e; have := H3.out.2.2.2.2.2.2.1; show g ≠ r; omega)
              obtain ⟨A', c', w7, hrun, how7, hg7, -⟩ := ent_append w4 w2.heap.size how4 ⟨2, T, 0, 0, D⟩ (Nat.le_trans H3.out.2.2.2.2.2.2.2 H4.out.2.size) (by have := H3.out.2.2.2.1; omega)
              have hkg : Kept (fun x => x < w2.heap.size) w4 w7 := ((bstep w4 _).keptS _).trans ((grownKept hg7).mono (fun x hx h e => by have := how4.lt x e.symm; omega))
              have HBu := built_sus nr T D
              have X9 : IntKind.u32.wrap (D : Int) = (D : Int) := by rw [IntKind.wrap_u32]; have := HH.out.2.2.2.1; omega
              have H7 := Lib.hid (And.intro how7 hkg)
              have d0 := H4.out.1.cells.1
              have hrun2 := hrun
              unfold enC at hrun2 HBu
              clear hrun how7 hg7 hkg how4
              go_wp2_with (first | (at_builtin; refine wpList_append_run hrun2 rfl rfl rfl rfl rfl ?_; clear hrun2))
              go_ret2
              rw [HXf.out, HRes.out, if_pos (by first | rfl | trivial)]
              refine ⟨A', k + 1, c', rfl, own_lowerM H7.out.1 H3.out.2.2.2.2.2.1, H4.out.1.kept H7.out.2 H3.out.2.2.2.2.2.2.1, ?_, by rw [List.length_append, H3.out.2.2.2.2.1]; rfl⟩
              exact Kept.cut (S' := fun x => x < w2.heap.size) (H3.out.2.2.1.trans H4.out.2) H7.out.2 (fun k hk _ => Nat.lt_of_lt_of_le hk H3.out.2.2.2.2.2.1)
end Go.Proofs.Ytjmkbpgakfeceaa
