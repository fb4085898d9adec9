/-
  The document's device: Flush, walked. Conditions stand at each theorem. (Printed by gen_refb4.py.)
-/
import Derived.Test.YtpleaicpkpjkjaaRefB3
namespace Go.Proofs.Ytpleaicpkpjkjaa
open Go Go.RowKit Go.Kw Go.Maps
set_option linter.unusedVariables false
set_option linter.unusedSimpArgs false

section
variable {w W u : World} {B r mb nn : Nat} {V : Value} {X : Nat → Prop} {D : Dv}
/-- A sector laid anew in the map. -/
theorem RefO.put (h : RefO W B r mb nn V X D) (hnn : nn < maxLen) (n : Nat) (hn : n < D.S.length) (A : Option Addr) (c : Nat) (l : List UInt8) (hl : l.length = 128) (hA : A ≠ none) (hR : RdY W (fun b => X b ∧ Fr r mb V b) A l) :
    ∃ W', (Instr.mapUpdate 54 (.map (some mb)) (.int .i64 (n : Int)) (.slice A 128 c)).run Try.prog W = .ok () W' ∧ RefO W' B r mb (nn + 1) V X { D with S := D.S.set n l } ∧ Kept (fun b => b ≠ mb) W W' := by
  obtain ⟨F, h1, h2⟩ := h.map
  have hD := h.ok.n
  obtain ⟨W', hrun, hm, hg⟩ := h1.put hnn (n : Int) (int_wf (by omega)) (.slice A 128 c)
  have hk : Kept (fun b => b ≠ mb) W W' := (Kept.refl _ W).grown hg (fun k hk => by injection hk with hk; exact .inr (fun e => e hk.symm))
  have hk' : Kept (fun b => X b ∧ Fr r mb V b) W W' := hk.mono (fun b _ hb => hb.2.2.1)
  refine ⟨W', hrun, ⟨?_, ?_, ?_, ?_, h.own, h.ne, h.le⟩, hk⟩
  · have hok := h.ok
    refine ⟨fun x hx => ?_, ?_, hok.m, ?_, hok.p⟩
    · rcases List.mem_or_eq_of_mem_set hx with hx | rfl
      · exact hok.s x hx
      · exact hl
    · intro x hx; show x.1 < (D.S.set n l).length ∧ _; rw [List.length_set]; exact hok.c x hx
    · show 0 < (D.S.set n l).length ∧ (D.S.set n l).length ≤ 65536; rw [List.length_set]; exact hok.n
  · show W'.heap[r]? = some (.cells (refC (D.S.set n l).length mb V D.p D.dn D.k) _ _)
    rw [List.length_set]; exact heap_kept hk h.box h.ne.1
  · refine ⟨_, hm, fun m hm' => ?_⟩
    have hm2 : m < D.S.length := by
      have : m < (D.S.set n l).length := hm'
      rwa [List.length_set] at this
    dsimp only
    by_cases e : m = n
    · subst e
      rw [if_pos rfl]
      refine ⟨A, c, l, by rw [hl], fun e => absurd e hA, by omega, hR.kept hk', ?_⟩
      simp [List.getD_eq_getElem?_getD, hm2, hl]
    · rw [if_neg (by omega)]
      have := (h2 m hm2).kept hk'
      rwa [show (D.S.set n l).getD m [] = D.S.getD m [] by simp [List.getD_eq_getElem?_getD, List.getElem?_set_ne (Ne.symm e)]]
  · obtain ⟨xs, hx1, hx2, hx3⟩ := h.cac
    exact ⟨xs, hx1, own_keptV hx2 hk (fun g hg e => h.ne.2.2 (by rw [← e]; exact hg)), fun x hx => ⟨(hx3 x hx).1, (hx3 x hx).2.kept hk'⟩⟩
/-- The cache is dropped. -/
theorem RefO.drop (h : RefO W B r mb nn V X D) : RefO (W.setCell ⟨r, 2, none⟩ (.slice none 0 0)) B r mb nn (.slice none 0 0) X { D with C := [] } := by
  have hk : Kept (fun b => b ≠ r) W (W.setCell ⟨r, 2, none⟩ (.slice none 0 0)) := (Kept.refl _ W).setCell (fun e => e rfl) _
  have hk' : Kept (fun b => X b ∧ Fr r mb V b) W (W.setCell ⟨r, 2, none⟩ (.slice none 0 0)) := hk.mono (fun b _ hb => hb.2.1)
  have hok := h.ok
  refine ⟨⟨hok.s, by simp, by simp, hok.n, hok.p⟩, ?_, ?_, ⟨[], rfl, World.ownsRow_nil _ _ _ _, by simp⟩, ⟨h.own.1, h.own.2.1, fun b hb => by cases hb⟩, ⟨h.ne.1, (fun e => by cases e), (fun e => by cases e)⟩, h.le⟩
  · rw [cells_set h.box]; simp [refC]
  · obtain ⟨F, h1, h2⟩ := h.map
    exact ⟨F, h1.kept hk (fun e => h.ne.1 e.symm), fun n hn => ((h2 n hn).kept hk').mono (fun b _ hb => ⟨hb.1, hb.2.1, hb.2.2.1, fun e => by cases e⟩)⟩
/-- A write of the cache, in memory. -/
theorem RefO.ent (h : RefO W B r mb nn V X D) (k : Nat) (hk : k < D.C.length) : ∃ g cc A c, V = .slice (some ⟨g, 0, none⟩) D.C.length cc ∧ W.cell? ⟨g, k * 2, none⟩ = some (.int .i64 ((D.C.getD k default).1 : Int)) ∧ W.cell? ⟨g, k * 2 + 1, none⟩ = some (.slice A 128 c) ∧ A ≠ none ∧ RdY W (fun b => X b ∧ Fr r mb V b) A (D.C.getD k default).2 ∧ g ≠ mb := by
  obtain ⟨xs, hx1, hx2, hx3⟩ := h.cac
  have hxl : xs.length = D.C.length := by rw [← hx1]; simp
  have hkx : k < xs.length := by omega
  have hne := h.ne
  rcases hx2.2 with ⟨h', h0⟩ | ⟨g, cap, cur, h', hb, hg, hnc, hcm, hcs, ht⟩
  · omega
  · subst h'
    have hc := fun (j : Nat) (hj : j < 2) (v : Value) (hv : (entC xs[k])[j]? = some v) => hx2.cells (g := g) rfl (k * 2 + j) v (by rw [entsC_get xs k hkx j hj]; exact hv)
    have e1 : (D.C.getD k default) = xs[k].1 := by rw [← hx1]; simp [List.getD_eq_getElem?_getD, hkx]
    have c1 := hc 0 (by omega) _ rfl
    have c2 := hc 1 (by omega) _ rfl
    rw [Go.WideShapes.add_plain] at c1 c2
    rw [Nat.zero_add, Nat.add_zero] at c1
    rw [Nat.zero_add] at c2
    refine ⟨g, cap, xs[k].2.1, xs[k].2.2, rfl, by rw [e1]; exact c1, c2, (hx3 _ (List.getElem_mem hkx)).1, by rw [e1]; exact (hx3 _ (List.getElem_mem hkx)).2, fun e => hne.2.2 (by rw [← e]; rfl)⟩

set_option maxRecDepth 100000 in
set_option maxHeartbeats 16000000 in
theorem refFlush_calls (h : RefO w B r mb nn V X D) (hX : ∀ b, X b → b < w.heap.size) (hk : 0 ≤ D.k ∧ D.k < 4611686018427387904) (hnn : nn ≤ 1000000000) :
    Calls Try.prog 40 #[.pointer (some ⟨r, 0, none⟩)] w fun e w' => e = .returned (.int .i64 (flushV D).1) ∧ RefP w B r mb nn V X (flushV D).2 w' := by
  obtain ⟨c0, c1, c2, c3, c4, c5⟩ := h.cells
  have H := Lib.hid h
  have HX := Lib.hid hX
  unfold flushV
  cases hdn : D.dn with
  | true =>
    rw [hdn] at c4
    rw [if_pos rfl]
    have HP := Lib.hid (RefP.same h (Below.refl _ _))
    clear h hX hk hnn hdn c0 c1 c2 c3 c5
    go_enter Try.func40, Try.ntmps40
    go_wp2_with fail
    go_ret
    exact ⟨rfl, HP.out⟩
  | false =>
  rw [hdn] at c4
  rw [if_neg (by simp)]
  have HC := Lib.hid (refCounts_calls h hk)
  by_cases hp : D.p = 1
  · rw [decide_eq_true hp] at HC
    have HE : (cntV D D { D with S := flS D.C D.S D.C.length, C := [], dn := false }) = (120, (cntV D D D).2) := by unfold cntV; rw [if_pos hp, if_pos hp]
    rw [show ({ S := flS D.C D.S D.C.length, C := [], p := D.p, dn := false, k := D.k } : Dv) = { D with S := flS D.C D.S D.C.length, C := [], dn := false } from rfl, HE]
    clear h hX hk hnn hdn c0 c1 c2 c3 c5 hp HE
    go_enter Try.func40, Try.ntmps40
    go_wp2_with fail
    refine HC.out.mono ?_
    rintro e u ⟨rfl, hR, hK⟩
    have HP := Lib.hid (RefP.box H.out hR hK)
    clear hR hK HC
    go_wp2_with fail
    go_ret
    exact ⟨rfl, HP.out⟩
  rw [decide_eq_false hp] at HC
  have HE : (cntV D D { D with S := flS D.C D.S D.C.length, C := [], dn := false }) = (0, { S := flS D.C D.S D.C.length, C := [], p := planN D.p, dn := false, k := D.k + 1 }) := by unfold cntV; rw [if_neg hp]
  rw [show ({ S := flS D.C D.S D.C.length, C := [], p := D.p, dn := false, k := D.k } : Dv) = { D with S := flS D.C D.S D.C.length, C := [], dn := false } from rfl, HE]
  have HD : (cntV D D D).2 = { S := D.S, C := D.C, p := planN D.p, dn := false, k := D.k + 1 } := by unfold cntV; rw [if_neg hp]; simp [hdn]
  rw [HD] at HC
  obtain ⟨P, hP⟩ : ∃ P, planN D.p = P := ⟨_, rfl⟩
  obtain ⟨K, hK⟩ : ∃ K, D.k + 1 = K := ⟨_, rfl⟩
  rw [hP, hK] at HC ⊢
  obtain ⟨CA, cc, hV, hCA⟩ := h.slice
  obtain ⟨L, hL⟩ : ∃ L, D.C.length = L := ⟨_, rfl⟩
  rw [hL] at hV hCA ⊢
  have HV := Lib.hid (And.intro hL (And.intro hV (And.intro hCA (And.intro hnn (And.intro h.ok h.lts.1)))))
  clear h hX hk hnn hdn c0 c1 c2 c3 c5 hp HE HD hP hK hV hCA hL
  go_enter Try.func40, Try.ntmps40
  go_wp2_with fail
  refine HC.out.mono ?_
  rintro e u ⟨rfl, hR, hK⟩
  have HR := Lib.hid hR
  have HK := Lib.hid hK
  clear hR hK HC
  go_wp2_with fail
  go_loopw [4] (fun kv wr => ∃ k : Nat, k ≤ L ∧ kv = .int .i64 k ∧ RefO wr B r mb (nn + k) V X { S := flS D.C D.S k, C := D.C, p := P, dn := false, k := K } ∧ Kept (fun b => b ≠ mb ∧ b ≠ r) w wr) (fun kv _ => L - (intOf kv).toNat)
  case atStart => exact ⟨0, by omega, rfl, HR.out, HK.out.mono (fun b _ hb => hb.2)⟩
  case round =>
    obtain ⟨k, hi, rfl, hR, hK⟩ := hrel
    clear HR HK
    have d2 := hR.cells.2.2.1
    rw [HV.out.2.1] at d2
    by_cases hlt : k < L
    · have hI : (k : Int) < (L : Int) := by omega
      have hk0 : (0 : Int) ≤ (k : Int) := by omega
      have X1 := Lib.hid (wrap64_in' ((k : Int) + 1) (by have := HV.out.2.2.2.2.1.m; have := HV.out.1; omega))
      obtain ⟨g, cc', A, c, hV', ce1, ce2, hA, hRd, hgm⟩ := hR.ent k (by show k < D.C.length; rw [HV.out.1]; exact hlt)
      have hV2 := hV'
      rw [HV.out.2.1] at hV2
      injection hV2 with hV2 hVl hV3
      clear hVl
      subst hV2
      obtain ⟨n, hn⟩ : ∃ n, (D.C.getD k default).1 = n := ⟨_, rfl⟩
      obtain ⟨l, hl⟩ : ∃ l, (D.C.getD k default).2 = l := ⟨_, rfl⟩
      have hcm := HV.out.2.2.2.2.1.c (D.C.getD k default) (getD_mem' (by rw [HV.out.1]; exact hlt))
      have ce1' : wr.cell? ⟨g, k * 2, none⟩ = some (.int .i64 ((D.C.getD k default).1 : Int)) := ce1
      have hRd' : RdY wr (fun b => X b ∧ Fr r mb V b) A (D.C.getD k default).2 := hRd
      rw [hn] at ce1' hcm
      rw [hl] at hRd' hcm
      obtain ⟨W', hup, hO, hk2⟩ := (hR.go (Below.refl wr.heap.size wr).drew).put (by have := HV.out.2.2.2.1; have := HV.out.2.2.2.2.1.m; have := HV.out.1; unfold maxLen; omega) n (by show n < (flS D.C D.S k).length; rw [flS_length]; exact hcm.1) A c l hcm.2 hA (hRd'.go (Below.refl wr.heap.size wr).drew)
      have hne := hR.ne.1
      have hO2 : RefO W' B r mb (nn + (k + 1)) V X { S := flS D.C D.S (k + 1), C := D.C, p := P, dn := false, k := K } := by
        rw [show flS D.C D.S (k + 1) = (flS D.C D.S k).set n l from by rw [flS, hn, hl]]
        exact hO
      have d1 := hR.cells.2.1
      have HS := Lib.hid (show ∀ Y, Kept (fun b => b ≠ mb) wr Y → (Y.cell? ⟨r, 1, none⟩ = some (.map (some mb)) ∧ Y.cell? ⟨r, 2, none⟩ = some (.slice (some ⟨g, 0, none⟩) L cc) ∧ Y.cell? ⟨g, k * 2, none⟩ = some (.int .i64 (n : Int)) ∧ Y.cell? ⟨g, k * 2 + 1, none⟩ = some (.slice A 128 c)) from fun Y hY =>
        have hx : ∀ b, b ≠ mb → ∀ i v, wr.cell? ⟨b, i, none⟩ = some v → Y.cell? ⟨b, i, none⟩ = some v := fun b hb i v hv => (World.cell?_of_block (a := ⟨b, i, none⟩) (hY.block b (block_lt hv) hb)).trans hv
        ⟨hx r hne _ _ d1, hx r hne _ _ d2, hx g hgm _ _ ce1', hx g hgm _ _ ce2⟩)
      have HU := Lib.hid hup
      have HO := Lib.hid (And.intro hO2 (And.intro hk2 (And.intro hK hlt)))
      clear hi hR hK hlt hV' ce1 ce1' ce2 hA hRd hRd' hgm hV3 hn hl hcm hup hO hO2 hk2 hne d1
      go_wp2_with fail
      refine wp_region_held_drew (S := (fun Y => Y.cell? ⟨r, 1, none⟩ = some (.map (some mb)) ∧ Y.cell? ⟨r, 2, none⟩ = some (.slice (some ⟨g, 0, none⟩) L cc) ∧ Y.cell? ⟨g, k * 2, none⟩ = some (.int .i64 (n : Int)) ∧ Y.cell? ⟨g, k * 2 + 1, none⟩ = some (.slice A 128 c))) (by kernel_rfl) (HS.out _ (Kept.refl _ _).drew) (fun hHeld => ?_)
      refine wpAnyH_take (i := 0) (v := ?_) rfl (by kernel_rfl) (by kernel_rfl) (by kernel_rfl) (fun _ _ _ h => h) (Or.inl ⟨by kernel_rfl, ?_⟩) (by assumption) ?_
      rotate_left
      · intro w hSw; (try dsimp only at hSw); go_simp; try with_reducible rfl
      simp only [Act.put, List.getElem_toArray, List.getElem_cons_succ, List.getElem_cons_zero, List.setIfInBounds_toArray, List.set_cons_zero, List.set_cons_succ]
      refine wpAnyH_take (i := 1) (v := ?_) rfl (by kernel_rfl) (by kernel_rfl) (by kernel_rfl) (fun _ _ _ h => h) (Or.inl ⟨by kernel_rfl, ?_⟩) (by assumption) ?_
      rotate_left
      · intro w hSw; (try dsimp only at hSw); go_simp; try with_reducible rfl
      simp only [Act.put, List.getElem_toArray, List.getElem_cons_succ, List.getElem_cons_zero, List.setIfInBounds_toArray, List.set_cons_zero, List.set_cons_succ]
      refine wpAnyH_take (i := 2) (v := ?_) rfl (by kernel_rfl) (by kernel_rfl) (by kernel_rfl) (fun _ _ _ h => h) (Or.inl ⟨by kernel_rfl, ?_⟩) (by assumption) ?_
      rotate_left
      · intro w hSw; (try dsimp only at hSw); go_simp; try with_reducible rfl
      simp only [Act.put, List.getElem_toArray, List.getElem_cons_succ, List.getElem_cons_zero, List.setIfInBounds_toArray, List.set_cons_zero, List.set_cons_succ]
      refine wpAnyH_take (i := 3) (v := ?_) rfl (by kernel_rfl) (by kernel_rfl) (by kernel_rfl) (fun _ _ _ h => h) (Or.inl ⟨by kernel_rfl, ?_⟩) (by assumption) ?_
      rotate_left
      · intro w hSw; (try dsimp only at hSw); go_simp; try with_reducible rfl
      simp only [Act.put, List.getElem_toArray, List.getElem_cons_succ, List.getElem_cons_zero, List.setIfInBounds_toArray, List.set_cons_zero, List.set_cons_succ]
      refine wpAnyH_take (i := 4) (v := ?_) rfl (by kernel_rfl) (by kernel_rfl) (by kernel_rfl) (fun _ _ _ h => h) (Or.inl ⟨by kernel_rfl, ?_⟩) (by assumption) ?_
      rotate_left
      · intro w hSw; (try dsimp only at hSw); go_simp; try with_reducible rfl
      simp only [Act.put, List.getElem_toArray, List.getElem_cons_succ, List.getElem_cons_zero, List.setIfInBounds_toArray, List.set_cons_zero, List.set_cons_succ]
      refine wpAnyH_take (i := 5) (v := ?_) rfl (by kernel_rfl) (by kernel_rfl) (by kernel_rfl) (fun _ _ _ h => h) (Or.inl ⟨by kernel_rfl, ?_⟩) (by assumption) ?_
      rotate_left
      · intro w hSw; (try dsimp only at hSw); go_simp; try with_reducible rfl
      simp only [Act.put, List.getElem_toArray, List.getElem_cons_succ, List.getElem_cons_zero, List.setIfInBounds_toArray, List.set_cons_zero, List.set_cons_succ]
      refine wpAnyH_take (i := 6) (v := ?_) rfl (by kernel_rfl) (by kernel_rfl) (by kernel_rfl) (fun _ _ _ h => h) (Or.inl ⟨by kernel_rfl, ?_⟩) (by assumption) ?_
      rotate_left
      · intro w hSw; (try dsimp only at hSw); go_simp; try with_reducible rfl
      simp only [Act.put, List.getElem_toArray, List.getElem_cons_succ, List.getElem_cons_zero, List.setIfInBounds_toArray, List.set_cons_zero, List.set_cons_succ]
      refine wpAnyH_take (i := 7) (v := ?_) rfl (by kernel_rfl) (by kernel_rfl) (by kernel_rfl) (fun _ _ _ h => h) (Or.inl ⟨by kernel_rfl, ?_⟩) (by assumption) ?_
      rotate_left
      · intro w hSw; (try dsimp only at hSw); go_simp; try with_reducible rfl
      simp only [Act.put, List.getElem_toArray, List.getElem_cons_succ, List.getElem_cons_zero, List.setIfInBounds_toArray, List.set_cons_zero, List.set_cons_succ]
      refine wpAnyH_take (i := 8) (v := ?_) rfl (by kernel_rfl) (by kernel_rfl) (by kernel_rfl) (fun _ _ _ h => h) (Or.inl ⟨by kernel_rfl, ?_⟩) (by assumption) ?_
      rotate_left
      · intro w hSw; (try dsimp only at hSw); go_simp; try with_reducible rfl
      simp only [Act.put, List.getElem_toArray, List.getElem_cons_succ, List.getElem_cons_zero, List.setIfInBounds_toArray, List.set_cons_zero, List.set_cons_succ]
      refine wpAnyH_take (i := 9) (v := ?_) rfl (by kernel_rfl) (by kernel_rfl) (by kernel_rfl) (fun _ _ _ h => h) (Or.inl ⟨by kernel_rfl, ?_⟩) (by assumption) ?_
      rotate_left
      · intro w hSw; (try dsimp only at hSw); go_simp; try with_reducible rfl
      simp only [Act.put, List.getElem_toArray, List.getElem_cons_succ, List.getElem_cons_zero, List.setIfInBounds_toArray, List.set_cons_zero, List.set_cons_succ]
      refine wpAnyH_take (i := 10) (v := ?_) rfl (by kernel_rfl) (by kernel_rfl) (by kernel_rfl) (fun _ _ _ h => h) (Or.inl ⟨by kernel_rfl, ?_⟩) (by assumption) ?_
      rotate_left
      · intro w hSw; (try dsimp only at hSw); go_simp; try with_reducible rfl
      simp only [Act.put, List.getElem_toArray, List.getElem_cons_succ, List.getElem_cons_zero, List.setIfInBounds_toArray, List.set_cons_zero, List.set_cons_succ]
      refine wpAnyH_take (i := 11) (v := ?_) rfl (by kernel_rfl) (by kernel_rfl) (by kernel_rfl) (fun _ _ _ h => h) (Or.inl ⟨by kernel_rfl, ?_⟩) (by assumption) ?_
      rotate_left
      · intro w hSw; (try dsimp only at hSw); go_simp; try with_reducible rfl
      simp only [Act.put, List.getElem_toArray, List.getElem_cons_succ, List.getElem_cons_zero, List.setIfInBounds_toArray, List.set_cons_zero, List.set_cons_succ]
      refine wpAnyH_take (i := 12) (v := ?_) rfl (by kernel_rfl) (by kernel_rfl) (by kernel_rfl) (fun _ _ _ h => h) (Or.inl ⟨by kernel_rfl, ?_⟩) (by assumption) ?_
      rotate_left
      · intro w hSw; (try dsimp only at hSw); go_simp; try with_reducible rfl
      simp only [Act.put, List.getElem_toArray, List.getElem_cons_succ, List.getElem_cons_zero, List.setIfInBounds_toArray, List.set_cons_zero, List.set_cons_succ]
      refine wpAnyH_take (i := 13) (v := ?_) rfl (by kernel_rfl) (by kernel_rfl) (by kernel_rfl) (fun _ _ _ h => h) (Or.inl ⟨by kernel_rfl, ?_⟩) (by assumption) ?_
      rotate_left
      · intro w hSw; (try dsimp only at hSw); go_simp; try with_reducible rfl
      simp only [Act.put, List.getElem_toArray, List.getElem_cons_succ, List.getElem_cons_zero, List.setIfInBounds_toArray, List.set_cons_zero, List.set_cons_succ]
      refine wpAnyH_take (i := 14) (v := ?_) rfl (by kernel_rfl) (by kernel_rfl) (by kernel_rfl) (fun _ _ _ h => h) (Or.inl ⟨by kernel_rfl, ?_⟩) (by assumption) ?_
      rotate_left
      · intro w hSw; (try dsimp only at hSw); go_simp; try with_reducible rfl
      simp only [Act.put, List.getElem_toArray, List.getElem_cons_succ, List.getElem_cons_zero, List.setIfInBounds_toArray, List.set_cons_zero, List.set_cons_succ]
      refine wpAnyH_take (i := 15) (v := ?_) rfl (by kernel_rfl) (by kernel_rfl) (by kernel_rfl) (fun _ _ _ h => h) (Or.inl ⟨by kernel_rfl, ?_⟩) (by assumption) ?_
      rotate_left
      · intro w hSw; (try dsimp only at hSw); go_simp; try with_reducible rfl
      simp only [Act.put, List.getElem_toArray, List.getElem_cons_succ, List.getElem_cons_zero, List.setIfInBounds_toArray, List.set_cons_zero, List.set_cons_succ]
      refine wpAnyH_take (i := 16) (v := ?_) rfl (by kernel_rfl) (by kernel_rfl) (by kernel_rfl) (fun _ _ _ h => h) (Or.inl ⟨by kernel_rfl, ?_⟩) (by assumption) ?_
      rotate_left
      · intro w hSw; (try dsimp only at hSw); go_simp; try with_reducible rfl
      simp only [Act.put, List.getElem_toArray, List.getElem_cons_succ, List.getElem_cons_zero, List.setIfInBounds_toArray, List.set_cons_zero, List.set_cons_succ]
      refine wpAnyH_take (i := 17) (v := ?_) rfl (by kernel_rfl) (by kernel_rfl) (by kernel_rfl) (fun _ _ _ h => h) (Or.inl ⟨by kernel_rfl, ?_⟩) (by assumption) ?_
      rotate_left
      · intro w hSw; (try dsimp only at hSw); go_simp; try with_reducible rfl
      simp only [Act.put, List.getElem_toArray, List.getElem_cons_succ, List.getElem_cons_zero, List.setIfInBounds_toArray, List.set_cons_zero, List.set_cons_succ]
      refine wpAnyH_take (i := 18) (v := ?_) rfl (by kernel_rfl) (by kernel_rfl) (by kernel_rfl) (fun _ _ _ h => h) (Or.inl ⟨by kernel_rfl, ?_⟩) (by assumption) ?_
      rotate_left
      · intro w hSw; (try dsimp only at hSw); go_simp; try with_reducible rfl
      simp only [Act.put, List.getElem_toArray, List.getElem_cons_succ, List.getElem_cons_zero, List.setIfInBounds_toArray, List.set_cons_zero, List.set_cons_succ]
      refine wpAnyH_take (i := 19) (v := ?_) rfl (by kernel_rfl) (by kernel_rfl) (by kernel_rfl) (fun _ _ _ h => h) (Or.inl ⟨by kernel_rfl, ?_⟩) (by assumption) ?_
      rotate_left
      · intro w hSw; (try dsimp only at hSw); go_simp; try with_reducible rfl
      simp only [Act.put, List.getElem_toArray, List.getElem_cons_succ, List.getElem_cons_zero, List.setIfInBounds_toArray, List.set_cons_zero, List.set_cons_succ]
      refine wpAnyH_ready (rs := [20]) (by kernel_rfl) (by simp) ?_
      refine AllReadyH.cons rfl (fun K hK => ?_) AllReadyH.nil
      have hu := HU.out
      go_simp
      clear hu
      refine hK.out _ _ (HS.out _ ((Kept.refl _ _).drew.trans HO.out.2.1)) (fun hHeld => ?_)
      clear hK K
      try simp only [Act.put, List.getElem_toArray, List.getElem_cons_succ, List.getElem_cons_zero, List.setIfInBounds_toArray, List.set_cons_zero, List.set_cons_succ]
      refine wpAnyH_done (by kernel_rfl) ?_ _
      go_wp2_with fail
      try rw [X1.out]
      obtain ⟨hO, hk2, hK, hlt⟩ := HO.out
      exact ⟨⟨k + 1, by omega, by push_cast; rfl, hO, (hK.drew).trans (hk2.mono (fun b _ hb => hb.1))⟩, by simp [intOf]; omega⟩
    · obtain rfl : k = L := by omega
      have HR := Lib.hid (And.intro hR hK)
      have f2 := hR.fr 2
      clear hi hR hK hlt
      go_wp2_with fail
      go_ret
      refine ⟨rfl, .slice none 0 0, ?_, ?_⟩
      · have hm := HV.out.2.2.2.2.1.m
        have hl := HV.out.1
        exact (HR.out.1.drop.moreX (fun b hb => .inl hb)).mono (by omega)
      · exact (HR.out.2.mono (fun b _ hb => ⟨hb.2.1, hb.1⟩)).setCell (fun hh => hh.1 rfl) _
end
end Go.Proofs.Ytpleaicpkpjkjaa
