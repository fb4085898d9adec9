/-
  A meter: what Replace does, walked. Conditions stand at each theorem. (Printed by gen_mt8.py.)
-/
import Derived.Test.YtjmkbpgakfeceaaMt6
namespace Go.Proofs.Ytjmkbpgakfeceaa
open Go Go.RowKit Go.Kw Go.Kw.Mt
set_option linter.unusedVariables false
set_option linter.unusedSimpArgs false

set_option maxRecDepth 100000 in
theorem built_sp0 (t' : Int) : Try.prog.built 81 [(0, .int .i64 t')] = some (spC t' 0 0) := by
  have hz : (Try.prog.info? 81).map (fun i => i.zero) = some (some (.agg #[.int .i64 0, .int .u32 0, .int .i64 0])) := by kernel_rfl
  obtain ⟨i, hi, hz⟩ := Option.map_eq_some_iff.1 hz
  have hf : ∃ fs, Try.prog.underlying 81 = some (.struct fs) ∧ fs.toList.mapM (fun f => (Try.prog.info? f.type).map fun i => (f.offset, i.size)) = some [(0, 1), (1, 1), (2, 1)] := ⟨_, rfl, by kernel_rfl⟩
  obtain ⟨fs, hu, hm⟩ := hf
  unfold Program.built
  rw [hi, hu]
  dsimp only
  rw [hz, hm]
  rfl

set_option maxHeartbeats 8000000 in
/-- A first sample. -/
theorem rpl_first (w : World) (b : Nat) (nr : Int) (s : Stp) (m : M) (hs : MayS s) (hB : MtB w b nr s m) (hbg : m.bg = false) (t : Int) (v : Nat) (ht : 0 ≤ t ∧ t < 253402300800) (b0 b1 b2 : Nat) (hx : Box3 b0 b1 b2 b t v w) :
    Calls Try.prog 37 #[.pointer (some ⟨b0, 0, none⟩), .pointer (some ⟨b1, 0, none⟩), .pointer (some ⟨b2, 0, none⟩)] w fun e w' => e = .returned (.tuple #[.slice none 0 0, .int .i64 0]) ∧ MtB w' b nr s (beginM s t v) ∧ Kept (fun x => x ≠ b) w w' := by
  obtain ⟨d0, d1, d2⟩ := hx.cells
  have e6 := hB.cells.2.2.2.2.2.2.1
  rw [hbg] at e6
  have HBg := Lib.hid (fun w0 (h : MtB w0 b nr s m) => mbegin_calls w0 b nr s m hs h t v ht)
  have H0 := Lib.hid hB
  clear hs hB hbg ht hx
  go_enter Try.func37, Try.ntmps37
  go_wp2_with fail
  refine (HBg.out _ H0.out).mono ?_
  rintro e w1 ⟨⟨u, rfl⟩, hm, hk⟩
  have H1 := Lib.hid (And.intro hm hk)
  clear hm hk
  go_wp2_with fail
  go_ret2
  exact ⟨rfl, H1.out.1, H1.out.2⟩
set_option maxHeartbeats 8000000 in
/-- An instant ahead of the last sample. -/
theorem rpl_back (w : World) (b : Nat) (nr : Int) (s : Stp) (m : M) (hB : MtB w b nr s m) (hbg : m.bg = true) (t : Int) (v : Nat) (ht : t < m.t) (b0 b1 b2 : Nat) (hx : Box3 b0 b1 b2 b t v w) :
    Calls Try.prog 37 #[.pointer (some ⟨b0, 0, none⟩), .pointer (some ⟨b1, 0, none⟩), .pointer (some ⟨b2, 0, none⟩)] w fun e w' => e = .returned (.tuple #[.slice none 0 0, .int .i64 241]) ∧ Below w.heap.size w w' := by
  obtain ⟨d0, d1, d2⟩ := hx.cells
  have e6 := hB.cells.2.2.2.2.2.2.1
  have e7 := hB.cells.2.2.2.2.2.2.2.1
  rw [hbg] at e6
  have k0 : decide (t < m.t) = true := decide_eq_true ht
  have HS4 := Lib.hid (And.intro d0 (And.intro d1 e7))
  have K0 := Lib.hid k0
  clear hB hbg ht hx
  go_enter Try.func37, Try.ntmps37
  go_upto_region 4 with fail
  refine wp_region_held_drew (S := (fun Y => Y.cell? ⟨b0, 0, none⟩ = some (.pointer (some ⟨b, 0, none⟩)) ∧ Y.cell? ⟨b1, 0, none⟩ = some (.int .i64 t) ∧ Y.cell? ⟨b, 7, none⟩ = some (.int .i64 m.t))) (by kernel_rfl) HS4.out (fun hHeld => ?_)
  refine wpAnyH_take (i := 0) (v := ?_) rfl (by kernel_rfl) (by kernel_rfl) (by kernel_rfl) (fun _ _ _ h => h) (Or.inl ⟨by kernel_rfl, ?_⟩) (by assumption) ?_
  rotate_left
  · intro w hSw; (try dsimp only at hSw); go_simp; try with_reducible rfl
  simp only [Act.put, List.getElem_toArray, List.getElem_cons_succ, List.getElem_cons_zero, List.setIfInBounds_toArray, List.set_cons_zero, List.set_cons_succ]
  refine wpAnyH_take (i := 1) (v := ?_) rfl (by kernel_rfl) (by kernel_rfl) (by kernel_rfl) (fun _ _ _ h => h) (Or.inl ⟨by kernel_rfl, ?_⟩) (by assumption) ?_
  rotate_left
  · intro w hSw; (try dsimp only at hSw); go_simp; try with_reducible rfl
  simp only [Act.put, List.getElem_toArray, List.getElem_cons_succ, List.getElem_cons_zero, List.setIfInBounds_toArray, List.set_cons_zero, List.set_cons_succ]
  refine wpAnyH_take (i := 2) (v := ?_) rfl (by kernel_rfl) (by kernel_rfl) (by kernel_rfl) (fun _ _ _ h => h) (Or.inl ⟨by kernel_rfl, ?_⟩) (by assumption) ?_
  rotate_left
  · intro w hSw; (try dsimp only at hSw); go_simp; try with_reducible rfl
  simp only [Act.put, List.getElem_toArray, List.getElem_cons_succ, List.getElem_cons_zero, List.setIfInBounds_toArray, List.set_cons_zero, List.set_cons_succ]
  refine wpAnyH_take (i := 3) (v := ?_) rfl (by kernel_rfl) (by kernel_rfl) (by kernel_rfl) (fun _ _ _ h => h) (Or.inl ⟨by kernel_rfl, ?_⟩) (by assumption) ?_
  rotate_left
  · intro w hSw; (try dsimp only at hSw); go_simp; try with_reducible rfl
  simp only [Act.put, List.getElem_toArray, List.getElem_cons_succ, List.getElem_cons_zero, List.setIfInBounds_toArray, List.set_cons_zero, List.set_cons_succ]
  refine wpAnyH_take (i := 4) (v := ?_) rfl (by kernel_rfl) (by kernel_rfl) (by kernel_rfl) (fun _ _ _ h => h) (Or.inl ⟨by kernel_rfl, ?_⟩) (by assumption) ?_
  rotate_left
  · intro w hSw; (try dsimp only at hSw); go_simp; try with_reducible rfl
  simp only [Act.put, List.getElem_toArray, List.getElem_cons_succ, List.getElem_cons_zero, List.setIfInBounds_toArray, List.set_cons_zero, List.set_cons_succ]
  refine wpAnyH_take (i := 5) (v := .bool true) rfl (by kernel_rfl) (by kernel_rfl) (by kernel_rfl) (fun _ _ _ h => h) (Or.inl ⟨by kernel_rfl, ?_⟩) (by assumption) ?_
  · intro w hSw; (try dsimp only at hSw)
    have g := K0.out; go_simp
  simp only [Act.put, List.getElem_toArray, List.getElem_cons_succ, List.getElem_cons_zero, List.setIfInBounds_toArray, List.set_cons_zero, List.set_cons_succ]
  refine wpAnyH_take (i := 6) (v := ?_) rfl (by kernel_rfl) (by kernel_rfl) (by kernel_rfl) (fun _ _ _ h => h) (Or.inl ⟨by kernel_rfl, ?_⟩) (by assumption) ?_
  rotate_left
  · intro w hSw; (try dsimp only at hSw); go_simp; try with_reducible rfl
  simp only [Act.put, List.getElem_toArray, List.getElem_cons_succ, List.getElem_cons_zero, List.setIfInBounds_toArray, List.set_cons_zero, List.set_cons_succ]
  refine wpAnyH_done (by kernel_rfl) ?_ _
  clear hHeld
  go_wp2_with fail
  go_ret2
  exact ⟨rfl, (Below.refl _ w).drew⟩
set_option maxHeartbeats 8000000 in
/-- A span beyond the bound. -/
theorem rpl_span (w : World) (b : Nat) (nr : Int) (s : Stp) (m : M) (i : Nat) (hs : MayS s) (hok : Ok s m i) (hB : MtB w b nr s m) (hbg : m.bg = true) (t : Int) (v : Nat) (ht : m.t ≤ t) (ht2 : t < 253402300800) (hsp : t / s.len - m.o > 1000) (b0 b1 b2 : Nat) (hx : Box3 b0 b1 b2 b t v w) :
    Calls Try.prog 37 #[.pointer (some ⟨b0, 0, none⟩), .pointer (some ⟨b1, 0, none⟩), .pointer (some ⟨b2, 0, none⟩)] w fun e w' => e = .returned (.tuple #[.slice none 0 0, .int .i64 242]) ∧ Below w.heap.size w w' := by
  obtain ⟨d0, d1, d2⟩ := hx.cells
  have e6 := hB.cells.2.2.2.2.2.2.1
  have e7 := hB.cells.2.2.2.2.2.2.2.1
  rw [hbg] at e6
  have k0 : decide (t < m.t) = false := decide_eq_false (by omega)
  have hno : ∀ W, MtB W b nr s m → _ := fun W h => pass_span W b nr s m t 0 0 i hs hok h ht ht2 (by decide) (by decide) hsp
  have HNo := Lib.hid hno
  have H0 := Lib.hid hB
  have hbu := built_sp0 t
  unfold spC at hbu
  have HS4 := Lib.hid (And.intro d0 (And.intro d1 e7))
  have K0 := Lib.hid k0
  clear hno hs hok hB hbg ht ht2 hsp hx
  go_enter Try.func37, Try.ntmps37
  go_upto_region 4 with fail
  refine wp_region_held_drew (S := (fun Y => Y.cell? ⟨b0, 0, none⟩ = some (.pointer (some ⟨b, 0, none⟩)) ∧ Y.cell? ⟨b1, 0, none⟩ = some (.int .i64 t) ∧ Y.cell? ⟨b, 7, none⟩ = some (.int .i64 m.t))) (by kernel_rfl) HS4.out (fun hHeld => ?_)
  refine wpAnyH_take (i := 0) (v := ?_) rfl (by kernel_rfl) (by kernel_rfl) (by kernel_rfl) (fun _ _ _ h => h) (Or.inl ⟨by kernel_rfl, ?_⟩) (by assumption) ?_
  rotate_left
  · intro w hSw; (try dsimp only at hSw); go_simp; try with_reducible rfl
  simp only [Act.put, List.getElem_toArray, List.getElem_cons_succ, List.getElem_cons_zero, List.setIfInBounds_toArray, List.set_cons_zero, List.set_cons_succ]
  refine wpAnyH_take (i := 1) (v := ?_) rfl (by kernel_rfl) (by kernel_rfl) (by kernel_rfl) (fun _ _ _ h => h) (Or.inl ⟨by kernel_rfl, ?_⟩) (by assumption) ?_
  rotate_left
  · intro w hSw; (try dsimp only at hSw); go_simp; try with_reducible rfl
  simp only [Act.put, List.getElem_toArray, List.getElem_cons_succ, List.getElem_cons_zero, List.setIfInBounds_toArray, List.set_cons_zero, List.set_cons_succ]
  refine wpAnyH_take (i := 2) (v := ?_) rfl (by kernel_rfl) (by kernel_rfl) (by kernel_rfl) (fun _ _ _ h => h) (Or.inl ⟨by kernel_rfl, ?_⟩) (by assumption) ?_
  rotate_left
  · intro w hSw; (try dsimp only at hSw); go_simp; try with_reducible rfl
  simp only [Act.put, List.getElem_toArray, List.getElem_cons_succ, List.getElem_cons_zero, List.setIfInBounds_toArray, List.set_cons_zero, List.set_cons_succ]
  refine wpAnyH_take (i := 3) (v := ?_) rfl (by kernel_rfl) (by kernel_rfl) (by kernel_rfl) (fun _ _ _ h => h) (Or.inl ⟨by kernel_rfl, ?_⟩) (by assumption) ?_
  rotate_left
  · intro w hSw; (try dsimp only at hSw); go_simp; try with_reducible rfl
  simp only [Act.put, List.getElem_toArray, List.getElem_cons_succ, List.getElem_cons_zero, List.setIfInBounds_toArray, List.set_cons_zero, List.set_cons_succ]
  refine wpAnyH_take (i := 4) (v := ?_) rfl (by kernel_rfl) (by kernel_rfl) (by kernel_rfl) (fun _ _ _ h => h) (Or.inl ⟨by kernel_rfl, ?_⟩) (by assumption) ?_
  rotate_left
  · intro w hSw; (try dsimp only at hSw); go_simp; try with_reducible rfl
  simp only [Act.put, List.getElem_toArray, List.getElem_cons_succ, List.getElem_cons_zero, List.setIfInBounds_toArray, List.set_cons_zero, List.set_cons_succ]
  refine wpAnyH_take (i := 5) (v := .bool false) rfl (by kernel_rfl) (by kernel_rfl) (by kernel_rfl) (fun _ _ _ h => h) (Or.inl ⟨by kernel_rfl, ?_⟩) (by assumption) ?_
  · intro w hSw; (try dsimp only at hSw)
    have g := K0.out; go_simp
  simp only [Act.put, List.getElem_toArray, List.getElem_cons_succ, List.getElem_cons_zero, List.setIfInBounds_toArray, List.set_cons_zero, List.set_cons_succ]
  refine wpAnyH_take (i := 6) (v := ?_) rfl (by kernel_rfl) (by kernel_rfl) (by kernel_rfl) (fun _ _ _ h => h) (Or.inl ⟨by kernel_rfl, ?_⟩) (by assumption) ?_
  rotate_left
  · intro w hSw; (try dsimp only at hSw); go_simp; try with_reducible rfl
  simp only [Act.put, List.getElem_toArray, List.getElem_cons_succ, List.getElem_cons_zero, List.setIfInBounds_toArray, List.set_cons_zero, List.set_cons_succ]
  refine wpAnyH_done (by kernel_rfl) ?_ _
  clear hHeld
  go_wp2_with fail
  refine (HNo.out w.drew H0.out).mono ?_
  rintro e w5 ⟨rfl, hb⟩
  have Hb := Lib.hid ((Below.refl w.heap.size w).drew.trans (hb.mono (Nat.le_refl _)))
  clear hb d0 d1 d2 e6 e7
  go_wp2_with fail
  go_ret2
  exact ⟨rfl, Hb.out⟩
set_option maxRecDepth 100000 in
set_option maxHeartbeats 64000000 in
/-- A replacement. -/
theorem rpl_next (w : World) (b : Nat) (nr : Int) (s : Stp) (m : M) (i : Nat) (hs : MayS s) (hok : Ok s m i) (hi : i ≤ 200) (hB : MtB w b nr s m) (hbg : m.bg = true) (t : Int) (v : Nat) (ht : m.t ≤ t) (ht2 : t < 253402300800) (hsp : ¬ t / s.len - m.o > 1000) (b0 b1 b2 : Nat) (hx : Box3 b0 b1 b2 b t v w) (hne : b0 ≠ b ∧ b1 ≠ b ∧ b2 ≠ b) :
    Calls Try.prog 37 #[.pointer (some ⟨b0, 0, none⟩), .pointer (some ⟨b1, 0, none⟩), .pointer (some ⟨b2, 0, none⟩)] w fun e w' => ∃ A k c, e = .returned (.tuple #[.slice A k c, .int .i64 0]) ∧ w'.ownsRow w.heap.size 45 42 (.slice A k c) k (ensC nr (passE s m t 0 (passF s m t 0) (many s m t))) ∧
      MtB w' b nr s { passZ s m t 0 0 with k := (passZ s m t 0 0).k + ((eng s (passZ s m t 0 0).c : Int) - (passZ s m t 0 0).fr), c := 0, fr := 0, v := v, f := (passZ s m t 0 0).f ||| 8 } ∧ Kept (fun x => x ≠ b) w w' ∧ k = many s m t := by
  obtain ⟨d0, d1, d2⟩ := hx.cells
  have e6 := hB.cells.2.2.2.2.2.2.1
  have e7 := hB.cells.2.2.2.2.2.2.2.1
  rw [hbg] at e6
  have k0 : decide (t < m.t) = false := decide_eq_false (by omega)
  have hyes : ∀ W, MtB W b nr s m → _ := fun W h => pass_calls W b nr s m t 0 0 i hs hok hi h hbg ht ht2 (by decide) (by decide) hsp
  have HYes := Lib.hid hyes
  have hokz := pass_ok (d := 0) (fl := 0) hs.ok hok (by decide) ht ht2 (by decide) hbg
  obtain ⟨mz, hmz⟩ : ∃ mz, passZ s m t 0 0 = mz := ⟨_, rfl⟩
  have hic : ((i : Int) + 1) * 9007199254740992 ≤ 201 * 9007199254740992 := Int.mul_le_mul_of_nonneg_right (by omega) (by omega)
  have hic2 : (i + 1) * 4294967296 ≤ 201 * 4294967296 := Nat.mul_le_mul_right _ (by omega)
  have hzc : mz.c < 9223372036854775808 := by have := hokz.c; rw [hmz] at this; omega
  obtain ⟨k, hkm⟩ : ∃ k, many s m t = k := ⟨_, rfl⟩
  have hmn : k ≤ 1000 := by rw [← hkm]; unfold many; omega
  rw [hmz] at HYes hokz ⊢
  rw [hkm] at HYes ⊢
  have HE := energy_calls mz.c s.num s.den (s.bound : Int) s.gap s.len (by omega)
  have hzk := hokz.k
  have hzf := hokz.fr
  push_cast at hzk
  have he := enV_ok mz.c s.num s.den s.gap s.len hs.may (by unfold eng at *; omega)
  rw [he] at HE
  unfold setV at HE
  obtain ⟨E, hE⟩ : ∃ E : Nat, mz.c * s.num / s.den = E := ⟨_, rfl⟩
  have hEn : eng s mz.c = E := hE
  rw [hE] at HE
  rw [hEn] at hzk hzf ⊢
  have HE := Lib.hid HE
  have HZ := Lib.hid (And.intro hokz (And.intro hzk hzf))
  have X1 := Lib.hid (wrapI_at ((E : Int) - mz.fr) (by omega))
  have X2 := Lib.hid (wrapI_at (4611686018427387904 - ((E : Int) - mz.fr)) (by omega))
  have X3 := Lib.hid (wrapI_at (mz.k + ((E : Int) - mz.fr)) (by omega))
  have X4 : bits .or .i64 (mz.f : Int) 8 = ((mz.f ||| 8 : Nat) : Int) := i64_or_nat mz.f 8 (by have := hokz.f; omega) (by omega)
  have HX4 := Lib.hid X4
  have hk8 : decide (mz.k > 4611686018427387904 - ((E : Int) - mz.fr)) = false := decide_eq_false (by omega)
  have Hk8 := Lib.hid hk8
  have H0 := Lib.hid (And.intro hB (And.intro hx hne))
  have hbu := built_sp0 t
  unfold spC at hbu
  clear hyes hs hok hB hbg ht ht2 hsp hx hne hokz hmz hic hic2 hzc hkm hmn hzk hzf he hE hEn X4 hk8
  have HS4 := Lib.hid (And.intro d0 (And.intro d1 e7))
  have K0 := Lib.hid k0
  go_enter Try.func37, Try.ntmps37
  go_upto_region 4 with fail
  refine wp_region_held_drew (S := (fun Y => Y.cell? ⟨b0, 0, none⟩ = some (.pointer (some ⟨b, 0, none⟩)) ∧ Y.cell? ⟨b1, 0, none⟩ = some (.int .i64 t) ∧ Y.cell? ⟨b, 7, none⟩ = some (.int .i64 m.t))) (by kernel_rfl) HS4.out (fun hHeld => ?_)
  refine wpAnyH_take (i := 0) (v := ?_) rfl (by kernel_rfl) (by kernel_rfl) (by kernel_rfl) (fun _ _ _ h => h) (Or.inl ⟨by kernel_rfl, ?_⟩) (by assumption) ?_
  rotate_left
  · intro w hSw; (try dsimp only at hSw); go_simp; try with_reducible rfl
  simp only [Act.put, List.getElem_toArray, List.getElem_cons_succ, List.getElem_cons_zero, List.setIfInBounds_toArray, List.set_cons_zero, List.set_cons_succ]
  refine wpAnyH_take (i := 1) (v := ?_) rfl (by kernel_rfl) (by kernel_rfl) (by kernel_rfl) (fun _ _ _ h => h) (Or.inl ⟨by kernel_rfl, ?_⟩) (by assumption) ?_
  rotate_left
  · intro w hSw; (try dsimp only at hSw); go_simp; try with_reducible rfl
  simp only [Act.put, List.getElem_toArray, List.getElem_cons_succ, List.getElem_cons_zero, List.setIfInBounds_toArray, List.set_cons_zero, List.set_cons_succ]
  refine wpAnyH_take (i := 2) (v := ?_) rfl (by kernel_rfl) (by kernel_rfl) (by kernel_rfl) (fun _ _ _ h => h) (Or.inl ⟨by kernel_rfl, ?_⟩) (by assumption) ?_
  rotate_left
  · intro w hSw; (try dsimp only at hSw); go_simp; try with_reducible rfl
  simp only [Act.put, List.getElem_toArray, List.getElem_cons_succ, List.getElem_cons_zero, List.setIfInBounds_toArray, List.set_cons_zero, List.set_cons_succ]
  refine wpAnyH_take (i := 3) (v := ?_) rfl (by kernel_rfl) (by kernel_rfl) (by kernel_rfl) (fun _ _ _ h => h) (Or.inl ⟨by kernel_rfl, ?_⟩) (by assumption) ?_
  rotate_left
  · intro w hSw; (try dsimp only at hSw); go_simp; try with_reducible rfl
  simp only [Act.put, List.getElem_toArray, List.getElem_cons_succ, List.getElem_cons_zero, List.setIfInBounds_toArray, List.set_cons_zero, List.set_cons_succ]
  refine wpAnyH_take (i := 4) (v := ?_) rfl (by kernel_rfl) (by kernel_rfl) (by kernel_rfl) (fun _ _ _ h => h) (Or.inl ⟨by kernel_rfl, ?_⟩) (by assumption) ?_
  rotate_left
  · intro w hSw; (try dsimp only at hSw); go_simp; try with_reducible rfl
  simp only [Act.put, List.getElem_toArray, List.getElem_cons_succ, List.getElem_cons_zero, List.setIfInBounds_toArray, List.set_cons_zero, List.set_cons_succ]
  refine wpAnyH_take (i := 5) (v := .bool false) rfl (by kernel_rfl) (by kernel_rfl) (by kernel_rfl) (fun _ _ _ h => h) (Or.inl ⟨by kernel_rfl, ?_⟩) (by assumption) ?_
  · intro w hSw; (try dsimp only at hSw)
    have g := K0.out; go_simp
  simp only [Act.put, List.getElem_toArray, List.getElem_cons_succ, List.getElem_cons_zero, List.setIfInBounds_toArray, List.set_cons_zero, List.set_cons_succ]
  refine wpAnyH_take (i := 6) (v := ?_) rfl (by kernel_rfl) (by kernel_rfl) (by kernel_rfl) (fun _ _ _ h => h) (Or.inl ⟨by kernel_rfl, ?_⟩) (by assumption) ?_
  rotate_left
  · intro w hSw; (try dsimp only at hSw); go_simp; try with_reducible rfl
  simp only [Act.put, List.getElem_toArray, List.getElem_cons_succ, List.getElem_cons_zero, List.setIfInBounds_toArray, List.set_cons_zero, List.set_cons_succ]
  refine wpAnyH_done (by kernel_rfl) ?_ _
  clear hHeld
  go_wp2_with fail
  refine (HYes.out w.drew H0.out.1).mono ?_
  rintro e w5 ⟨A, c, rfl, how, hm5, hk5⟩
  have hx5 := H0.out.2.1.kept (Kept.trans (Kept.refl _ w).drew hk5) H0.out.2.2.1 H0.out.2.2.2.1 H0.out.2.2.2.2
  have H5 := Lib.hid (And.intro how (And.intro hm5 (And.intro hx5 (Kept.trans (Kept.refl _ w).drew hk5))))
  have HS := Lib.hid (show ∀ Y, Below w5.heap.size w5 Y → (Y.cell? ⟨b0, 0, none⟩ = some (.pointer (some ⟨b, 0, none⟩)) ∧ Y.cell? ⟨b, 1, none⟩ = some (.int .u64 (s.num : Int)) ∧ Y.cell? ⟨b, 2, none⟩ = some (.int .u64 (s.den : Int)) ∧ Y.cell? ⟨b, 3, none⟩ = some (.int .u32 (s.bound : Int)) ∧ Y.cell? ⟨b, 4, none⟩ = some (.int .i64 s.gap) ∧ Y.cell? ⟨b, 5, none⟩ = some (.int .i64 s.len) ∧ Y.cell? ⟨b, 9, none⟩ = some (.int .u64 (mz.c : Int)) ∧ Y.cell? ⟨b, 12, none⟩ = some (.int .i64 mz.k) ∧ Y.cell? ⟨b, 13, none⟩ = some (.int .i64 mz.fr)) from fun Y hY => by
    obtain ⟨c0, c1, c2, c3, c4, c5, c6, c7, c8, c9, c10, c11, c12, c13⟩ := (H5.out.2.1.go hY).cells
    exact ⟨(H5.out.2.2.1.kept (hY.keptS (fun _ => True)) trivial trivial trivial).cells.1, c1, c2, c3, c4, c5, c9, c12, c13⟩)
  clear how hm5 hx5 hk5 d0 d1 d2 e6 e7 hbu
  go_upto_region 9 with fail
  go_cut [7] from 36 (fun s7 wx => s7 = .int .i64 (E : Int) ∧ Below w5.heap.size w5 wx)
  case first =>
    refine wp_region_held_drew (S := (fun Y => Y.cell? ⟨b0, 0, none⟩ = some (.pointer (some ⟨b, 0, none⟩)) ∧ Y.cell? ⟨b, 1, none⟩ = some (.int .u64 (s.num : Int)) ∧ Y.cell? ⟨b, 2, none⟩ = some (.int .u64 (s.den : Int)) ∧ Y.cell? ⟨b, 3, none⟩ = some (.int .u32 (s.bound : Int)) ∧ Y.cell? ⟨b, 4, none⟩ = some (.int .i64 s.gap) ∧ Y.cell? ⟨b, 5, none⟩ = some (.int .i64 s.len) ∧ Y.cell? ⟨b, 9, none⟩ = some (.int .u64 (mz.c : Int)) ∧ Y.cell? ⟨b, 12, none⟩ = some (.int .i64 mz.k) ∧ Y.cell? ⟨b, 13, none⟩ = some (.int .i64 mz.fr))) (by kernel_rfl) (HS.out _ (Below.refl _ w5).drew) (fun hHeld => ?_)
    refine wpAnyH_take (i := 0) (v := ?_) rfl (by kernel_rfl) (by kernel_rfl) (by kernel_rfl) (fun _ _ _ h => h) (Or.inl ⟨by kernel_rfl, ?_⟩) (by assumption) ?_
    rotate_left
    · intro w hSw; (try dsimp only at hSw); go_simp; try with_reducible rfl
    simp only [Act.put, List.getElem_toArray, List.getElem_cons_succ, List.getElem_cons_zero, List.setIfInBounds_toArray, List.set_cons_zero, List.set_cons_succ]
    refine wpAnyH_take (i := 1) (v := ?_) rfl (by kernel_rfl) (by kernel_rfl) (by kernel_rfl) (fun _ _ _ h => h) (Or.inl ⟨by kernel_rfl, ?_⟩) (by assumption) ?_
    rotate_left
    · intro w hSw; (try dsimp only at hSw); go_simp; try with_reducible rfl
    simp only [Act.put, List.getElem_toArray, List.getElem_cons_succ, List.getElem_cons_zero, List.setIfInBounds_toArray, List.set_cons_zero, List.set_cons_succ]
    refine wpAnyH_take (i := 2) (v := ?_) rfl (by kernel_rfl) (by kernel_rfl) (by kernel_rfl) (fun _ _ _ h => h) (Or.inl ⟨by kernel_rfl, ?_⟩) (by assumption) ?_
    rotate_left
    · intro w hSw; (try dsimp only at hSw); go_simp; try with_reducible rfl
    simp only [Act.put, List.getElem_toArray, List.getElem_cons_succ, List.getElem_cons_zero, List.setIfInBounds_toArray, List.set_cons_zero, List.set_cons_succ]
    refine wpAnyH_take (i := 3) (v := ?_) rfl (by kernel_rfl) (by kernel_rfl) (by kernel_rfl) (fun _ _ _ h => h) (Or.inl ⟨by kernel_rfl, ?_⟩) (by assumption) ?_
    rotate_left
    · intro w hSw; (try dsimp only at hSw); go_simp; try with_reducible rfl
    simp only [Act.put, List.getElem_toArray, List.getElem_cons_succ, List.getElem_cons_zero, List.setIfInBounds_toArray, List.set_cons_zero, List.set_cons_succ]
    refine wpAnyH_take (i := 4) (v := ?_) rfl (by kernel_rfl) (by kernel_rfl) (by kernel_rfl) (fun _ _ _ h => h) (Or.inl ⟨by kernel_rfl, ?_⟩) (by assumption) ?_
    rotate_left
    · intro w hSw; (try dsimp only at hSw); go_simp; try with_reducible rfl
    simp only [Act.put, List.getElem_toArray, List.getElem_cons_succ, List.getElem_cons_zero, List.setIfInBounds_toArray, List.set_cons_zero, List.set_cons_succ]
    refine wpAnyH_take (i := 5) (v := ?_) rfl (by kernel_rfl) (by kernel_rfl) (by kernel_rfl) (fun _ _ _ h => h) (Or.inl ⟨by kernel_rfl, ?_⟩) (by assumption) ?_
    rotate_left
    · intro w hSw; (try dsimp only at hSw); go_simp; try with_reducible rfl
    simp only [Act.put, List.getElem_toArray, List.getElem_cons_succ, List.getElem_cons_zero, List.setIfInBounds_toArray, List.set_cons_zero, List.set_cons_succ]
    refine wpAnyH_take (i := 6) (v := ?_) rfl (by kernel_rfl) (by kernel_rfl) (by kernel_rfl) (fun _ _ _ h => h) (Or.inl ⟨by kernel_rfl, ?_⟩) (by assumption) ?_
    rotate_left
    · intro w hSw; (try dsimp only at hSw); go_simp; try with_reducible rfl
    simp only [Act.put, List.getElem_toArray, List.getElem_cons_succ, List.getElem_cons_zero, List.setIfInBounds_toArray, List.set_cons_zero, List.set_cons_succ]
    refine wpAnyH_take (i := 7) (v := ?_) rfl (by kernel_rfl) (by kernel_rfl) (by kernel_rfl) (fun _ _ _ h => h) (Or.inl ⟨by kernel_rfl, ?_⟩) (by assumption) ?_
    rotate_left
    · intro w hSw; (try dsimp only at hSw); go_simp; try with_reducible rfl
    simp only [Act.put, List.getElem_toArray, List.getElem_cons_succ, List.getElem_cons_zero, List.setIfInBounds_toArray, List.set_cons_zero, List.set_cons_succ]
    refine wpAnyH_ready (rs := [8]) (by kernel_rfl) (by simp) ?_
    refine AllReadyH.cons rfl (fun K hK => ?_) AllReadyH.nil
    go_simp
    refine (HE.out w5.drew).mono ?_
    rintro e w6 ⟨rfl, hb⟩
    have H6 := Lib.hid ((Below.refl w5.heap.size w5).drew.trans (hb.mono (Nat.le_refl _)))
    clear hb
    try go_wp2_with fail
    refine hK.out _ _ (HS.out _ H6.out) (fun hHeld => ?_)
    clear hK K
    try simp only [Act.put, List.getElem_toArray, List.getElem_cons_succ, List.getElem_cons_zero, List.setIfInBounds_toArray, List.set_cons_zero, List.set_cons_succ]
    refine wpAnyH_take (i := 9) (v := ?_) rfl (by kernel_rfl) (by kernel_rfl) (by kernel_rfl) (fun _ _ _ h => h) (Or.inl ⟨by kernel_rfl, ?_⟩) (by assumption) ?_
    rotate_left
    · intro w hSw; (try dsimp only at hSw); go_simp; try with_reducible rfl
    simp only [Act.put, List.getElem_toArray, List.getElem_cons_succ, List.getElem_cons_zero, List.setIfInBounds_toArray, List.set_cons_zero, List.set_cons_succ]
    refine wpAnyH_take (i := 10) (v := ?_) rfl (by kernel_rfl) (by kernel_rfl) (by kernel_rfl) (fun _ _ _ h => h) (Or.inl ⟨by kernel_rfl, ?_⟩) (by assumption) ?_
    rotate_left
    · intro w hSw; (try dsimp only at hSw); go_simp; try with_reducible rfl
    simp only [Act.put, List.getElem_toArray, List.getElem_cons_succ, List.getElem_cons_zero, List.setIfInBounds_toArray, List.set_cons_zero, List.set_cons_succ]
    refine wpAnyH_take (i := 11) (v := ?_) rfl (by kernel_rfl) (by kernel_rfl) (by kernel_rfl) (fun _ _ _ h => h) (Or.inl ⟨by kernel_rfl, ?_⟩) (by assumption) ?_
    rotate_left
    · intro w hSw; (try dsimp only at hSw); go_simp; try with_reducible rfl
    simp only [Act.put, List.getElem_toArray, List.getElem_cons_succ, List.getElem_cons_zero, List.setIfInBounds_toArray, List.set_cons_zero, List.set_cons_succ]
    refine wpAnyH_take (i := 12) (v := ?_) rfl (by kernel_rfl) (by kernel_rfl) (by kernel_rfl) (fun _ _ _ h => h) (Or.inl ⟨by kernel_rfl, ?_⟩) (by assumption) ?_
    rotate_left
    · intro w hSw; (try dsimp only at hSw); go_simp; try with_reducible rfl
    simp only [Act.put, List.getElem_toArray, List.getElem_cons_succ, List.getElem_cons_zero, List.setIfInBounds_toArray, List.set_cons_zero, List.set_cons_succ]
    refine wpAnyH_take (i := 13) (v := ?_) rfl (by kernel_rfl) (by kernel_rfl) (by kernel_rfl) (fun _ _ _ h => h) (Or.inl ⟨by kernel_rfl, ?_⟩) (by assumption) ?_
    rotate_left
    · intro w hSw; (try dsimp only at hSw); go_simp; try with_reducible rfl
    simp only [Act.put, List.getElem_toArray, List.getElem_cons_succ, List.getElem_cons_zero, List.setIfInBounds_toArray, List.set_cons_zero, List.set_cons_succ]
    refine wpAnyH_done (by kernel_rfl) ?_ _
    go_wp2_with fail
    go_meet
    exact ⟨rfl, H6.out⟩
  case rest =>
    obtain ⟨rfl, hb6⟩ := hcut
    obtain ⟨wa, rfl⟩ : ∃ x : World, x = wc := ⟨_, rfl⟩
    have H6 := Lib.hid hb6
    clear hb6
    go_upto_region 10 with fail
    refine wp_region_held_drew (S := (fun Y => Y.cell? ⟨b0, 0, none⟩ = some (.pointer (some ⟨b, 0, none⟩)) ∧ Y.cell? ⟨b, 1, none⟩ = some (.int .u64 (s.num : Int)) ∧ Y.cell? ⟨b, 2, none⟩ = some (.int .u64 (s.den : Int)) ∧ Y.cell? ⟨b, 3, none⟩ = some (.int .u32 (s.bound : Int)) ∧ Y.cell? ⟨b, 4, none⟩ = some (.int .i64 s.gap) ∧ Y.cell? ⟨b, 5, none⟩ = some (.int .i64 s.len) ∧ Y.cell? ⟨b, 9, none⟩ = some (.int .u64 (mz.c : Int)) ∧ Y.cell? ⟨b, 12, none⟩ = some (.int .i64 mz.k) ∧ Y.cell? ⟨b, 13, none⟩ = some (.int .i64 mz.fr))) (by kernel_rfl) (HS.out _ H6.out.drew) (fun hHeld => ?_)
    refine wpAnyH_take (i := 0) (v := ?_) rfl (by kernel_rfl) (by kernel_rfl) (by kernel_rfl) (fun _ _ _ h => h) (Or.inl ⟨by kernel_rfl, ?_⟩) (by assumption) ?_
    rotate_left
    · intro w hSw; (try dsimp only at hSw); go_simp; try with_reducible rfl
    simp only [Act.put, List.getElem_toArray, List.getElem_cons_succ, List.getElem_cons_zero, List.setIfInBounds_toArray, List.set_cons_zero, List.set_cons_succ]
    refine wpAnyH_take (i := 1) (v := ?_) rfl (by kernel_rfl) (by kernel_rfl) (by kernel_rfl) (fun _ _ _ h => h) (Or.inl ⟨by kernel_rfl, ?_⟩) (by assumption) ?_
    rotate_left
    · intro w hSw; (try dsimp only at hSw); go_simp; try with_reducible rfl
    simp only [Act.put, List.getElem_toArray, List.getElem_cons_succ, List.getElem_cons_zero, List.setIfInBounds_toArray, List.set_cons_zero, List.set_cons_succ]
    refine wpAnyH_take (i := 2) (v := ?_) rfl (by kernel_rfl) (by kernel_rfl) (by kernel_rfl) (fun _ _ _ h => h) (Or.inl ⟨by kernel_rfl, ?_⟩) (by assumption) ?_
    rotate_left
    · intro w hSw; (try dsimp only at hSw); go_simp; try with_reducible rfl
    simp only [Act.put, List.getElem_toArray, List.getElem_cons_succ, List.getElem_cons_zero, List.setIfInBounds_toArray, List.set_cons_zero, List.set_cons_succ]
    refine wpAnyH_take (i := 3) (v := ?_) rfl (by kernel_rfl) (by kernel_rfl) (by kernel_rfl) (fun _ _ _ h => h) (Or.inl ⟨by kernel_rfl, ?_⟩) (by assumption) ?_
    rotate_left
    · intro w hSw; (try dsimp only at hSw); go_simp; try with_reducible rfl
    simp only [Act.put, List.getElem_toArray, List.getElem_cons_succ, List.getElem_cons_zero, List.setIfInBounds_toArray, List.set_cons_zero, List.set_cons_succ]
    refine wpAnyH_take (i := 4) (v := ?_) rfl (by kernel_rfl) (by kernel_rfl) (by kernel_rfl) (fun _ _ _ h => h) (Or.inl ⟨by kernel_rfl, ?_⟩) (by assumption) ?_
    rotate_left
    · intro w hSw; (try dsimp only at hSw); go_simp; try with_reducible rfl
    simp only [Act.put, List.getElem_toArray, List.getElem_cons_succ, List.getElem_cons_zero, List.setIfInBounds_toArray, List.set_cons_zero, List.set_cons_succ]
    refine wpAnyH_take (i := 5) (v := ?_) rfl (by kernel_rfl) (by kernel_rfl) (by kernel_rfl) (fun _ _ _ h => h) (Or.inl ⟨by kernel_rfl, ?_⟩) (by assumption) ?_
    rotate_left
    · intro w hSw; (try dsimp only at hSw); go_simp; try with_reducible rfl
    simp only [Act.put, List.getElem_toArray, List.getElem_cons_succ, List.getElem_cons_zero, List.setIfInBounds_toArray, List.set_cons_zero, List.set_cons_succ]
    refine wpAnyH_take (i := 6) (v := ?_) rfl (by kernel_rfl) (by kernel_rfl) (by kernel_rfl) (fun _ _ _ h => h) (Or.inl ⟨by kernel_rfl, ?_⟩) (by assumption) ?_
    rotate_left
    · intro w hSw; (try dsimp only at hSw); go_simp; try with_reducible rfl
    simp only [Act.put, List.getElem_toArray, List.getElem_cons_succ, List.getElem_cons_zero, List.setIfInBounds_toArray, List.set_cons_zero, List.set_cons_succ]
    refine wpAnyH_take (i := 7) (v := ?_) rfl (by kernel_rfl) (by kernel_rfl) (by kernel_rfl) (fun _ _ _ h => h) (Or.inl ⟨by kernel_rfl, ?_⟩) (by assumption) ?_
    rotate_left
    · intro w hSw; (try dsimp only at hSw); go_simp; try with_reducible rfl
    simp only [Act.put, List.getElem_toArray, List.getElem_cons_succ, List.getElem_cons_zero, List.setIfInBounds_toArray, List.set_cons_zero, List.set_cons_succ]
    refine wpAnyH_take (i := 8) (v := ?_) rfl (by kernel_rfl) (by kernel_rfl) (by kernel_rfl) (fun _ _ _ h => h) (Or.inl ⟨by kernel_rfl, ?_⟩) (by assumption) ?_
    rotate_left
    · intro w hSw; (try dsimp only at hSw); go_simp; try with_reducible rfl
    simp only [Act.put, List.getElem_toArray, List.getElem_cons_succ, List.getElem_cons_zero, List.setIfInBounds_toArray, List.set_cons_zero, List.set_cons_succ]
    refine wpAnyH_take (i := 9) (v := .int .i64 ((E : Int) - mz.fr)) rfl (by kernel_rfl) (by kernel_rfl) (by kernel_rfl) (fun _ _ _ h => h) (Or.inl ⟨by kernel_rfl, ?_⟩) (by assumption) ?_
    · intro w hSw; (try dsimp only at hSw)
      have x1 := X1.out; go_simp
    simp only [Act.put, List.getElem_toArray, List.getElem_cons_succ, List.getElem_cons_zero, List.setIfInBounds_toArray, List.set_cons_zero, List.set_cons_succ]
    refine wpAnyH_take (i := 10) (v := .int .i64 (4611686018427387904 - ((E : Int) - mz.fr))) rfl (by kernel_rfl) (by kernel_rfl) (by kernel_rfl) (fun _ _ _ h => h) (Or.inl ⟨by kernel_rfl, ?_⟩) (by assumption) ?_
    · intro w hSw; (try dsimp only at hSw)
      have x2 := X2.out; go_simp
    simp only [Act.put, List.getElem_toArray, List.getElem_cons_succ, List.getElem_cons_zero, List.setIfInBounds_toArray, List.set_cons_zero, List.set_cons_succ]
    refine wpAnyH_take (i := 11) (v := .bool false) rfl (by kernel_rfl) (by kernel_rfl) (by kernel_rfl) (fun _ _ _ h => h) (Or.inl ⟨by kernel_rfl, ?_⟩) (by assumption) ?_
    · intro w hSw; (try dsimp only at hSw)
      have k8 := Hk8.out; go_simp
    simp only [Act.put, List.getElem_toArray, List.getElem_cons_succ, List.getElem_cons_zero, List.setIfInBounds_toArray, List.set_cons_zero, List.set_cons_succ]
    refine wpAnyH_done (by kernel_rfl) ?_ _
    go_upto_region 12 with fail
    go_cut [7] from 36 (fun s7 wx => s7 = .int .i64 (E : Int) ∧ MtB wx b nr s { mz with k := mz.k + ((E : Int) - mz.fr) } ∧ Kept (fun x => x ≠ b) w5 wx)
    case first =>
      have HM := Lib.hid (show MtB wa.drew.drew b nr s mz from H5.out.2.1.go H6.out.drew.drew)
      have HK2 := Lib.hid (show Kept (fun x => x ≠ b) w5 wa.drew.drew from (H6.out.drew.drew).keptS _)
      have hS1 := HS.out _ H6.out.drew.drew
      have HS1 := Lib.hid hS1
      have HN := Lib.hid H0.out.2.2.1
      clear hS1
      refine wp_region_held_drew (S := (fun Y => Y.cell? ⟨b0, 0, none⟩ = some (.pointer (some ⟨b, 0, none⟩)) ∧ Y.cell? ⟨b, 13, none⟩ = some (.int .i64 mz.fr))) (by kernel_rfl) ⟨HS1.out.1, HS1.out.2.2.2.2.2.2.2.2⟩ (fun hHeld => ?_)
      refine wpAnyH_take (i := 0) (v := ?_) rfl (by kernel_rfl) (by kernel_rfl) (by kernel_rfl) (fun _ _ _ h => h) (Or.inl ⟨by kernel_rfl, ?_⟩) (by assumption) ?_
      rotate_left
      · intro w hSw; (try dsimp only at hSw); go_simp; try with_reducible rfl
      simp only [Act.put, List.getElem_toArray, List.getElem_cons_succ, List.getElem_cons_zero, List.setIfInBounds_toArray, List.set_cons_zero, List.set_cons_succ]
      refine wpAnyH_take (i := 1) (v := ?_) rfl (by kernel_rfl) (by kernel_rfl) (by kernel_rfl) (fun _ _ _ h => h) (Or.inl ⟨by kernel_rfl, ?_⟩) (by assumption) ?_
      rotate_left
      · intro w hSw; (try dsimp only at hSw); go_simp; try with_reducible rfl
      simp only [Act.put, List.getElem_toArray, List.getElem_cons_succ, List.getElem_cons_zero, List.setIfInBounds_toArray, List.set_cons_zero, List.set_cons_succ]
      refine wpAnyH_take (i := 2) (v := ?_) rfl (by kernel_rfl) (by kernel_rfl) (by kernel_rfl) (fun _ _ _ h => h) (Or.inl ⟨by kernel_rfl, ?_⟩) (by assumption) ?_
      rotate_left
      · intro w hSw; (try dsimp only at hSw); go_simp; try with_reducible rfl
      simp only [Act.put, List.getElem_toArray, List.getElem_cons_succ, List.getElem_cons_zero, List.setIfInBounds_toArray, List.set_cons_zero, List.set_cons_succ]
      refine wpAnyH_take (i := 4) (v := ?_) rfl (by kernel_rfl) (by kernel_rfl) (by kernel_rfl) (fun _ _ _ h => h) (Or.inl ⟨by kernel_rfl, ?_⟩) (by assumption) ?_
      rotate_left
      · intro w hSw; (try dsimp only at hSw); go_simp; try with_reducible rfl
      simp only [Act.put, List.getElem_toArray, List.getElem_cons_succ, List.getElem_cons_zero, List.setIfInBounds_toArray, List.set_cons_zero, List.set_cons_succ]
      refine wpAnyH_take (i := 5) (v := ?_) rfl (by kernel_rfl) (by kernel_rfl) (by kernel_rfl) (fun _ _ _ h => h) (Or.inl ⟨by kernel_rfl, ?_⟩) (by assumption) ?_
      rotate_left
      · intro w hSw; (try dsimp only at hSw); go_simp; try with_reducible rfl
      simp only [Act.put, List.getElem_toArray, List.getElem_cons_succ, List.getElem_cons_zero, List.setIfInBounds_toArray, List.set_cons_zero, List.set_cons_succ]
      refine wpAnyH_take (i := 6) (v := ?_) rfl (by kernel_rfl) (by kernel_rfl) (by kernel_rfl) (fun _ _ _ h => h) (Or.inl ⟨by kernel_rfl, ?_⟩) (by assumption) ?_
      rotate_left
      · intro w hSw; (try dsimp only at hSw); go_simp; try with_reducible rfl
      simp only [Act.put, List.getElem_toArray, List.getElem_cons_succ, List.getElem_cons_zero, List.setIfInBounds_toArray, List.set_cons_zero, List.set_cons_succ]
      refine wpAnyH_take (i := 7) (v := ?_) rfl (by kernel_rfl) (by kernel_rfl) (by kernel_rfl) (fun _ _ _ h => h) (Or.inl ⟨by kernel_rfl, ?_⟩) (by assumption) ?_
      rotate_left
      · intro w hSw; (try dsimp only at hSw); go_simp; try with_reducible rfl
      simp only [Act.put, List.getElem_toArray, List.getElem_cons_succ, List.getElem_cons_zero, List.setIfInBounds_toArray, List.set_cons_zero, List.set_cons_succ]
      refine wpAnyH_take (i := 8) (v := ?_) rfl (by kernel_rfl) (by kernel_rfl) (by kernel_rfl) (fun _ _ _ h => h) (Or.inl ⟨by kernel_rfl, ?_⟩) (by assumption) ?_
      rotate_left
      · intro w hSw; (try dsimp only at hSw); go_simp; try with_reducible rfl
      simp only [Act.put, List.getElem_toArray, List.getElem_cons_succ, List.getElem_cons_zero, List.setIfInBounds_toArray, List.set_cons_zero, List.set_cons_succ]
      refine wpAnyH_take (i := 9) (v := .int .i64 ((E : Int) - mz.fr)) rfl (by kernel_rfl) (by kernel_rfl) (by kernel_rfl) (fun _ _ _ h => h) (Or.inl ⟨by kernel_rfl, ?_⟩) (by assumption) ?_
      · intro w hSw; (try dsimp only at hSw)
        have x1 := X1.out; go_simp
      simp only [Act.put, List.getElem_toArray, List.getElem_cons_succ, List.getElem_cons_zero, List.setIfInBounds_toArray, List.set_cons_zero, List.set_cons_succ]
      refine wpAnyH_ready (rs := [3]) (by kernel_rfl) (by simp) ?_
      refine AllReadyH.cons rfl (fun K hK => ?_) AllReadyH.nil
      have q1 := HM.out.cells.2.2.2.2.2.2.2.2.2.2.2.2.1
      go_simp
      clear q1
      refine hK.out _ _ ⟨HS1.out.1, HS1.out.2.2.2.2.2.2.2.2⟩ (fun hHeld => ?_)
      clear hK K
      try simp only [Act.put, List.getElem_toArray, List.getElem_cons_succ, List.getElem_cons_zero, List.setIfInBounds_toArray, List.set_cons_zero, List.set_cons_succ]
      refine wpAnyH_take (i := 10) (v := .int .i64 (mz.k + ((E : Int) - mz.fr))) rfl (by kernel_rfl) (by kernel_rfl) (by kernel_rfl) (fun _ _ _ h => h) (Or.inl ⟨by kernel_rfl, ?_⟩) (by assumption) ?_
      · intro w hSw; (try dsimp only at hSw)
        have x3 := X3.out; go_simp
      simp only [Act.put, List.getElem_toArray, List.getElem_cons_succ, List.getElem_cons_zero, List.setIfInBounds_toArray, List.set_cons_zero, List.set_cons_succ]
      refine wpAnyH_take (i := 11) (v := ?_) rfl (by kernel_rfl) (by kernel_rfl) (by kernel_rfl) (fun _ _ _ h => h) (Or.inl ⟨by kernel_rfl, ?_⟩) (by assumption) ?_
      rotate_left
      · intro w hSw; (try dsimp only at hSw); go_simp; try with_reducible rfl
      simp only [Act.put, List.getElem_toArray, List.getElem_cons_succ, List.getElem_cons_zero, List.setIfInBounds_toArray, List.set_cons_zero, List.set_cons_succ]
      refine wpAnyH_take (i := 12) (v := ?_) rfl (by kernel_rfl) (by kernel_rfl) (by kernel_rfl) (fun _ _ _ h => h) (Or.inl ⟨by kernel_rfl, ?_⟩) (by assumption) ?_
      rotate_left
      · intro w hSw; (try dsimp only at hSw); go_simp; try with_reducible rfl
      simp only [Act.put, List.getElem_toArray, List.getElem_cons_succ, List.getElem_cons_zero, List.setIfInBounds_toArray, List.set_cons_zero, List.set_cons_succ]
      refine wpAnyH_ready (rs := [13]) (by kernel_rfl) (by simp) ?_
      refine AllReadyH.cons rfl (fun K hK => ?_) AllReadyH.nil
      have q2 := HM.out.fr 12
      have q1 := HM.out.cells.2.2.2.2.2.2.2.2.2.2.2.2.1
      go_simp
      clear q1 q2
      refine hK.out _ _ ⟨(H5.out.2.2.1.kept (HK2.out.setCell (p := ⟨b, 12, none⟩) (fun hh => hh rfl) _) H0.out.2.2.1 H0.out.2.2.2.1 H0.out.2.2.2.2).cells.1, blk_cell (bset HM.out (i := 12) (.int .i64 (mz.k + ((E : Int) - mz.fr)))) 13 rfl⟩ (fun hHeld => ?_)
      clear hK K
      try simp only [Act.put, List.getElem_toArray, List.getElem_cons_succ, List.getElem_cons_zero, List.setIfInBounds_toArray, List.set_cons_zero, List.set_cons_succ]
      refine wpAnyH_done (by kernel_rfl) ?_ _
      go_wp2_with fail
      go_meet
      refine ⟨rfl, ?_, ?_⟩
      · exact bset HM.out (i := 12) (.int .i64 (mz.k + ((E : Int) - mz.fr)))
      · exact HK2.out.setCell (p := ⟨b, 12, none⟩) (fun hh => hh rfl) _
    case rest =>
      obtain ⟨rfl, hm7, hk7⟩ := hcut
      obtain ⟨wd, rfl⟩ : ∃ x : World, x = wc := ⟨_, rfl⟩
      have hx7 := H5.out.2.2.1.kept hk7 H0.out.2.2.1 H0.out.2.2.2.1 H0.out.2.2.2.2
      obtain ⟨m7, hm7e⟩ : ∃ m7 : M, { mz with k := mz.k + ((E : Int) - mz.fr) } = m7 := ⟨_, rfl⟩
      rw [hm7e] at hm7
      have H7 := Lib.hid (And.intro hm7 (And.intro hx7 (And.intro hk7 hm7e)))
      clear hm7 hx7 hk7 hm7e
      go_upto_region 13 with fail
      go_cut [7] from 36 (fun s7 wx => s7 = .int .i64 (E : Int) ∧ MtB wx b nr s { m7 with c := 0, fr := 0, v := v } ∧ Kept (fun x => x ≠ b) wd wx)
      case first =>
        have HS2 := Lib.hid (show ∀ Y, Kept (fun x => x ≠ b) wd Y → (Y.cell? ⟨b0, 0, none⟩ = some (.pointer (some ⟨b, 0, none⟩)) ∧ Y.cell? ⟨b2, 0, none⟩ = some (.int .u32 (v : Int))) from fun Y hY =>
          have hh := (H7.out.2.1.kept hY H0.out.2.2.1 H0.out.2.2.2.1 H0.out.2.2.2.2).cells
          ⟨hh.1, hh.2.2⟩)
        have HM0 := Lib.hid (show MtB wd.drew b nr s m7 from H7.out.1)
        have HM1 := Lib.hid (bset HM0.out (i := 9) (.int .u64 0))
        have HM2 := Lib.hid (bset HM1.out (i := 13) (.int .i64 0))
        have HM3 := Lib.hid (bset HM2.out (i := 8) (.int .u32 (v : Int)))
        have HK1 := Lib.hid (((Kept.refl (fun x => x ≠ b) wd).drew).setCell (p := ⟨b, 9, none⟩) (fun hh => hh rfl) (.int .u64 0))
        have HK2 := Lib.hid (HK1.out.setCell (p := ⟨b, 13, none⟩) (fun hh => hh rfl) (.int .i64 0))
        have HK3 := Lib.hid (HK2.out.setCell (p := ⟨b, 8, none⟩) (fun hh => hh rfl) (.int .u32 (v : Int)))
        refine wp_region_held_drew (S := (fun Y => Y.cell? ⟨b0, 0, none⟩ = some (.pointer (some ⟨b, 0, none⟩)) ∧ Y.cell? ⟨b2, 0, none⟩ = some (.int .u32 (v : Int)))) (by kernel_rfl) (HS2.out _ (Kept.refl _ wd).drew) (fun hHeld => ?_)
        refine wpAnyH_take (i := 0) (v := ?_) rfl (by kernel_rfl) (by kernel_rfl) (by kernel_rfl) (fun _ _ _ h => h) (Or.inl ⟨by kernel_rfl, ?_⟩) (by assumption) ?_
        rotate_left
        · intro w hSw; (try dsimp only at hSw); go_simp; try with_reducible rfl
        simp only [Act.put, List.getElem_toArray, List.getElem_cons_succ, List.getElem_cons_zero, List.setIfInBounds_toArray, List.set_cons_zero, List.set_cons_succ]
        refine wpAnyH_take (i := 1) (v := ?_) rfl (by kernel_rfl) (by kernel_rfl) (by kernel_rfl) (fun _ _ _ h => h) (Or.inl ⟨by kernel_rfl, ?_⟩) (by assumption) ?_
        rotate_left
        · intro w hSw; (try dsimp only at hSw); go_simp; try with_reducible rfl
        simp only [Act.put, List.getElem_toArray, List.getElem_cons_succ, List.getElem_cons_zero, List.setIfInBounds_toArray, List.set_cons_zero, List.set_cons_succ]
        refine wpAnyH_take (i := 2) (v := ?_) rfl (by kernel_rfl) (by kernel_rfl) (by kernel_rfl) (fun _ _ _ h => h) (Or.inl ⟨by kernel_rfl, ?_⟩) (by assumption) ?_
        rotate_left
        · intro w hSw; (try dsimp only at hSw); go_simp; try with_reducible rfl
        simp only [Act.put, List.getElem_toArray, List.getElem_cons_succ, List.getElem_cons_zero, List.setIfInBounds_toArray, List.set_cons_zero, List.set_cons_succ]
        refine wpAnyH_take (i := 3) (v := ?_) rfl (by kernel_rfl) (by kernel_rfl) (by kernel_rfl) (fun _ _ _ h => h) (Or.inl ⟨by kernel_rfl, ?_⟩) (by assumption) ?_
        rotate_left
        · intro w hSw; (try dsimp only at hSw); go_simp; try with_reducible rfl
        simp only [Act.put, List.getElem_toArray, List.getElem_cons_succ, List.getElem_cons_zero, List.setIfInBounds_toArray, List.set_cons_zero, List.set_cons_succ]
        refine wpAnyH_take (i := 4) (v := ?_) rfl (by kernel_rfl) (by kernel_rfl) (by kernel_rfl) (fun _ _ _ h => h) (Or.inl ⟨by kernel_rfl, ?_⟩) (by assumption) ?_
        rotate_left
        · intro w hSw; (try dsimp only at hSw); go_simp; try with_reducible rfl
        simp only [Act.put, List.getElem_toArray, List.getElem_cons_succ, List.getElem_cons_zero, List.setIfInBounds_toArray, List.set_cons_zero, List.set_cons_succ]
        refine wpAnyH_take (i := 5) (v := ?_) rfl (by kernel_rfl) (by kernel_rfl) (by kernel_rfl) (fun _ _ _ h => h) (Or.inl ⟨by kernel_rfl, ?_⟩) (by assumption) ?_
        rotate_left
        · intro w hSw; (try dsimp only at hSw); go_simp; try with_reducible rfl
        simp only [Act.put, List.getElem_toArray, List.getElem_cons_succ, List.getElem_cons_zero, List.setIfInBounds_toArray, List.set_cons_zero, List.set_cons_succ]
        refine wpAnyH_ready (rs := [6]) (by kernel_rfl) (by simp) ?_
        refine AllReadyH.cons rfl (fun K hK => ?_) AllReadyH.nil
        have q1 := blk_cell H7.out.1 9 rfl
        have q2 := blk_frozen H7.out.1 9
        go_simp
        clear q1 q2
        refine hK.out _ _ (HS2.out _ HK1.out) (fun hHeld => ?_)
        clear hK K
        try simp only [Act.put, List.getElem_toArray, List.getElem_cons_succ, List.getElem_cons_zero, List.setIfInBounds_toArray, List.set_cons_zero, List.set_cons_succ]
        refine wpAnyH_take (i := 7) (v := ?_) rfl (by kernel_rfl) (by kernel_rfl) (by kernel_rfl) (fun _ _ _ h => h) (Or.inl ⟨by kernel_rfl, ?_⟩) (by assumption) ?_
        rotate_left
        · intro w hSw; (try dsimp only at hSw); go_simp; try with_reducible rfl
        simp only [Act.put, List.getElem_toArray, List.getElem_cons_succ, List.getElem_cons_zero, List.setIfInBounds_toArray, List.set_cons_zero, List.set_cons_succ]
        refine wpAnyH_take (i := 8) (v := ?_) rfl (by kernel_rfl) (by kernel_rfl) (by kernel_rfl) (fun _ _ _ h => h) (Or.inl ⟨by kernel_rfl, ?_⟩) (by assumption) ?_
        rotate_left
        · intro w hSw; (try dsimp only at hSw); go_simp; try with_reducible rfl
        simp only [Act.put, List.getElem_toArray, List.getElem_cons_succ, List.getElem_cons_zero, List.setIfInBounds_toArray, List.set_cons_zero, List.set_cons_succ]
        refine wpAnyH_ready (rs := [9]) (by kernel_rfl) (by simp) ?_
        refine AllReadyH.cons rfl (fun K hK => ?_) AllReadyH.nil
        have q1 := blk_cell H7.out.1 13 rfl
        have q2 := blk_frozen H7.out.1 13
        go_simp
        clear q1 q2
        refine hK.out _ _ (HS2.out _ HK2.out) (fun hHeld => ?_)
        clear hK K
        try simp only [Act.put, List.getElem_toArray, List.getElem_cons_succ, List.getElem_cons_zero, List.setIfInBounds_toArray, List.set_cons_zero, List.set_cons_succ]
        refine wpAnyH_take (i := 10) (v := ?_) rfl (by kernel_rfl) (by kernel_rfl) (by kernel_rfl) (fun _ _ _ h => h) (Or.inl ⟨by kernel_rfl, ?_⟩) (by assumption) ?_
        rotate_left
        · intro w hSw; (try dsimp only at hSw); go_simp; try with_reducible rfl
        simp only [Act.put, List.getElem_toArray, List.getElem_cons_succ, List.getElem_cons_zero, List.setIfInBounds_toArray, List.set_cons_zero, List.set_cons_succ]
        refine wpAnyH_take (i := 11) (v := ?_) rfl (by kernel_rfl) (by kernel_rfl) (by kernel_rfl) (fun _ _ _ h => h) (Or.inl ⟨by kernel_rfl, ?_⟩) (by assumption) ?_
        rotate_left
        · intro w hSw; (try dsimp only at hSw); go_simp; try with_reducible rfl
        simp only [Act.put, List.getElem_toArray, List.getElem_cons_succ, List.getElem_cons_zero, List.setIfInBounds_toArray, List.set_cons_zero, List.set_cons_succ]
        refine wpAnyH_ready (rs := [12]) (by kernel_rfl) (by simp) ?_
        refine AllReadyH.cons rfl (fun K hK => ?_) AllReadyH.nil
        have q1 := blk_cell H7.out.1 8 rfl
        have q2 := blk_frozen H7.out.1 8
        go_simp
        clear q1 q2
        refine hK.out _ _ (HS2.out _ HK3.out) (fun hHeld => ?_)
        clear hK K
        try simp only [Act.put, List.getElem_toArray, List.getElem_cons_succ, List.getElem_cons_zero, List.setIfInBounds_toArray, List.set_cons_zero, List.set_cons_succ]
        refine wpAnyH_done (by kernel_rfl) ?_ _
        go_wp2_with fail
        go_meet
        exact ⟨rfl, HM3.out, HK3.out⟩
      case rest =>
        obtain ⟨rfl, hm8, hk8⟩ := hcut
        obtain ⟨we, rfl⟩ : ∃ x : World, x = wc := ⟨_, rfl⟩
        have hx8 := H7.out.2.1.kept hk8 H0.out.2.2.1 H0.out.2.2.2.1 H0.out.2.2.2.2
        have d0 := hx8.cells.1
        have c11 := hm8.cells.2.2.2.2.2.2.2.2.2.2.2.1
        have f11 := hm8.fr 11
        have X4 : bits .or .i64 (m7.f : Int) 8 = ((mz.f ||| 8 : Nat) : Int) := by rw [← H7.out.2.2.2]; exact HX4.out
        obtain ⟨F2, hF2⟩ : ∃ F2 : Nat, mz.f ||| 8 = F2 := ⟨_, rfl⟩
        rw [hF2] at X4
        have HF2 := Lib.hid hF2
        have H8 := Lib.hid (And.intro hm8 hk8)
        clear hm8 hk8 hx8 hF2
        go_wp2_with fail
        go_ret2
        refine ⟨A, k, c, rfl, own_keptM (own_lowerM H5.out.1 (Nat.le_refl _)) ((H7.out.2.2.1.trans H8.out.2).setCell (p := ⟨b, 11, none⟩) (fun hh => hh rfl) _) (fun g e => by have h1 := H5.out.1.lt g e; have h2 := H0.out.1.lt; have h3 : w.drew.heap.size = w.heap.size := rfl; show g ≠ b; omega), ?_, ((H5.out.2.2.2.trans H7.out.2.2.1).trans H8.out.2).setCell (p := ⟨b, 11, none⟩) (fun hh => hh rfl) _, rfl⟩
        have hfin := bset H8.out.1 (i := 11) (.int .i64 (F2 : Int))
        rw [← HF2.out] at hfin ⊢
        rw [← H7.out.2.2.2] at hfin
        exact hfin
end Go.Proofs.Ytjmkbpgakfeceaa
