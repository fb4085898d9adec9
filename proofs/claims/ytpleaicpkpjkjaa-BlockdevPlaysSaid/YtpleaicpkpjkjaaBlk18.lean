/-
  A device of sectors: Copy, and the clones of its two rows, walked. Conditions stand at each theorem. (Printed by gen_blk18.py.)
-/
import Derived.Test.YtpleaicpkpjkjaaBlk13
namespace Go.Proofs.Ytpleaicpkpjkjaa
open Go Go.RowKit Go.Kw
set_option linter.unusedVariables false
set_option linter.unusedSimpArgs false

/-- A row of the call's own, read. -/
theorem rd_ownRow {w : World} {B B1 : Nat} {e : TypeId} {size n c : Nat} {A : Option Addr} {xs : List Value} (h : w.ownsRow B e size (.slice A n c) n xs) (hB : w.heap.size ≤ B1) : Rd w B1 A (n * size) (fun i => xs.getD i undef) := by
  rcases h.2 with ⟨h', h0⟩ | ⟨g, cap, cur, h', hb, hg, hnc, hcm, hcs, ht⟩
  · exact .inl (by rw [h0, Nat.zero_mul])
  · injection h' with h1 h2 h3
    subst h1 h3
    refine .inr ⟨g, 0, rfl, Nat.lt_of_lt_of_le (Array.getElem?_eq_some_iff.1 hg).1 hB, fun i hi => ?_⟩
    rw [Nat.zero_add, h.cellAt i hi]
    have : i < xs.length := by rw [h.1]; exact hi
    show xs[i]? = some (xs.getD i undef)
    rw [List.getD_eq_getElem?_getD, List.getElem?_eq_getElem this]; rfl
theorem vals_self (n : Nat) (xs : List Value) (h : xs.length = n) : vals n (fun i => xs.getD i undef) = xs := by
  apply List.ext_getElem?
  intro j
  rcases Nat.lt_or_ge j n with hj | hj
  · rw [vals_getElem? hj, List.getD_eq_getElem?_getD, List.getElem?_eq_getElem (by omega)]; rfl
  · rw [List.getElem?_eq_none (by rw [vals_length]; exact hj), List.getElem?_eq_none (by omega)]
theorem one_getD {xs : List Value} (h : ∀ v ∈ xs, v.oneCell' = true) (i : Nat) (hi : i < xs.length) : (xs.getD i undef).oneCell' = true := by
  rw [List.getD_eq_getElem?_getD, List.getElem?_eq_getElem hi]; exact h _ (List.getElem_mem hi)
theorem secC_all (S : List (List UInt8)) : ∀ v ∈ secC S, v.oneCell' = true := fun v hv => by
  obtain ⟨s, -, hv⟩ := List.mem_flatMap.1 hv; exact bv_all s v hv
theorem cacC_all (C : List (Nat × List UInt8)) : ∀ v ∈ cacC C, v.oneCell' = true := fun v hv => by
  obtain ⟨s, -, hv⟩ := List.mem_flatMap.1 hv; exact cW_all s v hv
theorem clone_secs (w : World) (B : Nat) (A : Option Addr) (n c : Nat) (xs : List Value) (h : w.ownsRow B 69 128 (.slice A n c) n xs) (hx : ∀ v ∈ xs, v.oneCell' = true) (hn : n ≤ 65536) :
    Calls Try.prog 36 #[.slice A n c] w fun e w' => ∃ A' c', e = .returned (.slice A' n c') ∧ w'.ownsRow w.heap.size 69 128 (.slice A' n c') n xs ∧ Below w.heap.size w w' := by
  rcases A with _ | ad
  · obtain rfl : n = 0 := by
      rcases h.2 with ⟨h', h0⟩ | ⟨g, cap, cur, h', _⟩
      · exact h0
      · cases h'
    obtain rfl : xs = [] := List.eq_nil_of_length_eq_zero (by rw [h.1])
    have hnil := fun w => eS.eqNil w none 0 c
    go_enter Try.func36, Try.ntmps36
    go_wp2
    go_ret
    exact ⟨none, 0, rfl, World.ownsRow_nil _ _ _ _, Below.refl _ _⟩
  · have hnil := fun w => eS.eqNil w (some ad) n c
    have hl : xs.length = n * 128 := h.1
    obtain ⟨v', w', hrun, h2, h3, h4, h5⟩ := run_append (P := Try.prog) (w.alloc (.cells #[] 69)) w.heap.size 64 eS (World.ownsRow_made (size := 128) w #[] 0 (Nat.le_refl _) (by decide) rfl) n c
      (Rd.alloc (rd_ownRow h (Nat.le_refl _)) (Nat.le_refl _) _) (fun i hi => one_getD hx i (by omega)) (by unfold maxLen; omega) (by omega) (by simp) (by simp)
    rw [vals_self _ _ hl, Nat.zero_add] at h2
    rw [show #[].toList ++ xs = xs from rfl] at h2
    have hb := below_append (World.ownsRow_made (size := 128) w #[] 0 (Nat.le_refl _) (by decide) rfl) (by simp) h3
    obtain ⟨A', c', rfl, -⟩ := own_form h2
    go_enter Try.func36, Try.ntmps36
    go_wp2_with (at_builtin; refine wpList_append_run hrun rfl rfl rfl rfl rfl ?_)
    go_ret
    exact ⟨A', c', rfl, h2, ((Below.refl _ w).alloc (Nat.le_refl _) _).trans hb⟩
theorem clone_writes (w : World) (B : Nat) (A : Option Addr) (n c : Nat) (xs : List Value) (h : w.ownsRow B 71 129 (.slice A n c) n xs) (hx : ∀ v ∈ xs, v.oneCell' = true) (hn : n ≤ 65536) :
    Calls Try.prog 37 #[.slice A n c] w fun e w' => ∃ A' c', e = .returned (.slice A' n c') ∧ w'.ownsRow w.heap.size 71 129 (.slice A' n c') n xs ∧ Below w.heap.size w w' := by
  rcases A with _ | ad
  · obtain rfl : n = 0 := by
      rcases h.2 with ⟨h', h0⟩ | ⟨g, cap, cur, h', _⟩
      · exact h0
      · cases h'
    obtain rfl : xs = [] := List.eq_nil_of_length_eq_zero (by rw [h.1])
    have hnil := fun w => eW.eqNil w none 0 c
    go_enter Try.func37, Try.ntmps37
    go_wp2
    go_ret
    exact ⟨none, 0, rfl, World.ownsRow_nil _ _ _ _, Below.refl _ _⟩
  · have hnil := fun w => eW.eqNil w (some ad) n c
    have hl : xs.length = n * 129 := h.1
    obtain ⟨v', w', hrun, h2, h3, h4, h5⟩ := run_append (P := Try.prog) (w.alloc (.cells #[] 71)) w.heap.size 65 eW (World.ownsRow_made (size := 129) w #[] 0 (Nat.le_refl _) (by decide) rfl) n c
      (Rd.alloc (rd_ownRow h (Nat.le_refl _)) (Nat.le_refl _) _) (fun i hi => one_getD hx i (by omega)) (by unfold maxLen; omega) (by omega) (by simp) (by simp)
    rw [vals_self _ _ hl, Nat.zero_add] at h2
    rw [show #[].toList ++ xs = xs from rfl] at h2
    have hb := below_append (World.ownsRow_made (size := 129) w #[] 0 (Nat.le_refl _) (by decide) rfl) (by simp) h3
    obtain ⟨A', c', rfl, -⟩ := own_form h2
    go_enter Try.func37, Try.ntmps37
    go_wp2_with (at_builtin; refine wpList_append_run hrun rfl rfl rfl rfl rfl ?_)
    go_ret
    exact ⟨A', c', rfl, h2, ((Below.refl _ w).alloc (Nat.le_refl _) _).trans hb⟩
/-- What Copy leaves. -/
def CopB (w : World) (D : Dv) (e : Ending) (w' : World) : Prop := ∃ d' sb' sc' V', e = .returned (.pointer (some ⟨d', 0, none⟩)) ∧ DevO w' w.heap.size d' sb' sc' V' D ∧ Below w.heap.size w w'
set_option maxHeartbeats 8000000 in
theorem dCopy_none (w : World) (pv : Value) (hN : Calls Try.prog 35 #[pv] w fun e w' => e = .returned (.bool true) ∧ Below w.heap.size w w') :
    Calls Try.prog 14 #[pv] w fun e w' => e = .returned (.pointer none) ∧ Below w.heap.size w w' := by
  have HN := Lib.hid hN
  clear hN
  go_enter Try.func14, Try.ntmps14
  go_wp2_with fail
  refine HN.out.mono ?_
  rintro e w2 ⟨rfl, hb⟩
  have HB := Lib.hid hb
  clear hb
  go_wp2_with fail
  go_ret
  exact ⟨rfl, HB.out⟩
set_option maxRecDepth 100000 in
set_option maxHeartbeats 16000000 in
theorem dCopy_calls (w : World) (B d sb sc : Nat) (V : Value) (D : Dv) (hD : DevO w B d sb sc V D) : Calls Try.prog 14 #[.pointer (some ⟨d, 0, none⟩)] w (CopB w D) := by
  obtain ⟨CA, cc, eV, hd⟩ := hD.box
  subst eV
  have hN := dnone_calls w d _ _ _ _ _ _ _ _ _ hd
  rw [decide_eq_false (by have := hD.ok.n; omega)] at hN
  have HN := Lib.hid hN
  have HD := Lib.hid hD
  clear hN hD hd
  go_enter Try.func14, Try.ntmps14
  go_wp2_with fail
  refine HN.out.mono ?_
  rintro e w2 ⟨rfl, hb2⟩
  have hD2 := HD.out.go hb2
  have hlt := hD2.lt.1
  obtain ⟨CA', cc', e', hd⟩ := hD2.box
  injection e' with e1 e2 e3
  subst e1 e3
  obtain ⟨N, hN⟩ : ∃ N, D.S.length = N := ⟨_, rfl⟩
  obtain ⟨m, hm⟩ : ∃ m, D.C.length = m := ⟨_, rfl⟩
  obtain ⟨p, hp⟩ : ∃ p, D.p = p := ⟨_, rfl⟩
  obtain ⟨dn, hdn⟩ : ∃ x, D.dn = x := ⟨_, rfl⟩
  obtain ⟨k, hk⟩ : ∃ x, D.k = x := ⟨_, rfl⟩
  have hsaf := hD2.saf
  have hcac := hD2.cac
  rw [hN, hm, hp, hdn, hk] at hd
  rw [hN] at hsaf
  rw [hm] at hcac
  obtain ⟨c0, c1, c2, c3, c4⟩ := hd.cells
  have hN6 : N ≤ 65536 := by have := HD.out.ok.n.2; omega
  have hm6 : m ≤ 65536 := by have := HD.out.ok.m; omega
  have HSS := Lib.hid (show ∀ X, Below w2.heap.size w2 X → X.cell? ⟨d, 0, none⟩ = some (.slice (some ⟨sb, 0, none⟩) N sc) ∧ X.cell? ⟨d, 1, none⟩ = some (.slice CA m cc) ∧ X.cell? ⟨d, 2, none⟩ = some (.int .i64 p) ∧ X.cell? ⟨d, 3, none⟩ = some (.bool dn) ∧ X.cell? ⟨d, 4, none⟩ = some (.int .i64 k) from fun X hb =>
    ⟨(hb.cell (p := ⟨d, 0, none⟩) hlt).trans c0, (hb.cell (p := ⟨d, 1, none⟩) hlt).trans c1, (hb.cell (p := ⟨d, 2, none⟩) hlt).trans c2, (hb.cell (p := ⟨d, 3, none⟩) hlt).trans c3, (hb.cell (p := ⟨d, 4, none⟩) hlt).trans c4⟩)
  have HC1 := Lib.hid (fun X (hb : Below w2.heap.size w2 X) => clone_secs X B _ _ _ _ (own_below hsaf hb) (secC_all _) hN6)
  have HC2 := Lib.hid (fun X (hb : Below w2.heap.size w2 X) => clone_writes X B _ _ _ _ (own_below hcac hb) (cacC_all _) hm6)
  have HB := Lib.hid (And.intro hb2 (And.intro hN (And.intro hm (And.intro hp (And.intro hdn hk)))))
  clear hb2 hD2 hlt hd e2 hN hm hp hdn hk hsaf hcac hN6 hm6 c0 c1 c2 c3 c4
  go_wp2_with fail
  refine wp_region_held_drew (S := (fun X => X.cell? ⟨d, 0, none⟩ = some (.slice (some ⟨sb, 0, none⟩) N sc) ∧ X.cell? ⟨d, 1, none⟩ = some (.slice CA m cc) ∧ X.cell? ⟨d, 2, none⟩ = some (.int .i64 p) ∧ X.cell? ⟨d, 3, none⟩ = some (.bool dn) ∧ X.cell? ⟨d, 4, none⟩ = some (.int .i64 k))) (by kernel_rfl) (HSS.out _ (Below.refl _ _).drew) (fun hHeld => ?_)
  refine wpAnyH_take (i := 0) (v := ?_) rfl (by kernel_rfl) (by kernel_rfl) (by kernel_rfl) (fun _ _ _ h => h) (Or.inl ⟨by kernel_rfl, ?_⟩) (by assumption) ?_
  rotate_left
  · intro w hSw; (try dsimp only at hSw); go_simp; try with_reducible rfl
  simp only [Act.put, List.getElem_toArray, List.getElem_cons_succ, List.getElem_cons_zero, List.setIfInBounds_toArray, List.set_cons_zero, List.set_cons_succ]
  refine wpAnyH_take (i := 1) (v := ?_) rfl (by kernel_rfl) (by kernel_rfl) (by kernel_rfl) (fun _ _ _ h => h) (Or.inl ⟨by kernel_rfl, ?_⟩) (by assumption) ?_
  rotate_left
  · intro w hSw; (try dsimp only at hSw); go_simp; try with_reducible rfl
  simp only [Act.put, List.getElem_toArray, List.getElem_cons_succ, List.getElem_cons_zero, List.setIfInBounds_toArray, List.set_cons_zero, List.set_cons_succ]
  refine wpAnyH_take (i := 2) (v := ?_) rfl (by kernel_rfl) (by kernel_rfl) (by kernel_rfl) (fun _ _ _ h => h) (Or.inl ⟨by kernel_rfl, ?_⟩) (by assumption) ?_
  rotate_left
  · intro w hSw; (try dsimp only at hSw); go_simp; try with_reducible rfl
  simp only [Act.put, List.getElem_toArray, List.getElem_cons_succ, List.getElem_cons_zero, List.setIfInBounds_toArray, List.set_cons_zero, List.set_cons_succ]
  refine wpAnyH_take (i := 3) (v := ?_) rfl (by kernel_rfl) (by kernel_rfl) (by kernel_rfl) (fun _ _ _ h => h) (Or.inl ⟨by kernel_rfl, ?_⟩) (by assumption) ?_
  rotate_left
  · intro w hSw; (try dsimp only at hSw); go_simp; try with_reducible rfl
  simp only [Act.put, List.getElem_toArray, List.getElem_cons_succ, List.getElem_cons_zero, List.setIfInBounds_toArray, List.set_cons_zero, List.set_cons_succ]
  refine wpAnyH_take (i := 5) (v := ?_) rfl (by kernel_rfl) (by kernel_rfl) (by kernel_rfl) (fun _ _ _ h => h) (Or.inl ⟨by kernel_rfl, ?_⟩) (by assumption) ?_
  rotate_left
  · intro w hSw; (try dsimp only at hSw); go_simp; try with_reducible rfl
  simp only [Act.put, List.getElem_toArray, List.getElem_cons_succ, List.getElem_cons_zero, List.setIfInBounds_toArray, List.set_cons_zero, List.set_cons_succ]
  refine wpAnyH_take (i := 6) (v := ?_) rfl (by kernel_rfl) (by kernel_rfl) (by kernel_rfl) (fun _ _ _ h => h) (Or.inl ⟨by kernel_rfl, ?_⟩) (by assumption) ?_
  rotate_left
  · intro w hSw; (try dsimp only at hSw); go_simp; try with_reducible rfl
  simp only [Act.put, List.getElem_toArray, List.getElem_cons_succ, List.getElem_cons_zero, List.setIfInBounds_toArray, List.set_cons_zero, List.set_cons_succ]
  refine wpAnyH_take (i := 7) (v := ?_) rfl (by kernel_rfl) (by kernel_rfl) (by kernel_rfl) (fun _ _ _ h => h) (Or.inl ⟨by kernel_rfl, ?_⟩) (by assumption) ?_
  rotate_left
  · intro w hSw; (try dsimp only at hSw); go_simp; try with_reducible rfl
  simp only [Act.put, List.getElem_toArray, List.getElem_cons_succ, List.getElem_cons_zero, List.setIfInBounds_toArray, List.set_cons_zero, List.set_cons_succ]
  refine wpAnyH_take (i := 8) (v := ?_) rfl (by kernel_rfl) (by kernel_rfl) (by kernel_rfl) (fun _ _ _ h => h) (Or.inl ⟨by kernel_rfl, ?_⟩) (by assumption) ?_
  rotate_left
  · intro w hSw; (try dsimp only at hSw); go_simp; try with_reducible rfl
  simp only [Act.put, List.getElem_toArray, List.getElem_cons_succ, List.getElem_cons_zero, List.setIfInBounds_toArray, List.set_cons_zero, List.set_cons_succ]
  refine wpAnyH_take (i := 10) (v := ?_) rfl (by kernel_rfl) (by kernel_rfl) (by kernel_rfl) (fun _ _ _ h => h) (Or.inl ⟨by kernel_rfl, ?_⟩) (by assumption) ?_
  rotate_left
  · intro w hSw; (try dsimp only at hSw); go_simp; try with_reducible rfl
  simp only [Act.put, List.getElem_toArray, List.getElem_cons_succ, List.getElem_cons_zero, List.setIfInBounds_toArray, List.set_cons_zero, List.set_cons_succ]
  refine wpAnyH_take (i := 11) (v := ?_) rfl (by kernel_rfl) (by kernel_rfl) (by kernel_rfl) (fun _ _ _ h => h) (Or.inl ⟨by kernel_rfl, ?_⟩) (by assumption) ?_
  rotate_left
  · intro w hSw; (try dsimp only at hSw); go_simp; try with_reducible rfl
  simp only [Act.put, List.getElem_toArray, List.getElem_cons_succ, List.getElem_cons_zero, List.setIfInBounds_toArray, List.set_cons_zero, List.set_cons_succ]
  refine wpAnyH_take (i := 12) (v := ?_) rfl (by kernel_rfl) (by kernel_rfl) (by kernel_rfl) (fun _ _ _ h => h) (Or.inl ⟨by kernel_rfl, ?_⟩) (by assumption) ?_
  rotate_left
  · intro w hSw; (try dsimp only at hSw); go_simp; try with_reducible rfl
  simp only [Act.put, List.getElem_toArray, List.getElem_cons_succ, List.getElem_cons_zero, List.setIfInBounds_toArray, List.set_cons_zero, List.set_cons_succ]
  refine wpAnyH_take (i := 13) (v := ?_) rfl (by kernel_rfl) (by kernel_rfl) (by kernel_rfl) (fun _ _ _ h => h) (Or.inl ⟨by kernel_rfl, ?_⟩) (by assumption) ?_
  rotate_left
  · intro w hSw; (try dsimp only at hSw); go_simp; try with_reducible rfl
  simp only [Act.put, List.getElem_toArray, List.getElem_cons_succ, List.getElem_cons_zero, List.setIfInBounds_toArray, List.set_cons_zero, List.set_cons_succ]
  refine wpAnyH_take (i := 14) (v := ?_) rfl (by kernel_rfl) (by kernel_rfl) (by kernel_rfl) (fun _ _ _ h => h) (Or.inl ⟨by kernel_rfl, ?_⟩) (by assumption) ?_
  rotate_left
  · intro w hSw; (try dsimp only at hSw); go_simp; try with_reducible rfl
  simp only [Act.put, List.getElem_toArray, List.getElem_cons_succ, List.getElem_cons_zero, List.setIfInBounds_toArray, List.set_cons_zero, List.set_cons_succ]
  refine wpAnyH_take (i := 15) (v := ?_) rfl (by kernel_rfl) (by kernel_rfl) (by kernel_rfl) (fun _ _ _ h => h) (Or.inl ⟨by kernel_rfl, ?_⟩) (by assumption) ?_
  rotate_left
  · intro w hSw; (try dsimp only at hSw); go_simp; try with_reducible rfl
  simp only [Act.put, List.getElem_toArray, List.getElem_cons_succ, List.getElem_cons_zero, List.setIfInBounds_toArray, List.set_cons_zero, List.set_cons_succ]
  refine wpAnyH_take (i := 16) (v := ?_) rfl (by kernel_rfl) (by kernel_rfl) (by kernel_rfl) (fun _ _ _ h => h) (Or.inl ⟨by kernel_rfl, ?_⟩) (by assumption) ?_
  rotate_left
  · intro w hSw; (try dsimp only at hSw); go_simp; try with_reducible rfl
  simp only [Act.put, List.getElem_toArray, List.getElem_cons_succ, List.getElem_cons_zero, List.setIfInBounds_toArray, List.set_cons_zero, List.set_cons_succ]
  refine wpAnyH_take (i := 17) (v := ?_) rfl (by kernel_rfl) (by kernel_rfl) (by kernel_rfl) (fun _ _ _ h => h) (Or.inl ⟨by kernel_rfl, ?_⟩) (by assumption) ?_
  rotate_left
  · intro w hSw; (try dsimp only at hSw); go_simp; try with_reducible rfl
  simp only [Act.put, List.getElem_toArray, List.getElem_cons_succ, List.getElem_cons_zero, List.setIfInBounds_toArray, List.set_cons_zero, List.set_cons_succ]
  refine wpAnyH_take (i := 18) (v := ?_) rfl (by kernel_rfl) (by kernel_rfl) (by kernel_rfl) (fun _ _ _ h => h) (Or.inl ⟨by kernel_rfl, ?_⟩) (by assumption) ?_
  rotate_left
  · intro w hSw; (try dsimp only at hSw); go_simp; try with_reducible rfl
  simp only [Act.put, List.getElem_toArray, List.getElem_cons_succ, List.getElem_cons_zero, List.setIfInBounds_toArray, List.set_cons_zero, List.set_cons_succ]
  refine wpAnyH_take (i := 19) (v := ?_) rfl (by kernel_rfl) (by kernel_rfl) (by kernel_rfl) (fun _ _ _ h => h) (Or.inl ⟨by kernel_rfl, ?_⟩) (by assumption) ?_
  rotate_left
  · intro w hSw; (try dsimp only at hSw); go_simp; try with_reducible rfl
  simp only [Act.put, List.getElem_toArray, List.getElem_cons_succ, List.getElem_cons_zero, List.setIfInBounds_toArray, List.set_cons_zero, List.set_cons_succ]
  refine wpAnyH_take (i := 20) (v := ?_) rfl (by kernel_rfl) (by kernel_rfl) (by kernel_rfl) (fun _ _ _ h => h) (Or.inl ⟨by kernel_rfl, ?_⟩) (by assumption) ?_
  rotate_left
  · intro w hSw; (try dsimp only at hSw); go_simp; try with_reducible rfl
  simp only [Act.put, List.getElem_toArray, List.getElem_cons_succ, List.getElem_cons_zero, List.setIfInBounds_toArray, List.set_cons_zero, List.set_cons_succ]
  refine wpAnyH_take (i := 21) (v := ?_) rfl (by kernel_rfl) (by kernel_rfl) (by kernel_rfl) (fun _ _ _ h => h) (Or.inl ⟨by kernel_rfl, ?_⟩) (by assumption) ?_
  rotate_left
  · intro w hSw; (try dsimp only at hSw); go_simp; try with_reducible rfl
  simp only [Act.put, List.getElem_toArray, List.getElem_cons_succ, List.getElem_cons_zero, List.setIfInBounds_toArray, List.set_cons_zero, List.set_cons_succ]
  refine wpAnyH_ready (rs := [4]) (by kernel_rfl) (by simp) ?_
  refine AllReadyH.cons rfl (fun K hK => ?_) AllReadyH.nil
  go_simp
  refine (HC1.out w2.drew (Below.refl _ _).drew).mono ?_
  rintro e w3 ⟨A1, c1, rfl, o1, hb3⟩
  have hb3' : Below w2.heap.size w2 w3 := (Below.refl w2.heap.size w2).drew.trans hb3
  have H3 := Lib.hid (And.intro o1 hb3')
  clear o1 hb3 hb3'
  try go_wp2_with fail
  refine hK.out _ _ (HSS.out _ H3.out.2) (fun hHeld => ?_)
  clear hK K
  try simp only [Act.put, List.getElem_toArray, List.getElem_cons_succ, List.getElem_cons_zero, List.setIfInBounds_toArray, List.set_cons_zero, List.set_cons_succ]
  refine wpAnyH_ready (rs := [9]) (by kernel_rfl) (by simp) ?_
  refine AllReadyH.cons rfl (fun K hK => ?_) AllReadyH.nil
  go_simp
  refine (HC2.out w3 H3.out.2).mono ?_
  rintro e w4 ⟨A2, c2, rfl, o2, hb4⟩
  have H4 := Lib.hid (And.intro o2 (And.intro hb4 (bnext H3.out.2 hb4)))
  clear o2 hb4
  try go_wp2_with fail
  refine hK.out _ _ (HSS.out _ H4.out.2.2) (fun hHeld => ?_)
  clear hK K
  try simp only [Act.put, List.getElem_toArray, List.getElem_cons_succ, List.getElem_cons_zero, List.setIfInBounds_toArray, List.set_cons_zero, List.set_cons_succ]
  refine wpAnyH_take (i := 22) (v := ?_) rfl (by kernel_rfl) (by kernel_rfl) (by kernel_rfl) (fun _ _ _ h => h) (Or.inl ⟨by kernel_rfl, ?_⟩) (by assumption) ?_
  rotate_left
  · intro w hSw; (try dsimp only at hSw); go_simp; try with_reducible rfl
  simp only [Act.put, List.getElem_toArray, List.getElem_cons_succ, List.getElem_cons_zero, List.setIfInBounds_toArray, List.set_cons_zero, List.set_cons_succ]
  refine wpAnyH_ready (rs := [23]) (by kernel_rfl) (by simp) ?_
  refine AllReadyH.cons rfl (fun K hK => ?_) AllReadyH.nil
  go_simp
  refine hK.out _ _ (HSS.out _ (bnext H4.out.2.2 (bstep _ _))) (fun hHeld => ?_)
  clear hK K
  try simp only [Act.put, List.getElem_toArray, List.getElem_cons_succ, List.getElem_cons_zero, List.setIfInBounds_toArray, List.set_cons_zero, List.set_cons_succ]
  refine wpAnyH_take (i := 24) (v := ?_) rfl (by kernel_rfl) (by kernel_rfl) (by kernel_rfl) (fun _ _ _ h => h) (Or.inl ⟨by kernel_rfl, ?_⟩) (by assumption) ?_
  rotate_left
  · intro w hSw; (try dsimp only at hSw); go_simp; try with_reducible rfl
  simp only [Act.put, List.getElem_toArray, List.getElem_cons_succ, List.getElem_cons_zero, List.setIfInBounds_toArray, List.set_cons_zero, List.set_cons_succ]
  refine wpAnyH_done (by kernel_rfl) ?_ _
  go_wp2_with fail
  go_ret
  obtain ⟨hb2, hN, hm, hp, hdn, hk⟩ := HB.out
  obtain ⟨o1, hb3⟩ := H3.out
  obtain ⟨o2, hb4, hb5⟩ := H4.out
  have hN1 := HD.out.ok.n
  obtain ⟨sb', rfl⟩ : ∃ g, A1 = some ⟨g, 0, none⟩ := by
    rcases o1.2 with ⟨h, h0⟩ | ⟨g, cap, cur, h, _⟩
    · omega
    · injection h with h; exact ⟨g, h⟩
  have hst := bstep w4 (.cells (devC (some ⟨sb', 0, none⟩) N c1 A2 m c2 p dn k) 67)
  have l1 := o1.lt sb' (by simp [Value.ownBlock])
  have l3 := hb4.size
  have o1' := own_below (own_below o1 hb4) hst
  have o2' := own_below o2 hst
  have hw := bnext hb2 hb5
  refine ⟨w4.heap.size, sb', c1, .slice A2 m c2, rfl, ⟨HD.out.ok, ⟨A2, c2, by rw [hm], ?_⟩, by rw [hN]; exact own_mono o1' hb2.size, by rw [hm]; exact own_mono o2' (Nat.le_trans hb2.size hb3.size), by omega, ?_, ?_, hw.size⟩, bnext hw hst⟩
  · rw [hN, hm, hp, hdn, hk]; exact World.alloc_heap_new w4 _
  · intro e; have := (o2.lt _ e).2; omega
  · intro e; have := (o2.lt _ e).1; omega
end Go.Proofs.Ytpleaicpkpjkjaa
