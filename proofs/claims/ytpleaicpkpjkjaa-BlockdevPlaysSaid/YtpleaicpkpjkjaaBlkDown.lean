/-
  BlockdevDown, walked: while the device is down nothing turns; a plan lets so many calls through. Conditions stand at each theorem. (Printed by gen_blk22.py.)
-/
import Derived.Test.YtpleaicpkpjkjaaBlk21
namespace Go.Proofs.Ytpleaicpkpjkjaa
open Go Go.RowKit Go.Kw
set_option linter.unusedVariables false
set_option linter.unusedSimpArgs false

/-- A call's bytes. -/
theorem op_bytes (w : World) (z : OpR) (hL : z.L ≤ 300) : Calls Try.prog 11 #[.agg #[.int .i64 z.kd, .int .i64 z.N, .int .u8 (z.b.toNat : Int), .int .i64 z.L, .slice z.KA z.kp.length z.kc, .int .i64 z.to, .int .i64 z.at']] w (OpB w z.b (opN z.L)) := by
  unfold opN
  by_cases h : z.L > 0
  · rw [if_pos h]
    have := opBytes_pos w z.kd z.N z.b z.L.toNat (by omega) z.KA z.kp.length z.kc z.to z.at'
    rw [show ((z.L.toNat : Nat) : Int) = z.L by omega] at this
    exact this
  · rw [if_neg h]
    exact opBytes_dft w z.kd z.N z.b z.L h z.KA z.kp.length z.kc z.to z.at'
/-- A row of 128 bytes of the call's own as a string. -/
theorem str_own {w : World} {B : Nat} {A : Option Addr} {c : Nat} {l : List UInt8} (h : w.ownsRow B 5 1 (.slice A 128 c) 128 (bv l)) (hl : l.length = 128) : (convert 23 9 (.slice A 128 c)).run Try.prog w = .ok (.string ⟨l.toArray⟩) w := by
  have h1 := rdB_own h
  have hA : A = none → l.length = 0 := fun e => by
    subst e
    rcases h.2 with ⟨h, h0⟩ | ⟨g, cap, cur, h, _⟩
    · omega
    · cases h
  have := run_string (P := Try.prog) (src := 23) (dst := 9) (e := 5) h1.1 c hA Try.underlying23 Try.underlying5 Try.underlying9
  rw [hl] at this
  exact this
theorem cnt_cases (D a b : Dv) : (D.p = 1 ∧ cntV D a b = (120, { a with dn := true, p := 0, k := D.k + 1 })) ∨ (D.p ≠ 1 ∧ cntV D a b = (0, { b with p := planN D.p, k := D.k + 1 })) := by
  by_cases h : D.p = 1
  · exact .inl ⟨h, if_pos h⟩
  · exact .inr ⟨h, if_neg h⟩
theorem put_p0 {D : Dv} (h1 : D.dn = false) (h2 : D.p = 0) (n : Int) (b : List UInt8) : (putV D n b).2.dn = false ∧ (putV D n b).2.p = 0 ∧ D.k ≤ (putV D n b).2.k ∧ (putV D n b).2.k ≤ D.k + 1 ∧ (putV D n b).2.S = D.S := by
  unfold putV
  split
  · rcases cnt_cases D { D with C := D.C ++ [(n.toNat, b)] } { D with C := D.C ++ [(n.toNat, b)] } with ⟨h, e⟩ | ⟨h, e⟩
    · omega
    · rw [e]; simp [planN, h1, h2]; omega
  · simp [h1, h2]; omega
/-- A plan of n calls behind c0. -/
def PlanI (c0 n : Int) (D : Dv) : Prop := D.S.length = 8 ∧ c0 ≤ D.k ∧ ((D.dn = false ∧ D.p = c0 + n - D.k ∧ 1 ≤ D.p) ∨ (D.dn = true ∧ D.k = c0 + n))
theorem plan_put {c0 n : Int} {D : Dv} (h : PlanI c0 n D) (i : Int) (b : List UInt8) : PlanI c0 n (putV D i b).2 ∧ (D.dn = true → (putV D i b).1 = 120) ∧ (D.dn = false → (putV D i b).1 = 120 → (putV D i b).2.k = c0 + n) := by
  obtain ⟨hS, hc, hd⟩ := h
  have hc4 := putE_cases D i b.length
  unfold putV
  by_cases h0 : putE D i b.length = 0
  · rw [if_pos h0]
    have hdn : D.dn = false := by
      rcases hc4 with ⟨h, _⟩ | ⟨h, _⟩
      · omega
      · exact h
    have hp : D.p = c0 + n - D.k ∧ 1 ≤ D.p := by
      rcases hd with ⟨_, h1, h2⟩ | ⟨h1, _⟩
      · exact ⟨h1, h2⟩
      · rw [hdn] at h1; cases h1
    rcases cnt_cases D { D with C := D.C ++ [(i.toNat, b)] } { D with C := D.C ++ [(i.toNat, b)] } with ⟨h, e⟩ | ⟨h, e⟩
    · rw [e]
      refine ⟨⟨hS, by show c0 ≤ D.k + 1; omega, .inr ⟨rfl, by show D.k + 1 = c0 + n; omega⟩⟩, fun _ => rfl, fun _ _ => by show D.k + 1 = c0 + n; omega⟩
    · rw [e]
      refine ⟨⟨hS, by show c0 ≤ D.k + 1; omega, .inl ⟨hdn, ?_, ?_⟩⟩, (fun (h1 : D.dn = true) => by rw [hdn] at h1; cases h1), (fun _ h1 => by cases h1)⟩
      · show planN D.p = c0 + n - (D.k + 1)
        unfold planN; rw [if_neg (by omega)]; omega
      · show 1 ≤ planN D.p
        unfold planN; rw [if_neg (by omega)]; omega
  · rw [if_neg h0]
    refine ⟨⟨hS, hc, hd⟩, fun h1 => ?_, fun h1 h2 => ?_⟩
    · rcases hc4 with ⟨h, _⟩ | ⟨h, _⟩
      · exact h
      · rw [h1] at h; cases h
    · exfalso
      have h2 : putE D i b.length = 120 := h2
      rcases hc4 with ⟨_, h⟩ | ⟨_, h⟩
      · rw [h1] at h; cases h
      · omega
/-- The cells of the call that a round reads. -/
def OpC (b o : Nat) (z : OpR) (X : World) : Prop := X.cell? ⟨b, o, none⟩ = some (.int .i64 z.kd) ∧ X.cell? ⟨b, o + 1, none⟩ = some (.int .i64 z.N) ∧ X.cell? ⟨b, o + 2, none⟩ = some (.int .u8 (z.b.toNat : Int)) ∧ X.cell? ⟨b, o + 3, none⟩ = some (.int .i64 z.L) ∧
  X.cell? ⟨b, o + 4, none⟩ = some (.slice z.KA z.kp.length z.kc) ∧ X.cell? ⟨b, o + 5, none⟩ = some (.int .i64 z.to) ∧ X.cell? ⟨b, o + 6, none⟩ = some (.int .i64 z.at')
theorem OpC.go {b o : Nat} {z : OpR} {X Y : World} (h : OpC b o z X) (hb : Below X.heap.size X Y) : OpC b o z Y := by
  obtain ⟨h0, h1, h2, h3, h4, h5, h6⟩ := h
  have hl := block_lt h0
  exact ⟨(hb.cell (p := ⟨b, o, none⟩) hl).trans h0, (hb.cell (p := ⟨b, o + 1, none⟩) hl).trans h1, (hb.cell (p := ⟨b, o + 2, none⟩) hl).trans h2, (hb.cell (p := ⟨b, o + 3, none⟩) hl).trans h3, (hb.cell (p := ⟨b, o + 4, none⟩) hl).trans h4, (hb.cell (p := ⟨b, o + 5, none⟩) hl).trans h5, (hb.cell (p := ⟨b, o + 6, none⟩) hl).trans h6⟩
theorem OpC.keptB {b o : Nat} {z : OpR} {X Y : World} {B : Nat} (h : OpC b o z X) (hB : b < B) (hb : Below B X Y) : OpC b o z Y := by
  obtain ⟨h0, h1, h2, h3, h4, h5, h6⟩ := h
  exact ⟨(hb.cell (p := ⟨b, o, none⟩) hB).trans h0, (hb.cell (p := ⟨b, o + 1, none⟩) hB).trans h1, (hb.cell (p := ⟨b, o + 2, none⟩) hB).trans h2, (hb.cell (p := ⟨b, o + 3, none⟩) hB).trans h3, (hb.cell (p := ⟨b, o + 4, none⟩) hB).trans h4, (hb.cell (p := ⟨b, o + 5, none⟩) hB).trans h5, (hb.cell (p := ⟨b, o + 6, none⟩) hB).trans h6⟩
/-- The call number k of a list that came in at w, at any later world. -/
theorem RdOps.opC {w X : World} {A : Option Addr} {n c : Nat} {g : Nat → OpR} (h : RdOps w A n c g) (hb : Below w.heap.size w X) {k : Nat} (hk : k < n) : ∃ b off, A = some ⟨b, off, none⟩ ∧ b < w.heap.size ∧ OpC b (off + k * 7) (g k) X := by
  obtain ⟨b, off, e, hlt, q0, q1, q2, q3, q4, q5, q6⟩ := h.at_ hk
  exact ⟨b, off, e, hlt, OpC.go (X := w) ⟨q0, q1, q2, q3, q4, q5, q6⟩ hb⟩
set_option maxRecDepth 100000 in
set_option maxHeartbeats 32000000 in
theorem blockdevDown_walk (v0 : Value) (x0 : OpX) (a1 : Int) (v2 : Value) (x2 : OpX) (w : World) (hx0 : v0 = .slice x0.1 x0.2.1 x0.2.2.1 ∧ RdOps w x0.1 x0.2.1 x0.2.2.1 x0.2.2.2) (hn : (Lit.int .u8 a1).wf = true) (hx2 : v2 = .slice x2.1 x2.2.1 x2.2.2.1 ∧ RdOps w x2.1 x2.2.1 x2.2.2.1 x2.2.2.2) :
    Calls Try.prog 4 #[v0, .int .u8 a1, v2] w fun e w' => e = .returned (.bool true) ∧ Below w.heap.size w w' := by
  obtain ⟨A, n, c, g⟩ := x0
  obtain ⟨A2, n2, c2, g2⟩ := x2
  obtain ⟨rfl, hR⟩ := hx0
  obtain ⟨rfl, hR2⟩ := hx2
  dsimp only at hR hR2 ⊢
  obtain ⟨a0, a255⟩ := Go.bounds_u8 hn
  have HR := Lib.hid (And.intro hR hR2)
  have Ha := Lib.hid (And.intro a0 a255)
  clear hR hR2 hn a0 a255
  have HX := Lib.hid (alive_calls w)
  go_enter Try.func4, Try.ntmps4
  go_wp2_with fail
  refine HX.out.mono ?_
  rintro e w1 ⟨rfl, hb1⟩
  clear HX
  have HX := Lib.hid (great_calls w1 A n c g (HR.out.1.go hb1))
  have HB := Lib.hid hb1
  clear hb1
  go_wp2_with fail
  refine HX.out.mono ?_
  rintro e w2 ⟨⟨G, rfl, hG, hGs⟩, hb2⟩
  have hb2 := bnext HB.out hb2
  clear HX HB
  rcases hG with rfl | rfl
  rotate_left
  · have HB := Lib.hid hb2
    clear hb2 hGs
    go_wp2_with fail
    go_ret
    exact ⟨rfl, HB.out⟩
  have HG := Lib.hid (hGs.1 rfl)
  clear hGs
  have HX := Lib.hid (great_calls w2 A2 n2 c2 g2 (HR.out.2.go hb2))
  have HB := Lib.hid hb2
  clear hb2
  go_wp2_with fail
  refine HX.out.mono ?_
  rintro e w3 ⟨⟨G, rfl, hG, hGs⟩, hb3⟩
  have hb3 := bnext HB.out hb3
  clear HX HB
  rcases hG with rfl | rfl
  rotate_left
  · have HB := Lib.hid hb3
    clear hb3 hGs
    go_wp2_with fail
    go_ret
    exact ⟨rfl, HB.out⟩
  have HG2 := Lib.hid (hGs.1 rfl)
  clear hGs
  have HB := Lib.hid hb3
  clear hb3
  by_cases h100 : (n : Int) > 100
  · have k1 : decide ((n : Int) > 100) = true := decide_eq_true h100
    clear h100
    go_wp2_with fail
    go_ret
    exact ⟨rfl, HB.out⟩
  have k1 : decide ((n : Int) > 100) = false := decide_eq_false h100
  by_cases h50 : (n2 : Int) > 50
  · have k2 : decide ((n2 : Int) > 50) = true := decide_eq_true h50
    clear h100 h50
    go_wp2_with fail
    go_ret
    exact ⟨rfl, HB.out⟩
  have k2 : decide ((n2 : Int) > 50) = false := decide_eq_false h50
  by_cases ha1 : a1 = 0
  · have k3 : (a1 == 0) = true := beq_iff_eq.2 ha1
    clear h100 h50 ha1
    go_wp2_with fail
    go_ret
    exact ⟨rfl, HB.out⟩
  have k3 : (a1 == 0) = false := beq_eq_false_iff_ne.2 ha1
  have Hn := Lib.hid (show n ≤ 100 ∧ n2 ≤ 50 ∧ 1 ≤ a1 by have := Ha.out; omega)
  clear h100 h50 ha1
  have HX := Lib.hid (show Calls Try.prog 9 #[.int .i64 8] w3 _ from LD_new w w3 HB.out 8 (by omega) (by omega))
  go_wp2_with fail
  refine HX.out.mono ?_
  rintro e w4 ⟨d, sb, rfl, hS, -⟩
  have HS := Lib.hid hS
  clear HX hS HB k1 k2 k3
  go_wp2_with fail
  go_loopw [10, 57] (fun _ iv wr => ∃ i : Nat, i ≤ n ∧ iv = .int .i64 i ∧ ∃ D : Dv, LD w d sb 8 D (fun _ => False) wr ∧ D.dn = false ∧ D.p = 0 ∧ 0 ≤ D.k ∧ D.k ≤ i ∧ D.S.length = 8) (fun _ iv _ => n - (intOf iv).toNat)
  case atStart => exact ⟨0, by omega, rfl, newV 8, HS.out, rfl, rfl, by show (0 : Int) ≤ 0; omega, by show (0 : Int) ≤ ((0 : Nat) : Int); omega, by simp [newV]⟩
  case round =>
    obtain ⟨i, hi, rfl, D, hS, hdn, hp, hk0, hki, hSl⟩ := hrel
    by_cases hlt : i < n
    · have hI : (i : Int) < (n : Int) := by omega
      have hi0 : (0 : Int) ≤ (i : Int) := by omega
      obtain ⟨b, off, rfl, hbw, hC⟩ := HR.out.1.opC hS.below hlt
      obtain ⟨z, hz⟩ : ∃ z, g i = z := ⟨_, rfl⟩
      rw [hz] at hC
      have hL : z.L ≤ 300 := by rw [← hz]; exact (HG.out.2 i hlt).2
      have HBy := Lib.hid (fun X => op_bytes X z hL)
      obtain ⟨l, hl⟩ : ∃ l, opX z.b (opN z.L) (opN z.L) = l := ⟨_, rfl⟩
      have hll : l.length = opN z.L := by rw [← hl]; exact opX_length _ _ _
      have HWr := Lib.hid (fun X A3 (ho : X.ownsRow wr.drew.heap.size 5 1 (.slice A3 (opN z.L) (opN z.L)) (opN z.L) (bv (opX z.b (opN z.L) (opN z.L)))) (hb : Below wr.drew.heap.size wr.drew X) =>
        (hS.go (Below.refl wr.heap.size wr).drew).write hb (by have := Hn.out; omega) (by rw [hl] at ho; exact ho) z.N)
      have HSS := Lib.hid hC
      have HC2 := Lib.hid (show ∀ X, Below w.heap.size w X → OpC b (off + i * 7) z X from fun X hX => by
        obtain ⟨b', off', e', -, h'⟩ := HR.out.1.opC hX hlt
        injection e' with e'; injection e' with e1 e2
        subst e1 e2
        rw [hz] at h'; exact h')
      have hpp := put_p0 hdn hp z.N l
      have HP := Lib.hid (And.intro hpp (And.intro hlt (And.intro hk0 (And.intro hki hSl))))
      have X1 := Lib.hid (wrap64_in' ((i : Int) + 1) (by have := Hn.out; omega))
      clear hz hL hl hll hC hpp hS hdn hp hk0 hki hSl hlt hi hbw
      go_wp2_with fail
      refine wp_region_held_drew (S := (fun X => X.cell? ⟨b, off + i * 7, none⟩ = some (.int .i64 z.kd) ∧ X.cell? ⟨b, off + i * 7 + 1, none⟩ = some (.int .i64 z.N) ∧ X.cell? ⟨b, off + i * 7 + 2, none⟩ = some (.int .u8 (z.b.toNat : Int)) ∧ X.cell? ⟨b, off + i * 7 + 3, none⟩ = some (.int .i64 z.L) ∧ X.cell? ⟨b, off + i * 7 + 4, none⟩ = some (.slice z.KA z.kp.length z.kc) ∧ X.cell? ⟨b, off + i * 7 + 5, none⟩ = some (.int .i64 z.to) ∧ X.cell? ⟨b, off + i * 7 + 6, none⟩ = some (.int .i64 z.at'))) (by kernel_rfl) (HSS.out.go (Below.refl _ _).drew) (fun hHeld => ?_)
      refine wpAnyH_take (i := 0) (v := ?_) rfl (by kernel_rfl) (by kernel_rfl) (by kernel_rfl) (fun _ _ _ h => h) (Or.inl ⟨by kernel_rfl, ?_⟩) (by assumption) ?_
      rotate_left
      · intro w hSw; (try dsimp only at hSw); go_simp; try with_reducible rfl
      simp only [Act.put, List.getElem_toArray, List.getElem_cons_succ, List.getElem_cons_zero, List.setIfInBounds_toArray, List.set_cons_zero, List.set_cons_succ]
      refine wpAnyH_take (i := 1) (v := ?_) rfl (by kernel_rfl) (by kernel_rfl) (by kernel_rfl) (fun _ _ _ h => h) (Or.inl ⟨by kernel_rfl, ?_⟩) (by assumption) ?_
      rotate_left
      · intro w hSw; (try dsimp only at hSw); go_simp; try with_reducible rfl
      simp only [Act.put, List.getElem_toArray, List.getElem_cons_succ, List.getElem_cons_zero, List.setIfInBounds_toArray, List.set_cons_zero, List.set_cons_succ]
      refine wpAnyH_take (i := 2) (v := ?_) rfl (by kernel_rfl) (by kernel_rfl) (by kernel_rfl) (fun _ _ _ h => h) (Or.inl ⟨by kernel_rfl, ?_⟩) (by assumption) ?_
      rotate_left
      · intro w hSw; (try dsimp only at hSw); go_simp; try with_reducible rfl
      simp only [Act.put, List.getElem_toArray, List.getElem_cons_succ, List.getElem_cons_zero, List.setIfInBounds_toArray, List.set_cons_zero, List.set_cons_succ]
      refine wpAnyH_take (i := 3) (v := ?_) rfl (by kernel_rfl) (by kernel_rfl) (by kernel_rfl) (fun _ _ _ h => h) (Or.inl ⟨by kernel_rfl, ?_⟩) (by assumption) ?_
      rotate_left
      · intro w hSw; (try dsimp only at hSw); go_simp; try with_reducible rfl
      simp only [Act.put, List.getElem_toArray, List.getElem_cons_succ, List.getElem_cons_zero, List.setIfInBounds_toArray, List.set_cons_zero, List.set_cons_succ]
      refine wpAnyH_take (i := 4) (v := ?_) rfl (by kernel_rfl) (by kernel_rfl) (by kernel_rfl) (fun _ _ _ h => h) (Or.inl ⟨by kernel_rfl, ?_⟩) (by assumption) ?_
      rotate_left
      · intro w hSw; (try dsimp only at hSw); go_simp; try with_reducible rfl
      simp only [Act.put, List.getElem_toArray, List.getElem_cons_succ, List.getElem_cons_zero, List.setIfInBounds_toArray, List.set_cons_zero, List.set_cons_succ]
      refine wpAnyH_take (i := 5) (v := ?_) rfl (by kernel_rfl) (by kernel_rfl) (by kernel_rfl) (fun _ _ _ h => h) (Or.inl ⟨by kernel_rfl, ?_⟩) (by assumption) ?_
      rotate_left
      · intro w hSw; (try dsimp only at hSw); go_simp; try with_reducible rfl
      simp only [Act.put, List.getElem_toArray, List.getElem_cons_succ, List.getElem_cons_zero, List.setIfInBounds_toArray, List.set_cons_zero, List.set_cons_succ]
      refine wpAnyH_take (i := 6) (v := ?_) rfl (by kernel_rfl) (by kernel_rfl) (by kernel_rfl) (fun _ _ _ h => h) (Or.inl ⟨by kernel_rfl, ?_⟩) (by assumption) ?_
      rotate_left
      · intro w hSw; (try dsimp only at hSw); go_simp; try with_reducible rfl
      simp only [Act.put, List.getElem_toArray, List.getElem_cons_succ, List.getElem_cons_zero, List.setIfInBounds_toArray, List.set_cons_zero, List.set_cons_succ]
      refine wpAnyH_take (i := 7) (v := ?_) rfl (by kernel_rfl) (by kernel_rfl) (by kernel_rfl) (fun _ _ _ h => h) (Or.inl ⟨by kernel_rfl, ?_⟩) (by assumption) ?_
      rotate_left
      · intro w hSw; (try dsimp only at hSw); go_simp; try with_reducible rfl
      simp only [Act.put, List.getElem_toArray, List.getElem_cons_succ, List.getElem_cons_zero, List.setIfInBounds_toArray, List.set_cons_zero, List.set_cons_succ]
      refine wpAnyH_take (i := 8) (v := ?_) rfl (by kernel_rfl) (by kernel_rfl) (by kernel_rfl) (fun _ _ _ h => h) (Or.inl ⟨by kernel_rfl, ?_⟩) (by assumption) ?_
      rotate_left
      · intro w hSw; (try dsimp only at hSw); go_simp; try with_reducible rfl
      simp only [Act.put, List.getElem_toArray, List.getElem_cons_succ, List.getElem_cons_zero, List.setIfInBounds_toArray, List.set_cons_zero, List.set_cons_succ]
      refine wpAnyH_take (i := 9) (v := ?_) rfl (by kernel_rfl) (by kernel_rfl) (by kernel_rfl) (fun _ _ _ h => h) (Or.inl ⟨by kernel_rfl, ?_⟩) (by assumption) ?_
      rotate_left
      · intro w hSw; (try dsimp only at hSw); go_simp; try with_reducible rfl
      simp only [Act.put, List.getElem_toArray, List.getElem_cons_succ, List.getElem_cons_zero, List.setIfInBounds_toArray, List.set_cons_zero, List.set_cons_succ]
      refine wpAnyH_ready (rs := [10]) (by kernel_rfl) (by simp) ?_
      refine AllReadyH.cons rfl (fun K hK => ?_) AllReadyH.nil
      go_simp
      refine (HBy.out wr.drew).mono ?_
      rintro e w3 ⟨A3, rfl, ho3, hb3⟩
      have H3 := Lib.hid (And.intro ho3 hb3)
      clear ho3 hb3
      try go_wp2_with fail
      refine hK.out _ _ (HSS.out.go ((Below.refl wr.heap.size wr).drew.trans H3.out.2)) (fun hHeld => ?_)
      clear hK K
      try simp only [Act.put, List.getElem_toArray, List.getElem_cons_succ, List.getElem_cons_zero, List.setIfInBounds_toArray, List.set_cons_zero, List.set_cons_succ]
      refine wpAnyH_ready (rs := [11]) (by kernel_rfl) (by simp) ?_
      refine AllReadyH.cons rfl (fun K hK => ?_) AllReadyH.nil
      go_simp
      refine (HWr.out w3 A3 H3.out.1 H3.out.2).mono ?_
      rintro e w4 ⟨rfl, hS4, -⟩
      have H4 := Lib.hid hS4
      clear hS4
      try go_wp2_with fail
      refine hK.out _ _ (HC2.out w4 H4.out.below) (fun hHeld => ?_)
      clear hK K
      try simp only [Act.put, List.getElem_toArray, List.getElem_cons_succ, List.getElem_cons_zero, List.setIfInBounds_toArray, List.set_cons_zero, List.set_cons_succ]
      refine wpAnyH_done (by kernel_rfl) ?_ _
      go_wp2_with fail
      rw [X1.out]
      obtain ⟨⟨p1, p2, p3, p4, p5⟩, hlt, hk0, hki, hSl⟩ := HP.out
      exact ⟨⟨i + 1, hlt, by push_cast; rfl, _, H4.out, p1, p2, by omega, by push_cast; omega, by rw [p5]; exact hSl⟩, by simp [intOf]; omega⟩
    · obtain rfl : i = n := by omega
      have HX := Lib.hid (hS.flush (by have := Hn.out; omega))
      have hfl : flushV D = (0, { D with S := flS D.C D.S D.C.length, C := [], p := 0, k := D.k + 1 }) := by
        unfold flushV
        rw [if_neg (by simp [hdn])]
        rcases cnt_cases D D { D with S := flS D.C D.S D.C.length, C := [] } with ⟨h, e⟩ | ⟨h, e⟩
        · omega
        · rw [e]; simp [planN, hp]
      rw [hfl] at HX
      have Hk := Lib.hid (And.intro hk0 (And.intro hki (And.intro hSl hdn)))
      clear hlt hi hS hdn hp hk0 hki hSl hfl
      go_wp2_with fail
      refine HX.out.mono ?_
      rintro e w5 ⟨rfl, hS, -⟩
      obtain ⟨hk0, hki, hSl, hdn⟩ := Hk.out
      obtain ⟨D1, hD1⟩ : ∃ D1, ({ D with S := flS D.C D.S D.C.length, C := [], p := 0, k := D.k + 1 } : Dv) = D1 := ⟨_, rfl⟩
      have q1 : D1.S.length = 8 := by rw [← hD1]; show (flS _ _ _).length = 8; rw [flS_length]; exact hSl
      have q2 : D1.dn = false := by rw [← hD1]; exact hdn
      have q3 : 1 ≤ D1.k ∧ D1.k ≤ 101 := by rw [← hD1]; show 1 ≤ D.k + 1 ∧ D.k + 1 ≤ 101; have := Hn.out; omega
      rw [hD1] at hS
      clear HX hD1 hk0 hki hSl hdn Hk
      have HX := Lib.hid hS.calls
      have HS := Lib.hid hS
      obtain ⟨c0, hc0⟩ : ∃ c0, D1.k = c0 := ⟨_, rfl⟩
      rw [hc0] at HX q3
      have HQ := Lib.hid (And.intro q1 (And.intro q2 (And.intro q3 hc0)))
      clear hS q1 q2 q3 hc0
      go_wp2_with fail
      refine HX.out.mono ?_
      rintro e w6 ⟨rfl, hb6⟩
      have hS := HS.out.go hb6
      obtain ⟨q1, q2, q3, hc0⟩ := HQ.out
      have hpl : planV D1 a1 = (0, { D1 with p := a1 }) := by
        unfold planV
        rw [if_neg (by simp [q2]), if_neg (by have := Ha.out; omega)]
      have HX2 := Lib.hid (hS.plan a1 (by have := Ha.out; omega))
      rw [hpl] at HX2
      have wa : IntKind.i64.wrap a1 = a1 := IntWalk.i64_in _ (by have := Ha.out; omega)
      have wa' : wrap64 a1 = a1 := wrap64_in' _ (by have := Ha.out; omega)
      clear HX HS hb6 hS q1 q2 q3 hc0 hpl
      go_wp2_with fail
      refine HX2.out.mono ?_
      rintro e w7 ⟨rfl, hS, -⟩
      have hPI : PlanI c0 a1 { D1 with p := a1 } := by
        obtain ⟨q1, q2, q3, hc0⟩ := HQ.out
        exact ⟨q1, by show c0 ≤ D1.k; omega, .inl ⟨q2, by show a1 = c0 + a1 - D1.k; omega, Hn.out.2.2⟩⟩
      have HS := Lib.hid (And.intro hS hPI)
      have Hc := Lib.hid HQ.out.2.2.1
      clear HX2 hS hPI HQ wa wa'
      go_wp2_with fail
      go_loopw [12, 13, 14, 83] (fun _ _ _ iv wr => ∃ i : Nat, i ≤ n2 ∧ iv = .int .i64 i ∧ ∃ D : Dv, LD w d sb 8 D (fun _ => False) wr ∧ PlanI c0 a1 D) (fun _ _ _ iv _ => n2 - (intOf iv).toNat)
      case atStart => exact ⟨0, by omega, rfl, _, HS.out.1, HS.out.2⟩
      case round =>
        obtain ⟨i, hi, rfl, D, hS, hP⟩ := hrel
        clear HS
        by_cases hlt : i < n2
        · have hI : (i : Int) < (n2 : Int) := by omega
          have hi0 : (0 : Int) ≤ (i : Int) := by omega
          obtain ⟨b, off, rfl, hbw, hC⟩ := HR.out.2.opC hS.below hlt
          obtain ⟨z, hz⟩ : ∃ z, g2 i = z := ⟨_, rfl⟩
          rw [hz] at hC
          have hL : z.L ≤ 300 := by rw [← hz]; exact (HG2.out.2 i hlt).2
          have HBy := Lib.hid (fun X => op_bytes X z hL)
          obtain ⟨l, hl⟩ : ∃ l, opX z.b (opN z.L) (opN z.L) = l := ⟨_, rfl⟩
          have hll : l.length = opN z.L := by rw [← hl]; exact opX_length _ _ _
          obtain ⟨E, hE⟩ : ∃ E, (putV D z.N l).1 = E := ⟨_, rfl⟩
          obtain ⟨dn, hdn⟩ : ∃ dn, D.dn = dn := ⟨_, rfl⟩
          have hDn := hS.down
          rw [hdn] at hDn
          have HDn := Lib.hid hDn
          have hpp := plan_put hP z.N l
          rw [hE, hdn] at hpp
          have HS := Lib.hid (And.intro hS hP)
          have HPP := Lib.hid (And.intro hpp (And.intro hlt (And.intro hz (And.intro hl hE))))
          have X1 := Lib.hid (wrap64_in' ((i : Int) + 1) (by have := Hn.out; omega))
          have HC := Lib.hid hC
          have x2 : wrap64 (c0 + a1) = c0 + a1 := wrap64_in' _ (by have := Hc.out; have := Ha.out; omega)
          have wa' : wrap64 a1 = a1 := wrap64_in' _ (by have := Ha.out; omega)
          clear hz hL hl hll hC hpp hS hP hlt hi hbw hE hdn hDn
          go_wp2_with fail
          refine HDn.out.mono ?_
          rintro e w8 ⟨rfl, hb8⟩
          obtain ⟨hpp, hlt, hz, hl, hE⟩ := HPP.out
          have hS8 := HS.out.1.go hb8
          have HWr := Lib.hid (fun X A3 (ho : X.ownsRow w8.drew.heap.size 5 1 (.slice A3 (opN z.L) (opN z.L)) (opN z.L) (bv (opX z.b (opN z.L) (opN z.L)))) (hb : Below w8.drew.heap.size w8.drew X) => by
            have h := (hS8.go (Below.refl w8.heap.size w8).drew).write hb (by
              obtain ⟨p1, p2, p3⟩ := HS.out.2
              have := Hc.out; have := Ha.out
              rcases p3 with ⟨_, p3, p4⟩ | ⟨_, p3⟩ <;> omega) (by rw [hl] at ho; exact ho) z.N
            rw [hE] at h
            exact h)
          have HSS := Lib.hid (HC.out.go hb8)
          have HC2 := Lib.hid (show ∀ X, Below w.heap.size w X → OpC b (off + i * 7) z X from fun X hX => by
            obtain ⟨b', off', e', -, h'⟩ := HR.out.2.opC hX hlt
            injection e' with e'; injection e' with e1 e2
            subst e1 e2
            rw [hz] at h'; exact h')
          clear hpp hlt hz hl hE hS8 hb8
          obtain ⟨wr, hwr⟩ : ∃ wr, w8 = wr := ⟨_, rfl⟩
          subst hwr
          go_wp2_with fail
          refine wp_region_held_drew (S := (fun X => X.cell? ⟨b, off + i * 7, none⟩ = some (.int .i64 z.kd) ∧ X.cell? ⟨b, off + i * 7 + 1, none⟩ = some (.int .i64 z.N) ∧ X.cell? ⟨b, off + i * 7 + 2, none⟩ = some (.int .u8 (z.b.toNat : Int)) ∧ X.cell? ⟨b, off + i * 7 + 3, none⟩ = some (.int .i64 z.L) ∧ X.cell? ⟨b, off + i * 7 + 4, none⟩ = some (.slice z.KA z.kp.length z.kc) ∧ X.cell? ⟨b, off + i * 7 + 5, none⟩ = some (.int .i64 z.to) ∧ X.cell? ⟨b, off + i * 7 + 6, none⟩ = some (.int .i64 z.at'))) (by kernel_rfl) (HSS.out.go (Below.refl _ _).drew) (fun hHeld => ?_)
          refine wpAnyH_take (i := 0) (v := ?_) rfl (by kernel_rfl) (by kernel_rfl) (by kernel_rfl) (fun _ _ _ h => h) (Or.inl ⟨by kernel_rfl, ?_⟩) (by assumption) ?_
          rotate_left
          · intro w hSw; (try dsimp only at hSw); go_simp; try with_reducible rfl
          simp only [Act.put, List.getElem_toArray, List.getElem_cons_succ, List.getElem_cons_zero, List.setIfInBounds_toArray, List.set_cons_zero, List.set_cons_succ]
          refine wpAnyH_take (i := 1) (v := ?_) rfl (by kernel_rfl) (by kernel_rfl) (by kernel_rfl) (fun _ _ _ h => h) (Or.inl ⟨by kernel_rfl, ?_⟩) (by assumption) ?_
          rotate_left
          · intro w hSw; (try dsimp only at hSw); go_simp; try with_reducible rfl
          simp only [Act.put, List.getElem_toArray, List.getElem_cons_succ, List.getElem_cons_zero, List.setIfInBounds_toArray, List.set_cons_zero, List.set_cons_succ]
          refine wpAnyH_take (i := 2) (v := ?_) rfl (by kernel_rfl) (by kernel_rfl) (by kernel_rfl) (fun _ _ _ h => h) (Or.inl ⟨by kernel_rfl, ?_⟩) (by assumption) ?_
          rotate_left
          · intro w hSw; (try dsimp only at hSw); go_simp; try with_reducible rfl
          simp only [Act.put, List.getElem_toArray, List.getElem_cons_succ, List.getElem_cons_zero, List.setIfInBounds_toArray, List.set_cons_zero, List.set_cons_succ]
          refine wpAnyH_take (i := 3) (v := ?_) rfl (by kernel_rfl) (by kernel_rfl) (by kernel_rfl) (fun _ _ _ h => h) (Or.inl ⟨by kernel_rfl, ?_⟩) (by assumption) ?_
          rotate_left
          · intro w hSw; (try dsimp only at hSw); go_simp; try with_reducible rfl
          simp only [Act.put, List.getElem_toArray, List.getElem_cons_succ, List.getElem_cons_zero, List.setIfInBounds_toArray, List.set_cons_zero, List.set_cons_succ]
          refine wpAnyH_take (i := 4) (v := ?_) rfl (by kernel_rfl) (by kernel_rfl) (by kernel_rfl) (fun _ _ _ h => h) (Or.inl ⟨by kernel_rfl, ?_⟩) (by assumption) ?_
          rotate_left
          · intro w hSw; (try dsimp only at hSw); go_simp; try with_reducible rfl
          simp only [Act.put, List.getElem_toArray, List.getElem_cons_succ, List.getElem_cons_zero, List.setIfInBounds_toArray, List.set_cons_zero, List.set_cons_succ]
          refine wpAnyH_take (i := 5) (v := ?_) rfl (by kernel_rfl) (by kernel_rfl) (by kernel_rfl) (fun _ _ _ h => h) (Or.inl ⟨by kernel_rfl, ?_⟩) (by assumption) ?_
          rotate_left
          · intro w hSw; (try dsimp only at hSw); go_simp; try with_reducible rfl
          simp only [Act.put, List.getElem_toArray, List.getElem_cons_succ, List.getElem_cons_zero, List.setIfInBounds_toArray, List.set_cons_zero, List.set_cons_succ]
          refine wpAnyH_take (i := 6) (v := ?_) rfl (by kernel_rfl) (by kernel_rfl) (by kernel_rfl) (fun _ _ _ h => h) (Or.inl ⟨by kernel_rfl, ?_⟩) (by assumption) ?_
          rotate_left
          · intro w hSw; (try dsimp only at hSw); go_simp; try with_reducible rfl
          simp only [Act.put, List.getElem_toArray, List.getElem_cons_succ, List.getElem_cons_zero, List.setIfInBounds_toArray, List.set_cons_zero, List.set_cons_succ]
          refine wpAnyH_take (i := 7) (v := ?_) rfl (by kernel_rfl) (by kernel_rfl) (by kernel_rfl) (fun _ _ _ h => h) (Or.inl ⟨by kernel_rfl, ?_⟩) (by assumption) ?_
          rotate_left
          · intro w hSw; (try dsimp only at hSw); go_simp; try with_reducible rfl
          simp only [Act.put, List.getElem_toArray, List.getElem_cons_succ, List.getElem_cons_zero, List.setIfInBounds_toArray, List.set_cons_zero, List.set_cons_succ]
          refine wpAnyH_take (i := 8) (v := ?_) rfl (by kernel_rfl) (by kernel_rfl) (by kernel_rfl) (fun _ _ _ h => h) (Or.inl ⟨by kernel_rfl, ?_⟩) (by assumption) ?_
          rotate_left
          · intro w hSw; (try dsimp only at hSw); go_simp; try with_reducible rfl
          simp only [Act.put, List.getElem_toArray, List.getElem_cons_succ, List.getElem_cons_zero, List.setIfInBounds_toArray, List.set_cons_zero, List.set_cons_succ]
          refine wpAnyH_take (i := 9) (v := ?_) rfl (by kernel_rfl) (by kernel_rfl) (by kernel_rfl) (fun _ _ _ h => h) (Or.inl ⟨by kernel_rfl, ?_⟩) (by assumption) ?_
          rotate_left
          · intro w hSw; (try dsimp only at hSw); go_simp; try with_reducible rfl
          simp only [Act.put, List.getElem_toArray, List.getElem_cons_succ, List.getElem_cons_zero, List.setIfInBounds_toArray, List.set_cons_zero, List.set_cons_succ]
          refine wpAnyH_ready (rs := [10]) (by kernel_rfl) (by simp) ?_
          refine AllReadyH.cons rfl (fun K hK => ?_) AllReadyH.nil
          go_simp
          refine (HBy.out w8.drew).mono ?_
          rintro e w3 ⟨A3, rfl, ho3, hb3⟩
          have H3 := Lib.hid (And.intro ho3 hb3)
          clear ho3 hb3
          try go_wp2_with fail
          refine hK.out _ _ (HSS.out.go ((Below.refl w8.heap.size w8).drew.trans H3.out.2)) (fun hHeld => ?_)
          clear hK K
          try simp only [Act.put, List.getElem_toArray, List.getElem_cons_succ, List.getElem_cons_zero, List.setIfInBounds_toArray, List.set_cons_zero, List.set_cons_succ]
          refine wpAnyH_ready (rs := [11]) (by kernel_rfl) (by simp) ?_
          refine AllReadyH.cons rfl (fun K hK => ?_) AllReadyH.nil
          go_simp
          refine (HWr.out w3 A3 H3.out.1 H3.out.2).mono ?_
          rintro e w4 ⟨rfl, hS4, -⟩
          have H4 := Lib.hid hS4
          clear hS4
          try go_wp2_with fail
          refine hK.out _ _ (HC2.out w4 H4.out.below) (fun hHeld => ?_)
          clear hK K
          try simp only [Act.put, List.getElem_toArray, List.getElem_cons_succ, List.getElem_cons_zero, List.setIfInBounds_toArray, List.set_cons_zero, List.set_cons_succ]
          refine wpAnyH_take (i := 12) (v := ?_) rfl (by kernel_rfl) (by kernel_rfl) (by kernel_rfl) (fun _ _ _ h => h) (Or.inl ⟨by kernel_rfl, ?_⟩) (by assumption) ?_
          rotate_left
          · intro w hSw; (try dsimp only at hSw); go_simp; try with_reducible rfl
          simp only [Act.put, List.getElem_toArray, List.getElem_cons_succ, List.getElem_cons_zero, List.setIfInBounds_toArray, List.set_cons_zero, List.set_cons_succ]
          refine wpAnyH_done (by kernel_rfl) ?_ _
          have hK := H4.out.calls
          cases dn with
          | true =>
            obtain ⟨⟨p1, p2, p3⟩, -⟩ := HPP.out
            obtain rfl : E = 120 := p2 rfl
            clear p1 p2 p3 hK
            go_wp2_with fail
            rw [X1.out]
            obtain ⟨⟨p1, p2, p3⟩, hlt, -⟩ := HPP.out
            exact ⟨⟨i + 1, hlt, by push_cast; rfl, _, H4.out, p1⟩, by simp [intOf]; omega⟩
          | false =>
            by_cases hE : E = 120
            · subst hE
              obtain ⟨⟨p1, p2, p3⟩, -⟩ := HPP.out
              rw [p3 rfl rfl] at hK
              have HK := Lib.hid hK
              clear p1 p2 p3 hK
              go_wp2_with fail
              refine HK.out.mono ?_
              rintro e w9 ⟨rfl, hb9⟩
              have H5 := Lib.hid (H4.out.go hb9)
              clear hb9
              go_wp2_with fail
              rw [X1.out]
              obtain ⟨⟨p1, p2, p3⟩, hlt, -⟩ := HPP.out
              exact ⟨⟨i + 1, hlt, by push_cast; rfl, _, H5.out, p1⟩, by simp [intOf]; omega⟩
            · have kE : (E == 120) = false := beq_eq_false_iff_ne.2 hE
              clear hK hE
              go_wp2_with fail
              rw [X1.out]
              obtain ⟨⟨p1, p2, p3⟩, hlt, -⟩ := HPP.out
              exact ⟨⟨i + 1, hlt, by push_cast; rfl, _, H4.out, p1⟩, by simp [intOf]; omega⟩
        · obtain rfl : i = n2 := by omega
          obtain ⟨p1, p2, p3⟩ := hP
          obtain ⟨K, hK⟩ : ∃ K, D.k = K := ⟨_, rfl⟩
          obtain ⟨dn, hdn⟩ : ∃ dn, D.dn = dn := ⟨_, rfl⟩
          have hDn := hS.down
          rw [hdn] at hDn p3
          rw [hK] at p2 p3
          have hKK : (K == c0 + a1) = dn ∧ ¬ K > c0 + a1 := by
            rcases p3 with ⟨h1, h2, h3⟩ | ⟨h1, h2⟩
            · rw [h1]; exact ⟨beq_eq_false_iff_ne.2 (by omega), by omega⟩
            · rw [h1]; exact ⟨beq_iff_eq.2 h2, by omega⟩
          have kk := hKK.1
          have kg : decide (K > c0 + a1) = false := decide_eq_false hKK.2
          have x2 : wrap64 (c0 + a1) = c0 + a1 := wrap64_in' _ (by have := Hc.out; have := Ha.out; omega)
          have wa' : wrap64 a1 = a1 := wrap64_in' _ (by have := Ha.out; omega)
          have HX := Lib.hid hDn
          have hKb : 0 ≤ K ∧ K < 4611686018427387904 := by
            have := Hc.out
            have := Ha.out
            rcases p3 with ⟨h1, h2, h3⟩ | ⟨h1, h2⟩
            · omega
            · omega
          have HS := Lib.hid (And.intro hS (And.intro hK (And.intro p1 hKb)))
          clear hi hlt hS hK hdn hDn p1 p2 p3 hKK hKb
          go_wp2_with fail
          refine HX.out.mono ?_
          rintro e w8 ⟨rfl, hb8⟩
          have hS := HS.out.1.go hb8
          have HX2 := Lib.hid (by have h := hS.calls; rw [HS.out.2.1] at h; exact h)
          have HS2 := Lib.hid hS
          clear HX hb8 hS
          go_wp2_with fail
          refine HX2.out.mono ?_
          rintro e w9 ⟨rfl, hb9⟩
          have hS := HS2.out.go hb9
          have HX3 := Lib.hid (by have h := hS.calls; rw [HS.out.2.1] at h; exact h)
          have HS3 := Lib.hid hS
          clear HX2 HS2 hb9 hS
          have kb : (dn != dn) = false := by cases dn <;> rfl
          go_wp2_with fail
          refine HX3.out.mono ?_
          rintro e w10 ⟨rfl, hb10⟩
          have hS := HS3.out.go hb10
          have HX := Lib.hid hS.pull
          clear HX3 HS3 hb10 hS
          go_wp2_with fail
          refine HX.out.mono ?_
          rintro e w11 ⟨rfl, hS, -⟩
          obtain ⟨D2, hD2⟩ : ∃ D2, ({ D with dn := true } : Dv) = D2 := ⟨_, rfl⟩
          rw [hD2] at hS
          have hdn2 : D2.dn = true := by rw [← hD2]
          have hSl2 : D2.S.length = 8 := by rw [← hD2]; exact HS.out.2.2.1
          have hk2 : 0 ≤ D2.k ∧ D2.k < 4611686018427387904 := by rw [← hD2]; show 0 ≤ D.k ∧ D.k < 4611686018427387904; rw [HS.out.2.1]; exact HS.out.2.2.2
          clear HX x2 wa' kk kg kb
          have HX := Lib.hid hS.cached
          have HS4 := Lib.hid hS
          have HQ := Lib.hid (And.intro hdn2 (And.intro hSl2 hk2))
          obtain ⟨m, hm⟩ : ∃ m, D2.C = m := ⟨_, rfl⟩
          rw [hm] at HX
          clear hS hdn2 hSl2 hk2 hD2
          go_wp2_with fail
          refine HX.out.mono ?_
          rintro e w12 ⟨AC, cC, rfl, -, hb12⟩
          have hS := HS4.out.go hb12
          have HX2 := Lib.hid (show Calls Try.prog 21 #[.pointer (some ⟨d, 0, none⟩), .int .i64 0] w12 _ from hS.safe 0 (by rw [HQ.out.2.1]; omega))
          have HS5 := Lib.hid hS
          clear HX HS4 hb12 hS
          go_wp2_with fail
          refine HX2.out.mono ?_
          rintro e w13 ⟨AS, cS, rfl, hoS, hb13⟩
          have hS := HS5.out.more hb13
          obtain ⟨X, hX⟩ : ∃ X : Nat → Prop, (fun b => False ∨ w12.heap.size ≤ b ∧ b < w13.heap.size) = X := ⟨_, rfl⟩
          rw [hX] at hS
          have HXS := Lib.hid (show ∀ g, (Value.slice AS 128 cS).ownBlock = some g → X g from fun g hg => by rw [← hX]; exact .inr (hoS.lt g hg))
          obtain ⟨w14, hrun, ho14, hg14⟩ := runMake (P := Try.prog) w13 w13.heap.size eb 128 (by omega) (by unfold maxLen; omega) (Nat.le_refl _)
          rw [made_fuX 0] at ho14
          have hb14 : Below w13.heap.size w13 w14 := (Below.refl _ _).grown hg14 (Nat.le_refl _) (by simp)
          have hpt : ∀ l, putV D2 0 l = (120, D2) := fun l => by
            have hE : putE D2 0 l.length = 120 := if_pos HQ.out.1
            unfold putV; rw [hE]; rfl
          have HX3 := Lib.hid (by have h := hS.write hb14 HQ.out.2.2 ho14 0; rw [hpt] at h; exact h)
          have HoS := Lib.hid (own_below hoS hb14)
          clear HX2 HS5 hX hoS hb13 hb14 ho14 hg14 hpt hS
          go_wp2_with (at_make; refine wpList_make_run hrun rfl rfl rfl rfl ?_)
          clear hrun
          refine HX3.out.mono ?_
          rintro e w15 ⟨rfl, hS, hk15⟩
          have hoS := own_keptV HoS.out hk15 HXS.out
          have hfl : flushV D2 = (120, D2) := if_pos HQ.out.1
          have HX4 := Lib.hid (by have h := hS.flush HQ.out.2.2; rw [hfl] at h; exact h)
          have HoS2 := Lib.hid hoS
          clear HX3 HoS hS hk15 hoS hfl
          go_wp2_with fail
          refine HX4.out.mono ?_
          rintro e w16 ⟨rfl, hS, hk16⟩
          have hoS := own_keptV HoS2.out hk16 HXS.out
          have hpl : planV D2 1 = (120, D2) := if_pos HQ.out.1
          have HX5 := Lib.hid (by have h := hS.plan 1 (by omega); rw [hpl] at h; exact h)
          have HoS3 := Lib.hid hoS
          clear HX4 HoS2 hS hk16 hoS hpl
          go_wp2_with fail
          refine HX5.out.mono ?_
          rintro e w17 ⟨rfl, hS, hk17⟩
          have hoS := own_keptV HoS3.out hk17 HXS.out
          have HX6 := Lib.hid (show Calls Try.prog 21 #[.pointer (some ⟨d, 0, none⟩), .int .i64 0] w17 _ from hS.safe 0 (by rw [HQ.out.2.1]; omega))
          have HoS4 := Lib.hid (And.intro hoS hS)
          clear HX5 HoS3 hS hk17 hoS
          go_wp2_with fail
          refine HX6.out.mono ?_
          rintro e w18 ⟨AT, cT, rfl, hoT, hb18⟩
          have hoS := own_below HoS4.out.1 hb18
          have hS := HoS4.out.2.go hb18
          have HX7 := Lib.hid hS.cached
          rw [hm] at HX7
          have HoT := Lib.hid (And.intro hoS (And.intro hoT hS))
          clear HX6 HoS4 hb18 hoS hoT hS
          go_wp2_with fail
          refine HX7.out.mono ?_
          rintro e w19 ⟨AC2, cC2, rfl, -, hb19⟩
          obtain ⟨hoS, hoT, hS⟩ := HoT.out
          have hs0 := hS.ok.s
          obtain ⟨l, hl⟩ : ∃ l, D2.S.getD 0 [] = l := ⟨_, rfl⟩
          rw [hl] at hoS hoT
          have hll : l.length = 128 := by rw [← hl]; exact seen_len hS.ok (by rw [HQ.out.2.1]; omega)
          have t1 := str_own (own_below hoS hb19) hll
          have t2 := str_own (own_below hoT hb19) hll
          have HB := Lib.hid (bnext hS.below hb19)
          clear HX7 HoT hoS hoT hS hs0 hl hll hb19
          go_wp2_with fail
          go_ret
          exact ⟨rfl, HB.out⟩
end Go.Proofs.Ytpleaicpkpjkjaa
