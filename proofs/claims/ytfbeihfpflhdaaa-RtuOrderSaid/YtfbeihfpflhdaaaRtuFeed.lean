/-
  Feed of package rtu, walked. Conditions stand at each theorem.
-/
import Derived.Test.YtfbeihfpflhdaaaRtuHold
import Derived.Deep.RegionLaw
namespace Go.Proofs.Ytfbeihfpflhdaaa
open Go Go.RowKit Go.Kw Go.Kw.Crc
set_option linter.unusedVariables false
set_option linter.unusedSimpArgs false

theorem step_append_run {P : Program} {ops : Array Oper} {o : Oper} {a : Act} {w : World} {K : Act → World → Prop} {Q : Exit → Act → World → Prop} {E : Prop}
    (hg : o.guard = none) (d x : Operand) (dT sT ty : TypeId) (hop : o.op = Op.call { callee := Callee.builtin Builtin.append, args := #[d, x], argTypes := #[dT, sT] }) (hty : o.type = ty)
    (v u : Value) (hd : a.eval d = v) (hx : a.eval x = u) {v' : Value} {w' : World} (hr : (Builtin.append_ #[dT, sT] ty #[v, u]).run P w = .ok v' w') (hK : K (a.put o.dst v') w') :
    if Region.wanted o (yielded ops a.tmps) = true then Oper.wp P o a w K Q else E := by
  subst hty
  have hw : Region.wanted o (yielded ops a.tmps) = true := by simp [Region.wanted, hg]
  rw [if_pos hw]
  unfold Oper.wp
  simp [execOp, hop, resolve, invoke, builtin, hd, hx, hr, Result.andThen]
  exact hK
/-- A call of a function of one argument as a step of a drawn region. -/
theorem step_call1 {P : Program} {ops : Array Oper} {o : Oper} {a : Act} {w : World} {K : Act → World → Prop} {Q : Exit → Act → World → Prop} {E : Prop}
    (hg : o.guard = none) (f : FuncId) (x : Operand) (ts : Array TypeId) (hop : o.op = Op.call { callee := Callee.value (Operand.func f), args := #[x], argTypes := ts }) (v : Value) (hx : a.eval x = v)
    (hent : ∀ args w, (callFunc f args).run P w = .ok (.enter f args) w) {R : Ending → World → Prop} (hc : Calls P f #[v] w R) (hR : ∀ e w', R e w' → ∃ u, e = .returned u ∧ K (a.put o.dst u) w') :
    if Region.wanted o (yielded ops a.tmps) = true then Oper.wp P o a w K Q else E := by
  have hw : Region.wanted o (yielded ops a.tmps) = true := by simp [Region.wanted, hg]
  rw [if_pos hw]
  unfold Oper.wp
  have hf : a.eval (Operand.func f) = .func (.func f) #[] #[] := rfl
  have hrun : (execOp a.eval o).run P w = .ok (.enter f #[v]) w := by simp [execOp, hop, resolve, invoke, hf, hent, go_sem]; cases x <;> simpa [Act.eval] using hx
  rw [hrun, Oper.upon_enter]
  exact hc.mono fun e w' hr => by obtain ⟨u, rfl, hk⟩ := hR e w' hr; exact hk
/-- 'g.pieces = append(g.pieces, f)'. -/
theorem push_g {W w : World} {S : Nat → Prop} {g : Nat} {s now last bad : Int} {fs : List (List UInt8)} {sp : Bool} {A0 : Option Addr} {c0 : Nat} (hG : GBox W g s (.slice A0 fs.length c0) sp now last bad) (hO : OwL W 0 (fun b => b ≠ g) (.slice A0 fs.length c0) fs)
    (hW : ∀ k, (Value.slice A0 fs.length c0).ownBlock = some k → k ≠ g ∧ ¬ S k) (hb : Below W.heap.size W w) (hS : ∀ k, S k → k < W.heap.size) (f : List UInt8) (m : Nat) (hm : m = f.length) {A : Option Addr} {c : Nat} (o : w.ownsRow W.heap.size 5 1 (.slice A m c) m (bv f)) (hlen : fs.length ≤ 1000) :
    ∃ A' c' w', (Builtin.append_ #[48, 48] 48 #[.slice A0 fs.length c0, .slice (some ⟨w.heap.size, 0, none⟩) 1 1]).run Try.prog (w.alloc (.cells #[.slice A m c] 22)) = .ok (.slice A' (fs.length + 1) c') w' ∧
      GBox w' g s (.slice A0 fs.length c0) sp now last bad ∧ HoldG (w'.setCell ⟨g, 1, none⟩ (.slice A' (fs.length + 1) c')) S g s (fs ++ [f]) sp now last bad ∧
      Kept (fun k => S k ∧ k ≠ g) W (w'.setCell ⟨g, 1, none⟩ (.slice A' (fs.length + 1) c')) ∧ Kept (fun k => k < W.heap.size ∧ some k ≠ (Value.slice A0 fs.length c0).ownBlock) W w' := by
  subst hm
  have hgl := hG.lt
  have hown : ∀ k, (Value.slice A0 fs.length c0).ownBlock = some k → k < W.heap.size := fun k hk => by
    obtain ⟨A1, c1, e, -, -, -, h4⟩ := hO.form
    rw [e] at hk
    cases A1 with
    | none => simp [Value.ownBlock] at hk
    | some a => obtain ⟨g', rfl, -, hg⟩ := h4 a rfl; simp [Value.ownBlock] at hk; omega
  have hOw := hO.go hb
  have hGw := hG.below hb
  obtain ⟨A1, c1, e1, z1, z2, z3, -⟩ := own_form o
  injection e1 with e1 _ e2
  subst e1 e2
  have hr : RdY w (fun b => b ≠ g ∧ some b ≠ (Value.slice A0 fs.length c0).ownBlock) A f := RdY.of_own o (fun b hb' => ⟨by omega, fun h => by have := hown b h.symm; omega⟩)
  obtain ⟨A', c', w', hrun, o', g', -, own'⟩ := OwL.push hOw f hr (fun h => (z3 h).1) z1 (by unfold maxLen at z2; omega) (Nat.zero_le _) (by omega)
  have hsz := hb.size
  have hgg : (w.alloc (.cells #[.slice A f.length c] 22)).grownBy w' (Value.slice A0 fs.length c0).ownBlock := g'
  have hG' : GBox w' g s (.slice A0 fs.length c0) sp now last bad := (hgg.block g (by simp; have := hGw.lt; omega) (fun h => (hW g h.symm).1 rfl)).trans (hGw.below (bstep w _))
  have hne : ∀ k, (Value.slice A' (fs.length + 1) c').ownBlock = some k → k ≠ g ∧ ¬ S k := fun k hk => by
    rcases own' with e | e
    · exact hW k (e ▸ hk)
    · rw [e] at hk; injection hk with hk
      exact ⟨by omega, fun h => by have := hS k h; omega⟩
  refine ⟨A', c', w', hrun, hG', ⟨A', c', ?_, ?_, ?_⟩, ?_, ?_⟩
  · rw [List.length_append]; exact hG'.set1 _
  · rw [List.length_append]
    obtain ⟨ps, q1, q2⟩ := o'
    refine ⟨ps, ?_, ?_⟩
    · rw [List.length_append] at q1
      rw [List.length_append]
      exact own_keptO q1 ((Kept.refl (fun b => b ≠ g) w').setCell (p := ⟨g, 1, none⟩) (by simp) _) (fun k hk => (hne k hk).1)
    · exact q2.kept (((Kept.refl (fun b => b ≠ g) w').setCell (p := ⟨g, 1, none⟩) (by simp) _).mono fun k _ hh => hh.1)
  · rw [List.length_append]; exact hne
  · exact ((((hb.keptS _).alloc _).grown hgg (fun k hk => .inr (fun h => (hW k hk).2 h.1))).setCell (p := ⟨g, 1, none⟩) (by simp) _)
  · exact (((hb.keptS _).alloc _).grown hgg (fun k hk => .inr (fun h => h.2 hk.symm)))
theorem none_nil (w : World) : Calls Try.prog 27 #[.pointer none] w fun e w' => e = .returned (.bool true) ∧ w' = w := by
  go_enter Try.func27, Try.ntmps27
  go_wp2_with fail
  go_ret
  exact ⟨rfl, rfl⟩
theorem none_zero (p : Nat) (w : World) (hc : w.cell? ⟨p, 0, none⟩ = some (.int .i64 0)) : Calls Try.prog 27 #[.pointer (some ⟨p, 0, none⟩)] w fun e w' => e = .returned (.bool true) ∧ w' = w := by
  go_enter Try.func27, Try.ntmps27
  go_wp2_with fail
  go_ret
  exact ⟨rfl, rfl⟩
theorem feed_nil (t : Int) (A : Option Addr) (n c : Nat) (w : World) : Calls Try.prog 17 #[.pointer none, .int .i64 t, .slice A n c] w fun e w' => e = .returned (.tuple #[fv 0 none 0 0, .bool false, .int .i64 1]) ∧ Below w.heap.size w w' := by
  go_enter Try.func17, Try.ntmps17
  go_wp2_with fail
  refine (none_nil _).mono ?_
  rintro e w' ⟨rfl, hww⟩
  rw [hww]
  clear hww
  go_wp2_with fail
  refine bodyPost_ret (v := .tuple #[fv 0 none 0 0, .bool false, .int .i64 1]) ?_ rfl ?_
  · simp [results, fv, go_sem]
  · exact ⟨rfl, bstep w _⟩
set_option maxRecDepth 100000 in
set_option maxHeartbeats 2000000 in
theorem feed_take {S : Nat → Prop} (g : Nat) (s : Int) (hs1 : 1 ≤ s) (hs2 : s ≤ 1099511627776) (fs : List (List UInt8)) (hl : fs.length ≤ 256) (L : Nat) (hL : fs.flatten.length = L) (hroom : L < 256) (now last bad t : Int) (A : Option Addr) (c n : Nat) (b : List UInt8) (hn : n = b.length) (hn1 : 1 ≤ n) (hn2 : n ≤ 1000) (hc : n ≤ c) (hc2 : c ≤ 9223372036854775807)
    (ht : now ≤ t) (ht0 : 0 ≤ t) (ht2 : t ≤ 4611686018427387904) (hl0 : 0 ≤ last) (hl1 : last ≤ 4611686018427387904) (hdue : fs = [] ∨ t < last + s) (w : World) (h : HoldG w S g s fs false now last bad) (hR : RdB w w.heap.size A b) (hS : ∀ k, S k → k < w.heap.size) :
    Calls Try.prog 17 #[.pointer (some ⟨g, 0, none⟩), .int .i64 t, .slice A n c] w fun e w' => e = .returned (.tuple #[fv 0 none 0 0, .bool false, .int .i64 0]) ∧
      HoldG w' S g s (fs ++ [b.take (256 - L)]) (decide (256 - (L : Int) < n)) t t bad ∧ Kept (fun k => S k ∧ k ≠ g) w w' := by
  obtain ⟨A0, c0, hG, hO, hW⟩ := h
  have hgl := hG.lt
  have k1 : decide (t < now) = false := by simp; omega
  have k2 : decide (4611686018427387904 < t) = false := by simp; omega
  obtain ⟨W1, hW1⟩ : ∃ W1, w.alloc (.cells #[.int .i64 0, .slice none 0 0] 24) = W1 := ⟨_, rfl⟩
  have hb1 : Below w.heap.size w W1 := by rw [← hW1]; exact bstep w _
  have x1 : Box2 W1 w.heap.size 24 (.int .i64 0) (.slice none 0 0) := by rw [← hW1]; exact Box2.new w _ _ _
  have h1 : HoldG W1 S g s fs false now last bad := HoldG.go ⟨A0, c0, hG, hO, hW⟩ hb1
  have G1 := hG.below hb1
  have g0 := G1.c0
  have g3 := G1.c3
  have f3 := G1.fr 3
  have hs1' : W1.heap.size = w.heap.size + 1 := by rw [← hW1]; simp
  obtain ⟨R, hRe⟩ : ∃ R, w.heap.size = R := ⟨_, rfl⟩
  have Hdue := Lib.hid hdue
  have Hb := Lib.hid hn
  have HL := Lib.hid hL
  clear hdue hn hL
  go_enter Try.func17, Try.ntmps17
  go_wp2_with fail
  refine (none_calls g s hs1 W1 g0).mono ?_
  rintro e w' ⟨rfl, hww⟩
  rw [hww]
  clear hww hW1
  have hb2 : Below w.heap.size (W1.setCell ⟨g, 3, none⟩ (.int .i64 t)) ((W1.setCell ⟨g, 3, none⟩ (.int .i64 t)).alloc (.cells #[.int .i64 0, .slice none 0 0] 24)) := (bstep _ _).mono (by simp [hs1'])
  have h2 : HoldG ((W1.setCell ⟨g, 3, none⟩ (.int .i64 t)).alloc (.cells #[.int .i64 0, .slice none 0 0] 24)) S g s fs false t last bad := (h1.set3 t).go (bstep _ _)
  have y2 := Box2.new (W1.setCell ⟨g, 3, none⟩ (.int .i64 t)) 24 (.int .i64 0) (.slice none 0 0)
  have x2 : Box2 ((W1.setCell ⟨g, 3, none⟩ (.int .i64 t)).alloc (.cells #[.int .i64 0, .slice none 0 0] 24)) w.heap.size 24 (.int .i64 0) (.slice none 0 0) := (x1.far (p := ⟨g, 3, none⟩) (by simp; omega) _).below (bstep _ _)
  have K2 : Kept (fun k => S k ∧ k ≠ g) w ((W1.setCell ⟨g, 3, none⟩ (.int .i64 t)).alloc (.cells #[.int .i64 0, .slice none 0 0] 24)) := ((hb1.keptS _).setCell (p := ⟨g, 3, none⟩) (by simp) _).next (bstep _ _)
  have r2 : RdB ((W1.setCell ⟨g, 3, none⟩ (.int .i64 t)).alloc (.cells #[.int .i64 0, .slice none 0 0] 24)) ((W1.setCell ⟨g, 3, none⟩ (.int .i64 t)).alloc (.cells #[.int .i64 0, .slice none 0 0] 24)).heap.size A b := by
    refine RdB.keptN (S := fun b => b ≠ g) hR (Nat.le_refl _) (((hb1.keptS _).setCell (p := ⟨g, 3, none⟩) (by simp) _).next (bstep _ _)) (fun b off x hc e => hG.no8 off x (e ▸ hc))
  have hs2' : ((W1.setCell ⟨g, 3, none⟩ (.int .i64 t)).alloc (.cells #[.int .i64 0, .slice none 0 0] 24)).heap.size = w.heap.size + 2 := by simp [hs1']
  have hz2 : (W1.setCell ⟨g, 3, none⟩ (.int .i64 t)).heap.size = w.heap.size + 1 := by simp [hs1']
  rw [hz2] at y2
  go_wp2_with fail
  generalize ((W1.setCell ⟨g, 3, none⟩ (.int .i64 t)).alloc (.cells #[.int .i64 0, .slice none 0 0] 24)) = W2 at *
  clear hb2 x1 h1 G1 g0 g3 f3 hb1 hz2 hs1' hR hG hO hW
  rw [hRe] at x2 y2 hs2' hS hgl
  clear hRe
  rcases Hdue.out with hz | hz
  · refine (dueG_none g s hs1 fs false t last bad W2 h2 (by rw [hz]; rfl)).mono ?_
    rintro e w3 ⟨rfl, hb3⟩
    clear hz
    have h3 := h2.go hb3
    have hw1 : IntKind.i64.wrap (256 - (L : Int)) = 256 - (L : Int) := IntWalk.i64_in _ (by omega)
    obtain ⟨m, hm⟩ : ∃ m, m = min n (256 - L) := ⟨_, rfl⟩
    have hmin : min (n : Int) (256 - (L : Int)) = (m : Int) := by omega
    have hm1 : 1 ≤ m := by omega
    have hm2 : m ≤ n := by omega
    obtain ⟨sp, hsp⟩ : ∃ sp, decide (256 - (L : Int) < (n : Int)) = sp := ⟨_, rfl⟩
    have Hsp := Lib.hid hsp
    have Htk : Hid (b.take (256 - L) = b.take m ∧ (b.take m).length = m) := by
      have := Hb.out
      refine ⟨?_, by simp; omega⟩
      rcases Nat.lt_or_ge n (256 - L) with h | h
      · rw [List.take_of_length_le (by omega), List.take_of_length_le (by omega)]
      · congr 1; omega
    have Hm := Lib.hid hm
    clear hm
    go_wp2_with fail
    refine (heldG_calls g s hs1 fs (by omega) (by rw [HL.out]; omega) false t last bad w3 h3).mono ?_
    rintro e w4 ⟨rfl, hb4⟩
    rw [HL.out]
    have h4 := h3.go hb4
    obtain ⟨A4, c4, G4⟩ := h4.box
    have g2 := G4.c2
    have f2 := G4.fr 2
    clear G4
    go_wp2_with fail
    have h5 := h4.set2 sp
    have hb34 := hb3.trans (hb4.mono hb3.size)
    have y5 : Box2 (w4.setCell ⟨g, 2, none⟩ (.bool sp)) (R + 1) 24 (.int .i64 0) (.slice none 0 0) := (y2.below hb34).far (p := ⟨g, 2, none⟩) (by simp; omega) _
    have x5 : Box2 (w4.setCell ⟨g, 2, none⟩ (.bool sp)) R 24 (.int .i64 0) (.slice none 0 0) := (x2.below hb34).far (p := ⟨g, 2, none⟩) (by simp; omega) _
    have K5 : Kept (fun k => S k ∧ k ≠ g) w (w4.setCell ⟨g, 2, none⟩ (.bool sp)) := (K2.trans (hb34.keptS _)).setCell (p := ⟨g, 2, none⟩) (by simp) _
    have r5 : RdB (w4.setCell ⟨g, 2, none⟩ (.bool sp)) (w4.setCell ⟨g, 2, none⟩ (.bool sp)).heap.size A b := by
      obtain ⟨A9, c9, G9⟩ := h2.box
      exact RdB.keptN (S := fun b => b ≠ g) r2 (Nat.le_refl _) ((hb34.keptS _).setCell (p := ⟨g, 2, none⟩) (by simp) _) (fun b off x hc e => G9.no8 off x (e ▸ hc))
    have hs5 : R + 2 ≤ (w4.setCell ⟨g, 2, none⟩ (.bool sp)).heap.size := by have := hb34.size; simp [World.setCell]; omega
    generalize w4.setCell ⟨g, 2, none⟩ (.bool sp) = W5 at *
    clear h3 h4 g2 f2 hb34 hb4 hb3 r2 K2 x2 y2 h2
    obtain ⟨A5, c5, G5, O5, hW5⟩ := h5
    have q1 : (m : Int) ≤ (c : Int) := by omega
    have q2 : ((m : Int)).toNat = m := by omega
    have Hcl : Hid (Calls Try.prog 29 #[.slice A m c] W5.drew fun e w' => ∃ A' c', e = .returned (.slice A' m c') ∧ w'.ownsRow W5.drew.heap.size 5 1 (.slice A' m c') m (bv (b.take m)) ∧ Below W5.drew.heap.size W5.drew w') :=
      clone_n A c m (b.take m) Htk.out.2.symm (by omega) W5.drew (rdB_take r5 m (by have := Hb.out; omega)) (fun h => by
        rcases r5 with h' | ⟨b', off', e', -⟩
        · have := Hb.out; omega
        · rw [h] at e'; cases e')
    have HG5 := Lib.hid (show GBox W5.drew g s (.slice A5 fs.length c5) sp t last bad from G5)
    have HO5 := Lib.hid (show OwL W5.drew 0 (fun b => b ≠ g) (.slice A5 fs.length c5) fs from O5)
    have HW5 := Lib.hid hW5
    have HS5 : Hid (∀ k, S k → k < W5.drew.heap.size) := fun k hk => by have := hS k hk; show k < W5.heap.size; omega
    have HS := Lib.hid hS
    clear G5 O5 hW5 r5 hS
    have e0 := HG5.out.c1
    have e1 := HG5.out.fr 1
    go_region_law (first
        | (refine step_call1 (by rfl) 29 (.tmp 84) #[22] (by rfl) (.slice A m c) (by simp [Act.eval, Act.put]) (enters_of Try.func29 (by kernel_rfl) rfl) Hcl.out ?_; rintro e w6 ⟨A6, c6, rfl, o6, hb6⟩; refine ⟨_, rfl, ?_⟩; obtain ⟨A8, c8, w8, hrun, g8, h8, k8, j8⟩ := push_g HG5.out HO5.out HW5.out hb6 HS5.out (b.take m) m Htk.out.2.symm o6 (by omega); have Hrun := Lib.hid hrun; have e6 := (HG5.out.below hb6).c1; have e6' := ((HG5.out.below hb6).below (bstep w6 (.cells #[.slice A6 m c6] 22))).c1; have e7 := g8.c1; have e8 := g8.fr 1; clear hrun g8 o6)
        | (refine step_append_run (by rfl) (.tmp 81) (.tmp 86) _ _ _ (by rfl) (by rfl) (.slice A5 fs.length c5) (.slice (some ⟨w6.heap.size, 0, none⟩) 1 1) (by simp [Act.eval, Act.put]) (by simp [Act.eval, Act.put]) Hrun.out ?_))
    all_goals
      have y9 : Box2 (w8.setCell ⟨g, 1, none⟩ (.slice A8 (fs.length + 1) c8)) (R + 1) 24 (.int .i64 0) (.slice none 0 0) := by
        obtain ⟨ps, q1, -⟩ := HO5.out
        exact (y5.keptS (W := W5.drew) j8 ⟨by show R + 1 < W5.heap.size; omega, y5.not_row (by decide) q1⟩).far (p := ⟨g, 1, none⟩) (by simp; omega) _
      have x9 : Box2 (w8.setCell ⟨g, 1, none⟩ (.slice A8 (fs.length + 1) c8)) R 24 (.int .i64 0) (.slice none 0 0) := by
        obtain ⟨ps, q1, -⟩ := HO5.out
        exact (x5.keptS (W := W5.drew) j8 ⟨by show R < W5.heap.size; omega, x5.not_row (by decide) q1⟩).far (p := ⟨g, 1, none⟩) (by simp; omega) _
      have K9 := (K5.drew).trans k8
      generalize (w8.setCell ⟨g, 1, none⟩ (.slice A8 (fs.length + 1) c8)) = W9 at *
      obtain ⟨A9, c9, G9⟩ := h8.box
      have g4 := G9.c4
      have f4 := G9.fr 4
      have a0 := y9.c0
      have a1 := y9.c1
      have b0 := x9.c0
      have b1 := x9.c1
      have b2 := x9.f0
      have b3 := x9.f1
      have hRg : R ≠ g := by omega
      have hgR : g ≠ R := by omega
      have hg1 : R + 1 ≠ g := by omega
      have hg2 : g ≠ R + 1 := by omega
      clear G9 j8 k8 K5 y5 x5 e0 e1 e6 e6' e7 e8 hb6
      go_wp2_with fail
      have h10 := (h8.set4 t).boxed (x9.far (p := ⟨g, 4, none⟩) hRg (.int .i64 t)) hRg (.int .i64 0) (.slice none 0 0)
      have K10 := ((K9.setCell (p := ⟨g, 4, none⟩) (by simp) (.int .i64 t)).setCell (p := ⟨R, 0, none⟩) (fun h => by have := HS.out _ h.1; simp at this) (.int .i64 0)).setCell (p := ⟨R, 1, none⟩) (fun h => by have := HS.out _ h.1; simp at this) (.slice none 0 0)
      refine bodyPost_ret (v := .tuple #[fv 0 none 0 0, .bool false, .int .i64 0]) ?_ rfl ⟨rfl, ?_, K10⟩
      · simp [results, fv, go_sem, b0, b1, b2, b3, hRg, hgR]
      · rw [Htk.out.1, Hsp.out]; exact h10
  · have hf1 : 1 ≤ fs.length ∨ fs = [] := by rcases fs with _ | ⟨a, l⟩; exact .inr rfl; exact .inl (by simp)
    rcases hf1 with hf1 | hf1
    · skip
      have kd : decide (last + s ≤ t) = false := by simp; omega
      refine (dueG_some g s hs1 hs2 fs hf1 false t last bad hl0 hl1 W2 h2).mono ?_
      rintro e w3 ⟨rfl, hb3⟩
      clear hz hf1
      have h3 := h2.go hb3
      have hw1 : IntKind.i64.wrap (256 - (L : Int)) = 256 - (L : Int) := IntWalk.i64_in _ (by omega)
      obtain ⟨m, hm⟩ : ∃ m, m = min n (256 - L) := ⟨_, rfl⟩
      have hmin : min (n : Int) (256 - (L : Int)) = (m : Int) := by omega
      have hm1 : 1 ≤ m := by omega
      have hm2 : m ≤ n := by omega
      obtain ⟨sp, hsp⟩ : ∃ sp, decide (256 - (L : Int) < (n : Int)) = sp := ⟨_, rfl⟩
      have Hsp := Lib.hid hsp
      have Htk : Hid (b.take (256 - L) = b.take m ∧ (b.take m).length = m) := by
        have := Hb.out
        refine ⟨?_, by simp; omega⟩
        rcases Nat.lt_or_ge n (256 - L) with h | h
        · rw [List.take_of_length_le (by omega), List.take_of_length_le (by omega)]
        · congr 1; omega
      have Hm := Lib.hid hm
      clear hm
      go_wp2_with fail
      refine (heldG_calls g s hs1 fs (by omega) (by rw [HL.out]; omega) false t last bad w3 h3).mono ?_
      rintro e w4 ⟨rfl, hb4⟩
      rw [HL.out]
      have h4 := h3.go hb4
      obtain ⟨A4, c4, G4⟩ := h4.box
      have g2 := G4.c2
      have f2 := G4.fr 2
      clear G4
      go_wp2_with fail
      have h5 := h4.set2 sp
      have hb34 := hb3.trans (hb4.mono hb3.size)
      have y5 : Box2 (w4.setCell ⟨g, 2, none⟩ (.bool sp)) (R + 1) 24 (.int .i64 0) (.slice none 0 0) := (y2.below hb34).far (p := ⟨g, 2, none⟩) (by simp; omega) _
      have x5 : Box2 (w4.setCell ⟨g, 2, none⟩ (.bool sp)) R 24 (.int .i64 0) (.slice none 0 0) := (x2.below hb34).far (p := ⟨g, 2, none⟩) (by simp; omega) _
      have K5 : Kept (fun k => S k ∧ k ≠ g) w (w4.setCell ⟨g, 2, none⟩ (.bool sp)) := (K2.trans (hb34.keptS _)).setCell (p := ⟨g, 2, none⟩) (by simp) _
      have r5 : RdB (w4.setCell ⟨g, 2, none⟩ (.bool sp)) (w4.setCell ⟨g, 2, none⟩ (.bool sp)).heap.size A b := by
        obtain ⟨A9, c9, G9⟩ := h2.box
        exact RdB.keptN (S := fun b => b ≠ g) r2 (Nat.le_refl _) ((hb34.keptS _).setCell (p := ⟨g, 2, none⟩) (by simp) _) (fun b off x hc e => G9.no8 off x (e ▸ hc))
      have hs5 : R + 2 ≤ (w4.setCell ⟨g, 2, none⟩ (.bool sp)).heap.size := by have := hb34.size; simp [World.setCell]; omega
      generalize w4.setCell ⟨g, 2, none⟩ (.bool sp) = W5 at *
      clear h3 h4 g2 f2 hb34 hb4 hb3 r2 K2 x2 y2 h2
      obtain ⟨A5, c5, G5, O5, hW5⟩ := h5
      have q1 : (m : Int) ≤ (c : Int) := by omega
      have q2 : ((m : Int)).toNat = m := by omega
      have Hcl : Hid (Calls Try.prog 29 #[.slice A m c] W5.drew fun e w' => ∃ A' c', e = .returned (.slice A' m c') ∧ w'.ownsRow W5.drew.heap.size 5 1 (.slice A' m c') m (bv (b.take m)) ∧ Below W5.drew.heap.size W5.drew w') :=
        clone_n A c m (b.take m) Htk.out.2.symm (by omega) W5.drew (rdB_take r5 m (by have := Hb.out; omega)) (fun h => by
          rcases r5 with h' | ⟨b', off', e', -⟩
          · have := Hb.out; omega
          · rw [h] at e'; cases e')
      have HG5 := Lib.hid (show GBox W5.drew g s (.slice A5 fs.length c5) sp t last bad from G5)
      have HO5 := Lib.hid (show OwL W5.drew 0 (fun b => b ≠ g) (.slice A5 fs.length c5) fs from O5)
      have HW5 := Lib.hid hW5
      have HS5 : Hid (∀ k, S k → k < W5.drew.heap.size) := fun k hk => by have := hS k hk; show k < W5.heap.size; omega
      have HS := Lib.hid hS
      clear G5 O5 hW5 r5 hS
      have e0 := HG5.out.c1
      have e1 := HG5.out.fr 1
      go_region_law (first
          | (refine step_call1 (by rfl) 29 (.tmp 84) #[22] (by rfl) (.slice A m c) (by simp [Act.eval, Act.put]) (enters_of Try.func29 (by kernel_rfl) rfl) Hcl.out ?_; rintro e w6 ⟨A6, c6, rfl, o6, hb6⟩; refine ⟨_, rfl, ?_⟩; obtain ⟨A8, c8, w8, hrun, g8, h8, k8, j8⟩ := push_g HG5.out HO5.out HW5.out hb6 HS5.out (b.take m) m Htk.out.2.symm o6 (by omega); have Hrun := Lib.hid hrun; have e6 := (HG5.out.below hb6).c1; have e6' := ((HG5.out.below hb6).below (bstep w6 (.cells #[.slice A6 m c6] 22))).c1; have e7 := g8.c1; have e8 := g8.fr 1; clear hrun g8 o6)
          | (refine step_append_run (by rfl) (.tmp 81) (.tmp 86) _ _ _ (by rfl) (by rfl) (.slice A5 fs.length c5) (.slice (some ⟨w6.heap.size, 0, none⟩) 1 1) (by simp [Act.eval, Act.put]) (by simp [Act.eval, Act.put]) Hrun.out ?_))
      all_goals
        have y9 : Box2 (w8.setCell ⟨g, 1, none⟩ (.slice A8 (fs.length + 1) c8)) (R + 1) 24 (.int .i64 0) (.slice none 0 0) := by
          obtain ⟨ps, q1, -⟩ := HO5.out
          exact (y5.keptS (W := W5.drew) j8 ⟨by show R + 1 < W5.heap.size; omega, y5.not_row (by decide) q1⟩).far (p := ⟨g, 1, none⟩) (by simp; omega) _
        have x9 : Box2 (w8.setCell ⟨g, 1, none⟩ (.slice A8 (fs.length + 1) c8)) R 24 (.int .i64 0) (.slice none 0 0) := by
          obtain ⟨ps, q1, -⟩ := HO5.out
          exact (x5.keptS (W := W5.drew) j8 ⟨by show R < W5.heap.size; omega, x5.not_row (by decide) q1⟩).far (p := ⟨g, 1, none⟩) (by simp; omega) _
        have K9 := (K5.drew).trans k8
        generalize (w8.setCell ⟨g, 1, none⟩ (.slice A8 (fs.length + 1) c8)) = W9 at *
        obtain ⟨A9, c9, G9⟩ := h8.box
        have g4 := G9.c4
        have f4 := G9.fr 4
        have a0 := y9.c0
        have a1 := y9.c1
        have b0 := x9.c0
        have b1 := x9.c1
        have b2 := x9.f0
        have b3 := x9.f1
        have hRg : R ≠ g := by omega
        have hgR : g ≠ R := by omega
        have hg1 : R + 1 ≠ g := by omega
        have hg2 : g ≠ R + 1 := by omega
        clear G9 j8 k8 K5 y5 x5 e0 e1 e6 e6' e7 e8 hb6
        go_wp2_with fail
        have h10 := (h8.set4 t).boxed (x9.far (p := ⟨g, 4, none⟩) hRg (.int .i64 t)) hRg (.int .i64 0) (.slice none 0 0)
        have K10 := ((K9.setCell (p := ⟨g, 4, none⟩) (by simp) (.int .i64 t)).setCell (p := ⟨R, 0, none⟩) (fun h => by have := HS.out _ h.1; simp at this) (.int .i64 0)).setCell (p := ⟨R, 1, none⟩) (fun h => by have := HS.out _ h.1; simp at this) (.slice none 0 0)
        refine bodyPost_ret (v := .tuple #[fv 0 none 0 0, .bool false, .int .i64 0]) ?_ rfl ⟨rfl, ?_, K10⟩
        · simp [results, fv, go_sem, b0, b1, b2, b3, hRg, hgR]
        · rw [Htk.out.1, Hsp.out]; exact h10
    · refine (dueG_none g s hs1 fs false t last bad W2 h2 (by rw [hf1]; rfl)).mono ?_
      rintro e w3 ⟨rfl, hb3⟩
      clear hz hf1
      have h3 := h2.go hb3
      have hw1 : IntKind.i64.wrap (256 - (L : Int)) = 256 - (L : Int) := IntWalk.i64_in _ (by omega)
      obtain ⟨m, hm⟩ : ∃ m, m = min n (256 - L) := ⟨_, rfl⟩
      have hmin : min (n : Int) (256 - (L : Int)) = (m : Int) := by omega
      have hm1 : 1 ≤ m := by omega
      have hm2 : m ≤ n := by omega
      obtain ⟨sp, hsp⟩ : ∃ sp, decide (256 - (L : Int) < (n : Int)) = sp := ⟨_, rfl⟩
      have Hsp := Lib.hid hsp
      have Htk : Hid (b.take (256 - L) = b.take m ∧ (b.take m).length = m) := by
        have := Hb.out
        refine ⟨?_, by simp; omega⟩
        rcases Nat.lt_or_ge n (256 - L) with h | h
        · rw [List.take_of_length_le (by omega), List.take_of_length_le (by omega)]
        · congr 1; omega
      have Hm := Lib.hid hm
      clear hm
      go_wp2_with fail
      refine (heldG_calls g s hs1 fs (by omega) (by rw [HL.out]; omega) false t last bad w3 h3).mono ?_
      rintro e w4 ⟨rfl, hb4⟩
      rw [HL.out]
      have h4 := h3.go hb4
      obtain ⟨A4, c4, G4⟩ := h4.box
      have g2 := G4.c2
      have f2 := G4.fr 2
      clear G4
      go_wp2_with fail
      have h5 := h4.set2 sp
      have hb34 := hb3.trans (hb4.mono hb3.size)
      have y5 : Box2 (w4.setCell ⟨g, 2, none⟩ (.bool sp)) (R + 1) 24 (.int .i64 0) (.slice none 0 0) := (y2.below hb34).far (p := ⟨g, 2, none⟩) (by simp; omega) _
      have x5 : Box2 (w4.setCell ⟨g, 2, none⟩ (.bool sp)) R 24 (.int .i64 0) (.slice none 0 0) := (x2.below hb34).far (p := ⟨g, 2, none⟩) (by simp; omega) _
      have K5 : Kept (fun k => S k ∧ k ≠ g) w (w4.setCell ⟨g, 2, none⟩ (.bool sp)) := (K2.trans (hb34.keptS _)).setCell (p := ⟨g, 2, none⟩) (by simp) _
      have r5 : RdB (w4.setCell ⟨g, 2, none⟩ (.bool sp)) (w4.setCell ⟨g, 2, none⟩ (.bool sp)).heap.size A b := by
        obtain ⟨A9, c9, G9⟩ := h2.box
        exact RdB.keptN (S := fun b => b ≠ g) r2 (Nat.le_refl _) ((hb34.keptS _).setCell (p := ⟨g, 2, none⟩) (by simp) _) (fun b off x hc e => G9.no8 off x (e ▸ hc))
      have hs5 : R + 2 ≤ (w4.setCell ⟨g, 2, none⟩ (.bool sp)).heap.size := by have := hb34.size; simp [World.setCell]; omega
      generalize w4.setCell ⟨g, 2, none⟩ (.bool sp) = W5 at *
      clear h3 h4 g2 f2 hb34 hb4 hb3 r2 K2 x2 y2 h2
      obtain ⟨A5, c5, G5, O5, hW5⟩ := h5
      have q1 : (m : Int) ≤ (c : Int) := by omega
      have q2 : ((m : Int)).toNat = m := by omega
      have Hcl : Hid (Calls Try.prog 29 #[.slice A m c] W5.drew fun e w' => ∃ A' c', e = .returned (.slice A' m c') ∧ w'.ownsRow W5.drew.heap.size 5 1 (.slice A' m c') m (bv (b.take m)) ∧ Below W5.drew.heap.size W5.drew w') :=
        clone_n A c m (b.take m) Htk.out.2.symm (by omega) W5.drew (rdB_take r5 m (by have := Hb.out; omega)) (fun h => by
          rcases r5 with h' | ⟨b', off', e', -⟩
          · have := Hb.out; omega
          · rw [h] at e'; cases e')
      have HG5 := Lib.hid (show GBox W5.drew g s (.slice A5 fs.length c5) sp t last bad from G5)
      have HO5 := Lib.hid (show OwL W5.drew 0 (fun b => b ≠ g) (.slice A5 fs.length c5) fs from O5)
      have HW5 := Lib.hid hW5
      have HS5 : Hid (∀ k, S k → k < W5.drew.heap.size) := fun k hk => by have := hS k hk; show k < W5.heap.size; omega
      have HS := Lib.hid hS
      clear G5 O5 hW5 r5 hS
      have e0 := HG5.out.c1
      have e1 := HG5.out.fr 1
      go_region_law (first
          | (refine step_call1 (by rfl) 29 (.tmp 84) #[22] (by rfl) (.slice A m c) (by simp [Act.eval, Act.put]) (enters_of Try.func29 (by kernel_rfl) rfl) Hcl.out ?_; rintro e w6 ⟨A6, c6, rfl, o6, hb6⟩; refine ⟨_, rfl, ?_⟩; obtain ⟨A8, c8, w8, hrun, g8, h8, k8, j8⟩ := push_g HG5.out HO5.out HW5.out hb6 HS5.out (b.take m) m Htk.out.2.symm o6 (by omega); have Hrun := Lib.hid hrun; have e6 := (HG5.out.below hb6).c1; have e6' := ((HG5.out.below hb6).below (bstep w6 (.cells #[.slice A6 m c6] 22))).c1; have e7 := g8.c1; have e8 := g8.fr 1; clear hrun g8 o6)
          | (refine step_append_run (by rfl) (.tmp 81) (.tmp 86) _ _ _ (by rfl) (by rfl) (.slice A5 fs.length c5) (.slice (some ⟨w6.heap.size, 0, none⟩) 1 1) (by simp [Act.eval, Act.put]) (by simp [Act.eval, Act.put]) Hrun.out ?_))
      all_goals
        have y9 : Box2 (w8.setCell ⟨g, 1, none⟩ (.slice A8 (fs.length + 1) c8)) (R + 1) 24 (.int .i64 0) (.slice none 0 0) := by
          obtain ⟨ps, q1, -⟩ := HO5.out
          exact (y5.keptS (W := W5.drew) j8 ⟨by show R + 1 < W5.heap.size; omega, y5.not_row (by decide) q1⟩).far (p := ⟨g, 1, none⟩) (by simp; omega) _
        have x9 : Box2 (w8.setCell ⟨g, 1, none⟩ (.slice A8 (fs.length + 1) c8)) R 24 (.int .i64 0) (.slice none 0 0) := by
          obtain ⟨ps, q1, -⟩ := HO5.out
          exact (x5.keptS (W := W5.drew) j8 ⟨by show R < W5.heap.size; omega, x5.not_row (by decide) q1⟩).far (p := ⟨g, 1, none⟩) (by simp; omega) _
        have K9 := (K5.drew).trans k8
        generalize (w8.setCell ⟨g, 1, none⟩ (.slice A8 (fs.length + 1) c8)) = W9 at *
        obtain ⟨A9, c9, G9⟩ := h8.box
        have g4 := G9.c4
        have f4 := G9.fr 4
        have a0 := y9.c0
        have a1 := y9.c1
        have b0 := x9.c0
        have b1 := x9.c1
        have b2 := x9.f0
        have b3 := x9.f1
        have hRg : R ≠ g := by omega
        have hgR : g ≠ R := by omega
        have hg1 : R + 1 ≠ g := by omega
        have hg2 : g ≠ R + 1 := by omega
        clear G9 j8 k8 K5 y5 x5 e0 e1 e6 e6' e7 e8 hb6
        go_wp2_with fail
        have h10 := (h8.set4 t).boxed (x9.far (p := ⟨g, 4, none⟩) hRg (.int .i64 t)) hRg (.int .i64 0) (.slice none 0 0)
        have K10 := ((K9.setCell (p := ⟨g, 4, none⟩) (by simp) (.int .i64 t)).setCell (p := ⟨R, 0, none⟩) (fun h => by have := HS.out _ h.1; simp at this) (.int .i64 0)).setCell (p := ⟨R, 1, none⟩) (fun h => by have := HS.out _ h.1; simp at this) (.slice none 0 0)
        refine bodyPost_ret (v := .tuple #[fv 0 none 0 0, .bool false, .int .i64 0]) ?_ rfl ⟨rfl, ?_, K10⟩
        · simp [results, fv, go_sem, b0, b1, b2, b3, hRg, hgR]
        · rw [Htk.out.1, Hsp.out]; exact h10
end Go.Proofs.Ytfbeihfpflhdaaa
