/-
  The walk of RtuFrames. Conditions: none beyond the given rows.
-/
import Derived.Test.YtfbeihfpflhdaaaRtuRef
import Derived.Deep.RegionWith
import Derived.Deep.RegionHeld3
namespace Go.Proofs.Ytfbeihfpflhdaaa
open Go Go.RowKit Go.Kw Go.Kw.Crc
set_option linter.unusedVariables false
set_option linter.unusedSimpArgs false

theorem RPost.gen {w' : World} {base : Nat} {e : Ending} {o : Option (List UInt8)} (h : RPost w' base e o) (t : List UInt8) (ht : t = o.getD []) (E : Int) (hE : E = if o.isSome then 0 else 200) :
    ∃ A c', e = .returned (.tuple #[.slice A t.length c', .int .i64 E]) ∧ RdB w' w'.heap.size A t ∧ (A = none → t.length = 0) := by
  subst ht hE
  cases o with
  | none => exact ⟨none, 0, h, .inl rfl, fun _ => rfl⟩
  | some r =>
    obtain ⟨A, c, h, o, z⟩ := h
    exact ⟨A, c, h, (rdB_own o).1, z⟩
theorem FPost.gen {w' : World} {e : Ending} {o : Option (Int × List UInt8)} (h : FPost w' e o) (u : Int) (t : List UInt8) (ht : (u, t) = o.getD (0, [])) (E : Int) (hE : E = if o.isSome then 0 else 200) :
    ∃ A c', e = .returned (.tuple #[fv u A t.length c', .int .i64 E]) ∧ RdB w' w'.heap.size A t ∧ (A = none → t.length = 0) := by
  subst hE
  cases o with
  | none =>
    injection ht with h1 h2; subst h1 h2
    exact ⟨none, 0, h, .inl rfl, fun _ => rfl⟩
  | some r =>
    obtain ⟨u', t'⟩ := r
    injection ht with h1 h2; subst h1 h2
    obtain ⟨A, c, h, o, z⟩ := h
    exact ⟨A, c, h, o, z⟩
theorem fpost_len (m : List UInt8) (u : Int) (t : List UInt8) (h : (u, t) = (readOf m).getD (0, [])) : t.length ≤ m.length := by
  unfold readOf at h
  cases ho : openOf seal16 2 m with
  | none => rw [ho] at h; injection h with h1 h2; subst h2; simp
  | some r =>
    rw [ho] at h
    have := (openOf_length ho).1
    by_cases hc : 2 ≤ r.length ∧ r.length ≤ 254 ∧ bAt r 0 ≤ 247
    · simp only [if_pos hc, Option.getD_some] at h
      injection h with h1 h2; subst h2; simp; omega
    · simp only [if_neg hc, Option.getD_none] at h
      injection h with h1 h2; subst h2; simp

set_option maxRecDepth 100000 in
set_option maxHeartbeats 4000000 in
theorem rtuFrames_walk (a0 : Int) (b0 : Option Addr) (len0 cap0 : Nat) (z0 : List Int) (a1 : Option Addr) (len1 cap1 : Nat) (z1 : List Int) (w : World) (w0 : (Lit.int .i64 a0).wf = true ∧ IsRow .u8 w b0 len0 cap0 z0) (w1 : IsRow .u8 w a1 len1 cap1 z1) :
    Calls Try.prog 3 #[.agg #[.int .i64 a0, .slice b0 len0 cap0], .slice a1 len1 cap1] w fun e w' => e = .returned (.bool true) ∧ Below w.heap.size w w' := by
  obtain ⟨-, w0⟩ := w0
  obtain ⟨hm1, hm2, hz0⟩ := w0.caps
  obtain ⟨hm3, hm4, hz1⟩ := w1.caps
  unfold maxLen at hm2 hm4
  obtain ⟨l, rfl, hR⟩ := w0.bytes
  obtain ⟨m, rfl, hS⟩ := w1.bytes
  clear w0 w1
  have hz : b0 = none → l.length = 0 := fun h => (hz0 h).1
  have hzm : a1 = none → m.length = 0 := fun h => (hz1 h).1
  clear hz0 hz1
  have hb0 := Below.refl w.heap.size w
  have hb1 := balloc hb0 (.cells #[.int .i64 a0, .slice b0 l.length cap0] 24)
  have bx := Box2.new w 24 (.int .i64 a0) (.slice b0 l.length cap0)
  by_cases h1 : 400 < l.length
  · have k1 : decide (400 < (l.length : Int)) = true := by simp; omega
    clear h1
    go_enter Try.func3, Try.ntmps3
    go_wp2_with fail
    go_ret
    exact ⟨rfl, hb1⟩
  · have k1 : decide (400 < (l.length : Int)) = false := by simp; omega
    by_cases h2 : 400 < m.length
    · have k2 : decide (400 < (m.length : Int)) = true := by simp; omega
      clear h1 h2
      go_enter Try.func3, Try.ntmps3
      go_wp2_with fail
      go_ret
      exact ⟨rfl, hb1⟩
    · have k2 : decide (400 < (m.length : Int)) = false := by simp; omega
      have Hst := Lib.hid (fun (w : World) (A : Option Addr) (c : Nat) (r : List UInt8) (h : RdB w w.heap.size A r) (hn : A = none → r.length = 0) => run_string (P := Try.prog) (src := 22) (dst := 9) h c hn Try.underlying22 Try.underlying5 Try.underlying9)
      have s0 := Hst.out _ a1 cap1 m (hS.go hb1) hzm
      have Hl : Hid (l.length ≤ 400 ∧ m.length ≤ 400) := by show _ ∧ _; omega
      clear h1 h2
      go_enter Try.func3, Try.ntmps3
      go_wp2_with fail
      refine (rtuBytes_calls a0 b0 cap0 l (by have := Hl.out; omega) _ (hR.go hb1) hz).mono ?_
      rintro e w2 ⟨hx, hb2⟩
      obtain ⟨t, ht⟩ : ∃ t, Hid (t = (bytesOf a0 l).getD []) := ⟨_, rfl⟩
      obtain ⟨E, hE⟩ : ∃ E : Int, Hid (E = if (bytesOf a0 l).isSome then 0 else 200) := ⟨_, rfl⟩
      obtain ⟨A1, c1, rfl, r1, z1⟩ := hx.gen t ht.out E hE.out
      have bx2 := bx.below hb2
      replace hb2 := bnext hb1 hb2
      have f0 := bx2.c0
      have f1 := bx2.c1
      clear hx bx hb1 s0
      go_wp2_with fail
      refine (refBytes_calls a0 b0 cap0 l (by have := Hl.out; omega) _ (hR.go hb2) hz).mono ?_
      rintro e w3 ⟨hx, hb3⟩
      obtain ⟨A2, c2, rfl, r2, z2⟩ := hx.gen t ht.out E hE.out
      have bx3 := bx2.below hb3
      have r13 := r1.go hb3
      replace hb3 := bnext hb2 hb3
      clear hx bx2 hb2 r1 f0 f1 ht hE
      go_wp2_with fail
      refine (rtuRead_calls a1 cap1 m (by have := Hl.out; omega) _ (hS.go hb3) hzm hm3 (by omega)).mono ?_
      rintro e w4 ⟨hx, hb4⟩
      obtain ⟨⟨u, q⟩, hq⟩ : ∃ uq, Hid (uq = (readOf m).getD (0, [])) := ⟨_, rfl⟩
      obtain ⟨G, hG⟩ : ∃ G : Int, Hid (G = if (readOf m).isSome then 0 else 200) := ⟨_, rfl⟩
      obtain ⟨A3, c3, rfl, r3, z3⟩ := hx.gen u q hq.out G hG.out
      have bx4 := bx3.below hb4
      have r14 := r13.go hb4
      have r24 := r2.go hb4
      replace hb4 := bnext hb3 hb4
      clear hx bx3 hb3 r13 r2
      unfold fv
      go_wp2_with fail
      have hb5 := balloc hb4 (.cells #[.int .i64 u, .slice A3 q.length c3] 24)
      have by5 := Box2.new w4 24 (.int .i64 u) (.slice A3 q.length c3)
      have hbs : Below w4.heap.size w4 (w4.alloc (.cells #[.int .i64 u, .slice A3 q.length c3] 24)) := (Below.refl _ _).alloc (Nat.le_refl _) _
      have bx5 := bx4.below hbs
      have r15 := r14.go hbs
      have r25 := r24.go hbs
      have r35 := r3.go hbs
      clear bx4 r14 r24 r3 hb4 hbs
      refine (refRead_calls a1 cap1 m (by have := Hl.out; omega) _ (hS.go hb5) hzm hm3 (by omega)).mono ?_
      rintro e w6 ⟨hx, hb6⟩
      rw [refRead_same] at hx
      obtain ⟨A4, c4, rfl, r46, z4⟩ := hx.gen u q hq.out G hG.out
      have bx6 := bx5.below hb6
      have by6 := by5.below hb6
      have r16 := r15.go hb6
      have r26 := r25.go hb6
      have r36 := r35.go hb6
      replace hb6 := bnext hb5 hb6
      clear hx bx5 by5 r15 r25 r35 hb5
      unfold fv
      go_upto_region 8 with fail
      have hb7 := balloc hb6 (.cells #[.int .i64 u, .slice A4 q.length c4] 24)
      have bz7 := Box2.new w6 24 (.int .i64 u) (.slice A4 q.length c4)
      have hbs : Below w6.heap.size w6 (w6.alloc (.cells #[.int .i64 u, .slice A4 q.length c4] 24)) := (Below.refl _ _).alloc (Nat.le_refl _) _
      have bx7 := bx6.below hbs
      have by7 := by6.below hbs
      have r17 := r16.go hbs
      have r27 := r26.go hbs
      have r37 := r36.go hbs
      have r47 := r46.go hbs
      clear bx6 by6 r16 r26 r36 r46 hb6 hbs
      generalize w6.alloc (.cells #[.int .i64 u, .slice A4 q.length c4] 24) = W7 at hb7 bz7 bx7 by7 r17 r27 r37 r47 ⊢
      have hql : Hid (q.length ≤ 400) := by have := fpost_len m u q hq.out; have := Hl.out; show _ ≤ _; omega
      obtain ⟨Bv, hBv⟩ : ∃ Bv, Hid ((decide (u = a0) && decide (q = l)) = Bv) := ⟨_, rfl⟩
      have HF : Hid (∀ W, Below W7.drew.heap.size W7.drew W → W.cell? ⟨w.heap.size, 0, none⟩ = some (.int .i64 a0) ∧ W.cell? ⟨w.heap.size, 1, none⟩ = some (.slice b0 l.length cap0) ∧ W.cell? ⟨w4.heap.size, 0, none⟩ = some (.int .i64 u) ∧ W.cell? ⟨w4.heap.size, 1, none⟩ = some (.slice A3 q.length c3) ∧ W.cell? ⟨w6.heap.size, 0, none⟩ = some (.int .i64 u) ∧ W.cell? ⟨w6.heap.size, 1, none⟩ = some (.slice A4 q.length c4) ∧ (convert 22 9 (.slice A1 t.length c1)).run Try.prog W = .ok (.string ⟨t.toArray⟩) W ∧ (convert 22 9 (.slice A2 t.length c2)).run Try.prog W = .ok (.string ⟨t.toArray⟩) W ∧ (convert 22 9 (.slice a1 m.length cap1)).run Try.prog W = .ok (.string ⟨m.toArray⟩) W) := fun W hW => by
        have b1 := Box2.below (W := W7.drew) bx7 hW
        have b2 := Box2.below (W := W7.drew) by7 hW
        have b3 := Box2.below (W := W7.drew) bz7 hW
        exact ⟨b1.c0, b1.c1, b2.c0, b2.c1, b3.c0, b3.c1, Hst.out W A1 c1 t (RdB.go (w := W7.drew) r17 hW) z1, Hst.out W A2 c2 t (RdB.go (w := W7.drew) r27 hW) z2, Hst.out W a1 cap1 m (hS.go (hb7.drew.trans (hW.mono hb7.drew.size))) hzm⟩
      have C1 : Hid (∀ W, Below W7.drew.heap.size W7.drew W → Calls Try.prog 12 #[.agg #[.int .i64 u, .slice A3 q.length c3], .agg #[.int .i64 u, .slice A4 q.length c4]] W fun e w' => e = .returned (.bool true) ∧ Below W.heap.size W w') := fun W hW => by
        have := refSame_calls u u A3 A4 c3 c4 q q W (RdB.go (w := W7.drew) r37 hW) (RdB.go (w := W7.drew) r47 hW) z3 z4
        rw [show (decide (u = u) && decide (q = q)) = true from by simp] at this
        exact this
      have C2 : Hid (∀ W, Below W7.drew.heap.size W7.drew W → Calls Try.prog 13 #[.agg #[.int .i64 u, .slice A3 q.length c3], .agg #[.int .i64 a0, .slice b0 l.length cap0]] W fun e w' => e = .returned (.bool Bv) ∧ Below W.heap.size W w') := fun W hW => by
        have := rtuSame_calls u a0 A3 b0 c3 cap0 q l (by have := hql.out; omega) (by have := Hl.out; omega) W (RdB.go (w := W7.drew) r37 hW) (hR.go (hb7.drew.trans (hW.mono hb7.drew.size)))
        rw [hBv.out] at this
        exact this
      have C3 : Hid (∀ W, Below W7.drew.heap.size W7.drew W → Calls Try.prog 12 #[.agg #[.int .i64 u, .slice A3 q.length c3], .agg #[.int .i64 a0, .slice b0 l.length cap0]] W fun e w' => e = .returned (.bool Bv) ∧ Below W.heap.size W w') := fun W hW => by
        have := refSame_calls u a0 A3 b0 c3 cap0 q l W (RdB.go (w := W7.drew) r37 hW) (hR.go (hb7.drew.trans (hW.mono hb7.drew.size))) z3 hz
        rw [hBv.out] at this
        exact this
      clear bz7 bx7 by7 r17 r27 r37 r47 hR hS hz hzm z1 z2 z3 z4
      go_cut [4] (fun s wx => s = .bool true ∧ Below w.heap.size w wx)
      case first =>
        go_region_held3 (fun W => W.cell? ⟨w.heap.size, 0, none⟩ = some (.int .i64 a0) ∧ W.cell? ⟨w.heap.size, 1, none⟩ = some (.slice b0 l.length cap0) ∧ W.cell? ⟨w4.heap.size, 0, none⟩ = some (.int .i64 u) ∧ W.cell? ⟨w4.heap.size, 1, none⟩ = some (.slice A3 q.length c3) ∧ W.cell? ⟨w6.heap.size, 0, none⟩ = some (.int .i64 u) ∧ W.cell? ⟨w6.heap.size, 1, none⟩ = some (.slice A4 q.length c4) ∧ (convert 22 9 (.slice A1 t.length c1)).run Try.prog W = .ok (.string ⟨t.toArray⟩) W ∧ (convert 22 9 (.slice A2 t.length c2)).run Try.prog W = .ok (.string ⟨t.toArray⟩) W ∧ (convert 22 9 (.slice a1 m.length cap1)).run Try.prog W = .ok (.string ⟨m.toArray⟩) W) (first | exact HF.out _ (Below.refl _ _) | exact HF.out _ hb8 | exact HF.out _ hb9' | exact HF.out _ hb10') (first
        | (go_at_call_of 12 (Value.slice A4 q.length c4); refine (C1.out W7.drew (Below.refl _ _)).mono ?_; rintro e w8 ⟨rfl, hb8⟩)
        | (go_at_call_of 13 (Value.slice b0 l.length cap0); first | (refine (C2.out w8 hb8).mono ?_; rintro e w9 ⟨rfl, hb9⟩; have hb9' := bnext hb8 hb9) | (refine (C2.out w9 hb9').mono ?_; rintro e w10 ⟨rfl, hb10⟩; have hb10' := bnext hb9' hb10))
        | (go_at_call_of 12 (Value.slice b0 l.length cap0); first | (refine (C3.out w8 hb8).mono ?_; rintro e w9 ⟨rfl, hb9⟩; have hb9' := bnext hb8 hb9) | (refine (C3.out w9 hb9').mono ?_; rintro e w10 ⟨rfl, hb10⟩; have hb10' := bnext hb9' hb10)))
        all_goals (go_wp2_with fail; go_meet; exact ⟨rfl, hb7.drew.trans (hb10'.mono hb7.drew.size)⟩)
      case rest =>
        obtain ⟨rfl, hbc⟩ := hcut
        go_wp2_with fail
        go_ret
        exact ⟨rfl, hbc⟩
end Go.Proofs.Ytfbeihfpflhdaaa
