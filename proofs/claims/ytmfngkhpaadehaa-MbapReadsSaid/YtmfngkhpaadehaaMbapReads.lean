/-
  The walk of MbapReads. Conditions: none beyond the given rows.
-/
import Derived.Test.YtmfngkhpaadehaaMbapStays
import Derived.Test.YtmfngkhpaadehaaMbapStream
import Derived.Deep.RegionWith
import Derived.Deep.DeepCutAuto
namespace Go.Proofs.Ytmfngkhpaadehaa
open Go Go.RowKit Go.Kw Go.Kw.Mb
set_option linter.unusedVariables false
set_option linter.unusedSimpArgs false
attribute [local go_sem ↓] Go.wp_at_zero Go.wp_at_succ

set_option maxHeartbeats 1000000 in
theorem refGreat_any (fs : List Fr) (A : Option Addr) (c n : Nat) (hn : n = fs.length) (w : World) (S : Nat → Prop) (hF : RdF w S A fs) (hl : fs.length ≤ 4611686018427387904) :
    Calls Try.prog 9 #[.slice A n c] w fun e w' => ∃ r : Int, (r = 0 ∨ r = 1) ∧ e = .returned (.int .i64 r) ∧ w = w' := by
  subst hn
  go_enter Try.func9, Try.ntmps9
  go_wp2
  go_loop [3, 4] (fun s i => ∃ k : Nat, k ≤ fs.length ∧ i = .int .i64 k ∧ ∃ x : Int, s = .int .i64 x) (fun _ i => fs.length - (intOf i).toNat)
  case atStart => exact ⟨0, Nat.zero_le _, rfl, 0, rfl⟩
  case round =>
    obtain ⟨k, hk, rfl, x, rfl⟩ := hrel
    by_cases hlt : k < fs.length
    · obtain ⟨b1, o1, B1, c1, rfl, hb1, x0, x1, x2, x3, x4, x5, x6⟩ := hF.cells hlt
      have hkI : (k : Int) < (fs.length : Int) := by omega
      clear x0 x1 x3 x4 hF
      go_wp2
      go_round
      case rel => exact ⟨k + 1, by omega, by go_num, _, rfl⟩
      case measure => simp [intOf]; omega
    · obtain rfl : k = fs.length := by omega
      clear hF
      go_wp2
      all_goals
        go_ret
        first
          | exact .inr ⟨rfl, rfl⟩
          | exact .inl ⟨rfl, rfl⟩
theorem RPost.gen {w' : World} {base : Nat} {e : Ending} {o : Option (List UInt8)} (h : RPost w' base e o) (t : List UInt8) (ht : t = o.getD []) (E : Int) (hE : E = if o.isSome then 0 else 210) :
    ∃ A c', e = .returned (.tuple #[.slice A t.length c', .int .i64 E]) ∧ RdB w' w'.heap.size A t ∧ (A = none → t.length = 0) := by
  subst ht hE
  cases o with
  | none => exact ⟨none, 0, h, .inl rfl, fun _ => rfl⟩
  | some r =>
    obtain ⟨A, c, h, o, z⟩ := h
    exact ⟨A, c, h, (rdB_own o).1, z⟩
/-- The first frame, how long it is, and the error. -/
def firstOf (b : List UInt8) : Fr × Nat × Int := if brk b then ((0, 0, []), 0, 210) else if whl b then (fr b, flen b, 0) else ((0, 0, []), 0, 0)
theorem ReadPost.gen {w' : World} {base : Nat} {e : Ending} {b : List UInt8} (h : ReadPost w' base e b (brk b) (whl b)) : ∃ A c, e = .returned (.tuple #[fv (firstOf b).1 A c, .int .i64 ((firstOf b).2.1 : Nat), .int .i64 (firstOf b).2.2]) ∧ RdB w' w'.heap.size A (firstOf b).1.2.2 ∧ (A = none → (firstOf b).1.2.2.length = 0) := by
  unfold firstOf
  cases hb : brk b with
  | true => rw [hb] at h; exact ⟨none, 0, h, .inl rfl, fun _ => rfl⟩
  | false =>
    cases hw : whl b with
    | true =>
      rw [hb, hw] at h
      obtain ⟨A, c, he, o⟩ := h
      exact ⟨A, c, he, (rdB_own o).1, (own_caps o).2.2.1⟩
    | false => rw [hb, hw] at h; exact ⟨none, 0, h, .inl rfl, fun _ => rfl⟩
theorem stream_first (b : List UInt8) : ((stream b).1 = [] ∧ (firstOf b).1 = (0, 0, []) ∧ (firstOf b).2.1 = 0 ∧ (firstOf b).2.2 = if (stream b).2.2 then 210 else 0) ∨
    (0 < (stream b).1.length ∧ frd (stream b).1 0 = (firstOf b).1 ∧ (firstOf b).2.1 = 7 + (firstOf b).1.2.2.length ∧ (firstOf b).2.2 = 0 ∧ (firstOf b).1.2.2.length ≤ b.length) := by
  unfold firstOf
  cases hb : brk b with
  | true => rw [stream_broken hb]; exact .inl ⟨rfl, rfl, rfl, rfl⟩
  | false =>
    cases hw : whl b with
    | false => rw [stream_short hb hw]; exact .inl ⟨rfl, rfl, rfl, rfl⟩
    | true =>
      have hf := flen_ge hb hw
      rw [stream_whole hb hw]
      refine .inr ⟨by simp, rfl, ?_, rfl, ?_⟩
      · show flen b = 7 + ((b.drop 7).take (flen b - 7)).length
        simp; omega
      · show ((b.drop 7).take (flen b - 7)).length ≤ b.length
        simp; omega

theorem StreamPost.gen {w' : World} {base : Nat} {e : Ending} {b : List UInt8} (h : StreamPost w' base e b) (n : Nat) (hn : (stream b).1.length = n) (J : Int) (hJ : J = if (stream b).2.2 then 210 else 0) :
    ∃ A c, ∃ x : Int, e = .returned (.tuple #[.slice A n c, .int .i64 x, .int .i64 J]) ∧ OwF w' base (fun b => b < base) (.slice A n c) (stream b).1 := by
  subst hn hJ
  obtain ⟨A, c, h1, h2⟩ := h
  exact ⟨A, c, _, h1, h2⟩
theorem refSame_n (f g : Fr) (A B : Option Addr) (n m c d : Nat) (hn : f.2.2.length = n) (hm : g.2.2.length = m) (w : World) (hR : RdB w w.heap.size A f.2.2) (hS : RdB w w.heap.size B g.2.2) (hz : A = none → n = 0) (hz2 : B = none → m = 0) (r : Bool) (hr : decide (f = g) = r) :
    Calls Try.prog 15 #[.agg #[.int .i64 f.1, .int .i64 f.2.1, .slice A n c], .agg #[.int .i64 g.1, .int .i64 g.2.1, .slice B m d]] w fun e w' => e = .returned (.bool r) ∧ Below w.heap.size w w' := by
  subst hn hm hr; exact refSame_calls f g A B c d w hR hS hz hz2
theorem mbapSame_n (f g : Fr) (A B : Option Addr) (n m c d : Nat) (hn : f.2.2.length = n) (hm : g.2.2.length = m) (w : World) (hR : RdB w w.heap.size A f.2.2) (hS : RdB w w.heap.size B g.2.2) (hz : A = none → n = 0) (hz2 : B = none → m = 0) (r : Bool) (hr : decide (f = g) = r) :
    Calls Try.prog 14 #[.agg #[.int .i64 f.1, .int .i64 f.2.1, .slice A n c], .agg #[.int .i64 g.1, .int .i64 g.2.1, .slice B m d]] w fun e w' => e = .returned (.bool r) ∧ Below w.heap.size w w' := by
  subst hn hm hr; exact mbapSame_calls f g A B c d w hR hS hz hz2
set_option maxRecDepth 100000 in
set_option maxHeartbeats 4000000 in
theorem mbapReads_walk (a00 a01 : Int) (b0 : Option Addr) (len0 cap0 : Nat) (z0 : List Int) (a10 a11 : Int) (b1 : Option Addr) (len1 cap1 : Nat) (z1 : List Int) (a2 : Option Addr) (len2 cap2 : Nat) (z2 : List Int) (w : World)
    (w0 : (Lit.int .i64 a00).wf = true ∧ (Lit.int .i64 a01).wf = true ∧ IsRow .u8 w b0 len0 cap0 z0) (w1 : (Lit.int .i64 a10).wf = true ∧ (Lit.int .i64 a11).wf = true ∧ IsRow .u8 w b1 len1 cap1 z1) (w2 : IsRow .u8 w a2 len2 cap2 z2) :
    Calls Try.prog 3 #[.agg #[.int .i64 a00, .int .i64 a01, .slice b0 len0 cap0], .agg #[.int .i64 a10, .int .i64 a11, .slice b1 len1 cap1], .slice a2 len2 cap2] w fun e w' => e = .returned (.bool true) ∧ Below w.heap.size w w' := by
  obtain ⟨-, -, w0⟩ := w0
  obtain ⟨-, -, w1⟩ := w1
  obtain ⟨hm1, hm2, hz0⟩ := w0.caps
  obtain ⟨hm3, hm4, hz1⟩ := w1.caps
  obtain ⟨hm5, hm6, hz2⟩ := w2.caps
  unfold maxLen at hm2 hm4 hm6
  obtain ⟨l0, rfl, hR0⟩ := w0.bytes
  obtain ⟨l1, rfl, hR1⟩ := w1.bytes
  obtain ⟨b, rfl, hR2⟩ := w2.bytes
  clear w0 w1 w2
  have hy0 : b0 = none → l0.length = 0 := fun h => (hz0 h).1
  have hy1 : b1 = none → l1.length = 0 := fun h => (hz1 h).1
  have hy2 : a2 = none → b.length = 0 := fun h => (hz2 h).1
  clear hz0 hz1 hz2
  obtain ⟨W2, hW2⟩ : ∃ W2, (w.alloc (.cells #[.int .i64 a00, .int .i64 a01, .slice b0 l0.length cap0] 24)).alloc (.cells #[.int .i64 a10, .int .i64 a11, .slice b1 l1.length cap1] 24) = W2 := ⟨_, rfl⟩
  have hs2 : W2.heap.size = w.heap.size + 1 + 1 := by rw [← hW2]; simp
  have hb2 : Below w.heap.size w W2 := by rw [← hW2]; exact balloc (bstep w _) _
  have x0 : W2.heap[w.heap.size]? = some (.cells #[.int .i64 a00, .int .i64 a01, .slice b0 l0.length cap0] 24 (0, 0)) := by rw [← hW2]; exact blk_below (blk_new w _ _) (bstep _ _)
  have x1 : W2.heap[w.heap.size + 1]? = some (.cells #[.int .i64 a10, .int .i64 a11, .slice b1 l1.length cap1] 24 (0, 0)) := by
    have := blk_new (w.alloc (.cells #[.int .i64 a00, .int .i64 a01, .slice b0 l0.length cap0] 24)) #[.int .i64 a10, .int .i64 a11, .slice b1 l1.length cap1] 24
    rw [hW2] at this; simpa using this
  have HB : Hid (∀ W, Below W2.heap.size W2 W → W.cell? ⟨w.heap.size, 0, none⟩ = some (.int .i64 a00) ∧ W.cell? ⟨w.heap.size, 1, none⟩ = some (.int .i64 a01) ∧ W.cell? ⟨w.heap.size, 2, none⟩ = some (.slice b0 l0.length cap0) ∧ W.cell? ⟨w.heap.size + 1, 0, none⟩ = some (.int .i64 a10) ∧ W.cell? ⟨w.heap.size + 1, 1, none⟩ = some (.int .i64 a11) ∧ W.cell? ⟨w.heap.size + 1, 2, none⟩ = some (.slice b1 l1.length cap1)) := fun W hW => by
    have y0 := blk_below x0 hW
    have y1 := blk_below x1 hW
    exact ⟨blk_cell y0 0 rfl, blk_cell y0 1 rfl, blk_cell y0 2 rfl, blk_cell y1 0 rfl, blk_cell y1 1 rfl, blk_cell y1 2 rfl⟩
  have hb3 := bstep W2 (.cells #[.int .i64 a00, .int .i64 a01, .slice b0 l0.length cap0, .int .i64 a10, .int .i64 a11, .slice b1 l1.length cap1] 24)
  have k3 := blk_new W2 #[.int .i64 a00, .int .i64 a01, .slice b0 l0.length cap0, .int .i64 a10, .int .i64 a11, .slice b1 l1.length cap1] 24
  obtain ⟨W3, hW3⟩ : ∃ W3, W2.alloc (.cells #[.int .i64 a00, .int .i64 a01, .slice b0 l0.length cap0, .int .i64 a10, .int .i64 a11, .slice b1 l1.length cap1] 24) = W3 := ⟨_, rfl⟩
  rw [hW3] at hb3 k3
  have hbw3 := hb2.trans (hb3.mono hb2.size)
  have hRF : RdF W3 (fun _ => True) (some ⟨W2.heap.size, 0, none⟩) [(a00, a01, l0), (a10, a11, l1)] := by
    refine ⟨fun k => if k = 0 then (b0, cap0) else (b1, cap1), .inr ⟨W2.heap.size, 0, rfl, trivial, blk_lt k3, fun i hi => ?_⟩, fun k hk => ?_⟩
    · simp only [List.length_cons, List.length_nil] at hi
      match i, hi with
      | 0, _ => exact blk_cell k3 0 rfl
      | 1, _ => exact blk_cell k3 1 rfl
      | 2, _ => exact blk_cell k3 2 rfl
      | 3, _ => exact blk_cell k3 3 rfl
      | 4, _ => exact blk_cell k3 4 rfl
      | 5, _ => exact blk_cell k3 5 rfl
    · simp only [List.length_cons, List.length_nil] at hk
      match k, hk with
      | 0, _ => exact ⟨RdY.of ((hR0.below hbw3).more hbw3.size) (fun _ _ => trivial), hy0, hm1, by show cap0 ≤ _; omega⟩
      | 1, _ => exact ⟨RdY.of ((hR1.below hbw3).more hbw3.size) (fun _ _ => trivial), hy1, hm3, by show cap1 ≤ _; omega⟩
  have HGr := Lib.hid (refGreat_any [(a00, a01, l0), (a10, a11, l1)] (some ⟨W2.heap.size, 0, none⟩) 2 2 rfl W3 _ hRF (by simp))
  have Hs2 := Lib.hid hs2
  clear hRF k3 x0 x1 hs2
  obtain ⟨i0, i1, i2, i3, i4, i5⟩ := HB.out W2 (Below.refl _ _)
  go_enter Try.func3, Try.ntmps3
  go_wp2_with fail
  refine HGr.out.mono ?_
  rintro e w' ⟨r, hr, rfl, rfl⟩
  rcases hr with rfl | rfl
  · by_cases h3 : 3000 < b.length
    · have q : (3000 : Int) < (b.length : Int) := by omega
      go_wp2_with fail
      go_ret
      exact ⟨rfl, hbw3⟩
    · have q : (b.length : Int) ≤ 3000 := by omega
      have Hq : Hid (b.length ≤ 3000) := by show _ ≤ _; omega
      obtain ⟨d0, d1, d2, d3, d4, d5⟩ := HB.out W3 hb3
      clear hW2 hW3 HGr h3 i0 i1 i2 i3 i4 i5
      go_wp2_with fail
      refine (mbapBytes_calls (a00, a01, l0) b0 cap0 (by show l0.length ≤ _; omega) W3 ((hR0.below hbw3).more hbw3.size) hy0).mono ?_
      rintro e w4 ⟨hx, hb4⟩
      obtain ⟨t, ht⟩ : ∃ t, Hid (t = (if mayF (a00, a01, l0) then some (bytesOf (a00, a01, l0)) else none).getD []) := ⟨_, rfl⟩
      obtain ⟨E, hE⟩ : ∃ E : Int, Hid (E = if (if mayF (a00, a01, l0) then some (bytesOf (a00, a01, l0)) else none).isSome then 0 else 210) := ⟨_, rfl⟩
      obtain ⟨A1, c1, rfl, r1, q1⟩ := hx.gen t ht.out E hE.out
      replace hb4 := hb3.trans (hb4.mono hb3.size)
      obtain ⟨e0, e1, e2, e3, e4, e5⟩ := HB.out w4 hb4
      have hbw4 := hb2.trans (hb4.mono hb2.size)
      clear hx d0 d1 d2 d3 d4 d5 hb3 hbw3
      go_wp2_with fail
      refine (refBytes_calls (a00, a01, l0) b0 cap0 (by show l0.length ≤ _; omega) w4 ((hR0.below hbw4).more hbw4.size) hy0).mono ?_
      rintro e w5 ⟨hx, hb5⟩
      obtain ⟨A2, c2, rfl, r2, q2⟩ := hx.gen t ht.out E hE.out
      have r15 := r1.go hb5
      replace hb5 := hb4.trans (hb5.mono hb4.size)
      have hbw5 := hb2.trans (hb5.mono hb2.size)
      clear hx e0 e1 e2 e3 e4 e5 hb4 hbw4 r1 ht hE
      go_wp2_with fail
      refine (read_calls a2 cap2 b (by have := Hq.out; omega) w5 ((hR2.below hbw5).more hbw5.size) hy2 hm5 (by omega)).mono ?_
      rintro e w6 ⟨hx, hb6⟩
      obtain ⟨A3, c3, rfl, r3, q3⟩ := hx.gen
      have hfst := stream_first b
      obtain ⟨⟨⟨t3, u3, p3⟩, n3, E3⟩, hF3⟩ : ∃ F, firstOf b = F := ⟨_, rfl⟩
      rw [hF3] at hfst r3 q3 ⊢
      simp only at r3 q3
      have r16 := r15.go hb6
      have r26 := r2.go hb6
      replace hb6 := hb5.trans (hb6.mono hb5.size)
      have hbw6 := hb2.trans (hb6.mono hb2.size)
      have Hfst := Lib.hid hfst
      clear hx hb5 hbw5 r15 r2 hF3 hfst
      unfold fv
      have hb7 := bstep w6 (.cells #[.int .i64 t3, .int .i64 u3, .slice A3 p3.length c3] 24)
      have k7 := blk_new w6 #[.int .i64 t3, .int .i64 u3, .slice A3 p3.length c3] 24
      have hbw7 := hbw6.trans (hb7.mono hbw6.size)
      have hSt := refStream_calls a2 cap2 b (by have := Hq.out; omega) _ ((hR2.below hbw7).more hbw7.size) hm5 (by omega)
      have HSt := Lib.hid hSt
      obtain ⟨n8, hn8⟩ : ∃ n, (stream b).1.length = n := ⟨_, rfl⟩
      obtain ⟨J, hJ⟩ : ∃ J : Int, J = if (stream b).2.2 then 210 else 0 := ⟨_, rfl⟩
      have Hn8 := Lib.hid hn8
      have HJ := Lib.hid hJ
      clear hSt hn8 hJ
      go_wp2_with fail
      refine HSt.out.mono ?_
      rintro e w8 ⟨hx, hb8⟩
      obtain ⟨A8, c8, x8, rfl, o8⟩ := hx.gen n8 Hn8.out J HJ.out
      have k8 := blk_below k7 hb8
      have hb68 := hb7.trans (hb8.mono hb7.size)
      have r18 := r16.go hb68
      have r28 := r26.go hb68
      have r38 := r3.go hb68
      have hb28 := hb6.trans (hb68.mono hb6.size)
      have hbw8 := hbw6.trans (hb68.mono hbw6.size)
      have s0 := (hR0.below hbw8).more hbw8.size
      have s1 := (hR1.below hbw8).more hbw8.size
      obtain ⟨Bv, hBv⟩ : ∃ Bv, decide (((a00, a01, l0) : Fr) = (a10, a11, l1)) = Bv := ⟨_, rfl⟩
      have C1 : Hid (∀ W, Below w8.heap.size w8 W → Calls Try.prog 14 #[.agg #[.int .i64 a00, .int .i64 a01, .slice b0 l0.length cap0], .agg #[.int .i64 a10, .int .i64 a11, .slice b1 l1.length cap1]] W fun e w' => e = .returned (.bool Bv) ∧ Below W.heap.size W w') := fun W hW =>
        mbapSame_n (a00, a01, l0) (a10, a11, l1) b0 b1 _ _ cap0 cap1 rfl rfl W (s0.go hW) (s1.go hW) hy0 hy1 Bv hBv
      have C2 : Hid (∀ W, Below w8.heap.size w8 W → Calls Try.prog 15 #[.agg #[.int .i64 a00, .int .i64 a01, .slice b0 l0.length cap0], .agg #[.int .i64 a10, .int .i64 a11, .slice b1 l1.length cap1]] W fun e w' => e = .returned (.bool Bv) ∧ Below W.heap.size W w') := fun W hW =>
        refSame_n (a00, a01, l0) (a10, a11, l1) b0 b1 _ _ cap0 cap1 rfl rfl W (s0.go hW) (s1.go hW) hy0 hy1 Bv hBv
      have C3 : Hid (∀ W, Below w8.heap.size w8 W → Calls Try.prog 14 #[.agg #[.int .i64 a00, .int .i64 a01, .slice b0 l0.length cap0], .agg #[.int .i64 a00, .int .i64 a01, .slice b0 l0.length cap0]] W fun e w' => e = .returned (.bool true) ∧ Below W.heap.size W w') := fun W hW =>
        mbapSame_n (a00, a01, l0) (a00, a01, l0) b0 b0 _ _ cap0 cap0 rfl rfl W (s0.go hW) (s0.go hW) hy0 hy0 true (by simp)
      have HK : Hid (∀ W, Below w8.heap.size w8 W → W.cell? ⟨w.heap.size, 0, none⟩ = some (.int .i64 a00) ∧ W.cell? ⟨w.heap.size, 1, none⟩ = some (.int .i64 a01) ∧ W.cell? ⟨w.heap.size, 2, none⟩ = some (.slice b0 l0.length cap0) ∧ W.cell? ⟨w.heap.size + 1, 0, none⟩ = some (.int .i64 a10) ∧ W.cell? ⟨w.heap.size + 1, 1, none⟩ = some (.int .i64 a11) ∧ W.cell? ⟨w.heap.size + 1, 2, none⟩ = some (.slice b1 l1.length cap1) ∧ (convert 22 9 (.slice A1 t.length c1)).run Try.prog W = .ok (.string ⟨t.toArray⟩) W ∧ (convert 22 9 (.slice A2 t.length c2)).run Try.prog W = .ok (.string ⟨t.toArray⟩) W) := fun W hW => by
        obtain ⟨e0, e1, e2, e3, e4, e5⟩ := HB.out W (hb28.trans (hW.mono hb28.size))
        exact ⟨e0, e1, e2, e3, e4, e5, run_string (P := Try.prog) (r18.go hW) c1 q1 Try.underlying22 Try.underlying5 Try.underlying9, run_string (P := Try.prog) (r28.go hW) c2 q2 Try.underlying22 Try.underlying5 Try.underlying9⟩
      have Hb68 := Lib.hid hb68
      have Ho8 := Lib.hid o8
      have Hk8 := Lib.hid k8
      have Hr38 := Lib.hid r38
      clear HSt hx hb8 hb7 k7 k8 hb68 r16 r26 r3 r18 r28 r38 s0 s1 hBv hb6 hbw6 hbw7 o8
      go_upto_region 7 with fail
      go_cut [73] (fun s wx => s = .bool false ∧ Below w8.heap.size w8 wx)
      case first =>
        have hb8 := (Below.refl w8.heap.size w8).drew
        go_region_held3 (fun W => W.cell? ⟨w.heap.size, 0, none⟩ = some (.int .i64 a00) ∧ W.cell? ⟨w.heap.size, 1, none⟩ = some (.int .i64 a01) ∧ W.cell? ⟨w.heap.size, 2, none⟩ = some (.slice b0 l0.length cap0) ∧ W.cell? ⟨w.heap.size + 1, 0, none⟩ = some (.int .i64 a10) ∧ W.cell? ⟨w.heap.size + 1, 1, none⟩ = some (.int .i64 a11) ∧ W.cell? ⟨w.heap.size + 1, 2, none⟩ = some (.slice b1 l1.length cap1) ∧ (convert 22 9 (.slice A1 t.length c1)).run Try.prog W = .ok (.string ⟨t.toArray⟩) W ∧ (convert 22 9 (.slice A2 t.length c2)).run Try.prog W = .ok (.string ⟨t.toArray⟩) W)
          (first | exact HK.out _ hb8 | exact HK.out _ hb9 | exact HK.out _ hb10 | exact HK.out _ hb11)
          (first
            | (go_at_call_of 14 (Value.slice b1 l1.length cap1); first | (refine (C1.out w10 hb10).mono ?_; rintro e w11 ⟨rfl, hx⟩; have hb11 := hb10.trans (hx.mono hb10.size)) | (refine (C1.out w9 hb9).mono ?_; rintro e w10 ⟨rfl, hx⟩; have hb10 := hb9.trans (hx.mono hb9.size)) | (refine (C1.out w8.drew hb8).mono ?_; rintro e w9 ⟨rfl, hx⟩; have hb9 := hb8.trans (hx.mono hb8.size)))
            | (go_at_call_of 15 (Value.slice b1 l1.length cap1); first | (refine (C2.out w10 hb10).mono ?_; rintro e w11 ⟨rfl, hx⟩; have hb11 := hb10.trans (hx.mono hb10.size)) | (refine (C2.out w9 hb9).mono ?_; rintro e w10 ⟨rfl, hx⟩; have hb10 := hb9.trans (hx.mono hb9.size)) | (refine (C2.out w8.drew hb8).mono ?_; rintro e w9 ⟨rfl, hx⟩; have hb9 := hb8.trans (hx.mono hb8.size)))
            | (go_at_call_of 14 (Value.slice b0 l0.length cap0); first | (refine (C3.out w10 hb10).mono ?_; rintro e w11 ⟨rfl, hx⟩; have hb11 := hb10.trans (hx.mono hb10.size)) | (refine (C3.out w9 hb9).mono ?_; rintro e w10 ⟨rfl, hx⟩; have hb10 := hb9.trans (hx.mono hb9.size)) | (refine (C3.out w8.drew hb8).mono ?_; rintro e w9 ⟨rfl, hx⟩; have hb9 := hb8.trans (hx.mono hb8.size))))
        all_goals (go_wp2_with fail; go_meet; exact ⟨rfl, hb11⟩)
      case rest =>
        obtain ⟨rfl, hcx⟩ := hcut
        have kc := blk_below Hk8.out hcx
        have y0 := blk_cell kc 0 rfl
        have y1 := blk_cell kc 1 rfl
        have y2 := blk_cell kc 2 rfl
        have rc := Hr38.out.go hcx
        have hbwc := hbw8.trans (hcx.mono hbw8.size)
        rcases Hfst.out with ⟨f1, f2, f3, f4⟩ | ⟨f1, f2, f3, f4, f5⟩
        · have hn0 : n8 = 0 := by rw [← Hn8.out, f1]; rfl
          injection f2 with e1 f2
          injection f2 with e2 e3
          have hEJ : E3 = J := by rw [HJ.out]; exact f4
          subst hn0 e1 e2 e3 f3 hEJ
          clear f1 f4
          go_wp2_with fail
          refine (refSame_n (0, 0, []) (0, 0, []) A3 none 0 0 c3 0 rfl rfl wc rc (.inl rfl) (by simp) (by simp) true (by simp)).mono ?_
          rintro e w12 ⟨rfl, hb12⟩
          go_wp2_with fail
          go_ret
          exact ⟨by simp, bnext hbwc hb12⟩
        · have hn0 : (0 : Int) < (n8 : Int) := by rw [← Hn8.out]; omega
          have hn1 : 0 < n8 := by omega
          have oc := Ho8.out.go hcx
          obtain ⟨ps, hrow, -⟩ := id oc
          obtain ⟨-, -, -, q8⟩ := own_caps hrow
          obtain ⟨b8, o8b, B8, d8, e8, l8, x0, x1, x2, x3, x4, x5, x6⟩ := ((oc.mono (S := fun _ => True) (Nat.le_refl _) (fun _ _ => trivial)).rdF (fun _ _ => trivial)).cells (k := 0) f1
          obtain ⟨g8, e8', -, -⟩ := q8 _ e8
          subst e8
          injection e8' with ea eb
          subst ea eb
          rw [f2] at x0 x1 x2 x3 x4
          simp only at x0 x1 x2 x3 x4
          have x0' : wc.cell? ⟨b8, 0, none⟩ = some (.int .i64 t3) := x0
          have x1' : wc.cell? ⟨b8, 1, none⟩ = some (.int .i64 u3) := x1
          have x2' : wc.cell? ⟨b8, 2, none⟩ = some (.slice B8 p3.length d8) := x2
          have HS := Lib.hid (refSame_n (t3, u3, p3) (t3, u3, p3) A3 B8 p3.length p3.length c3 d8 rfl rfl wc.drew rc x3 q3 x4 true (by simp))
          have hE : E3 = 0 := f4
          subst hE f3
          have Hp : (p3.length : Int) ≤ 3000 := by have := Hq.out; have f5' : p3.length ≤ b.length := f5; omega
          have wp : IntKind.i64.wrap (7 + (p3.length : Int)) = 7 + (p3.length : Int) := IntWalk.i64_in _ (by omega)
          have we : ((7 + (p3.length : Int)) == (7 + (p3.length : Int))) = true := by simp
          clear x0 x1 x2 x3 x4 x5 x6 oc hrow q8 f1 f2 f5
          have hbc := (Below.refl wc.heap.size wc).drew
          go_wp2_with fail
          go_region_held3 (fun W => W.cell? ⟨w6.heap.size, 0, none⟩ = some (.int .i64 t3) ∧ W.cell? ⟨w6.heap.size, 1, none⟩ = some (.int .i64 u3) ∧ W.cell? ⟨w6.heap.size, 2, none⟩ = some (.slice A3 p3.length c3) ∧ W.cell? ⟨b8, 0, none⟩ = some (.int .i64 t3) ∧ W.cell? ⟨b8, 1, none⟩ = some (.int .i64 u3) ∧ W.cell? ⟨b8, 2, none⟩ = some (.slice B8 p3.length d8))
            (first | exact ⟨y0, y1, y2, x0', x1', x2'⟩ | exact ⟨(hx12.cell (p := ⟨w6.heap.size, 0, none⟩) (blk_lt kc)).trans y0, (hx12.cell (p := ⟨w6.heap.size, 1, none⟩) (blk_lt kc)).trans y1, (hx12.cell (p := ⟨w6.heap.size, 2, none⟩) (blk_lt kc)).trans y2, (hx12.cell (p := ⟨b8, 0, none⟩) l8).trans x0', (hx12.cell (p := ⟨b8, 1, none⟩) l8).trans x1', (hx12.cell (p := ⟨b8, 2, none⟩) l8).trans x2'⟩)
            ((go_at_call 15; refine HS.out.mono ?_; rintro e w12 ⟨rfl, hx12⟩))
          all_goals
            go_wp2_with fail
            go_ret
            exact ⟨by simp, hbwc.trans ((hbc.trans hx12).mono hbwc.size)⟩
  · go_wp2_with fail
    go_ret
    exact ⟨rfl, hbw3⟩
end Go.Proofs.Ytmfngkhpaadehaa
