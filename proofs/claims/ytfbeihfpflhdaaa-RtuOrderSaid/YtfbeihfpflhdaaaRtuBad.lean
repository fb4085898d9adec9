/-
  The walk of RtuBad. Conditions: the first argument has at most 1,048,576 bytes.
-/
import Derived.Test.YtfbeihfpflhdaaaRtuAlive
import Derived.Test.YtfbeihfpflhdaaaRows
namespace Go.Proofs.Ytfbeihfpflhdaaa
open Go Go.RowKit Go.Kw Go.Kw.Crc Go.ChangeShapes
set_option linter.unusedVariables false
set_option linter.unusedSimpArgs false

theorem bulk_lits {H : Type} (k : IntKind) (l : List Int) : l.length ≤ Rows.uptoBulkAll (lits (H := H) k l) := by
  induction l with
  | nil => simp
  | cons x r ih => simp only [lits, List.map_cons, Rows.uptoBulkAll, Rows.uptoBulk, List.length_cons] at ih ⊢; omega
theorem badB_calls (g : Nat) (s : Int) (hs1 : 1 ≤ s) (pv : Value) (sp : Bool) (now last bad : Int) (w : World) (h : GBox w g s pv sp now last bad) :
    Calls Try.prog 18 #[.pointer (some ⟨g, 0, none⟩)] w fun e w' => e = .returned (.int .i64 bad) ∧ w' = w := by
  have c5 := h.c5
  have hn := none_calls g s hs1 w h.c0
  clear h
  go_enter Try.func18, Try.ntmps18
  go_wp2_with fail
  refine hn.mono ?_
  rintro e w' ⟨rfl, hww⟩
  rw [hww]
  clear hww hn
  go_wp2_with fail
  go_ret
  exact ⟨rfl, rfl⟩
theorem RPost.gen2 {w' : World} {base : Nat} {e : Ending} {o : Option (List UInt8)} (h : RPost w' base e o) (t : List UInt8) (ht : t = o.getD []) (E : Int) (hE : E = if o.isSome then 0 else 200) :
    ∃ A c', e = .returned (.tuple #[.slice A t.length c', .int .i64 E]) ∧ RdB w' w'.heap.size A t ∧ (A = none → t.length = 0) ∧ t.length ≤ c' ∧ c' ≤ 9223372036854775807 := by
  subst ht hE
  cases o with
  | none => exact ⟨none, 0, h, .inl rfl, fun _ => rfl, Nat.le_refl _, by omega⟩
  | some r =>
    obtain ⟨A, c, h, o, z⟩ := h
    exact ⟨A, c, h, (rdB_own o).1, z, own_caps o⟩
theorem bad_none (l : List UInt8) (h : readOf l = none) : decide (256 < (l.length : Int)) = true ∨ readOf ([l.take 256] : List (List UInt8)).flatten = none := by
  by_cases h1 : 256 < l.length
  · exact .inl (by simp; omega)
  · right; rw [show ([l.take 256] : List (List UInt8)).flatten = l by simp; rw [List.take_of_length_le (by omega)]]; exact h

set_option maxRecDepth 100000 in
set_option maxHeartbeats 4000000 in
theorem rtuBad_walk (a0 : Option Addr) (len0 cap0 : Nat) (z0 : List Int) (a1 : Int) (b1 : Option Addr) (len1 cap1 : Nat) (z1 : List Int) (a2 : Int) (w : World) (hbulk : len0 ≤ 1048576) (w0 : IsRow .u8 w a0 len0 cap0 z0) (w1 : (Lit.int .i64 a1).wf = true ∧ IsRow .u8 w b1 len1 cap1 z1) (w2 : (Lit.int .u8 a2).wf = true) :
    Calls Try.prog 7 #[.slice a0 len0 cap0, .agg #[.int .i64 a1, .slice b1 len1 cap1], .int .u8 a2] w fun e w' => e = .returned (.bool true) ∧ Below w.heap.size w w' := by
  obtain ⟨-, w1⟩ := w1
  obtain ⟨hm1, hm2, hz0⟩ := w0.caps
  obtain ⟨hm3, hm4, hz1⟩ := w1.caps
  unfold maxLen at hm2 hm4
  obtain ⟨l, rfl, hR⟩ := w0.bytes
  obtain ⟨p, rfl, hS⟩ := w1.bytes
  obtain ⟨d0, d1⟩ := Go.bounds_u8 w2
  obtain ⟨n, rfl⟩ := Int.eq_ofNat_of_zero_le d0
  have Hn : Hid (n < 256) := by show _ < _; omega
  clear w0 w1 w2 d0 d1
  have hz : a0 = none → l.length = 0 := fun h => (hz0 h).1
  have hzm : b1 = none → p.length = 0 := fun h => (hz1 h).1
  clear hz0 hz1
  obtain ⟨⟨u, q⟩, hq⟩ : ∃ uq, Hid (uq = (readOf l).getD (0, [])) := ⟨_, rfl⟩
  obtain ⟨G, hG⟩ : ∃ G : Int, Hid (G = if (readOf l).isSome then 0 else 200) := ⟨_, rfl⟩
  obtain ⟨cb, hcb⟩ : ∃ cb, Hid (cb = (bytesOf a1 p).getD []) := ⟨_, rfl⟩
  obtain ⟨E, hE⟩ : ∃ E : Int, Hid (E = if (bytesOf a1 p).isSome then 0 else 200) := ⟨_, rfl⟩
  have hb1 := bstep w (.cells #[.int .i64 a1, .slice b1 p.length cap1] 24)
  have bx := Box2.new w 24 (.int .i64 a1) (.slice b1 p.length cap1)
  go_enter Try.func7, Try.ntmps7
  go_wp2_with fail
  refine (alive_calls _).mono ?_
  rintro e w2 ⟨rfl, hb2⟩
  have bx2 := bx.below hb2
  have hbw2 := bnext hb1 hb2
  clear bx hb1 hb2
  go_wp2_with fail
  refine (rtuRead_calls a0 cap0 l (by omega) _ (hR.go hbw2) hz hm1 (by omega)).mono ?_
  rintro e w3 ⟨hx, hb3⟩
  obtain ⟨A3, c3, rfl, r3, z3⟩ := hx.gen u q hq.out G hG.out
  unfold fv
  have hb34 := bstep w3 (.cells #[.int .i64 u, .slice A3 q.length c3] 24)
  have bx3 := (bx2.below hb3).below hb34
  have hbw3 := bnext (bnext hbw2 hb3) hb34
  have f0 := bx3.c0
  have f1 := bx3.c1
  clear hx bx2 hbw2 hb3 hb34 r3 z3
  go_wp2_with fail
  refine (rtuBytes_calls a1 b1 cap1 p (by omega) _ (hS.go hbw3) hzm).mono ?_
  rintro e w4 ⟨hx, hb4⟩
  obtain ⟨A4, c4, rfl, r4, z4, y4, y5⟩ := RPost.gen2 hx cb hcb.out E hE.out
  have bx4 := bx3.below hb4
  have hbw4 := bnext hbw3 hb4
  clear hx bx3 f0 f1 hbw3 hb4
  by_cases h1 : 300 < l.length
  · have k1 : decide (300 < (l.length : Int)) = true := by simp; omega
    clear h1 hbulk hm1 hm2 hm3 hm4 y4 y5
    go_wp2_with fail
    go_ret
    exact ⟨rfl, hbw4⟩
  have k1 : decide (300 < (l.length : Int)) = false := by simp; omega
  by_cases h2 : l.length = 0
  · have k2 : ((l.length : Int) == 0) = true := by rw [h2]; rfl
    have k3 : l = [] := List.eq_nil_of_length_eq_zero h2
    clear h1 hbulk hm1 hm2 hm3 hm4 y4 y5
    go_wp2_with fail
    go_ret
    exact ⟨rfl, hbw4⟩
  have k2 : ((l.length : Int) == 0) = false := by simp; intro h; exact h2 (by rw [h]; rfl)
  have k3 : (l.length == 0) = false := by simp; intro h; exact h2 (by rw [h]; rfl)
  have k4 : l ≠ [] := fun h => h2 (by rw [h]; rfl)
  have Hl : Hid (1 ≤ l.length ∧ l.length ≤ 300 ∧ l.length ≤ cap0 ∧ cap0 ≤ 9223372036854775807) := by show _ ∧ _ ∧ _ ∧ _; omega
  have Hc : Hid (cb.length ≤ c4 ∧ c4 ≤ 9223372036854775807) := ⟨y4, y5⟩
  clear h1 h2 hbulk hm1 hm2 hm3 hm4 y4 y5
  cases hro : readOf l with
  | some x =>
    have : G = 0 := by rw [hG.out, hro]; rfl
    subst this
    clear hro hG
    go_wp2_with fail
    go_ret
    exact ⟨rfl, hbw4⟩
  | none =>
    have : G = 200 := by rw [hG.out, hro]; rfl
    subst this
    cases hbo : bytesOf a1 p with
    | none =>
      have : E = 200 := by rw [hE.out, hbo]; rfl
      subst this
      clear hro hbo hG hE
      go_wp2_with fail
      go_ret
      exact ⟨rfl, hbw4⟩
    | some x =>
      have : E = 0 := by rw [hE.out, hbo]; rfl
      subst this
      have : cb = x := by rw [hcb.out, hbo]; rfl
      subst this
      have Hro := Lib.hid hro
      have Hrb := Lib.hid (read_bytes a1 p cb hbo)
      have Hcl := Lib.hid (bytes_len a1 p cb hbo)
      have Hpl : Hid (p.length ≤ 253) := by
        show _ ≤ _
        unfold bytesOf at hbo
        split at hbo
        · rename_i h; exact h.2.2.2
        · cases hbo
      clear hro hbo hG hE hcb hq
      have hw1 : IntKind.i64.wrap (n : Int) = n := IntWalk.i64_in _ (by have := Hn.out; omega)
      obtain ⟨s, hs⟩ : ∃ s : Int, 1 + (n : Int) = s := ⟨_, rfl⟩
      have hw2 : IntKind.i64.wrap (1 + (n : Int)) = s := by rw [← hs]; exact IntWalk.i64_in _ (by have := Hn.out; omega)
      have hs1 : 1 ≤ s := by omega
      have hs2 : s ≤ 1000 := by have := Hn.out; omega
      have Hs := Lib.hid hs
      clear hs
      go_wp2_with fail
      refine (new_calls s hs1 (by omega) _).mono ?_
      rintro e w5 ⟨rfl, hw5⟩
      have h5 := HoldG.newH w4 (fun k => k < w4.heap.size) s w4.heap.size rfl
      have hb5 := bstep w4 (.cells #[.int .i64 s, .slice none 0 0, .bool false, .int .i64 0, .int .i64 0, .int .i64 0] 50)
      have hz5 : w5.heap.size = w4.heap.size + 1 := by rw [hw5]; simp
      rw [← hw5] at h5 hb5
      have r5 : RdB w5 w4.heap.size A4 cb := RdB.below r4 hb5
      have bx5 := bx4.below hb5
      have hlF : w.heap.size < w4.heap.size := bx4.lt
      have rl5 : RdB w5 w4.heap.size a0 l := RdB.below ((hR.go hbw4)) hb5
      have rp5 : RdB w5 w4.heap.size b1 p := RdB.below ((hS.go hbw4)) hb5
      have hbw5 := bnext hbw4 hb5
      clear hw5 r4 bx4 hbw4 hb5 hR hS
      generalize w4.heap.size = g at *
      have hSw : ∀ W : World, g + 1 ≤ W.heap.size → ∀ k, k < g → k < W.heap.size := fun W h k hk => by omega
      go_wp2_with fail
      refine (feed_takeN g s hs1 (by omega) [] (by simp) 0 rfl (by omega) 0 0 0 0 a0 cap0 l.length l rfl Hl.out.1 (by have := Hl.out; omega) Hl.out.2.2.1 Hl.out.2.2.2 (by omega) (by omega) (by omega) (by omega) (by omega) (.inl rfl) [l.take 256] rfl (decide (256 < (l.length : Int))) (by simp) w5 h5 (rl5.more (by omega)) (hSw w5 (by omega))).mono ?_
      rintro e w6 ⟨rfl, h6, k6⟩
      have b6 := keptLow k6 (by omega)
      have hz6 : g + 1 ≤ w6.heap.size := by have := k6.size; omega
      obtain ⟨N, hN⟩ : ∃ N, N = min l.length 256 := ⟨_, rfl⟩
      have hfl : ([l.take 256] : List (List UInt8)).flatten.length = N := by simp; omega
      have hmin : min (l.length : Int) 256 = (N : Int) := by omega
      have hN256 : N ≤ 256 := by omega
      go_wp2_with fail
      refine (heldG_calls g s hs1 [l.take 256] (by simp) (by rw [hfl]; omega) _ _ _ _ w6 h6).mono ?_
      rintro e w7 ⟨rfl, hb7⟩
      rw [hfl]
      have h7 := h6.go hb7
      have b7 : Below g w5 w7 := b6.trans (hb7.mono (by omega))
      have hz7 : g + 1 ≤ w7.heap.size := by have := hb7.size; omega
      have r7 := (RdB.below r5 b7).more (show g ≤ w7.heap.size by omega)
      obtain ⟨A7, c7, G7⟩ := h7.box
      have Hfl := Lib.hid hfl
      clear hfl hN h6 k6 h5
      go_wp2_with fail
      refine (feed_endtake g s hs1 (by omega) [l.take 256] (by simp) (by rw [Hfl.out]; omega) (by simp) _ 0 0 0 s (by omega) (by omega) A4 c4 cb.length cb rfl (by have := Hcl.out; omega) (by have := Hcl.out; omega) Hc.out.1 Hc.out.2 (by omega) (by omega) (by omega) (by omega) (by omega) (by omega) w7 h7 r7 (fun b off x hc e => G7.no8 off x (e ▸ hc)) (hSw w7 hz7)).mono ?_
      rintro e w8 hx
      obtain ⟨A8, c8, rfl, h8, k8⟩ := hx.none_ (bad_none l Hro.out)
      rw [show cb.take 256 = cb from List.take_of_length_le Hcl.out.2, show decide (256 < (cb.length : Int)) = false by have := Hcl.out; simp; omega, show (0 : Int) + 1 = 1 from rfl] at h8
      have b8 := b7.trans (keptLow k8 (by omega))
      have hz8 : g + 1 ≤ w8.heap.size := by have := k8.size; omega
      unfold fv
      have hb9 := bstep w8 (.cells #[.int .i64 0, .slice A8 0 c8] 24)
      have h9 := h8.go hb9
      have b9 := b8.trans (hb9.mono (by omega))
      have hz9 := Nat.le_trans hz8 hb9.size
      obtain ⟨A9, c9, G9⟩ := h9.box
      clear h7 G7 r7 hx h8 k8 b8 hb9 b7 b6 hb7
      go_wp2_with fail
      refine (badB_calls g s hs1 _ _ _ _ _ _ G9).mono ?_
      rintro e w' ⟨rfl, hww⟩
      rw [hww]
      clear hww G9
      have hw3 : IntKind.i64.wrap (2 * s) = 2 * s := IntWalk.i64_in _ (by omega)
      go_wp2_with fail
      refine (idle_end g s hs1 (by omega) [cb] (by simp) (by have := Hcl.out; simp; omega) (by simp) false s s 1 (2 * s) (by omega) (by omega) (by omega) (by omega) (by omega) (by omega) (by omega) (by omega) _ h9 (hSw _ hz9)).mono ?_
      rintro e w10 hx
      obtain ⟨A10, c10, rfl, r10, z10, G10, k10⟩ := hx.good a1 p (by simpa using Hrb.out)
      have b10 := b9.trans (keptLow k10 (by omega))
      unfold fv
      have hb11 := bstep w10 (.cells #[.int .i64 a1, .slice A10 p.length c10] 24)
      have y11 := Box2.new w10 24 (.int .i64 a1) (.slice A10 p.length c10)
      have b11 : Below g w5 (w10.alloc (.cells #[.int .i64 a1, .slice A10 p.length c10] 24)) := b10.trans (hb11.mono (by have := k10.size; omega))
      have x11 : Box2 (w10.alloc (.cells #[.int .i64 a1, .slice A10 p.length c10] 24)) w.heap.size 24 (.int .i64 a1) (.slice b1 p.length cap1) := (b11.block _ hlF).trans bx5
      have G11 := G10.below hb11
      have r11 := r10.go hb11
      have rp11 := (RdB.below rp5 b11).more (show g ≤ (w10.alloc (.cells #[.int .i64 a1, .slice A10 p.length c10] 24)).heap.size by have := b11.size; omega)
      have hbw11 := hbw5.trans (b11.mono (by omega))
      have e0 := y11.c0
      have e1 := y11.c1
      have e2 := x11.c0
      have e3 := x11.c1
      have Hsame := Lib.hid (rtuSame_calls a1 a1 A10 b1 c10 cap1 p p (by have := Hpl.out; omega) (by have := Hpl.out; omega) _ r11 rp11)
      clear h9 hx G10 k10 b10 b9 hb11 y11 x11 r10 r11 rp11 rp5 rl5 r5 bx5 b11 hz9 hz8 hz7 hz6 hz5 hbw5 hSw
      go_wp2_with fail
      refine Hsame.out.mono ?_
      rintro e w12 ⟨rfl, hb12⟩
      have G12 := G11.below hb12
      have hbw12 := hbw11.trans (hb12.mono hbw11.size)
      simp only [decide_true, Bool.and_self]
      clear Hsame e0 e1 e2 e3
      go_wp2_with fail
      refine (badB_calls g s hs1 _ _ _ _ _ _ G12).mono ?_
      rintro e w' ⟨rfl, hww⟩
      rw [hww]
      clear hww
      go_wp2_with fail
      refine (heldG_nil g s hs1 _ G12).mono ?_
      rintro e w13 ⟨rfl, hb13⟩
      go_wp2_with fail
      go_ret
      exact ⟨by simp, hbw12.trans (hb13.mono hbw12.size)⟩
end Go.Proofs.Ytfbeihfpflhdaaa
