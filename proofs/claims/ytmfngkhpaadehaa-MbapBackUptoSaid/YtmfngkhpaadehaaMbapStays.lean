/-
  The walk of MbapStays. Conditions: none beyond the given rows.
-/
import Derived.Test.YtmfngkhpaadehaaMbapAlive
namespace Go.Proofs.Ytmfngkhpaadehaa
open Go Go.RowKit Go.Kw Go.Kw.Mb
set_option linter.unusedVariables false
set_option linter.unusedSimpArgs false

theorem stream_brokenLeft : ∀ (n : Nat) (l : List UInt8), l.length ≤ n → (stream l).2.2 = true → (stream l).2.1 = []
  | 0, l, h, hb => by
    have : l = [] := List.eq_nil_of_length_eq_zero (by omega)
    subst this; revert hb; decide
  | n + 1, l, h, hx => by
    cases hb : brk l with
    | true => rw [stream_broken hb]
    | false =>
      cases hw : whl l with
      | false => rw [stream_short hb hw] at hx; cases hx
      | true =>
        have hf := flen_ge hb hw
        rw [stream_whole hb hw] at hx ⊢
        exact stream_brokenLeft n (l.drop (flen l)) (by rw [List.length_drop]; omega) hx
/-- Feed, whether the stream is broken or not: what is told of numbers alone. -/
theorem feed_any (g : Nat) (rest : List UInt8) (br : Bool) (A : Option Addr) (c : Nat) (b : List UInt8) (hl : rest.length + b.length ≤ 500000) (w : World) {S0 : Nat → Prop} (h : HoldEnd w S0 g rest br) (hbr : br = true → rest = []) (hR : RdB w w.heap.size A b) (hz : A = none → b.length = 0) :
    Calls Try.prog 16 #[.pointer (some ⟨g, 0, none⟩), .slice A b.length c] w fun e w' => ∃ (A' : Option Addr) (n c' : Nat) (x : Int) (rest' : List UInt8) (br' : Bool), e = .returned (.tuple #[.slice A' n c', .int .i64 x]) ∧ (∃ S1, HoldEnd w' S1 g rest' br') ∧ (br' = true → rest' = []) ∧
      Kept (fun b => b ≠ g) w w' ∧ rest'.length ≤ rest.length + b.length ∧ ((br = true ∧ n = 0 ∧ x = 210 ∧ br' = true) ∨ (br = false ∧ br' = true ∧ x = 210) ∨ (br = false ∧ br' = false ∧ x = 0)) := by
  cases br with
  | true =>
    obtain ⟨A0, c0, hG, -⟩ := id h
    refine (feed_broken g _ A b.length c w hG).mono ?_
    rintro e w' ⟨rfl, rfl⟩
    exact ⟨none, 0, 0, 210, rest, true, rfl, ⟨_, h⟩, hbr, Kept.refl _ _, by omega, .inl ⟨rfl, rfl, rfl, rfl⟩⟩
  | false =>
    refine (feed_calls g rest A c b hl w h hR hz).mono ?_
    rintro e w' ⟨A', c', rfl, h1, h2, h3⟩
    refine ⟨A', _, c', _, _, _, rfl, ⟨_, h2⟩, fun hx => stream_brokenLeft _ _ (Nat.le_refl _) hx, h3, by have := stream_left _ (rest ++ b) (Nat.le_refl _); rwa [List.length_append] at this, .inr ?_⟩
    cases (stream (rest ++ b)).2.2 with
    | true => exact .inl ⟨rfl, rfl, rfl⟩
    | false => exact .inr ⟨rfl, rfl, rfl⟩
theorem refAll_n (fs gs : List Fr) (A B : Option Addr) (n m c d : Nat) (hn : n = fs.length) (hm : m = gs.length) (w : World) (S : Nat → Prop) (hF : RdF w S A fs) (hG : RdF w S B gs) (hl : fs.length ≤ 100000) (hl2 : gs.length ≤ 100000) :
    Calls Try.prog 19 #[.slice A n c, .slice B m d] w fun e w' => e = .returned (.bool (decide (fs = gs))) ∧ Below w.heap.size w w' := by
  subst hn hm; exact refAll_calls fs gs A B c d w S hF hG hl hl2
theorem refAll_same (fs : List Fr) (A B : Option Addr) (n m c d : Nat) (hn : n = fs.length) (hm : m = fs.length) (w : World) (S : Nat → Prop) (hF : RdF w S A fs) (hG : RdF w S B fs) (hl : fs.length ≤ 100000) :
    Calls Try.prog 19 #[.slice A n c, .slice B m d] w fun e w' => e = .returned (.bool true) ∧ Below w.heap.size w w' := by
  have := refAll_n fs fs A B n m c d hn hm w S hF hG hl hl
  rw [show decide (fs = fs) = true from by simp] at this
  exact this
theorem stream_lens (l : List UInt8) : 8 * (stream l).1.length ≤ l.length ∧ (stream l).2.1.length ≤ l.length := ⟨stream_many _ l (Nat.le_refl _), stream_left _ l (Nat.le_refl _)⟩

set_option maxRecDepth 100000 in
set_option maxHeartbeats 4000000 in
theorem mbapStays_walk (a0 : Option Addr) (len0 cap0 : Nat) (z0 : List Int) (a1 : Option Addr) (len1 cap1 : Nat) (z1 : List Int) (w : World) (w0 : IsRow .u8 w a0 len0 cap0 z0) (w1 : IsRow .u8 w a1 len1 cap1 z1) :
    Calls Try.prog 8 #[.slice a0 len0 cap0, .slice a1 len1 cap1] w fun e w' => e = .returned (.bool true) ∧ Below w.heap.size w w' := by
  obtain ⟨hm1, hm2, hz0⟩ := w0.caps
  obtain ⟨hm3, hm4, hz1⟩ := w1.caps
  unfold maxLen at hm2 hm4
  obtain ⟨b, rfl, hR⟩ := w0.bytes
  obtain ⟨m, rfl, hS⟩ := w1.bytes
  clear w0 w1
  have hz : a0 = none → b.length = 0 := fun h => (hz0 h).1
  have hzm : a1 = none → m.length = 0 := fun h => (hz1 h).1
  clear hz0 hz1
  by_cases h1 : 3000 < b.length
  · have k1 : (3000 : Int) < (b.length : Int) := by omega
    go_enter Try.func8, Try.ntmps8
    go_wp2_with fail
    refine (alive_calls _).mono ?_
    rintro e wa ⟨rfl, hba⟩
    go_wp2_with fail
    go_ret
    exact ⟨rfl, hba⟩
  · by_cases h2 : 500 < m.length
    · have k1 : (b.length : Int) ≤ 3000 := by omega
      have k2 : (500 : Int) < (m.length : Int) := by omega
      go_enter Try.func8, Try.ntmps8
      go_wp2_with fail
      refine (alive_calls _).mono ?_
      rintro e wa ⟨rfl, hba⟩
      go_wp2_with fail
      go_ret
      exact ⟨rfl, hba⟩
    · have k1 : (b.length : Int) ≤ 3000 := by omega
      have k2 : (m.length : Int) ≤ 500 := by omega
      go_enter Try.func8, Try.ntmps8
      go_wp2_with fail
      refine (alive_calls _).mono ?_
      rintro e wa ⟨rfl, hba⟩
      have hb1 := bstep wa (.cells #[.slice none 0 0, .bool false] 41)
      have HF1 := Lib.hid (feed_any wa.heap.size [] false a0 cap0 b (by simp; omega) _ (holdNew wa (fun _ => True)) (fun h => by cases h) ((hR.go hba).go hb1) hz)
      go_wp2_with fail
      refine HF1.out.mono ?_
      rintro e w3 ⟨A3, n3, c3, x3, rest1, br1, rfl, ⟨S3, h3⟩, hrest3, k3, hlen3, hc3⟩
      have hgw := hba.size
      have hbw3 : Below w.heap.size w w3 := (hba.trans (hb1.mono hgw)).trans (k3.below (by simp; omega) (fun k hk => by omega))
      obtain ⟨A3', c3', hG3⟩ := h3.gb
      have HF2 := Lib.hid (feed_any wa.heap.size rest1 br1 a1 cap1 m (by simp at hlen3; omega) w3 h3 hrest3 ((hS.below hbw3).more hbw3.size) hzm)
      clear HF1 hb1 h3 k3 hc3
      go_wp2_with fail
      refine (isBroken_calls wa.heap.size _ br1 w3 hG3).mono ?_
      rintro e w3' ⟨rfl, rfl⟩
      go_wp2_with fail
      refine HF2.out.mono ?_
      rintro e w5 ⟨A5, n5, c5, x5, rest5, br5, rfl, ⟨S5, h5⟩, hrest5, k5, -, hc5⟩
      have hbw5 : Below w.heap.size w w5 := hbw3.trans (k5.below hbw3.size (fun k hk => by omega))
      obtain ⟨A5', c5', hG5⟩ := h5.gb
      clear HF2 hG3 hrest3 k5 h5
      have hl6 := stream_lens m
      have tail : ∀ (v : Value) (br : Bool), GB w5 wa.heap.size v br → True := fun _ _ _ => trivial
      rcases hc5 with ⟨rfl, rfl, rfl, rfl⟩ | ⟨rfl, rfl, rfl⟩ | ⟨rfl, rfl, rfl⟩
      case' inl => obtain rfl := hrest5 rfl
      all_goals
        go_wp2_with (first | (go_at_call 17; refine (isBroken_calls _ _ _ w5 hG5).mono ?_; rintro e w' ⟨rfl, rfl⟩) | (go_at_call 18; refine (left_calls _ _ _ _ _ w5 hG5).mono ?_; rintro e w' ⟨rfl, rfl⟩))
        refine (reset_calls _ _ _ w5 hG5).mono ?_
        rintro e w6 ⟨⟨u, rfl⟩, hG6, k6⟩
        have hbw6 : Below w.heap.size w w6 := hbw5.trans (k6.below hbw5.size (fun k hk => by omega))
        have hlt6 := hG6.lt
        have h6 : HoldEnd w6 (fun b => b ≠ wa.heap.size) wa.heap.size [] false := ⟨none, 0, hG6, RdY.nil _ _ _, fun _ => rfl, Nat.le_refl _, by omega⟩
        have hb7 := bstep w6 (.cells #[.slice none 0 0, .bool false] 41)
        have hbw7 := hbw6.trans (hb7.mono hbw6.size)
        obtain ⟨⟨fs, rest', br'⟩, hst⟩ : ∃ s, stream m = s := ⟨_, rfl⟩
        obtain ⟨n8, hn8⟩ : ∃ n, fs.length = n := ⟨_, rfl⟩
        obtain ⟨x8, hx8⟩ : ∃ x : Int, x = if br' then 210 else 0 := ⟨_, rfl⟩
        rw [hst] at hl6
        have hl8 : 8 * fs.length ≤ m.length := hl6.1
        have HF7 := Lib.hid (feed_n wa.heap.size [] a1 m.length cap1 m rfl (by simp; omega) _ (h6.go hb7) ((hS.below hbw7).more hbw7.size) hzm)
        have h7 := holdNew w6 (fun b => b ≠ w6.heap.size)
        have Hst := Lib.hid hst
        have Hn8 := Lib.hid hn8
        have Hx8 := Lib.hid hx8
        clear hG5 hG6 h6 k6 hst hn8 hx8
        go_wp2_with fail
        refine HF7.out.mono ?_
        rintro e w8 hx
        rw [List.nil_append] at hx
        obtain ⟨A8, c8, rfl, o8, h8, k8⟩ := hx.at_ Hst.out n8 Hn8.out x8 Hx8.out
        have hs8 := k8.size
        simp only [World.size_alloc] at hs8
        have hbw8 : Below w.heap.size w w8 := hbw7.trans (k8.below hbw7.size (fun k hk => by omega))
        have h7' : HoldEnd w8 (fun b => b ≠ w6.heap.size) w6.heap.size [] false := by
          obtain ⟨Ax, cx, y1, -, y3⟩ := h7
          exact ⟨Ax, cx, heap_kept k8 y1 (by omega), RdY.nil _ _ _, y3⟩
        have HF8 := Lib.hid (feed_n w6.heap.size [] a1 m.length cap1 m rfl (by simp; omega) w8 h7' ((hS.below hbw8).more hbw8.size) hzm)
        clear HF7 hx h7 h7' k8 hb7
        go_wp2_with fail
        refine HF8.out.mono ?_
        rintro e w9 hx
        rw [List.nil_append] at hx
        obtain ⟨A9, c9, rfl, o9, h9, k9⟩ := hx.at_ Hst.out n8 Hn8.out x8 Hx8.out
        have hbw9 : Below w.heap.size w w9 := hbw8.trans (k9.below hbw8.size (fun k hk => by have := hbw6.size; omega))
        have o8' := o8.keptX k9 (fun b hb => by simp only [World.size_alloc] at hb; omega) (fun b hb => by simp only [World.size_alloc] at hb; omega)
        obtain ⟨A8', c8', hG8⟩ := h8.gb
        obtain ⟨A9', c9', hG9⟩ := h9.gb
        have hG8' : GB w9 wa.heap.size _ br' := heap_kept k9 hG8 (by omega)
        have HAll := Lib.hid (refAll_same fs A8 A9 n8 n8 c8 c9 Hn8.out.symm Hn8.out.symm w9 (fun _ => True) ((o8'.rdF (S := fun b => _) (fun b hb => hb)).mono (fun _ _ => trivial)) ((o9.rdF (fun b hb => hb)).mono (fun _ _ => trivial)) (by omega))
        clear HF8 hx o8 o9 o8' h8 h9 k9 hG8
        go_wp2_with fail
        refine HAll.out.mono ?_
        rintro e w10 ⟨rfl, hb10⟩
        have hG10 := hG8'.below hb10
        have hH10 := hG9.below hb10
        have hbw10 := bnext hbw9 hb10
        clear HAll hG8' hG9
        go_wp2_with fail
        refine (left_calls _ _ _ _ _ w10 hG10).mono ?_
        rintro e w' ⟨rfl, rfl⟩
        go_wp2_with fail
        refine (left_calls _ _ _ _ _ w10 hH10).mono ?_
        rintro e w' ⟨rfl, rfl⟩
        go_wp2_with fail
        refine (isBroken_calls _ _ _ w10 hG10).mono ?_
        rintro e w' ⟨rfl, rfl⟩
        go_wp2_with fail
        refine (isBroken_calls _ _ _ w10 hH10).mono ?_
        rintro e w' ⟨rfl, rfl⟩
        go_wp2_with fail
        go_ret
        exact ⟨by simp, hbw10⟩
end Go.Proofs.Ytmfngkhpaadehaa
