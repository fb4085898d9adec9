/-
  The iterator of package frame, walked. Conditions: at most 1,000,000 bytes.
-/
import Derived.Test.YtajpinbabgcnkaaFrameRead
import Derived.Shelf.RegionOpen
import Derived.TacticsInMore
import Derived.LoopNIn
import Derived.LoopIn
import Derived.BigRegionIn
namespace Go.Proofs.Ytajpinbabgcnkaa
open Go Go.RowKit Go.Kw Go.Kw.Crc Go.Kw.Fm Go.Shelf
attribute [local go_sem] Oper.semAt_some
set_option linter.unusedVariables false
set_option linter.unusedSimpArgs false

theorem keepsB {W W' : World} (h : Below W.heap.size W W') : KeepsOthers W W' := ⟨h.size, fun k o hk _ => (h.block k (Array.getElem?_eq_some_iff.1 hk).1).trans hk⟩
/-- What is left behind k records. -/
def tailAt (l : List UInt8) : Nat → List UInt8
  | 0 => l
  | k + 1 => (tailAt l k).drop (6 + nOf (tailAt l k))
theorem tailAt_len (l : List UInt8) : ∀ k, (tailAt l k).length ≤ l.length
  | 0 => Nat.le_refl _
  | k + 1 => by
    have := tailAt_len l k
    show ((tailAt l k).drop _).length ≤ _
    rw [List.length_drop]; omega
theorem tail_scan (l : List UInt8) : ∀ k, k ≤ (scan l).1.length → scan (tailAt l k) = ((scan l).1.drop k, (scan l).2)
  | 0, _ => by rw [List.drop_zero]; rfl
  | k + 1, h => by
    have ih := tail_scan l k (by omega)
    have hw : whyOf (tailAt l k) = 0 := by
      by_cases hw : whyOf (tailAt l k) = 0
      · exact hw
      · rw [scan_none hw] at ih
        injection ih with i1 i2
        have := congrArg List.length i1
        rw [List.length_drop] at this
        simp at this; omega
    rw [scan_some hw] at ih
    injection ih with i1 i2
    show scan ((tailAt l k).drop (6 + nOf (tailAt l k))) = _
    have e : (scan l).1.drop (k + 1) = (scan ((tailAt l k).drop (6 + nOf (tailAt l k)))).1 := by
      rw [← List.drop_drop, ← i1]; rfl
    rw [e, ← i2]
theorem tail_lt (l : List UInt8) (k : Nat) (h : k < (scan l).1.length) : whyOf (tailAt l k) = 0 ∧ (scan l).1[k]? = some (recOf (tailAt l k)) := by
  have ih := tail_scan l k (by omega)
  have hw : whyOf (tailAt l k) = 0 := by
    by_cases hw : whyOf (tailAt l k) = 0
    · exact hw
    · rw [scan_none hw] at ih
      injection ih with i1 i2
      have := congrArg List.length i1
      rw [List.length_drop] at this
      simp at this; omega
  refine ⟨hw, ?_⟩
  rw [scan_some hw] at ih
  injection ih with i1 i2
  have : ((scan l).1.drop k)[0]? = some (recOf (tailAt l k)) := by rw [← i1]; rfl
  rwa [List.getElem?_drop, Nat.add_zero] at this
theorem tail_end (l : List UInt8) : whyOf (tailAt l (scan l).1.length) ≠ 0 ∧ tailAt l (scan l).1.length = (scan l).2 := by
  have ih := tail_scan l _ (Nat.le_refl _)
  rw [List.drop_length] at ih
  by_cases hw : whyOf (tailAt l (scan l).1.length) = 0
  · rw [scan_some hw] at ih
    injection ih with i1 i2
    cases i1
  · refine ⟨hw, ?_⟩
    rw [scan_none hw] at ih
    injection ih
/-- What the iterator's variable holds. -/
def HoldR (W : World) (S : Nat → Prop) (B : Nat) (l : List UInt8) : Prop :=
  ∃ A c, Boxed W B 23 (.slice A l.length c) ∧ RdY W S A l ∧ (A = none → l.length = 0) ∧ l.length ≤ c ∧ c ≤ 9223372036854775807
/-- What is handed over: record number k, and what is behind it. -/
def RecV (S : Nat → Prop) (l : List UInt8) (k : Nat) (v : Array Value) (W : World) : Prop :=
  ∃ A A2 m n c2, v = #[.slice A m m, .slice A2 n c2] ∧ m = (recOf (tailAt l k)).length ∧ n = (tailAt l (k + 1)).length ∧ RdY W S A (recOf (tailAt l k)) ∧ A ≠ none

set_option maxRecDepth 100000 in
set_option maxHeartbeats 2000000 in
theorem records_seq (S : Nat → Prop) (B base : Nat) (hSB : ∀ b, S b → b ≠ B) (l : List UInt8) (hl : l.length ≤ 1000000) :
    SeqU Try.prog 30 #[.pointer (some ⟨B, 0, none⟩)] (scan l).1.length (RecV S l) (fun X Y => Kept (fun b => b ≠ B) X Y ∧ KeepsOthers X Y)
      (fun W => HoldR W S B l ∧ base ≤ W.heap.size) (fun k W => HoldR W S B (tailAt l (k + 1)) ∧ base ≤ W.heap.size) (fun W => True) (fun _ _ => True) := by
  intro lo J Jx hJ hJx hY W ⟨⟨A0, c0, hG0, hR0, hz0, hc0, hc1⟩, hbase⟩ h0
  have hF := wide_fn
  refine callsIn_of_wp Try.func30 rfl (hF _) ?_ rfl
  simp only [Try.ntmps30, List.size_toArray, List.length_cons, List.length_nil, Nat.reduceAdd, Nat.reduceSub, Array.replicate_succ, Array.replicate_zero, List.push_toArray, List.append_toArray, List.nil_append, List.cons_append]
  obtain ⟨N, hN⟩ : ∃ N, (scan l).1.length = N := ⟨_, rfl⟩
  have HN := Lib.hid hN
  rw [hN] at hY ⊢
  clear hN
  gi_wp2_with (first | (refine wpIn_scope ?_) | (refine wpIn_label ?_))
  gi_loopw [3] (fun _ wr => ∃ k : Nat, k ≤ N ∧ J k wr ∧ HoldR wr S B (tailAt l k) ∧ base ≤ wr.heap.size)
    (fun _ wr => match wr.cell? ⟨B, 0, none⟩ with | some (.slice _ n _) => n | _ => 0)
  case atStart => exact ⟨0, Nat.zero_le _, h0, ⟨A0, c0, hG0, hR0, hz0, hc0, hc1⟩, hbase⟩
  case round =>
    obtain ⟨k, hk, hJk, ⟨A, c, hG, hR, hz, hc, hc2⟩, hbk⟩ := hrel
    have x0 := hG.cell
    have f0 := hG.frozen
    have hBl := hG.lt
    have htl := tailAt_len l k
    by_cases hlt : k < N
    · obtain ⟨hw, -⟩ := tail_lt l k (by rw [HN.out]; exact hlt)
      have hh := (whyOf_zero _).1 hw
      have hrl := recOf_length hw
      have hnext : tailAt l (k + 1) = (tailAt l k).drop (6 + nOf (tailAt l k)) := rfl
      obtain ⟨r, hr⟩ : ∃ r, tailAt l k = r := ⟨_, rfl⟩
      rw [hr] at hw hh hrl hnext hR hz hc hG x0 htl
      obtain ⟨L, hL⟩ : ∃ L, r.length = L := ⟨_, rfl⟩
      obtain ⟨n, hn⟩ : ∃ n, nOf r = n := ⟨_, rfl⟩
      rw [hL] at hh hz hc hG x0 htl
      rw [hn] at hh hrl hnext
      have HFi := Lib.hid (first_any A L c r hL.symm (by omega) hc hc2 wr hR)
      have Hr := Lib.hid hr
      have HL := Lib.hid hL
      have Hn := Lib.hid hn
      have Hrl := Lib.hid hrl
      have Hnext := Lib.hid hnext
      have Hw := Lib.hid hw
      have n1 : (6 : Int) + (n : Int) ≤ (L : Int) := by omega
      have n2 : (L : Int) ≤ (c : Int) := by omega
      have n3 : (c : Int) ≤ 9223372036854775807 := by omega
      have n4 : (0 : Int) < (L : Int) := by omega
      have n5 : 6 + n ≤ L := by omega
      have n6 : n ≤ 4096 := by omega
      obtain ⟨b, off, rfl, hbs, hbl, -⟩ := hR.at_ (k := 0) (by omega)
      have fin : ∀ (w2 : World) (A1 A3 : Option Addr) (hb2 : Below wr.heap.size wr w2) (hA1 : RdY w2 S A1 (recOf r)) (hA1n : A1 ≠ none)
          (hA3 : RdY wr S A3 (r.drop (6 + n))) (hA3n : A3 ≠ none) (W3 : World) (hW3 : W3 = w2.setCell ⟨B, 0, none⟩ (.slice A3 (L - (6 + n)) (c - (6 + n)))),
          (∃ fn tmps assign body, (Instr.yield lo #[.slice A1 n n, .slice A3 (L - (6 + n)) (c - (6 + n))]).run Try.prog W3 = .ok (.round lo fn tmps assign body) W3 ∧ RoundIn Fence.wide 7 Try.prog lo fn tmps assign body W3 (fun e W' => (HoldR W' S B (tailAt l (k + 1)) ∧ base ≤ W'.heap.size) ∧ ((e = .returned (.bool true) ∧ J (k + 1) W') ∨ (e = .returned (.bool false) ∧ Jx (k + 1) W')))) ∧
          W3.cell? ⟨B, 0, none⟩ = some (.slice A3 (L - (6 + n)) (c - (6 + n))) := by
        intro w2 A1 A3 hb2 hA1 hA1n hA3 hA3n W3 hW3
        have hs := hb2.size
        have hk1 : Kept (fun b => b ≠ B) wr W3 := by rw [hW3]; exact (hb2.keptS _).setCell (by simp) _
        have hk2 : KeepsOthers wr W3 := by rw [hW3]; exact (keepsB hb2).trans (KeepsOthers.setCell _ _ _)
        have hk3 : Kept (fun b => b ≠ B) w2 W3 := by rw [hW3]; exact (Kept.refl _ _).setCell (by simp) _
        have hB3 : Boxed W3 B 23 (.slice A3 (L - (6 + n)) (c - (6 + n))) := by rw [hW3]; exact Boxed.set _ (blk_below hG hb2)
        have hlen : (r.drop (6 + n)).length = L - (6 + n) := by rw [List.length_drop, HL.out]
        have hH : HoldR W3 S B (tailAt l (k + 1)) := by
          rw [Hnext.out]
          refine ⟨A3, c - (6 + n), by rw [hlen]; exact hB3, hA3.kept (hk1.mono fun b _ hs => hSB b hs), fun e => absurd e hA3n, by rw [hlen]; omega, by omega⟩
        refine ⟨hY k _ W3 hlt ?_ (hJ k _ _ hJk ⟨hk1, hk2⟩) ⟨hH, by have := hk1.size; omega⟩, hB3.cell⟩
        unfold RecV
        rw [Hnext.out, Hr.out]
        exact ⟨A1, A3, n, L - (6 + n), c - (6 + n), rfl, Hrl.out.symm, hlen.symm, hA1.kept (hk3.mono fun b _ hs => hSB b hs), hA1n⟩
      have Fin := Lib.hid fin
      have hR' := Lib.hid hR
      clear fin hY hR hr hL hn hrl hnext hw hh
      by_cases hcF : c = 6 + n
      · subst hcF
        obtain rfl : L = 6 + n := by omega
        have hdn : r.drop (6 + n) = [] := List.drop_eq_nil_of_le (by rw [HL.out]; exact Nat.le_refl _)
        have hs1 : 6 + n - (6 + n) = 0 := by omega
        have Hdn : Hid (RdY wr S (some ⟨b, off, none⟩) (r.drop (6 + n))) := by rw [hdn]; exact RdY.nil _ _ _
        have Hs1 := Lib.hid hs1
        clear hdn hs1
        gi_wp2_with (gi_at_call 25; refine (callsIn_wide.2 HFi.out).mono ?_; rintro e w2 ⟨hp, hb2⟩; unfold FirstAny at hp; rw [if_pos Hw.out, Hn.out] at hp; obtain ⟨A1, rfl, hA1, hA1n⟩ := hp; have G2 := blk_below hG hb2; have d0 := Boxed.cell G2; have d1 := Boxed.frozen G2; obtain ⟨⟨fn, tmps, assign, body, hy, hYR⟩, x3⟩ := Fin.out w2 A1 (some ⟨b, off, none⟩) hb2 hA1 hA1n Hdn.out (by simp) _ rfl; rw [Hs1.out] at hy hYR x3; have HYR := Lib.hid hYR; clear hYR)
        have C0 := Lib.hid x0
        clear x0 f0 d0 d1 hG G2
        gi_wp2
        refine HYR.out.mono ?_
        rintro e W4 ⟨⟨hH4, hb4⟩, (⟨rfl, hJ4⟩ | ⟨rfl, hJx4⟩)⟩
        · have hm : (match W4.cell? ⟨B, 0, none⟩ with | some (.slice _ n _) => n | _ => 0) < (match wr.cell? ⟨B, 0, none⟩ with | some (.slice _ n _) => n | _ => 0) := by
            obtain ⟨A4, c4, hG4, -⟩ := hH4
            have hle : (tailAt l (k + 1)).length = 6 + n - (6 + n) := by rw [Hnext.out, List.length_drop, HL.out]
            rw [Boxed.cell hG4, C0.out]
            show (tailAt l (k + 1)).length < 6 + n
            omega
          have HM := Lib.hid hm
          clear hm
          gi_wp2
          exact ⟨⟨k + 1, by omega, hJ4, hH4, hb4⟩, HM.out⟩
        · gi_wp2
          rw [Exit.noGoto_ret]
          refine bodyPost_ret (results_none rfl _ _ _) rfl ?_
          exact ⟨⟨_, rfl⟩, .inr ⟨k, hlt, hJx4, trivial⟩⟩
      · have hcF2 : ¬ c = 6 + n := hcF
        gi_wp2_with (gi_at_call 25; refine (callsIn_wide.2 HFi.out).mono ?_; rintro e w2 ⟨hp, hb2⟩; unfold FirstAny at hp; rw [if_pos Hw.out, Hn.out] at hp; obtain ⟨A1, rfl, hA1, hA1n⟩ := hp; have G2 := blk_below hG hb2; have d0 := Boxed.cell G2; have d1 := Boxed.frozen G2; obtain ⟨⟨fn, tmps, assign, body, hy, hYR⟩, x3⟩ := Fin.out w2 A1 (some ⟨b, off + (6 + n), none⟩) hb2 hA1 hA1n (RdY.drop hR'.out (6 + n)) (by simp) _ rfl; have HYR := Lib.hid hYR; clear hYR)
        have C0 := Lib.hid x0
        clear x0 f0 d0 d1 hG G2
        gi_wp2
        refine HYR.out.mono ?_
        rintro e W4 ⟨⟨hH4, hb4⟩, (⟨rfl, hJ4⟩ | ⟨rfl, hJx4⟩)⟩
        · have hm : (match W4.cell? ⟨B, 0, none⟩ with | some (.slice _ n _) => n | _ => 0) < (match wr.cell? ⟨B, 0, none⟩ with | some (.slice _ n _) => n | _ => 0) := by
            obtain ⟨A4, c4, hG4, -⟩ := hH4
            have hle : (tailAt l (k + 1)).length = L - (6 + n) := by rw [Hnext.out, List.length_drop, HL.out]
            rw [Boxed.cell hG4, C0.out]
            show (tailAt l (k + 1)).length < L
            omega
          have HM := Lib.hid hm
          clear hm
          gi_wp2
          exact ⟨⟨k + 1, by omega, hJ4, hH4, hb4⟩, HM.out⟩
        · gi_wp2
          rw [Exit.noGoto_ret]
          refine bodyPost_ret (results_none rfl _ _ _) rfl ?_
          exact ⟨⟨_, rfl⟩, .inr ⟨k, hlt, hJx4, trivial⟩⟩
    · obtain rfl : N = k := by omega
      obtain ⟨hw, -⟩ := tail_end l
      rw [HN.out] at hw
      obtain ⟨r, hr⟩ : ∃ r, tailAt l N = r := ⟨_, rfl⟩
      rw [hr] at hw hR hz hc hG x0 htl
      obtain ⟨L, hL⟩ : ∃ L, r.length = L := ⟨_, rfl⟩
      rw [hL] at hz hc hG x0 htl
      by_cases hL0 : L = 0
      · subst hL0
        clear hr hL hw hY
        gi_wp2
        go_end0
        exact ⟨⟨_, rfl⟩, .inl (by first | exact hJk | exact ⟨hJk, trivial⟩)⟩
      · have n4 : (0 : Int) < (L : Int) := by omega
        have HFi := Lib.hid (first_any A L c r hL.symm (by omega) hc hc2 wr hR)
        obtain ⟨y, hy⟩ : ∃ y : Nat, whyOf r = y := ⟨_, rfl⟩
        have Hy := Lib.hid hy
        have Hw := Lib.hid hw
        rw [hy] at hw
        have k0 : ((y : Int) == 0) = false := beq_eq_false_iff_ne.2 (by omega)
        have k1 : ((y : Int) != 0) = true := by simp; omega
        clear hr hL hw hY hy
        gi_wp2_with (gi_at_call 25; refine (callsIn_wide.2 HFi.out).mono ?_; rintro e w2 ⟨hp, hb2⟩; unfold FirstAny at hp; rw [if_neg Hw.out, Hy.out] at hp; subst hp; have hJ2 := hJ N _ _ hJk ⟨hb2.keptS _, keepsB hb2⟩)
        simp only [Exit.noGoto]
        go_end0
        exact ⟨⟨_, rfl⟩, .inl ⟨hJ2, trivial⟩⟩
end Go.Proofs.Ytajpinbabgcnkaa
