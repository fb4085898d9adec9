/-
  The document's device: Restart, walked. Conditions stand at each theorem. (Printed by gen_refb6.py.)
-/
import Derived.Test.YtpleaicpkpjkjaaRefB5
import Derived.Deep.CutRange
namespace Go.Proofs.Ytpleaicpkpjkjaa
open Go Go.RowKit Go.Kw Go.Maps Go.Shelf
set_option linter.unusedVariables false
set_option linter.unusedSimpArgs false

theorem mix_set (l s : List UInt8) (i : Nat) (hl : l.length = 128) (hs : s.length = 128) (hi : i < 128) : (bv (l.take i ++ s.drop i)).set i (.int .u8 (bAt l i)) = bv (l.take (i + 1) ++ s.drop (i + 1)) := by
  apply List.ext_getElem?
  intro j
  have h1 : (l.take i).length = i := by simp; omega
  have h2 : (l.take (i + 1)).length = i + 1 := by simp; omega
  unfold bv
  rw [List.getElem?_set]
  by_cases e : i = j
  · subst e
    rw [if_pos rfl, if_pos (by simp; omega), List.getElem?_map, List.getElem?_append_left (by omega), List.getElem?_take_of_lt (by omega), List.getElem?_eq_getElem (by omega)]
    simp [bAt, List.getD_eq_getElem?_getD, show i < l.length by omega]
  · rw [if_neg e, List.getElem?_map, List.getElem?_map]
    congr 1
    rcases Nat.lt_or_ge j i with h | h
    · rw [List.getElem?_append_left (by omega), List.getElem?_append_left (by omega), List.getElem?_take_of_lt h, List.getElem?_take_of_lt (by omega)]
    · rw [List.getElem?_append_right (by omega), List.getElem?_append_right (by omega), h1, h2, List.getElem?_drop, List.getElem?_drop]
      congr 1; omega
theorem bit_rem (kp : List UInt8) (k : Nat) : (bAt kp (k / 8) / 2 ^ (k % 8)).tmod 2 = (((kp.getD (k / 8) 0).toNat / 2 ^ (k % 8) % 2 : Nat) : Int) := by
  rw [Int.tmod_eq_emod_of_nonneg (Int.ediv_nonneg (bAt_lo _ _) (Int.pow_nonneg (by omega)))]
  unfold bAt; push_cast; rfl
theorem own_ge {w : World} {B g : Nat} {n c : Nat} {e : TypeId} {xs : List Value} (h : w.ownsRow B e 1 (.slice (some ⟨g, 0, none⟩) n c) n xs) : B ≤ g := (h.lt g rfl).1
section
variable {w : World} {B r mb nn : Nat} {V : Value} {X : Nat → Prop} {D : Dv}
theorem refRest_up (h : RefO w B r mb nn V X D) (KA : Option Addr) (kl kc : Nat) (tn at' : Int) (kp : List UInt8) (hdn : D.dn = false) :
    Calls Try.prog 42 #[.pointer (some ⟨r, 0, none⟩), .agg #[.slice KA kl kc, .int .i64 tn, .int .i64 at']] w fun e w' => e = .returned (.int .i64 (restV D kp tn at').1) ∧ RefP w B r mb nn V X (restV D kp tn at').2 w' := by
  have hb := bstep w (.cells #[.slice KA kl kc, .int .i64 tn, .int .i64 at'] 25)
  have c4 := (h.go hb).cells.2.2.2.2.1
  rw [hdn] at c4
  have HP := Lib.hid (RefP.same h hb)
  have e : restV D kp tn at' = (2, D) := if_neg (by simp [hdn])
  rw [e]
  clear h hb e hdn
  go_enter Try.func42, Try.ntmps42
  go_wp2_with fail
  go_ret
  exact ⟨rfl, HP.out⟩
set_option maxRecDepth 100000 in
set_option maxHeartbeats 64000000 in
theorem refRest_down (h : RefO w B r mb nn V X D) (hX : ∀ b, X b → b < w.heap.size) (hnn : nn ≤ 1000000000) (KA : Option Addr) (kl kc : Nat) (tn at' : Int) (kp : List UInt8) (hkl : kl = kp.length) (hdn : D.dn = true) (hK : RdY w (fun b => b ≠ mb ∧ b ≠ r) KA kp) :
    Calls Try.prog 42 #[.pointer (some ⟨r, 0, none⟩), .agg #[.slice KA kl kc, .int .i64 tn, .int .i64 at']] w fun e w' => e = .returned (.int .i64 (restV D kp tn at').1) ∧ RefP w B r mb nn V X (restV D kp tn at').2 w' := by
  subst hkl
  have e : restV D kp tn at' = (0, { S := crS (many kp tn at') D.C D.S D.C.length, C := [], p := 0, dn := false, k := D.k }) := if_pos hdn
  rw [e]
  obtain ⟨w1, hw1⟩ : ∃ w1, w.alloc (.cells #[.slice KA kp.length kc, .int .i64 tn, .int .i64 at'] 25) = w1 := ⟨_, rfl⟩
  obtain ⟨cb, hcb⟩ : ∃ cb, w.heap.size = cb := ⟨_, rfl⟩
  have hb : Below w.heap.size w w1 := hw1 ▸ bstep w _
  have hcr : w1.heap[cb]? = some (.cells #[.slice KA kp.length kc, .int .i64 tn, .int .i64 at'] 25 (0, 0)) := by rw [← hw1, ← hcb]; exact blk_new w _ _
  have h1 := h.go hb
  obtain ⟨c0, c1, c2, c3, c4, c5⟩ := h1.cells
  rw [hdn] at c4
  obtain ⟨CA, cc, hV, hCA⟩ := h.slice
  obtain ⟨L, hL⟩ : ∃ L, D.C.length = L := ⟨_, rfl⟩
  rw [hL] at hV hCA ⊢
  have hr := h.lt
  have hm := h.lts.1
  have H := Lib.hid (show RefO w1 B r mb (nn + 0) V (fun b => X b ∨ w.heap.size ≤ b ∧ b < w1.heap.size) { S := crS (many kp tn at') D.C D.S 0, C := D.C, p := D.p, dn := true, k := D.k } from by
    have := h1.moreX (Y := fun b => X b ∨ w.heap.size ≤ b ∧ b < w1.heap.size) (fun b hb => .inl hb)
    obtain ⟨S, C, p, dn, k⟩ := D
    cases hdn
    exact this)
  have HV := Lib.hid (And.intro hL (And.intro hV (And.intro hCA (And.intro hnn (And.intro h.ok (And.intro hm (And.intro hr (And.intro hb (And.intro hX h1.ne)))))))))
  have HC := Lib.hid (And.intro hcr (And.intro (hK.go hb) hcb))
  obtain ⟨m, hm'⟩ : ∃ m, many kp tn at' = m := ⟨_, rfl⟩
  have HM := Lib.hid hm'
  rw [hm'] at H ⊢
  clear h h1 hX hnn hdn hK e hb hcr c0 c1 c3 c5 hV hCA hL hr hm hm'
  go_enter Try.func42, Try.ntmps42
  go_wp2_with fail
  clear hw1 hcb
  go_loopw [5] (fun kv wr => ∃ k : Nat, k ≤ L ∧ kv = .int .i64 k ∧ RefO wr B r mb (nn + k) V (fun b => X b ∨ w.heap.size ≤ b ∧ b < wr.heap.size) { S := crS m D.C D.S k, C := D.C, p := D.p, dn := true, k := D.k } ∧ Kept (fun b => b ≠ mb ∧ b ≠ r) w1 wr) (fun kv _ => L - (intOf kv).toNat)
  case atStart => exact ⟨0, by omega, rfl, H.out, Kept.refl _ _⟩
  case round =>
    obtain ⟨k, hi, rfl, hR, hK⟩ := hrel
    clear H
    have d2 := hR.cells.2.2.1
    rw [HV.out.2.1] at d2
    by_cases hlt : k < L
    · have hI : (k : Int) < (L : Int) := by omega
      have hk0 : (0 : Int) ≤ (k : Int) := by omega
      have hk8 : (0 : Int) ≤ (k : Int) / 8 := by omega
      have X1 := Lib.hid (wrap64_in' ((k : Int) + 1) (by have := HV.out.2.2.2.2.1.m; have := HV.out.1; omega))
      obtain ⟨g, cc', A, c, hV', ce1, ce2, hA, hRd, hgm⟩ := hR.ent k (by show k < D.C.length; rw [HV.out.1]; exact hlt)
      have hV2 := hV'
      rw [HV.out.2.1] at hV2
      injection hV2 with hV2 hVl hV3
      clear hVl
      subst hV2
      obtain ⟨n, hn⟩ : ∃ n, (D.C.getD k default).1 = n := ⟨_, rfl⟩
      obtain ⟨l, hl⟩ : ∃ l, (D.C.getD k default).2 = l := ⟨_, rfl⟩
      have hcm := HV.out.2.2.2.2.1.c (D.C.getD k default) (getD_mem' (by rw [HV.out.1]; exact hlt))
      have ce1' : wr.cell? ⟨g, k * 2, none⟩ = some (.int .i64 ((D.C.getD k default).1 : Int)) := ce1
      have hRd' : RdY wr (fun b => (X b ∨ w.heap.size ≤ b ∧ b < wr.heap.size) ∧ Fr r mb V b) A (D.C.getD k default).2 := hRd
      rw [hn] at ce1' hcm
      rw [hl] at hRd' hcm
      have hcr := heap_kept hK HC.out.1 ⟨by have := HV.out.2.2.2.2.2.1; have := HC.out.2.2; omega, by have := HV.out.2.2.2.2.2.2.1; have := HC.out.2.2; omega⟩
      have e0 : wr.cell? ⟨cb, 0, none⟩ = some (.slice KA kp.length kc) := blk_cell hcr 0 rfl
      have e1 : wr.cell? ⟨cb, 1, none⟩ = some (.int .i64 tn) := blk_cell hcr 1 rfl
      have e2 : wr.cell? ⟨cb, 2, none⟩ = some (.int .i64 at') := blk_cell hcr 2 rfl
      have hKp : RdY wr (fun b => b ≠ mb ∧ b ≠ r) KA kp := HC.out.2.1.kept hK
      obtain ⟨wo, rfl⟩ : ∃ wo : World, wo = wr := ⟨_, rfl⟩
      have HR := Lib.hid (And.intro hR (And.intro hK (And.intro hlt (And.intro hRd' (And.intro hcm (And.intro hn (And.intro hl (And.intro hA (And.intro ce1' (And.intro ce2 d2))))))))))
      have HKp := Lib.hid hKp
      obtain ⟨M, hM⟩ : ∃ M, m k = M := ⟨_, rfl⟩
      have HMk := Lib.hid (show many kp tn at' k = M by rw [HM.out]; exact hM)
      clear hi hR hK hlt hV' ce1 hA hRd hRd' hgm hV3 hn hl hcm hcr hKp hM
      go_upto_region 7 with fail
      obtain ⟨Bt, hBt⟩ : ∃ Bt : Bool, decide (k / 8 < kp.length ∧ (kp.getD (k / 8) 0).toNat / 2 ^ (k % 8) % 2 = 1) = Bt := ⟨_, rfl⟩
      have HBt := Lib.hid hBt
      clear hBt
      go_cut [0, 6, 41] from 23 to 41 (fun s0 s6 s41 wx => s0 = .pointer (some ⟨r, 0, none⟩) ∧ s6 = .int .i64 0 ∧ s41 = .bool Bt ∧ wx = wo)
      case first =>
        have X8 := Lib.hid (show wrap64 ((k : Int) / 8) = (k : Int) / 8 from wrap64_in' _ (by have := X1.out; have := HV.out.2.2.2.2.1.m; have := HV.out.1; have := HR.out.2.2.1; omega))
        by_cases hq : k / 8 < kp.length
        · obtain ⟨kb, ko, hKA, hkb, hkc⟩ := RdX.at_ HKp.out hq
          rw [hKA] at e0
          have q1 : decide ((k : Int) / 8 < (kp.length : Int)) = true := decide_eq_true (by omega)
          have q2 : (k : Int) / 8 < (kp.length : Int) := by omega
          have q4 : ((k : Int) / 8).toNat = k / 8 := by omega
          have q5 : (k : Int).tmod 8 = (k : Int) % 8 := IntWalk.rem_in _ _ (by omega)
          have q6 : ((k : Int) % 8).toNat = k % 8 := by omega
          have q7 : 0 ≤ (k : Int) % 8 := by omega
          have qc : wo.cell? ⟨kb, ko + k / 8, none⟩ = some (.int .u8 (bAt kp (k / 8))) := hkc.2
          have hbit := bit_rem kp k
          by_cases hb : (kp.getD (k / 8) 0).toNat / 2 ^ (k % 8) % 2 = 1
          · have HE := Lib.hid (show true = Bt by rw [← HBt.out]; exact (decide_eq_true ⟨hq, hb⟩).symm)
            rw [hb] at hbit
            have hbit2 : (bAt kp (k / 8) / 2 ^ (k % 8)).tmod 2 = 1 := hbit
            clear hbit
            clear hq hb hKA hkb hkc
            have x8 := X8.out
            go_wp2_with fail
            go_meet
            exact ⟨rfl, rfl, congrArg _ HE.out, rfl⟩
          · have hb0 : (kp.getD (k / 8) 0).toNat / 2 ^ (k % 8) % 2 = 0 := by omega
            have HE := Lib.hid (show false = Bt by rw [← HBt.out]; exact (decide_eq_false (fun h => hb h.2)).symm)
            rw [hb0] at hbit
            have hbit2 : (bAt kp (k / 8) / 2 ^ (k % 8)).tmod 2 = 0 := hbit
            clear hbit
            clear hq hb hb0 hKA hkb hkc
            have x8 := X8.out
            go_wp2_with fail
            go_meet
            exact ⟨rfl, rfl, congrArg _ HE.out, rfl⟩
        · have q1 : decide ((k : Int) / 8 < (kp.length : Int)) = false := decide_eq_false (by omega)
          have HE := Lib.hid (show false = Bt by rw [← HBt.out]; exact (decide_eq_false (fun h => hq h.1)).symm)
          clear hq
          have x8 := X8.out
          go_wp2_with fail
          go_meet
          exact ⟨rfl, rfl, congrArg _ HE.out, rfl⟩
      obtain ⟨rfl, rfl, rfl, hwc⟩ := hcut
      rw [hwc]
      clear hwc wc
      go_upto_if 41 with fail
      obtain ⟨M1, hM1⟩ : ∃ M1 : Int, (if Bt = true then 128 else 0) = M1 := ⟨_, rfl⟩
      have HM1 := Lib.hid hM1
      clear hM1
      go_cut [6] from 41 to 41 (fun s6 wx => s6 = .int .i64 M1 ∧ wx = wo)
      case first =>
        cases Bt with
        | true =>
          have HE := Lib.hid (show (128 : Int) = M1 from HM1.out)
          clear HM1
          go_wp2_with fail
          go_meet
          exact ⟨congrArg _ HE.out, rfl⟩
        | false =>
          have HE := Lib.hid (show (0 : Int) = M1 from HM1.out)
          clear HM1
          go_wp2_with fail
          go_meet
          exact ⟨congrArg _ HE.out, rfl⟩
      obtain ⟨rfl, hwc⟩ := hcut
      rw [hwc]
      clear hwc wc
      go_upto_if 45 with fail
      go_cut [6] from 46 to 47 (fun s6 wx => ∃ Mi : Int, s6 = .int .i64 Mi ∧ (max 0 (min Mi 128)).toNat = M ∧ wx = wo)
      case first =>
        by_cases ht : (k : Int) = tn
        · have kt : ((k : Int) == tn) = true := beq_iff_eq.2 ht
          have HE := Lib.hid (show (max 0 (min at' 128)).toNat = M by rw [← HMk.out]; exact (if_pos ht).symm)
          clear ht
          go_wp2_with fail
          go_meet
          exact ⟨_, rfl, HE.out, rfl⟩
        · have kt : ((k : Int) == tn) = false := beq_eq_false_iff_ne.2 ht
          have HE := Lib.hid (show (max 0 (min M1 128)).toNat = M by
            rw [← HMk.out, ← HM1.out, ← HBt.out]
            unfold many
            rw [if_neg ht]
            simp only [decide_eq_true_eq]
            split <;> rfl)
          clear ht
          go_wp2_with fail
          go_meet
          exact ⟨_, rfl, HE.out, rfl⟩
      obtain ⟨Mi, rfl, hMi, hwc⟩ := hcut
      rw [hwc]
      clear hwc wc
      have HMi := Lib.hid hMi
      clear hMi
      go_wp2_with fail
      have HAt := Lib.hid (refAt_calls HR.out.1 n (by show n < (crS m D.C D.S k).length; rw [crS_length]; exact HR.out.2.2.2.2.1.1))
      refine HAt.out.mono ?_
      rintro e u ⟨A2, ca, rfl, ho, hb⟩
      obtain ⟨s, hs⟩ : ∃ s, (crS m D.C D.S k).getD n [] = s := ⟨_, rfl⟩
      have hs128 : s.length = 128 := by
        have := ho.1
        rw [bv_length] at this
        rw [← hs]
        show ((crS m D.C D.S k).getD n []).length = 128
        exact this
      have ho : u.ownsRow wo.heap.size 5 1 (.slice A2 128 ca) 128 (bv s) := by rw [← hs]; exact ho
      obtain ⟨g2, hg2⟩ := own_some ho (by omega)
      subst hg2
      have HS := Lib.hid (And.intro hs (And.intro hs128 (And.intro ho hb)))
      clear HAt ho hb hs hs128 e0 e1 e2 ce2 ce1' d2
      go_wp2_with fail
      go_loopw [8] (fun iv wr => ∃ i : Nat, i ≤ M ∧ iv = .int .i64 i ∧ wr.ownsRow wo.heap.size 5 1 (.slice (some ⟨g2, 0, none⟩) 128 ca) 128 (bv (l.take i ++ s.drop i)) ∧ Below wo.heap.size wo wr) (fun iv _ => M - (intOf iv).toNat)
      case atStart => exact ⟨0, by omega, rfl, by simpa using HS.out.2.2.1, HS.out.2.2.2⟩
      case round =>
        obtain ⟨i, hi, rfl, ho, hb⟩ := hrel
        have hMi := HMi.out
        have d1 := (HR.out.1.go hb).cells.2.1
        have d2 : wr.cell? ⟨r, 2, none⟩ = some (.slice (some ⟨g, 0, none⟩) L cc) := (hb.cell (p := ⟨r, 2, none⟩) (block_lt HR.out.2.2.2.2.2.2.2.2.2.2)).trans HR.out.2.2.2.2.2.2.2.2.2.2
        have ce1 : wr.cell? ⟨g, k * 2, none⟩ = some (.int .i64 (n : Int)) := (hb.cell (p := ⟨g, k * 2, none⟩) (block_lt HR.out.2.2.2.2.2.2.2.2.1)).trans HR.out.2.2.2.2.2.2.2.2.1
        have ce2 : wr.cell? ⟨g, k * 2 + 1, none⟩ = some (.slice A 128 c) := (hb.cell (p := ⟨g, k * 2 + 1, none⟩) (block_lt HR.out.2.2.2.2.2.2.2.2.2.1)).trans HR.out.2.2.2.2.2.2.2.2.2.1
        by_cases hlt : i < M
        · have q0 : (0 : Int) ≤ (i : Int) := by omega
          have q1 : (i : Int) < 128 := by omega
          have q2 : (i : Int) < Mi := by omega
          obtain ⟨lb, lo, hA, hlb, hlc⟩ := RdX.at_ (RdY.go HR.out.2.2.2.1 hb) (k := i) (by rw [HR.out.2.2.2.2.1.2]; omega)
          have qc : wr.cell? ⟨lb, lo + i, none⟩ = some (.int .u8 (bAt l i)) := hlc.2
          rw [hA] at ce2
          have hmx : (l.take i ++ s.drop i).length = 128 := by rw [List.length_append, List.length_take, List.length_drop, HR.out.2.2.2.2.1.2, HS.out.2.1]; omega
          have hx0 := ho.cellAt i (by omega)
          have hx : ∃ v, wr.cell? ⟨g2, i, none⟩ = some v := ⟨_, hx0.trans (List.getElem?_eq_getElem (by rw [bv_length, hmx]; omega))⟩
          obtain ⟨v, hx⟩ := hx
          have hf := ho.frozenAt i
          have Hi := Lib.hid (And.intro hlt (And.intro ho hb))
          have X3 := Lib.hid (wrap64_in' ((i : Int) + 1) (by omega))
          clear hi hlt ho hb hMi d1 ce1 hA hlb hlc hmx hx0
          go_wp2_with fail
          try rw [X3.out]
          obtain ⟨hlt, ho, hb⟩ := Hi.out
          obtain ⟨o3, g3⟩ := ho.stored i (.int .u8 (bAt l i))
          rw [mix_set l s i HR.out.2.2.2.2.1.2 HS.out.2.1 (by have := HMi.out; omega)] at o3
          refine ⟨⟨i + 1, hlt, by push_cast; rfl, o3, hb.setCell (own_ge ho) _⟩, by simp [intOf]; omega⟩
        · obtain rfl : i = M := by omega
          have HI := Lib.hid (And.intro ho hb)
          by_cases h128 : (i : Int) < 128
          · have q2 : decide ((i : Int) < Mi) = false := decide_eq_false (by omega)
            clear hi hlt ho hb hMi
            have hwr := HI.out.2
            have hRd := (Below.refl wr.heap.size wr).drew
            have hbd := bnext hwr hRd
            have hsz := hbd.size
            have hwo : w.heap.size ≤ wo.heap.size := by have := HR.out.2.1.size; have := HV.out.2.2.2.2.2.2.2.1.size; omega
            have hRr := (HR.out.1.go hbd).moreX (Y := fun b => X b ∨ w.heap.size ≤ b ∧ b < wr.heap.size) (fun b hb => hb.imp id (fun hb => ⟨hb.1, Nat.lt_of_lt_of_le hb.2 hwr.size⟩))
            have hmx : (l.take i ++ s.drop i).length = 128 := by rw [List.length_append, List.length_take, List.length_drop, HR.out.2.2.2.2.1.2, HS.out.2.1]; have := HMi.out; omega
            have hlts := HR.out.1.lts
            have hlt0 := HR.out.1.lt
            have hA2 : RdY wr.drew (fun b => (X b ∨ w.heap.size ≤ b ∧ b < wr.heap.size) ∧ Fr r mb V b) (some ⟨g2, 0, none⟩) (l.take i ++ s.drop i) := by
              have h0 := RdY.of_own (S := fun b => wo.heap.size ≤ b) (own_below HI.out.1 hRd) (fun b hb => hb)
              refine RdX.mono' h0 (fun b hb h => ⟨.inr ⟨by omega, hb⟩, ?_⟩)
              exact ⟨fun e => by omega, fun e => by omega, fun e => by have := hlts.2 b e; omega⟩
            obtain ⟨W', hup, hO, hk2⟩ := hRr.put (by have := HV.out.2.2.2.1; have := HV.out.2.2.2.2.1.m; have := HV.out.1; have := HR.out.2.2.1; unfold maxLen; omega) n (by show n < (crS m D.C D.S k).length; rw [crS_length]; exact HR.out.2.2.2.2.1.1) (some ⟨g2, 0, none⟩) ca (l.take i ++ s.drop i) hmx (fun e => by cases e) hA2
            have hO2 : RefO W' B r mb (nn + (k + 1)) V (fun b => X b ∨ w.heap.size ≤ b ∧ b < W'.heap.size) { S := crS m D.C D.S (k + 1), C := D.C, p := D.p, dn := true, k := D.k } := by
              have e1 : crS m D.C D.S (k + 1) = (crS m D.C D.S k).set n (l.take i ++ s.drop i) := by
                rw [crS, HR.out.2.2.2.2.2.1, HR.out.2.2.2.2.2.2.1, HS.out.1, ← HMk.out, HM.out]
              rw [e1]
              have h9 := hk2.size
              exact hO.moreX (fun b hb => hb.imp id (fun hb => ⟨hb.1, Nat.lt_of_lt_of_le hb.2 h9⟩))
            have HSS := Lib.hid (show ∀ Y, Kept (fun b => b ≠ mb) wr Y → (Y.cell? ⟨r, 1, none⟩ = some (.map (some mb)) ∧ Y.cell? ⟨r, 2, none⟩ = some (.slice (some ⟨g, 0, none⟩) L cc) ∧ Y.cell? ⟨g, k * 2, none⟩ = some (.int .i64 (n : Int))) from fun Y hY =>
              have hx : ∀ b, b ≠ mb → ∀ i v, wr.cell? ⟨b, i, none⟩ = some v → Y.cell? ⟨b, i, none⟩ = some v := fun b hb i v hv => (World.cell?_of_block (a := ⟨b, i, none⟩) (hY.block b (block_lt hv) hb)).trans hv
              ⟨hx r HV.out.2.2.2.2.2.2.2.2.2.1 _ _ d1, hx r HV.out.2.2.2.2.2.2.2.2.2.1 _ _ d2, hx g (fun e => HV.out.2.2.2.2.2.2.2.2.2.2.2 (by rw [HV.out.2.1, ← e]; rfl)) _ _ ce1⟩)
            have HU := Lib.hid hup
            have HO := Lib.hid (And.intro hO2 (And.intro hk2 hbd))
            clear hwr hRd hbd hsz hwo hRr hmx hlts hlt0 hA2 hup hO hO2 hk2 d1 ce1 ce2
            go_wp2_with fail
            refine wp_region_held_drew (S := (fun Y => Y.cell? ⟨r, 1, none⟩ = some (.map (some mb)) ∧ Y.cell? ⟨r, 2, none⟩ = some (.slice (some ⟨g, 0, none⟩) L cc) ∧ Y.cell? ⟨g, k * 2, none⟩ = some (.int .i64 (n : Int)))) (by kernel_rfl) (HSS.out _ (Kept.refl _ _).drew) (fun hHeld => ?_)
            refine wpAnyH_take (i := 0) (v := ?_) rfl (by kernel_rfl) (by kernel_rfl) (by kernel_rfl) (fun _ _ _ h => h) (Or.inl ⟨by kernel_rfl, ?_⟩) (by assumption) ?_
            rotate_left
            · intro w hSw; (try dsimp only at hSw); go_simp; try with_reducible rfl
            simp only [Act.put, List.getElem_toArray, List.getElem_cons_succ, List.getElem_cons_zero, List.setIfInBounds_toArray, List.set_cons_zero, List.set_cons_succ]
            refine wpAnyH_take (i := 1) (v := ?_) rfl (by kernel_rfl) (by kernel_rfl) (by kernel_rfl) (fun _ _ _ h => h) (Or.inl ⟨by kernel_rfl, ?_⟩) (by assumption) ?_
            rotate_left
            · intro w hSw; (try dsimp only at hSw); go_simp; try with_reducible rfl
            simp only [Act.put, List.getElem_toArray, List.getElem_cons_succ, List.getElem_cons_zero, List.setIfInBounds_toArray, List.set_cons_zero, List.set_cons_succ]
            refine wpAnyH_take (i := 2) (v := ?_) rfl (by kernel_rfl) (by kernel_rfl) (by kernel_rfl) (fun _ _ _ h => h) (Or.inl ⟨by kernel_rfl, ?_⟩) (by assumption) ?_
            rotate_left
            · intro w hSw; (try dsimp only at hSw); go_simp; try with_reducible rfl
            simp only [Act.put, List.getElem_toArray, List.getElem_cons_succ, List.getElem_cons_zero, List.setIfInBounds_toArray, List.set_cons_zero, List.set_cons_succ]
            refine wpAnyH_take (i := 3) (v := ?_) rfl (by kernel_rfl) (by kernel_rfl) (by kernel_rfl) (fun _ _ _ h => h) (Or.inl ⟨by kernel_rfl, ?_⟩) (by assumption) ?_
            rotate_left
            · intro w hSw; (try dsimp only at hSw); go_simp; try with_reducible rfl
            simp only [Act.put, List.getElem_toArray, List.getElem_cons_succ, List.getElem_cons_zero, List.setIfInBounds_toArray, List.set_cons_zero, List.set_cons_succ]
            refine wpAnyH_take (i := 4) (v := ?_) rfl (by kernel_rfl) (by kernel_rfl) (by kernel_rfl) (fun _ _ _ h => h) (Or.inl ⟨by kernel_rfl, ?_⟩) (by assumption) ?_
            rotate_left
            · intro w hSw; (try dsimp only at hSw); go_simp; try with_reducible rfl
            simp only [Act.put, List.getElem_toArray, List.getElem_cons_succ, List.getElem_cons_zero, List.setIfInBounds_toArray, List.set_cons_zero, List.set_cons_succ]
            refine wpAnyH_take (i := 5) (v := ?_) rfl (by kernel_rfl) (by kernel_rfl) (by kernel_rfl) (fun _ _ _ h => h) (Or.inl ⟨by kernel_rfl, ?_⟩) (by assumption) ?_
            rotate_left
            · intro w hSw; (try dsimp only at hSw); go_simp; try with_reducible rfl
            simp only [Act.put, List.getElem_toArray, List.getElem_cons_succ, List.getElem_cons_zero, List.setIfInBounds_toArray, List.set_cons_zero, List.set_cons_succ]
            refine wpAnyH_take (i := 6) (v := ?_) rfl (by kernel_rfl) (by kernel_rfl) (by kernel_rfl) (fun _ _ _ h => h) (Or.inl ⟨by kernel_rfl, ?_⟩) (by assumption) ?_
            rotate_left
            · intro w hSw; (try dsimp only at hSw); go_simp; try with_reducible rfl
            simp only [Act.put, List.getElem_toArray, List.getElem_cons_succ, List.getElem_cons_zero, List.setIfInBounds_toArray, List.set_cons_zero, List.set_cons_succ]
            refine wpAnyH_take (i := 7) (v := ?_) rfl (by kernel_rfl) (by kernel_rfl) (by kernel_rfl) (fun _ _ _ h => h) (Or.inl ⟨by kernel_rfl, ?_⟩) (by assumption) ?_
            rotate_left
            · intro w hSw; (try dsimp only at hSw); go_simp; try with_reducible rfl
            simp only [Act.put, List.getElem_toArray, List.getElem_cons_succ, List.getElem_cons_zero, List.setIfInBounds_toArray, List.set_cons_zero, List.set_cons_succ]
            refine wpAnyH_take (i := 8) (v := ?_) rfl (by kernel_rfl) (by kernel_rfl) (by kernel_rfl) (fun _ _ _ h => h) (Or.inl ⟨by kernel_rfl, ?_⟩) (by assumption) ?_
            rotate_left
            · intro w hSw; (try dsimp only at hSw); go_simp; try with_reducible rfl
            simp only [Act.put, List.getElem_toArray, List.getElem_cons_succ, List.getElem_cons_zero, List.setIfInBounds_toArray, List.set_cons_zero, List.set_cons_succ]
            refine wpAnyH_take (i := 9) (v := ?_) rfl (by kernel_rfl) (by kernel_rfl) (by kernel_rfl) (fun _ _ _ h => h) (Or.inl ⟨by kernel_rfl, ?_⟩) (by assumption) ?_
            rotate_left
            · intro w hSw; (try dsimp only at hSw); go_simp; try with_reducible rfl
            simp only [Act.put, List.getElem_toArray, List.getElem_cons_succ, List.getElem_cons_zero, List.setIfInBounds_toArray, List.set_cons_zero, List.set_cons_succ]
            refine wpAnyH_take (i := 10) (v := ?_) rfl (by kernel_rfl) (by kernel_rfl) (by kernel_rfl) (fun _ _ _ h => h) (Or.inl ⟨by kernel_rfl, ?_⟩) (by assumption) ?_
            rotate_left
            · intro w hSw; (try dsimp only at hSw); go_simp; try with_reducible rfl
            simp only [Act.put, List.getElem_toArray, List.getElem_cons_succ, List.getElem_cons_zero, List.setIfInBounds_toArray, List.set_cons_zero, List.set_cons_succ]
            refine wpAnyH_take (i := 11) (v := ?_) rfl (by kernel_rfl) (by kernel_rfl) (by kernel_rfl) (fun _ _ _ h => h) (Or.inl ⟨by kernel_rfl, ?_⟩) (by assumption) ?_
            rotate_left
            · intro w hSw; (try dsimp only at hSw); go_simp; try with_reducible rfl
            simp only [Act.put, List.getElem_toArray, List.getElem_cons_succ, List.getElem_cons_zero, List.setIfInBounds_toArray, List.set_cons_zero, List.set_cons_succ]
            refine wpAnyH_take (i := 12) (v := ?_) rfl (by kernel_rfl) (by kernel_rfl) (by kernel_rfl) (fun _ _ _ h => h) (Or.inl ⟨by kernel_rfl, ?_⟩) (by assumption) ?_
            rotate_left
            · intro w hSw; (try dsimp only at hSw); go_simp; try with_reducible rfl
            simp only [Act.put, List.getElem_toArray, List.getElem_cons_succ, List.getElem_cons_zero, List.setIfInBounds_toArray, List.set_cons_zero, List.set_cons_succ]
            refine wpAnyH_ready (rs := [13]) (by kernel_rfl) (by simp) ?_
            refine AllReadyH.cons rfl (fun K hK => ?_) AllReadyH.nil
            have hu := HU.out
            go_simp
            clear hu
            refine hK.out _ _ (HSS.out _ ((Kept.refl _ _).drew.trans HO.out.2.1)) (fun hHeld => ?_)
            clear hK K
            try simp only [Act.put, List.getElem_toArray, List.getElem_cons_succ, List.getElem_cons_zero, List.setIfInBounds_toArray, List.set_cons_zero, List.set_cons_succ]
            refine wpAnyH_done (by kernel_rfl) ?_ _
            go_wp2_with fail
            try rw [X1.out]
            obtain ⟨hO, hk2, hbd⟩ := HO.out
            refine ⟨⟨k + 1, HR.out.2.2.1, by push_cast; rfl, hO, ?_⟩, by have := HR.out.2.2.1; simp [intOf]; omega⟩
            exact (HR.out.2.1.trans (hbd.keptS _)).trans (hk2.mono (fun b _ hb => hb.1))
          · have q1 : decide ((i : Int) < 128) = false := decide_eq_false h128
            clear hi hlt ho hb hMi h128
            have hwr := HI.out.2
            have hRd := (Below.refl wr.heap.size wr).drew
            have hbd := bnext hwr hRd
            have hsz := hbd.size
            have hwo : w.heap.size ≤ wo.heap.size := by have := HR.out.2.1.size; have := HV.out.2.2.2.2.2.2.2.1.size; omega
            have hRr := (HR.out.1.go hbd).moreX (Y := fun b => X b ∨ w.heap.size ≤ b ∧ b < wr.heap.size) (fun b hb => hb.imp id (fun hb => ⟨hb.1, Nat.lt_of_lt_of_le hb.2 hwr.size⟩))
            have hmx : (l.take i ++ s.drop i).length = 128 := by rw [List.length_append, List.length_take, List.length_drop, HR.out.2.2.2.2.1.2, HS.out.2.1]; have := HMi.out; omega
            have hlts := HR.out.1.lts
            have hlt0 := HR.out.1.lt
            have hA2 : RdY wr.drew (fun b => (X b ∨ w.heap.size ≤ b ∧ b < wr.heap.size) ∧ Fr r mb V b) (some ⟨g2, 0, none⟩) (l.take i ++ s.drop i) := by
              have h0 := RdY.of_own (S := fun b => wo.heap.size ≤ b) (own_below HI.out.1 hRd) (fun b hb => hb)
              refine RdX.mono' h0 (fun b hb h => ⟨.inr ⟨by omega, hb⟩, ?_⟩)
              exact ⟨fun e => by omega, fun e => by omega, fun e => by have := hlts.2 b e; omega⟩
            obtain ⟨W', hup, hO, hk2⟩ := hRr.put (by have := HV.out.2.2.2.1; have := HV.out.2.2.2.2.1.m; have := HV.out.1; have := HR.out.2.2.1; unfold maxLen; omega) n (by show n < (crS m D.C D.S k).length; rw [crS_length]; exact HR.out.2.2.2.2.1.1) (some ⟨g2, 0, none⟩) ca (l.take i ++ s.drop i) hmx (fun e => by cases e) hA2
            have hO2 : RefO W' B r mb (nn + (k + 1)) V (fun b => X b ∨ w.heap.size ≤ b ∧ b < W'.heap.size) { S := crS m D.C D.S (k + 1), C := D.C, p := D.p, dn := true, k := D.k } := by
              have e1 : crS m D.C D.S (k + 1) = (crS m D.C D.S k).set n (l.take i ++ s.drop i) := by
                rw [crS, HR.out.2.2.2.2.2.1, HR.out.2.2.2.2.2.2.1, HS.out.1, ← HMk.out, HM.out]
              rw [e1]
              have h9 := hk2.size
              exact hO.moreX (fun b hb => hb.imp id (fun hb => ⟨hb.1, Nat.lt_of_lt_of_le hb.2 h9⟩))
            have HSS := Lib.hid (show ∀ Y, Kept (fun b => b ≠ mb) wr Y → (Y.cell? ⟨r, 1, none⟩ = some (.map (some mb)) ∧ Y.cell? ⟨r, 2, none⟩ = some (.slice (some ⟨g, 0, none⟩) L cc) ∧ Y.cell? ⟨g, k * 2, none⟩ = some (.int .i64 (n : Int))) from fun Y hY =>
              have hx : ∀ b, b ≠ mb → ∀ i v, wr.cell? ⟨b, i, none⟩ = some v → Y.cell? ⟨b, i, none⟩ = some v := fun b hb i v hv => (World.cell?_of_block (a := ⟨b, i, none⟩) (hY.block b (block_lt hv) hb)).trans hv
              ⟨hx r HV.out.2.2.2.2.2.2.2.2.2.1 _ _ d1, hx r HV.out.2.2.2.2.2.2.2.2.2.1 _ _ d2, hx g (fun e => HV.out.2.2.2.2.2.2.2.2.2.2.2 (by rw [HV.out.2.1, ← e]; rfl)) _ _ ce1⟩)
            have HU := Lib.hid hup
            have HO := Lib.hid (And.intro hO2 (And.intro hk2 hbd))
            clear hwr hRd hbd hsz hwo hRr hmx hlts hlt0 hA2 hup hO hO2 hk2 d1 ce1 ce2
            go_wp2_with fail
            refine wp_region_held_drew (S := (fun Y => Y.cell? ⟨r, 1, none⟩ = some (.map (some mb)) ∧ Y.cell? ⟨r, 2, none⟩ = some (.slice (some ⟨g, 0, none⟩) L cc) ∧ Y.cell? ⟨g, k * 2, none⟩ = some (.int .i64 (n : Int)))) (by kernel_rfl) (HSS.out _ (Kept.refl _ _).drew) (fun hHeld => ?_)
            refine wpAnyH_take (i := 0) (v := ?_) rfl (by kernel_rfl) (by kernel_rfl) (by kernel_rfl) (fun _ _ _ h => h) (Or.inl ⟨by kernel_rfl, ?_⟩) (by assumption) ?_
            rotate_left
            · intro w hSw; (try dsimp only at hSw); go_simp; try with_reducible rfl
            simp only [Act.put, List.getElem_toArray, List.getElem_cons_succ, List.getElem_cons_zero, List.setIfInBounds_toArray, List.set_cons_zero, List.set_cons_succ]
            refine wpAnyH_take (i := 1) (v := ?_) rfl (by kernel_rfl) (by kernel_rfl) (by kernel_rfl) (fun _ _ _ h => h) (Or.inl ⟨by kernel_rfl, ?_⟩) (by assumption) ?_
            rotate_left
            · intro w hSw; (try dsimp only at hSw); go_simp; try with_reducible rfl
            simp only [Act.put, List.getElem_toArray, List.getElem_cons_succ, List.getElem_cons_zero, List.setIfInBounds_toArray, List.set_cons_zero, List.set_cons_succ]
            refine wpAnyH_take (i := 2) (v := ?_) rfl (by kernel_rfl) (by kernel_rfl) (by kernel_rfl) (fun _ _ _ h => h) (Or.inl ⟨by kernel_rfl, ?_⟩) (by assumption) ?_
            rotate_left
            · intro w hSw; (try dsimp only at hSw); go_simp; try with_reducible rfl
            simp only [Act.put, List.getElem_toArray, List.getElem_cons_succ, List.getElem_cons_zero, List.setIfInBounds_toArray, List.set_cons_zero, List.set_cons_succ]
            refine wpAnyH_take (i := 3) (v := ?_) rfl (by kernel_rfl) (by kernel_rfl) (by kernel_rfl) (fun _ _ _ h => h) (Or.inl ⟨by kernel_rfl, ?_⟩) (by assumption) ?_
            rotate_left
            · intro w hSw; (try dsimp only at hSw); go_simp; try with_reducible rfl
            simp only [Act.put, List.getElem_toArray, List.getElem_cons_succ, List.getElem_cons_zero, List.setIfInBounds_toArray, List.set_cons_zero, List.set_cons_succ]
            refine wpAnyH_take (i := 4) (v := ?_) rfl (by kernel_rfl) (by kernel_rfl) (by kernel_rfl) (fun _ _ _ h => h) (Or.inl ⟨by kernel_rfl, ?_⟩) (by assumption) ?_
            rotate_left
            · intro w hSw; (try dsimp only at hSw); go_simp; try with_reducible rfl
            simp only [Act.put, List.getElem_toArray, List.getElem_cons_succ, List.getElem_cons_zero, List.setIfInBounds_toArray, List.set_cons_zero, List.set_cons_succ]
            refine wpAnyH_take (i := 5) (v := ?_) rfl (by kernel_rfl) (by kernel_rfl) (by kernel_rfl) (fun _ _ _ h => h) (Or.inl ⟨by kernel_rfl, ?_⟩) (by assumption) ?_
            rotate_left
            · intro w hSw; (try dsimp only at hSw); go_simp; try with_reducible rfl
            simp only [Act.put, List.getElem_toArray, List.getElem_cons_succ, List.getElem_cons_zero, List.setIfInBounds_toArray, List.set_cons_zero, List.set_cons_succ]
            refine wpAnyH_take (i := 6) (v := ?_) rfl (by kernel_rfl) (by kernel_rfl) (by kernel_rfl) (fun _ _ _ h => h) (Or.inl ⟨by kernel_rfl, ?_⟩) (by assumption) ?_
            rotate_left
            · intro w hSw; (try dsimp only at hSw); go_simp; try with_reducible rfl
            simp only [Act.put, List.getElem_toArray, List.getElem_cons_succ, List.getElem_cons_zero, List.setIfInBounds_toArray, List.set_cons_zero, List.set_cons_succ]
            refine wpAnyH_take (i := 7) (v := ?_) rfl (by kernel_rfl) (by kernel_rfl) (by kernel_rfl) (fun _ _ _ h => h) (Or.inl ⟨by kernel_rfl, ?_⟩) (by assumption) ?_
            rotate_left
            · intro w hSw; (try dsimp only at hSw); go_simp; try with_reducible rfl
            simp only [Act.put, List.getElem_toArray, List.getElem_cons_succ, List.getElem_cons_zero, List.setIfInBounds_toArray, List.set_cons_zero, List.set_cons_succ]
            refine wpAnyH_take (i := 8) (v := ?_) rfl (by kernel_rfl) (by kernel_rfl) (by kernel_rfl) (fun _ _ _ h => h) (Or.inl ⟨by kernel_rfl, ?_⟩) (by assumption) ?_
            rotate_left
            · intro w hSw; (try dsimp only at hSw); go_simp; try with_reducible rfl
            simp only [Act.put, List.getElem_toArray, List.getElem_cons_succ, List.getElem_cons_zero, List.setIfInBounds_toArray, List.set_cons_zero, List.set_cons_succ]
            refine wpAnyH_take (i := 9) (v := ?_) rfl (by kernel_rfl) (by kernel_rfl) (by kernel_rfl) (fun _ _ _ h => h) (Or.inl ⟨by kernel_rfl, ?_⟩) (by assumption) ?_
            rotate_left
            · intro w hSw; (try dsimp only at hSw); go_simp; try with_reducible rfl
            simp only [Act.put, List.getElem_toArray, List.getElem_cons_succ, List.getElem_cons_zero, List.setIfInBounds_toArray, List.set_cons_zero, List.set_cons_succ]
            refine wpAnyH_take (i := 10) (v := ?_) rfl (by kernel_rfl) (by kernel_rfl) (by kernel_rfl) (fun _ _ _ h => h) (Or.inl ⟨by kernel_rfl, ?_⟩) (by assumption) ?_
            rotate_left
            · intro w hSw; (try dsimp only at hSw); go_simp; try with_reducible rfl
            simp only [Act.put, List.getElem_toArray, List.getElem_cons_succ, List.getElem_cons_zero, List.setIfInBounds_toArray, List.set_cons_zero, List.set_cons_succ]
            refine wpAnyH_take (i := 11) (v := ?_) rfl (by kernel_rfl) (by kernel_rfl) (by kernel_rfl) (fun _ _ _ h => h) (Or.inl ⟨by kernel_rfl, ?_⟩) (by assumption) ?_
            rotate_left
            · intro w hSw; (try dsimp only at hSw); go_simp; try with_reducible rfl
            simp only [Act.put, List.getElem_toArray, List.getElem_cons_succ, List.getElem_cons_zero, List.setIfInBounds_toArray, List.set_cons_zero, List.set_cons_succ]
            refine wpAnyH_take (i := 12) (v := ?_) rfl (by kernel_rfl) (by kernel_rfl) (by kernel_rfl) (fun _ _ _ h => h) (Or.inl ⟨by kernel_rfl, ?_⟩) (by assumption) ?_
            rotate_left
            · intro w hSw; (try dsimp only at hSw); go_simp; try with_reducible rfl
            simp only [Act.put, List.getElem_toArray, List.getElem_cons_succ, List.getElem_cons_zero, List.setIfInBounds_toArray, List.set_cons_zero, List.set_cons_succ]
            refine wpAnyH_ready (rs := [13]) (by kernel_rfl) (by simp) ?_
            refine AllReadyH.cons rfl (fun K hK => ?_) AllReadyH.nil
            have hu := HU.out
            go_simp
            clear hu
            refine hK.out _ _ (HSS.out _ ((Kept.refl _ _).drew.trans HO.out.2.1)) (fun hHeld => ?_)
            clear hK K
            try simp only [Act.put, List.getElem_toArray, List.getElem_cons_succ, List.getElem_cons_zero, List.setIfInBounds_toArray, List.set_cons_zero, List.set_cons_succ]
            refine wpAnyH_done (by kernel_rfl) ?_ _
            go_wp2_with fail
            try rw [X1.out]
            obtain ⟨hO, hk2, hbd⟩ := HO.out
            refine ⟨⟨k + 1, HR.out.2.2.1, by push_cast; rfl, hO, ?_⟩, by have := HR.out.2.2.1; simp [intOf]; omega⟩
            exact (HR.out.2.1.trans (hbd.keptS _)).trans (hk2.mono (fun b _ hb => hb.1))
    · obtain rfl : k = L := by omega
      have HR := Lib.hid (And.intro hR hK)
      have f2 := hR.fr 2
      have f3 := hR.fr 3
      have f4 := hR.fr 4
      have d3 := hR.cells.2.2.2.1
      have d4 := hR.cells.2.2.2.2.1
      clear hi hR hK hlt
      go_wp2_with fail
      go_ret
      refine ⟨rfl, ?_⟩
      have hs : wr.heap.size = (((wr.setCell ⟨r, 2, none⟩ (.slice none 0 0)).setCell ⟨r, 4, none⟩ (.bool false)).setCell ⟨r, 3, none⟩ (.int .i64 0)).heap.size := by simp [World.setCell]
      have hd := HR.out.1.drop
      have hk2 : Kept (fun b => b ≠ r) (wr.setCell ⟨r, 2, none⟩ (.slice none 0 0)) (((wr.setCell ⟨r, 2, none⟩ (.slice none 0 0)).setCell ⟨r, 4, none⟩ (.bool false)).setCell ⟨r, 3, none⟩ (.int .i64 0)) := ((Kept.refl _ _).setCell (fun e => e rfl) _).setCell (fun e => e rfl) _
      have hok := hd.ok
      have ht := hd.turn (D' := { S := crS m D.C D.S k, C := [], p := 0, dn := false, k := D.k }) ⟨hok.s, hok.c, hok.m, hok.n, by simp⟩ rfl rfl hk2 (by
        rw [cells_set (cells_set hd.box _) _]
        simp [refC])
      refine ⟨.slice none 0 0, ?_, ?_⟩
      · have hm := HV.out.2.2.2.2.1.m
        have hl := HV.out.1
        exact (ht.moreX (fun b hb => hb.imp id (fun hb => ⟨hb.1, by rw [← hs]; exact hb.2⟩))).mono (by omega)
      · have hkw : Kept (Fr r mb V) w w1 := HV.out.2.2.2.2.2.2.2.1.keptS _
        exact (hkw.trans (HR.out.2.mono (fun b _ hb => ⟨hb.2.1, hb.1⟩))).trans (((Kept.refl _ wr).setCell (fun hh => hh.1 rfl) _).trans (hk2.mono (fun b _ hb => hb.1)))
end
end Go.Proofs.Ytpleaicpkpjkjaa
