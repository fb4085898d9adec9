/-
  The writes of a cache that come behind a crash: comes, walked. Conditions stand at each theorem.
-/
import Derived.Test.YtpleaicpkpjkjaaBlk15
import Derived.Test.YtpleaicpkpjkjaaBlkPlain2
import Derived.Laws.BitsAllLaws
namespace Go.Proofs.Ytpleaicpkpjkjaa
open Go Go.RowKit Go.Kw Go.Shelf
attribute [local go_sem] Oper.semAt_some
set_option linter.unusedVariables false
set_option linter.unusedSimpArgs false

/-- What the iterator holds: the boxes of the device's pointer and of the crash, the device's cache, its writes, the crash's bytes. -/
def HoldK (b2 b3 d sb : Nat) (CA : Option Addr) (cc : Nat) (C : List (Nat × List UInt8)) (KA : Option Addr) (kc : Nat) (kp : List UInt8) (to at' : Int) (W : World) : Prop :=
  Boxed W b2 28 (.pointer (some ⟨d, 0, none⟩)) ∧ W.heap[b3]? = some (.cells #[.slice KA kp.length kc, .int .i64 to, .int .i64 at'] 25 (0, 0)) ∧ W.cell? ⟨d, 1, none⟩ = some (.slice CA C.length cc) ∧
    RdX W (fun b => b ≠ sb) CA (C.length * 129) (fun i => (cacC C).getD i undef) ∧ RdY W (fun b => b ≠ sb) KA kp
theorem HoldK.own {B₀ b2 b3 d sb : Nat} {CA : Option Addr} {cc : Nat} {C : List (Nat × List UInt8)} {KA : Option Addr} {kc : Nat} {kp : List UInt8} {to at' : Int} : OwnW B₀ (HoldK b2 b3 d sb CA cc C KA kc kp to at') :=
  (boxed_ownW _ _ _ _).and (block_ownW.and ((cell_own _ _ _).and ((RdX.own _).and (RdY.own _ _ _ _))))
theorem HoldK.kept {b2 b3 d sb : Nat} {CA : Option Addr} {cc : Nat} {C : List (Nat × List UInt8)} {KA : Option Addr} {kc : Nat} {kp : List UInt8} {to at' : Int} {W W' : World} (h : HoldK b2 b3 d sb CA cc C KA kc kp to at' W) (hk : Kept (fun b => b ≠ sb) W W') (h2 : b2 ≠ sb) (h3 : b3 ≠ sb) (hd : d ≠ sb) : HoldK b2 b3 d sb CA cc C KA kc kp to at' W' :=
  ⟨heap_kept hk h.1 h2, heap_kept hk h.2.1 h3, (World.cell?_of_block (a := ⟨d, 1, none⟩) (hk.block d (block_lt h.2.2.1) hd)).trans h.2.2.1, h.2.2.2.1.kept hk, h.2.2.2.2.kept hk⟩
theorem HoldK.go {b2 b3 d sb : Nat} {CA : Option Addr} {cc : Nat} {C : List (Nat × List UInt8)} {KA : Option Addr} {kc : Nat} {kp : List UInt8} {to at' : Int} {W W' : World} (h : HoldK b2 b3 d sb CA cc C KA kc kp to at' W) (hb : Below W.heap.size W W') : HoldK b2 b3 d sb CA cc C KA kc kp to at' W' :=
  ⟨blk_below h.1 hb, blk_below h.2.1 hb, (hb.cell (p := ⟨d, 1, none⟩) (block_lt h.2.2.1)).trans h.2.2.1, h.2.2.2.1.go hb, h.2.2.2.2.go hb⟩
theorem comes_calls (w : World) (d : Nat) (KA : Option Addr) (kl kc : Nat) (to at' : Int) : Calls Try.prog 38 #[.pointer (some ⟨d, 0, none⟩), .agg #[.slice KA kl kc, .int .i64 to, .int .i64 at']] w fun e w' =>
    e = .returned (.func (.func 45) #[] #[.pointer (some ⟨w.heap.size, 0, none⟩), .pointer (some ⟨w.heap.size + 1, 0, none⟩)]) ∧ w' = (w.alloc (.cells #[.pointer (some ⟨d, 0, none⟩)] 28)).alloc (.cells #[.slice KA kl kc, .int .i64 to, .int .i64 at'] 25) := by
  go_enter Try.func38, Try.ntmps38
  go_wp2
  go_ret
  exact ⟨rfl, rfl⟩
theorem bit_keep (kp : List UInt8) (k : Nat) : bits .and .u8 (bAt kp (k / 8) / 2 ^ (k % 8)) 1 = (((kp.getD (k / 8) 0).toNat / 2 ^ (k % 8) % 2 : Nat) : Int) := by
  obtain ⟨n, hn⟩ : ∃ n : Nat, (kp.getD (k / 8) 0).toNat / 2 ^ (k % 8) = n := ⟨_, rfl⟩
  have h2 : bAt kp (k / 8) / 2 ^ (k % 8) = (n : Int) := by rw [← hn]; unfold bAt; push_cast; rfl
  have h3 : n < 256 := by rw [← hn]; exact Nat.lt_of_le_of_lt (Nat.div_le_self _ _) (kp.getD (k / 8) 0).toNat_lt
  rw [h2, hn, Go.u8_and (n : Int) 1 (by omega) (by omega) (by omega) (by omega)]
  show ((n &&& 1 : Nat) : Int) = _
  rw [Go.nat_mask1]
def comE (C : List (Nat × List UInt8)) (m : Nat → Nat) (i : Nat) : Array Value := #[.agg (cW (C.getD i default)).toArray, .int .i64 (m i : Int)]
set_option maxRecDepth 100000 in
set_option maxHeartbeats 16000000 in
theorem comes_seq (b2 b3 d sb : Nat) (CA : Option Addr) (cc : Nat) (C : List (Nat × List UInt8)) (KA : Option Addr) (kc : Nat) (kp : List UInt8) (to at' : Int) (hC : ∀ x ∈ C, x.2.length = 128) (hm : C.length ≤ 256) :
    SeqW Try.prog 45 #[.pointer (some ⟨b2, 0, none⟩), .pointer (some ⟨b3, 0, none⟩)] (comE C (many kp to at')) (cxs kp to C.length) (fun A B => Below A.heap.size A B)
      (HoldK b2 b3 d sb CA cc C KA kc kp to at') (fun _ => HoldK b2 b3 d sb CA cc C KA kc kp to at') (fun _ => True) (fun _ _ => True) := by
  intro lo J Jx hJ hJx hY W hH h0
  have hF := wide_fn
  have HY := Lib.hid hY
  have HC := Lib.hid hC
  have Hm := Lib.hid hm
  have HJJ := Lib.hid hJ
  have c0 := hH.1.cell
  have c1 := hH.2.2.1
  clear hY hJ hJx hC hm
  refine callsIn_of_wp Try.func45 rfl (hF _) ?_ rfl
  simp only [Try.ntmps45, List.size_toArray, List.length_cons, List.length_nil, Nat.reduceAdd, Nat.reduceSub, Array.replicate_succ, Array.replicate_zero, List.push_toArray, List.append_toArray, List.nil_append, List.cons_append]
  gi_wp2_with (first | (refine wpIn_scope ?_) | (refine wpIn_label ?_))
  clear c0 c1

  gi_loopw [4, 5, 6, 12] (fun _ _ _ i wr => ∃ k : Nat, k ≤ C.length ∧ i = .int .i64 (k : Int) ∧ J (cxs kp to k).length wr ∧ HoldK b2 b3 d sb CA cc C KA kc kp to at' wr) (fun _ _ _ i _ => C.length - (intOf i).toNat)
  case atStart => exact ⟨0, Nat.zero_le _, by simp, h0, hH⟩
  case round =>
    obtain ⟨k, hk, rfl, hJk, hHk⟩ := hrel
    clear h0 hH
    by_cases hlt : k < C.length
    · have hI : (k : Int) < (C.length : Int) := by omega
      have hk0 : (0 : Int) ≤ (k : Int) := by omega
      obtain ⟨cb, off, rfl, hcb, hrg⟩ := rd_cache hHk.2.2.2.1.rd HC.out hlt
      have hxl := HC.out _ (getD_mem' hlt)
      obtain ⟨x, hx⟩ : ∃ x, C.getD k default = x := ⟨_, rfl⟩
      rw [hx] at hrg hxl
      have HI := Lib.hid (show (Try.prog.info? 71).map (·.size) = some (cW x).length by rw [cW_len hxl]; kernel_rfl)
      have HR := Lib.hid hrg
      obtain ⟨Z, hZ, hz⟩ := zero_write
      have HI2 := Lib.hid (show (Try.prog.info? 71).map (·.size) = some (cW x).toArray.size by rw [List.size_toArray]; exact HI.out)
      have HO := Lib.hid (show Z.size = (cW x).toArray.size by rw [hZ, List.size_toArray, cW_len hxl])
      have H1 := Lib.hid (show (cW x).toArray.all (·.oneCell') = true from all_oneCell_toArray (cW_all x))
      obtain ⟨W1, hW1⟩ : ∃ W1, wr.alloc (.cells (cW x).toArray 71) = W1 := ⟨_, rfl⟩
      have hst : Below wr.heap.size wr W1 := hW1 ▸ bstep wr _
      obtain ⟨z, hzz⟩ : ∃ z, wr.heap.size = z := ⟨_, rfl⟩
      have hzb : W1.heap[z]? = some (.cells (cW x).toArray 71 (0, 0)) := by rw [← hzz, ← hW1]; exact blk_new wr _ _
      have HZ := Lib.hid (show (wr.alloc (.cells Z 71)).heap[z]? = some (.cells Z 71 (0, 0)) by rw [← hzz]; exact blk_new wr Z _)
      have HSR := Lib.hid (show (wr.alloc (.cells Z 71)).setRow z (cW x).toArray = W1 by rw [← hW1, ← hzz]; exact World.setRow_alloc_new _ _ _ _)
      have hH1 := hHk.go hst
      have d1 := blk_cell hH1.2.1 1 rfl
      have d2 := blk_cell hH1.2.1 2 rfl
      have d0 := blk_cell hH1.2.1 0 rfl
      have HJ1 := Lib.hid (HJJ.out _ _ _ hJk hst)
      have HH1 := Lib.hid (And.intro hH1 (And.intro hzb (And.intro hlt hx)))
      have HLd := Lib.hid (show W1.rangeAt z 0 (cW x) from fun j v hv => blk_cell hzb (0 + j) (by rw [Nat.zero_add]; simpa using hv))
      clear hx hrg hxl hst hzb hH1 hHk hJk hk hZ
      by_cases ht : (k : Int) = to
      · have hcm : comesB kp to k = true := by unfold comesB; rw [decide_eq_true ht]; rfl
        have kt : ((k : Int) == to) = true := beq_iff_eq.2 ht
        have hmn : many kp to at' k = (max 0 (min at' 128)).toNat := if_pos ht
        rcases Int.lt_or_le 0 at' with ha | ha
        rotate_left
        · have hM : many kp to at' k = 0 := by rw [hmn]; omega
          obtain ⟨fn, tmps, assign, body, hy, hYR⟩ := HY.out (cxs kp to k).length k W1 (cxs_get kp to HH1.out.2.2.1 hcm) HJ1.out HH1.out.1
          unfold comE at hy
          rw [HH1.out.2.2.2, hM] at hy
          try push_cast at hy
          have Hc := Lib.hid hcm
          have X1 := Lib.hid (show wrap64 ((k : Int) + 1) = (k : Int) + 1 from wrap64_in' _ (by have := Hm.out; have := HH1.out.2.2.1; omega))
          have HAT := Lib.hid ha
          clear hM hcm ha hmn ht
          gi_wp2_with (first | (refine wpListIn_via wide_wide rfl (by intro c hc; cases hc) (fun K hK => wp_load_mid _ _ rfl _ _ rfl _ _ HR.out Try.underlying71 (by rfl) HI.out (hK _ _ ?_)); clear hK K) | (refine wpListIn_via wide_wide rfl (by intro c hc; cases hc) (fun K hK => wp_load_mid _ _ rfl _ _ rfl _ _ HLd.out Try.underlying71 (by rfl) HI.out (hK _ _ ?_)); clear hK K) | (refine wpListIn_via wide_wide rfl (by intro c hc; cases hc) (fun K hK => wp_store_row _ _ _ rfl _ _ rfl rfl _ _ HZ.out HI2.out HO.out H1.out (hK _ _ ?_)); clear hK K; rw [HSR.out]))
          all_goals first
            | (exfalso; have := HAT.out; omega)
            | skip
          refine hYR.mono ?_
          rintro e W3 ⟨hG3, (⟨rfl, hJ3⟩ | ⟨rfl, hJx3⟩)⟩
          · clear hy
            gi_wp2
            rw [X1.out]
            go_roundw
            case rel => exact ⟨k + 1, HH1.out.2.2.1, by push_cast; rfl, by rw [cxs_succ, if_pos Hc.out, List.length_append]; exact hJ3, hG3⟩
            case measure => have := HH1.out.2.2.1; simp [intOf]; omega
          · clear hy
            gi_wp2
            try rw [Exit.noGoto_ret]
            first | (refine bodyPost_ret (results_none rfl _ _ _) rfl ?_) | go_end0
            have hlen := (List.getElem?_eq_some_iff.1 (cxs_get kp to HH1.out.2.2.1 Hc.out)).1
            first | exact ⟨⟨_, rfl⟩, .inr ⟨_, hlen, hJx3, trivial⟩⟩ | exact ⟨⟨_, rfl⟩, .inr ⟨_, hlen, hJx3⟩⟩
        rcases Int.lt_or_le 128 at' with hb | hb
        · have hM : many kp to at' k = 128 := by rw [hmn]; omega
          obtain ⟨fn, tmps, assign, body, hy, hYR⟩ := HY.out (cxs kp to k).length k W1 (cxs_get kp to HH1.out.2.2.1 hcm) HJ1.out HH1.out.1
          unfold comE at hy
          rw [HH1.out.2.2.2, hM] at hy
          try push_cast at hy
          have Hc := Lib.hid hcm
          have X1 := Lib.hid (show wrap64 ((k : Int) + 1) = (k : Int) + 1 from wrap64_in' _ (by have := Hm.out; have := HH1.out.2.2.1; omega))
          have HAT := Lib.hid (And.intro ha hb)
          clear hM hcm ha hb hmn ht
          gi_wp2_with (first | (refine wpListIn_via wide_wide rfl (by intro c hc; cases hc) (fun K hK => wp_load_mid _ _ rfl _ _ rfl _ _ HR.out Try.underlying71 (by rfl) HI.out (hK _ _ ?_)); clear hK K) | (refine wpListIn_via wide_wide rfl (by intro c hc; cases hc) (fun K hK => wp_load_mid _ _ rfl _ _ rfl _ _ HLd.out Try.underlying71 (by rfl) HI.out (hK _ _ ?_)); clear hK K) | (refine wpListIn_via wide_wide rfl (by intro c hc; cases hc) (fun K hK => wp_store_row _ _ _ rfl _ _ rfl rfl _ _ HZ.out HI2.out HO.out H1.out (hK _ _ ?_)); clear hK K; rw [HSR.out]))
          all_goals first
            | (exfalso; have := HAT.out; omega)
            | skip
          refine hYR.mono ?_
          rintro e W3 ⟨hG3, (⟨rfl, hJ3⟩ | ⟨rfl, hJx3⟩)⟩
          · clear hy
            gi_wp2
            rw [X1.out]
            go_roundw
            case rel => exact ⟨k + 1, HH1.out.2.2.1, by push_cast; rfl, by rw [cxs_succ, if_pos Hc.out, List.length_append]; exact hJ3, hG3⟩
            case measure => have := HH1.out.2.2.1; simp [intOf]; omega
          · clear hy
            gi_wp2
            try rw [Exit.noGoto_ret]
            first | (refine bodyPost_ret (results_none rfl _ _ _) rfl ?_) | go_end0
            have hlen := (List.getElem?_eq_some_iff.1 (cxs_get kp to HH1.out.2.2.1 Hc.out)).1
            first | exact ⟨⟨_, rfl⟩, .inr ⟨_, hlen, hJx3, trivial⟩⟩ | exact ⟨⟨_, rfl⟩, .inr ⟨_, hlen, hJx3⟩⟩
        · obtain ⟨a, rfl⟩ : ∃ a : Nat, at' = a := ⟨at'.toNat, by omega⟩
          have hM : many kp to a k = a := by rw [hmn]; omega
          obtain ⟨fn, tmps, assign, body, hy, hYR⟩ := HY.out (cxs kp to k).length k W1 (cxs_get kp to HH1.out.2.2.1 hcm) HJ1.out HH1.out.1
          unfold comE at hy
          rw [HH1.out.2.2.2, hM] at hy
          try push_cast at hy
          have Hc := Lib.hid hcm
          have X1 := Lib.hid (show wrap64 ((k : Int) + 1) = (k : Int) + 1 from wrap64_in' _ (by have := Hm.out; have := HH1.out.2.2.1; omega))
          have HAT := Lib.hid (And.intro ha hb)
          clear hM hcm ha hb hmn ht
          gi_wp2_with (first | (refine wpListIn_via wide_wide rfl (by intro c hc; cases hc) (fun K hK => wp_load_mid _ _ rfl _ _ rfl _ _ HR.out Try.underlying71 (by rfl) HI.out (hK _ _ ?_)); clear hK K) | (refine wpListIn_via wide_wide rfl (by intro c hc; cases hc) (fun K hK => wp_load_mid _ _ rfl _ _ rfl _ _ HLd.out Try.underlying71 (by rfl) HI.out (hK _ _ ?_)); clear hK K) | (refine wpListIn_via wide_wide rfl (by intro c hc; cases hc) (fun K hK => wp_store_row _ _ _ rfl _ _ rfl rfl _ _ HZ.out HI2.out HO.out H1.out (hK _ _ ?_)); clear hK K; rw [HSR.out]))
          all_goals first
            | (exfalso; have := HAT.out; omega)
            | skip
          refine hYR.mono ?_
          rintro e W3 ⟨hG3, (⟨rfl, hJ3⟩ | ⟨rfl, hJx3⟩)⟩
          · clear hy
            gi_wp2
            rw [X1.out]
            go_roundw
            case rel => exact ⟨k + 1, HH1.out.2.2.1, by push_cast; rfl, by rw [cxs_succ, if_pos Hc.out, List.length_append]; exact hJ3, hG3⟩
            case measure => have := HH1.out.2.2.1; simp [intOf]; omega
          · clear hy
            gi_wp2
            try rw [Exit.noGoto_ret]
            first | (refine bodyPost_ret (results_none rfl _ _ _) rfl ?_) | go_end0
            have hlen := (List.getElem?_eq_some_iff.1 (cxs_get kp to HH1.out.2.2.1 Hc.out)).1
            first | exact ⟨⟨_, rfl⟩, .inr ⟨_, hlen, hJx3, trivial⟩⟩ | exact ⟨⟨_, rfl⟩, .inr ⟨_, hlen, hJx3⟩⟩
      · have kt : ((k : Int) == to) = false := beq_eq_false_iff_ne.2 ht
        have e2 : wrap64 ((k : Int) / 8) = (k : Int) / 8 := wrap64_in' _ (by have := Hm.out; have := HH1.out.2.2.1; omega)
        rcases Nat.lt_or_ge (k / 8) kp.length with hq | hq
        · obtain ⟨kb, ko, rfl, -, -, hkc⟩ := HH1.out.1.2.2.2.2.at_ hq
          have q1 : decide ((kp.length : Int) ≤ (k : Int) / 8) = false := decide_eq_false (by omega)
          have q8 : wrap64 ((k : Int) % 8) = (k : Int) % 8 := wrap64_in' _ (by omega)
          have q2 : (k : Int) / 8 < (kp.length : Int) := by omega
          have q3 : 0 ≤ (k : Int) / 8 := by omega
          have q4 : ((k : Int) / 8).toNat = k / 8 := by omega
          have q5 : (k : Int).tmod 8 = (k : Int) % 8 := IntWalk.rem_in _ _ (by omega)
          have q6 : ((k : Int) % 8).toNat = k % 8 := by omega
          have q7 : 0 ≤ (k : Int) % 8 := by omega
          have hbit : bits .and .u8 (bAt kp (k / 8) / 2 ^ (k % 8)) 1 = (((kp.getD (k / 8) 0).toNat / 2 ^ (k % 8) % 2 : Nat) : Int) := bit_keep kp k
          by_cases hb : (kp.getD (k / 8) 0).toNat / 2 ^ (k % 8) % 2 = 1
          · rw [hb] at hbit
            have hcm : comesB kp to k = true := by unfold comesB; rw [decide_eq_true (p := k / 8 < kp.length ∧ _) ⟨hq, hb⟩, Bool.or_true]
            have hM : many kp to at' k = 128 := by unfold many; rw [if_neg ht, if_pos ⟨hq, hb⟩]
            have hbit2 : bits .and .u8 (bAt kp (k / 8) / 2 ^ (k % 8)) 1 = 1 := hbit
            obtain ⟨fn, tmps, assign, body, hy, hYR⟩ := HY.out (cxs kp to k).length k W1 (cxs_get kp to HH1.out.2.2.1 hcm) HJ1.out HH1.out.1
            unfold comE at hy
            rw [HH1.out.2.2.2, hM] at hy
            try push_cast at hy
            have Hc := Lib.hid hcm
            have X1 := Lib.hid (show wrap64 ((k : Int) + 1) = (k : Int) + 1 from wrap64_in' _ (by have := Hm.out; have := HH1.out.2.2.1; omega))
            have HAT := Lib.hid hq
            clear hM hcm ht hq hb hbit
            gi_wp2_with (first | (refine wpListIn_via wide_wide rfl (by intro c hc; cases hc) (fun K hK => wp_load_mid _ _ rfl _ _ rfl _ _ HR.out Try.underlying71 (by rfl) HI.out (hK _ _ ?_)); clear hK K) | (refine wpListIn_via wide_wide rfl (by intro c hc; cases hc) (fun K hK => wp_load_mid _ _ rfl _ _ rfl _ _ HLd.out Try.underlying71 (by rfl) HI.out (hK _ _ ?_)); clear hK K) | (refine wpListIn_via wide_wide rfl (by intro c hc; cases hc) (fun K hK => wp_store_row _ _ _ rfl _ _ rfl rfl _ _ HZ.out HI2.out HO.out H1.out (hK _ _ ?_)); clear hK K; rw [HSR.out]))
            all_goals first
              | (exfalso; have := HAT.out; omega)
              | skip
            refine hYR.mono ?_
            rintro e W3 ⟨hG3, (⟨rfl, hJ3⟩ | ⟨rfl, hJx3⟩)⟩
            · clear hy
              gi_wp2
              rw [X1.out]
              go_roundw
              case rel => exact ⟨k + 1, HH1.out.2.2.1, by push_cast; rfl, by rw [cxs_succ, if_pos Hc.out, List.length_append]; exact hJ3, hG3⟩
              case measure => have := HH1.out.2.2.1; simp [intOf]; omega
            · clear hy
              gi_wp2
              try rw [Exit.noGoto_ret]
              first | (refine bodyPost_ret (results_none rfl _ _ _) rfl ?_) | go_end0
              have hlen := (List.getElem?_eq_some_iff.1 (cxs_get kp to HH1.out.2.2.1 Hc.out)).1
              first | exact ⟨⟨_, rfl⟩, .inr ⟨_, hlen, hJx3, trivial⟩⟩ | exact ⟨⟨_, rfl⟩, .inr ⟨_, hlen, hJx3⟩⟩
          · have hb0 : (kp.getD (k / 8) 0).toNat / 2 ^ (k % 8) % 2 = 0 := by omega
            rw [hb0] at hbit
            have hcm : comesB kp to k = false := by unfold comesB; rw [decide_eq_false ht, decide_eq_false (p := k / 8 < kp.length ∧ _) (fun h => hb h.2)]; rfl
            have hbit2 : bits .and .u8 (bAt kp (k / 8) / 2 ^ (k % 8)) 1 = 0 := hbit
            have X1 := Lib.hid (show wrap64 ((k : Int) + 1) = (k : Int) + 1 from wrap64_in' _ (by have := Hm.out; have := HH1.out.2.2.1; omega))
            have Hc := Lib.hid hcm
            
            clear hcm ht hq hb hb0 hbit
            gi_wp2_with (first | (refine wpListIn_via wide_wide rfl (by intro c hc; cases hc) (fun K hK => wp_load_mid _ _ rfl _ _ rfl _ _ HR.out Try.underlying71 (by rfl) HI.out (hK _ _ ?_)); clear hK K) | (refine wpListIn_via wide_wide rfl (by intro c hc; cases hc) (fun K hK => wp_load_mid _ _ rfl _ _ rfl _ _ HLd.out Try.underlying71 (by rfl) HI.out (hK _ _ ?_)); clear hK K) | (refine wpListIn_via wide_wide rfl (by intro c hc; cases hc) (fun K hK => wp_store_row _ _ _ rfl _ _ rfl rfl _ _ HZ.out HI2.out HO.out H1.out (hK _ _ ?_)); clear hK K; rw [HSR.out]))
            rw [X1.out]
            go_roundw
            case rel => exact ⟨k + 1, HH1.out.2.2.1, by push_cast; rfl, by rw [cxs_succ, if_neg (by simp [Hc.out]), List.append_nil]; exact HJ1.out, HH1.out.1⟩
            case measure => have := HH1.out.2.2.1; simp [intOf]; omega
        · have q1 : decide ((kp.length : Int) ≤ (k : Int) / 8) = true := decide_eq_true (by omega)
          have q3 : 0 ≤ (k : Int) / 8 := by omega
          have hcm : comesB kp to k = false := by unfold comesB; rw [decide_eq_false ht, decide_eq_false (p := k / 8 < kp.length ∧ _) (fun h => by have := h.1; omega)]; rfl
          have X1 := Lib.hid (show wrap64 ((k : Int) + 1) = (k : Int) + 1 from wrap64_in' _ (by have := Hm.out; have := HH1.out.2.2.1; omega))
          have Hc := Lib.hid hcm
          
          clear hcm ht hq
          gi_wp2_with (first | (refine wpListIn_via wide_wide rfl (by intro c hc; cases hc) (fun K hK => wp_load_mid _ _ rfl _ _ rfl _ _ HR.out Try.underlying71 (by rfl) HI.out (hK _ _ ?_)); clear hK K) | (refine wpListIn_via wide_wide rfl (by intro c hc; cases hc) (fun K hK => wp_load_mid _ _ rfl _ _ rfl _ _ HLd.out Try.underlying71 (by rfl) HI.out (hK _ _ ?_)); clear hK K) | (refine wpListIn_via wide_wide rfl (by intro c hc; cases hc) (fun K hK => wp_store_row _ _ _ rfl _ _ rfl rfl _ _ HZ.out HI2.out HO.out H1.out (hK _ _ ?_)); clear hK K; rw [HSR.out]))
          rw [X1.out]
          go_roundw
          case rel => exact ⟨k + 1, HH1.out.2.2.1, by push_cast; rfl, by rw [cxs_succ, if_neg (by simp [Hc.out]), List.append_nil]; exact HJ1.out, HH1.out.1⟩
          case measure => have := HH1.out.2.2.1; simp [intOf]; omega
    · obtain rfl : k = C.length := by omega
      gi_wp2
      simp only [Exit.noGoto]
      go_end0
      first | exact ⟨⟨_, rfl⟩, .inl ⟨hJk, trivial⟩⟩ | exact ⟨⟨_, rfl⟩, .inl hJk⟩
end Go.Proofs.Ytpleaicpkpjkjaa

