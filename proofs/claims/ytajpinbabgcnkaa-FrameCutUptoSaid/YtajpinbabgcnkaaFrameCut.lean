/-
  The walk of FrameCut. Conditions: the bulk of what is read is bounded (the second form of the statement).
-/
import Derived.Test.YtajpinbabgcnkaaFrameAlive
import Derived.Test.YtajpinbabgcnkaaFrameMakes
import Derived.Test.YtajpinbabgcnkaaFrameApp
namespace Go.Proofs.Ytajpinbabgcnkaa
open Go Go.RowKit Go.Kw Go.Kw.Crc Go.Kw.Fm
set_option linter.unusedVariables false
set_option linter.unusedSimpArgs false
attribute [local go_sem ↓] Go.wp_at_zero Go.wp_at_succ

theorem RdL.take {w : World} {S : Nat → Prop} {A : Option Addr} {fs : List (List UInt8)} (h : RdL w S A fs) (k : Nat) : RdL w S A (fs.take k) := by
  obtain ⟨ps, h1, h2⟩ := h
  have hl : ∀ i, i < (fs.take k).length → lrd (fs.take k) i = lrd fs i := fun i hi => by
    rw [List.length_take] at hi
    unfold lrd; rw [List.getD_eq_getElem?_getD, List.getD_eq_getElem?_getD, List.getElem?_take_of_lt (by omega)]
  have hlen : (fs.take k).length ≤ fs.length := by rw [List.length_take]; omega
  refine ⟨ps, ?_, fun i hi => ?_⟩
  · rcases h1 with h1 | ⟨b, off, e, hs, hb, hc⟩
    · exact .inl (by omega)
    · refine .inr ⟨b, off, e, hs, hb, fun i hi => ?_⟩
      rw [hc i (by omega)]
      unfold lcell
      rw [hl i (by omega)]
  · rw [hl i hi]
    exact h2 i (by omega)
/-- How many frames stand whole ahead of n. -/
theorem cut_at (ls : List (List UInt8)) (n : Nat) : ∃ K, K ≤ ls.length ∧ (frms ls K).length ≤ n ∧ (K < ls.length → n < (frms ls K).length + (6 + (lrd ls K).length)) := by
  have key : ∀ j, j ≤ ls.length → ∃ K, K ≤ j ∧ (frms ls K).length ≤ n ∧ (K < j → n < (frms ls K).length + (6 + (lrd ls K).length)) := by
    intro j
    induction j with
    | zero => intro _; exact ⟨0, Nat.le_refl _, by simp [frms], fun h => by omega⟩
    | succ j ih =>
      intro hj
      obtain ⟨K, h1, h2, h3⟩ := ih (by omega)
      by_cases hK : K < j
      · exact ⟨K, by omega, h2, fun _ => h3 hK⟩
      · obtain rfl : K = j := by omega
        have hs := frms_succ ls K (by omega)
        have hs2 : (frms ls (K + 1)).length = (frms ls K).length + (6 + (lrd ls K).length) := by rw [hs, List.length_append, frm_length]
        by_cases hn : n < (frms ls K).length + (6 + (lrd ls K).length)
        · exact ⟨K, by omega, h2, fun _ => hn⟩
        · exact ⟨K + 1, by omega, by omega, fun h => by omega⟩
  exact key _ (Nat.le_refl _)
theorem frms_mono (ls : List (List UInt8)) (j k : Nat) (h : j ≤ k) : (frms ls j).length ≤ (frms ls k).length := by
  unfold frms
  have e : ls.take k = ls.take j ++ (ls.drop j).take (k - j) := by
    rw [← List.take_add, show j + (k - j) = k by omega]
  rw [e, List.flatMap_append, List.length_append]; omega
/-- The place. -/
theorem placeUp (a : Int) (L : Nat) : ∃ k : Nat, (a.tmod ((L : Int) + 1) + (L : Int) + 1).tmod ((L : Int) + 1) = (k : Int) ∧ k ≤ L ∧ -((L : Int) + 1) < a.tmod ((L : Int) + 1) ∧ a.tmod ((L : Int) + 1) < (L : Int) + 1 := by
  have e : (L : Int) + 1 = ((L + 1 : Nat) : Int) := by omega
  have hm : (a.tmod ((L + 1 : Nat) : Int)).natAbs < L + 1 := by rw [Int.natAbs_tmod]; exact Nat.mod_lt _ (by simp; omega)
  rw [Int.add_assoc, e]
  have h0 : 0 ≤ a.tmod ((L + 1 : Nat) : Int) + ((L + 1 : Nat) : Int) := by omega
  obtain ⟨j, hj⟩ := Int.eq_ofNat_of_zero_le h0
  rw [hj]
  refine ⟨j % (L + 1), by rw [Int.tmod_eq_emod_of_nonneg (by omega)]; rfl, by have := Nat.mod_lt j (show 0 < L + 1 by omega); omega, by omega, by omega⟩
theorem refSame_eq (fs gs : List (List UInt8)) (h : fs = gs) (A B : Option Addr) (n m c d : Nat) (hn : n = fs.length) (hm : m = gs.length) (w : World) (S S' : Nat → Prop) (hF : RdL w S A fs) (hG : RdL w S' B gs) (hl : fs.length ≤ 1000000) :
    Calls Try.prog 15 #[.slice A n c, .slice B m d] w fun e w' => e = .returned (.bool true) ∧ Below w.heap.size w w' := by
  subst h
  have := refSame_calls fs fs A B n m c d hn hm w S S' hF hG hl hl
  rw [show decide (fs = fs) = true from by simp] at this
  exact this

set_option maxRecDepth 100000 in
set_option maxHeartbeats 4000000 in
theorem frameCut_walk (v0 : Value) (ls : List (List UInt8)) (a1 : Int) (a2 : Option Addr) (len2 cap2 : Nat) (z2 : List Int) (w : World) (w0 : LRows w v0 ls ∧ (ls.map List.length).sum + ls.length ≤ 1048576) (w1 : (Lit.int .i64 a1).wf = true) (w2 : IsRow .u8 w a2 len2 cap2 z2) :
    Calls Try.prog 4 #[v0, .int .i64 a1, .slice a2 len2 cap2] w fun e w' => e = .returned (.bool true) ∧ Below w.heap.size w w' := by
  obtain ⟨⟨A, c, rfl, hlc, hcm, hzA, hF⟩, hsum⟩ := w0
  obtain ⟨hm1, hm2, hz2⟩ := w2.caps
  unfold maxLen at hm2 hcm
  obtain ⟨b, rfl, hR⟩ := w2.bytes
  have hzb : a2 = none → b.length = 0 := fun h => (hz2 h).1
  have Hat := Lib.hid (Go.bounds_i64 w1)
  clear w1 w2 hz2
  have hfs := flat_sum ls
  by_cases hg : 9000 < (ls.flatMap frm).length
  · have HG := Lib.hid hg
    go_enter Try.func4, Try.ntmps4
    go_wp2_with fail
    refine (alive_calls _).mono ?_
    rintro e wa ⟨rfl, hba⟩
    go_wp2_with fail
    refine (refGreat_calls ls A c ls.length rfl wa _ (hF.go hba) (by omega)).mono ?_
    rintro e w' ⟨rfl, rfl⟩
    rw [if_pos HG.out]
    go_wp2_with fail
    go_ret; exact ⟨rfl, hba⟩
  by_cases hg2 : 500 < b.length
  · have HG := Lib.hid hg
    have k1 : (500 : Int) < (b.length : Int) := by omega
    go_enter Try.func4, Try.ntmps4
    go_wp2_with fail
    refine (alive_calls _).mono ?_
    rintro e wa ⟨rfl, hba⟩
    go_wp2_with fail
    refine (refGreat_calls ls A c ls.length rfl wa _ (hF.go hba) (by omega)).mono ?_
    rintro e w' ⟨rfl, rfl⟩
    rw [if_neg HG.out]
    go_wp2_with fail
    go_ret; exact ⟨rfl, hba⟩
  obtain ⟨N, hN⟩ : ∃ N, ls.length = N := ⟨_, rfl⟩
  have hcnt := count_le ls
  have k1 : (b.length : Int) ≤ 500 := by omega
  have k2 : N ≤ 1500 := by omega
  have HG := Lib.hid hg
  have HN := Lib.hid hN
  have HF := Lib.hid hF
  have HR := Lib.hid hR
  have Hzb := Lib.hid hzb
  have HzA := Lib.hid hzA
  rw [hN] at hlc
  rw [show ls.length = N from hN]
  clear hg hN hF hR hzb hzA hfs hsum hcnt hg2
  go_enter Try.func4, Try.ntmps4
  go_wp2_with fail
  refine (alive_calls _).mono ?_
  rintro e wa ⟨rfl, hba⟩
  go_wp2_with fail
  refine (refGreat_calls ls A c N HN.out.symm wa _ (HF.out.go hba) (by have := HG.out; omega)).mono ?_
  rintro e w' ⟨rfl, rfl⟩
  rw [if_neg HG.out]
  go_wp2_with fail
  refine (frameAll_calls A N c ls HN.out.symm (by have := HG.out; omega) wa (HF.out.go hba)).mono ?_
  rintro e w1 ⟨hp1, hb1⟩
  have hbw1 := bnext hba hb1
  have hp2 := hp1.form
  clear hp1
  cases hall : ls.all mayR with
  | false =>
    rw [show allOut ls = [] from by unfold allOut; rw [hall, if_neg (by decide)], show allErr ls = 130 from by unfold allErr; rw [hall, if_neg (by decide)]] at hp2
    obtain ⟨A2, n2, c2, rfl, rfl, -⟩ := hp2
    go_wp2_with fail
    go_ret; exact ⟨rfl, hbw1⟩
  | true =>
    rw [show allOut ls = ls.flatMap frm from by unfold allOut; rw [hall, if_pos rfl], show allErr ls = 0 from by unfold allErr; rw [hall, if_pos rfl]] at hp2
    obtain ⟨A2, L, c2, rfl, hL, hc2, hd2, hr2, hz2, -⟩ := hp2
    have hmay := List.all_eq_true.1 hall
    have hL9 : L ≤ 9000 := by have := HG.out; omega
    obtain ⟨n, hn1, hn2, hn3, hn4⟩ := placeUp a1 L
    obtain ⟨r, hr⟩ : ∃ r, a1.tmod ((L : Int) + 1) = r := ⟨_, rfl⟩
    rw [hr] at hn1 hn3 hn4
    obtain ⟨K, hK1, hK2, hK3⟩ := cut_at ls n
    have hsc : scan ((ls.flatMap frm).take n) = (ls.take K, ((ls.drop K).flatMap frm).take (n - (frms ls K).length)) := scan_cut ls hmay n K hK1 hK2 (fun h => hK3 h) (by omega)
    have hsl : (frms ls K).length + (((ls.drop K).flatMap frm).take (n - (frms ls K).length)).length = n := by
      have h1 : (ls.take K).flatMap frm ++ ((ls.drop K).flatMap frm).take (n - (frms ls K).length) = (ls.flatMap frm).take n := by
        have h := scan_rest ((ls.flatMap frm).take n)
        rw [hsc] at h; exact h
      have h2 := congrArg List.length h1
      rw [List.length_append, List.length_take (l := ls.flatMap frm)] at h2
      have h3 : (frms ls K).length = ((ls.take K).flatMap frm).length := rfl
      rw [← hL] at h2
      omega
    obtain ⟨F, hFF⟩ : ∃ F, ls.flatMap frm = F := ⟨_, rfl⟩
    have hsf := scan_frames ls b hmay
    rw [hFF] at hL hr2 hz2 hsc hsf
    have Htn : Hid ((F.take n).length = n) := by show _ = _; rw [List.length_take]; omega
    have HL := Lib.hid hL
    have HFF := Lib.hid hFF
    have Hr2 := Lib.hid hr2
    have Hz2 := Lib.hid hz2
    have Hsc := Lib.hid hsc
    have Hsl := Lib.hid hsl
    have Hsf := Lib.hid hsf
    have HK1 := Lib.hid hK1
    have HK2 := Lib.hid hK2
    have HK3 := Lib.hid hK3
    have Hmay := Lib.hid hmay
    have HS := Lib.hid (fun (W : World) (h : Below w1.heap.size w1 W) => scan_calls A2 n c2 (F.take n) Htn.out.symm (by rw [Htn.out]; omega) (by omega) hd2 W ((RdY.take (RdY.of (S := fun _ => True) (Hr2.out.go h) (fun _ _ => trivial)) n).rd) (fun h => by rw [Htn.out]; have := Hz2.out h; rw [← HL.out] at this; omega))
    have q1 : (L : Int) ≤ 9000 := by omega
    have q2 : (n : Int) ≤ (L : Int) := by omega
    have q3 : (n : Int) ≤ (c2 : Int) := by omega
    have q4 : (0 : Int) ≤ (n : Int) := by omega
    have q5 : n ≤ c2 := by omega
    have e1 : IntKind.i64.wrap ((L : Int) + 1) = (L : Int) + 1 := IntWalk.i64_in _ (by omega)
    have e2 : IntKind.i64.wrap (r + (L : Int)) = r + (L : Int) := IntWalk.i64_in _ (by omega)
    have e3 : IntKind.i64.wrap (r + (L : Int) + 1) = r + (L : Int) + 1 := IntWalk.i64_in _ (by omega)
    have e4 : IntKind.i64.wrap r = r := IntWalk.i64_in _ (by omega)
    have e5 : IntKind.i64.wrap (n : Int) = (n : Int) := IntWalk.i64_in _ (by omega)
    clear hall hL hn2 hr2 hz2 hsc hsl hsf hK1 hK2 hK3 hFF hmay
    go_wp2_with fail
    refine (HS.out w1 (Below.refl _ _)).mono ?_
    rintro e w2 ⟨A3, n3, c3, rfl, hn3, o3, hx2⟩
    obtain ⟨sz, hsz⟩ : ∃ sz : Int, ((F.take n).length : Int) - ((scan (F.take n)).2.length : Int) = sz := ⟨_, rfl⟩
    rw [hsz]
    have hsz2 : ((frms ls K).length : Int) = sz := by
      rw [← hsz, show (scan (F.take n)).2 = ((ls.drop K).flatMap frm).take (n - (frms ls K).length) from by rw [Hsc.out]]
      have := Hsl.out; have := Htn.out; omega
    subst hsz2
    rw [show (scan (F.take n)).1 = ls.take K from by rw [Hsc.out]] at hn3 o3
    have hbw2 := bnext hbw1 hx2
    have O3 := Lib.hid ((OwL.mono (S := fun _ => True) o3 (Nat.le_refl _) (fun _ _ => trivial)).rdF (fun _ _ => trivial))
    have Hn3 := Lib.hid hn3
    have Hx2 := Lib.hid hx2
    clear HS hsz hn3 o3 hx2 e1 e2 e3 e4 e5 hn1 hn4 hr
    go_wp2_with fail
    go_loop [13, 14] (fun i s => ∃ k : Nat, k ≤ K ∧ i = .int .i64 k ∧ s = .int .i64 ((frms ls k).length : Nat)) (fun i _ => K - (intOf i).toNat)
    case atStart => exact ⟨0, Nat.zero_le _, rfl, rfl⟩
    case round =>
      obtain ⟨k, hk, rfl, rfl⟩ := hrel
      by_cases hlt : k < K
      · have hkl : k < ls.length := by have := HK1.out; omega
        obtain ⟨b1, o1, B1, C1, rfl, hb1', x0, x1, x2, x3, x4⟩ := (HF.out.go hbw2).cells hkl
        have hkI : (k : Int) < (N : Int) := by rw [← HN.out]; omega
        have hkc : k < c := by have := HN.out; omega
        have hs : (frms ls (k + 1)).length = (frms ls k).length + (6 + (lrd ls k).length) := by rw [frms_succ ls k hkl, List.length_append, frm_length]
        have hle := frms_mono ls (k + 1) K (by omega)
        have h2 := HK2.out
        have hg1 : ((frms ls k).length : Int) + 6 + ((lrd ls k).length : Int) ≤ (n : Int) := by omega
        have Hs := Lib.hid hs
        clear hs hle h2 x1 x2 x4
        go_wp2_with fail
        go_round
        case rel => exact ⟨k + 1, by omega, by go_num, by rw [Hs.out]; go_num⟩
        case measure => simp [intOf]; omega
      · obtain rfl : K = k := by omega
        obtain ⟨A7, c7, w7, hrun7, o7, hx7⟩ := append_new w2 A2 L c2 F HL.out (by rw [← HL.out]; omega) (Hr2.out.go Hx2.out) Hz2.out
        obtain ⟨A8, c8, w8, hrun8, o8, hx8, -, -, hz8⟩ := append_bytes (P := Try.prog) (t := 23) eb w7 w2.heap.size o7 b.length cap2 ((HR.out.go hbw2).go hx7) rfl (by rw [← HL.out]; omega) hx7.size Hzb.out
        have hx8' := hx7.trans hx8
        obtain ⟨T, hT⟩ : ∃ T, (F ++ b).length = T := ⟨_, rfl⟩
        rw [hT] at hrun8 o8 hz8
        have hTl : T ≤ 9500 := by rw [← hT, List.length_append, ← HL.out]; omega
        have HT := Lib.hid hT
        have hbw8 := bnext hbw2 hx8'
        have hca8 := own_caps o8
        have HSc := Lib.hid (scan_calls A8 T c8 (F ++ b) HT.out.symm (by rw [HT.out]; omega) hca8.1 hca8.2.1 w8 (rdB_own o8).1 (fun h => by rw [HT.out]; exact hz8 h))
        clear o7 hx7 hx8 o8 hz8 hT hca8
        rcases Nat.lt_or_ge K N with hKN | hKN
        · have hkl : K < ls.length := by rw [HN.out]; exact hKN
          obtain ⟨b1, o1, B1, C1, rfl, hb1', x0, x1, x2, x3, x4⟩ := (HF.out.go hbw2).cells hkl
          have hkI : (K : Int) < (N : Int) := by omega
          have hkc : K < c := by omega
          have h3 := HK3.out hkl
          have h2 := HK2.out
          have hg1 : (n : Int) < ((frms ls K).length : Int) + 6 + ((lrd ls K).length : Int) := by omega
          have hg2 : ((frms ls K).length : Int) ≤ (n : Int) := by omega
          have hg3 : ((lrd ls K).length : Int) ≤ 9000 := by have := row_le ls K hkl; have := HG.out; omega
          clear h2 h3 x1 x2 x4
          go_wp2_with (first | (at_builtin; refine wpList_append_run hrun7 rfl rfl rfl rfl rfl ?_; clear hrun7) | (at_builtin; refine wpList_append_run hrun8 rfl rfl rfl rfl rfl ?_; clear hrun8))
          refine HSc.out.mono ?_
          rintro e w9 ⟨A9, n9, c9, rfl, hn9, o9, hx9⟩
          obtain ⟨fr, hfr⟩ : ∃ fr : Int, ((F ++ b).length : Int) - ((scan (F ++ b)).2.length : Int) = fr := ⟨_, rfl⟩
          rw [hfr]
          have hfr2 : (L : Int) ≤ fr := by
            rw [← hfr, show (scan (F ++ b)).2 = (scan b).2 from by rw [Hsf.out], List.length_append, ← HL.out]
            have := scan_restlen b; omega
          rw [show (scan (F ++ b)).1 = ls ++ (scan b).1 from by rw [Hsf.out]] at hn9 o9
          have hn92 : N ≤ n9 := by rw [hn9, List.length_append, HN.out]; omega
          obtain ⟨ps9, ow9, -⟩ := id o9
          have hca9 := own_caps ow9
          have hbw9 := bnext hbw8 hx9
          have rx9 : RdL w9 (fun _ => True) A9 (ls ++ (scan b).1) := (OwL.mono (S := fun _ => True) o9 (Nat.le_refl _) (fun _ _ => trivial)).rdF (fun _ _ => trivial)
          have rt9 := rx9.take N
          rw [show (ls ++ (scan b).1).take N = ls from by rw [← HN.out, List.take_left]] at rt9
          have rl9 : RdL w9 (fun _ => True) (some ⟨b1, o1, none⟩) ls := (((HF.out.go hbw9)).mono (S' := fun _ => True) (fun _ _ => trivial))
          have rm9 : RdL w9 (fun _ => True) A3 (ls.take K) := O3.out.go (bnext hx8' hx9)
          have HSa := Lib.hid (refSame_eq (ls.take K) (ls.take K) rfl A3 (some ⟨b1, o1, none⟩) n3 K c3 c Hn3.out (by rw [List.length_take, HN.out]; have := HK1.out; have := HN.out; omega) w9 _ _ rm9 (rl9.take K) (by rw [List.length_take, HN.out]; omega))
          have HSb := Lib.hid (fun (W : World) (h : Below w9.heap.size w9 W) => refSame_eq ls ls rfl A9 (some ⟨b1, o1, none⟩) N N c9 c HN.out.symm HN.out.symm W _ _ (rt9.go h) (rl9.go h) (by rw [HN.out]; omega))
          have p1 : (N : Int) ≤ (n9 : Int) := by omega
          have p2 : (N : Int) ≤ (c9 : Int) := by have := hca9.1; omega
          have p3 : N ≤ c9 := by have := hca9.1; omega
          have p4 : (K : Int) ≤ (c : Int) := by have := HK1.out; rw [HN.out] at this; omega
          have p5 : K ≤ c := by have := HK1.out; rw [HN.out] at this; omega
          have p6 : (0 : Int) ≤ (K : Int) := by omega
          have p7 : (0 : Int) ≤ (N : Int) := by omega
          clear HSc hfr hn9 o9 ow9 hca9 rx9 rt9 rl9 rm9 hx9 hx8'
          go_wp2_with fail
          refine HSa.out.mono ?_
          rintro e w10 ⟨rfl, hx10⟩
          have HSb' := Lib.hid (HSb.out w10 hx10)
          have hbw10 := bnext hbw9 hx10
          clear HSa HSb hx10
          go_wp2_with fail
          refine HSb'.out.mono ?_
          rintro e w11 ⟨rfl, hx11⟩
          have hbf := bnext hbw10 hx11
          clear HSb'
          go_wp2_with fail
          go_ret
          exact ⟨rfl, hbf⟩
        · have hkI : (N : Int) ≤ (K : Int) := by omega
          go_wp2_with (first | (at_builtin; refine wpList_append_run hrun7 rfl rfl rfl rfl rfl ?_; clear hrun7) | (at_builtin; refine wpList_append_run hrun8 rfl rfl rfl rfl rfl ?_; clear hrun8))
          refine HSc.out.mono ?_
          rintro e w9 ⟨A9, n9, c9, rfl, hn9, o9, hx9⟩
          obtain ⟨fr, hfr⟩ : ∃ fr : Int, ((F ++ b).length : Int) - ((scan (F ++ b)).2.length : Int) = fr := ⟨_, rfl⟩
          rw [hfr]
          have hfr2 : (L : Int) ≤ fr := by
            rw [← hfr, show (scan (F ++ b)).2 = (scan b).2 from by rw [Hsf.out], List.length_append, ← HL.out]
            have := scan_restlen b; omega
          rw [show (scan (F ++ b)).1 = ls ++ (scan b).1 from by rw [Hsf.out]] at hn9 o9
          have hn92 : N ≤ n9 := by rw [hn9, List.length_append, HN.out]; omega
          obtain ⟨ps9, ow9, -⟩ := id o9
          have hca9 := own_caps ow9
          have hbw9 := bnext hbw8 hx9
          have rx9 : RdL w9 (fun _ => True) A9 (ls ++ (scan b).1) := (OwL.mono (S := fun _ => True) o9 (Nat.le_refl _) (fun _ _ => trivial)).rdF (fun _ _ => trivial)
          have rt9 := rx9.take N
          rw [show (ls ++ (scan b).1).take N = ls from by rw [← HN.out, List.take_left]] at rt9
          have rl9 : RdL w9 (fun _ => True) A ls := (((HF.out.go hbw9)).mono (S' := fun _ => True) (fun _ _ => trivial))
          have rm9 : RdL w9 (fun _ => True) A3 (ls.take K) := O3.out.go (bnext hx8' hx9)
          have HSa := Lib.hid (refSame_eq (ls.take K) (ls.take K) rfl A3 A n3 K c3 c Hn3.out (by rw [List.length_take, HN.out]; have := HK1.out; have := HN.out; omega) w9 _ _ rm9 (rl9.take K) (by rw [List.length_take, HN.out]; omega))
          have HSb := Lib.hid (fun (W : World) (h : Below w9.heap.size w9 W) => refSame_eq ls ls rfl A9 A N N c9 c HN.out.symm HN.out.symm W _ _ (rt9.go h) (rl9.go h) (by rw [HN.out]; omega))
          have p1 : (N : Int) ≤ (n9 : Int) := by omega
          have p2 : (N : Int) ≤ (c9 : Int) := by have := hca9.1; omega
          have p3 : N ≤ c9 := by have := hca9.1; omega
          have p4 : (K : Int) ≤ (c : Int) := by have := HK1.out; rw [HN.out] at this; omega
          have p5 : K ≤ c := by have := HK1.out; rw [HN.out] at this; omega
          have p6 : (0 : Int) ≤ (K : Int) := by omega
          have p7 : (0 : Int) ≤ (N : Int) := by omega
          clear HSc hfr hn9 o9 ow9 hca9 rx9 rt9 rl9 rm9 hx9 hx8'
          go_wp2_with fail
          refine HSa.out.mono ?_
          rintro e w10 ⟨rfl, hx10⟩
          have HSb' := Lib.hid (HSb.out w10 hx10)
          have hbw10 := bnext hbw9 hx10
          clear HSa HSb hx10
          go_wp2_with fail
          refine HSb'.out.mono ?_
          rintro e w11 ⟨rfl, hx11⟩
          have hbf := bnext hbw10 hx11
          clear HSb'
          go_wp2_with fail
          go_ret
          exact ⟨rfl, hbf⟩
end Go.Proofs.Ytajpinbabgcnkaa
