/-
  The walk of FrameSpoilt. No conditions beyond the given rows.
-/
import Derived.Test.YtajpinbabgcnkaaFrameAlive
import Derived.Test.YtajpinbabgcnkaaFrameMakes
import Derived.Test.YtajpinbabgcnkaaFrameApp
namespace Go.Proofs.Ytajpinbabgcnkaa
open Go Go.RowKit Go.Kw Go.Kw.Crc Go.Kw.Fm
set_option linter.unusedVariables false
set_option linter.unusedSimpArgs false
attribute [local go_sem ↓] Go.wp_at_zero Go.wp_at_succ

theorem e1_of (k p : Nat) (hp : 2 + k = p) (hpl : p ≤ 100000) : wrap64 (2 + (k : Int)) = (p : Int) := by unfold wrap64; omega
theorem out_len (m : List UInt8) (h : m.length ≤ 200) : (allOut [m]).length ≤ 206 := by
  rw [allOut_one]
  cases mayR m with
  | true => rw [if_pos rfl, frm_length]; omega
  | false => simp
theorem scan_three (l : List UInt8) (h : whyOf l = 3) : scan l = ([], l) := scan_none (by rw [h]; decide)
/-- The place. -/
theorem place (a : Int) (L : Nat) (h7 : 7 ≤ L) : ∃ k : Nat, ((a.tmod ((L : Int) - 2)) + (L : Int) - 2).tmod ((L : Int) - 2) = (k : Int) ∧ k < L - 2 ∧ -((L : Int) - 2) < a.tmod ((L : Int) - 2) ∧ a.tmod ((L : Int) - 2) < (L : Int) - 2 := by
  obtain ⟨M, hM⟩ : ∃ M : Nat, L = M + 2 := ⟨L - 2, by omega⟩
  have e : (L : Int) - 2 = (M : Int) := by omega
  have hm : (a.tmod (M : Int)).natAbs < M := by rw [Int.natAbs_tmod]; exact Nat.mod_lt _ (by simp; omega)
  rw [e]
  have e2 : a.tmod (M : Int) + (L : Int) - 2 = a.tmod (M : Int) + M := by omega
  rw [e2]
  have h0 : 0 ≤ a.tmod (M : Int) + (M : Int) := by omega
  obtain ⟨j, hj⟩ := Int.eq_ofNat_of_zero_le h0
  rw [hj]
  refine ⟨j % M, by rw [Int.tmod_eq_emod_of_nonneg (by omega)]; rfl, by have := Nat.mod_lt j (show 0 < M by omega); omega, by omega, by omega⟩

set_option maxRecDepth 100000 in
set_option maxHeartbeats 4000000 in
theorem frameSpoilt_walk (a0 : Option Addr) (len0 cap0 : Nat) (z0 : List Int) (a1 : Int) (a2 : Int) (a3 : Option Addr) (len3 cap3 : Nat) (z3 : List Int) (w : World) (w0 : IsRow .u8 w a0 len0 cap0 z0) (w1 : (Lit.int .i64 a1).wf = true) (w2 : (Lit.int .u8 a2).wf = true) (w3 : IsRow .u8 w a3 len3 cap3 z3) :
    Calls Try.prog 6 #[.slice a0 len0 cap0, .int .i64 a1, .int .u8 a2, .slice a3 len3 cap3] w fun e w' => e = .returned (.bool true) ∧ Below w.heap.size w w' := by
  obtain ⟨hm1, hm2, hz0⟩ := w0.caps
  obtain ⟨hm3, hm4, hz3⟩ := w3.caps
  unfold maxLen at hm2 hm4
  obtain ⟨b, rfl, hR⟩ := w0.bytes
  obtain ⟨m, rfl, hS⟩ := w3.bytes
  obtain ⟨d0, d1⟩ := Go.bounds_u8 w2
  obtain ⟨n, rfl⟩ := Int.eq_ofNat_of_zero_le d0
  obtain ⟨v, rfl⟩ : ∃ v : UInt8, n = v.toNat := ⟨UInt8.ofNat n, by rw [UInt8.toNat_ofNat', Nat.mod_eq_of_lt (by omega)]⟩
  have Hat := Lib.hid (Go.bounds_i64 w1)
  have hzb : a0 = none → b.length = 0 := fun h => (hz0 h).1
  have hzm : a3 = none → m.length = 0 := fun h => (hz3 h).1
  clear w0 w1 w2 w3 d0 d1 hz0 hz3
  by_cases h1 : 4096 < b.length
  · have k1 : (4096 : Int) < (b.length : Int) := by omega
    go_enter Try.func6, Try.ntmps6
    go_wp2_with fail
    refine (alive_calls _).mono ?_
    rintro e wa ⟨rfl, hba⟩
    go_wp2_with fail
    go_ret; exact ⟨rfl, hba⟩
  by_cases h2 : 200 < m.length
  · have k1 : (b.length : Int) ≤ 4096 := by omega
    have k2 : (200 : Int) < (m.length : Int) := by omega
    go_enter Try.func6, Try.ntmps6
    go_wp2_with fail
    refine (alive_calls _).mono ?_
    rintro e wa ⟨rfl, hba⟩
    go_wp2_with fail
    go_ret; exact ⟨rfl, hba⟩
  by_cases h3 : v.toNat = 0
  · have k1 : (b.length : Int) ≤ 4096 := by omega
    have k2 : (m.length : Int) ≤ 200 := by omega
    rw [h3]
    go_enter Try.func6, Try.ntmps6
    go_wp2_with fail
    refine (alive_calls _).mono ?_
    rintro e wa ⟨rfl, hba⟩
    go_wp2_with fail
    go_ret; exact ⟨rfl, hba⟩
  have k1 : (b.length : Int) ≤ 4096 := by omega
  have k2 : (m.length : Int) ≤ 200 := by omega
  have k3 : ¬ (v.toNat : Int) = 0 := by omega
  have k4 : ((v.toNat : Int) == 0) = false := by rw [beq_eq_false_iff_ne]; exact k3
  have HR := Lib.hid hR
  have HS := Lib.hid hS
  have Hzb := Lib.hid hzb
  have Hzm := Lib.hid hzm
  have H1 : Hid (b.length ≤ 4096 ∧ m.length ≤ 200) := by show _ ∧ _; omega
  have H3 := Lib.hid h3
  clear hR hS hzb hzm h1 h2 h3
  go_enter Try.func6, Try.ntmps6
  go_wp2_with fail
  refine (alive_calls _).mono ?_
  rintro e wa ⟨rfl, hba⟩
  go_wp2_with fail
  refine (put_n none a0 0 b.length 0 cap0 [] b rfl rfl (by decide) (by have := H1.out; omega) wa (.inl rfl) (HR.out.go hba) (fun _ => rfl) Hzb.out).mono ?_
  rintro e w1 ⟨hp1, hb1⟩
  have hp2 := hp1.form
  have hbw1 := bnext hba hb1
  clear hp1
  cases hmb : mayR b with
  | false =>
    rw [hmb, if_neg (by decide), if_neg (by decide)] at hp2
    obtain ⟨A1, n1, c1, rfl, rfl, -⟩ := hp2
    go_wp2_with fail
    go_ret; exact ⟨rfl, hbw1⟩
  | true =>
    rw [hmb, if_pos rfl, if_pos rfl, List.nil_append] at hp2
    obtain ⟨A1, n1, c1, rfl, hn1, hc1, hd1, hr1, hzr1, -⟩ := hp2
    have hbl := (mayR_iff b).1 hmb
    have hL : n1 = 6 + b.length := by rw [hn1, frm_length]
    obtain ⟨k, hk1, hk2, hk3, hk4⟩ := place a1 n1 (by omega)
    have hsp := fun t => why_spoilt b hmb (2 + k) (by omega) (by omega) v H3.out t
    have hrd := frm_read b [] hmb
    rw [List.append_nil] at hrd
    have hrd := hrd.1
    have hlen : 7 ≤ n1 ∧ n1 ≤ 4102 := by omega
    obtain ⟨x, hx⟩ : ∃ x, frm b = x := ⟨_, rfl⟩
    rw [hx] at hn1 hr1 hzr1 hsp hrd
    clear hx hmb hbl hL
    have Hn1 := Lib.hid hn1
    have Hr1 := Lib.hid hr1
    have Hsp := Lib.hid hsp
    have Hrd := Lib.hid hrd
    have Hlen := Lib.hid hlen
    have Hzr1 := Lib.hid hzr1
    have q1 : (7 : Int) ≤ (n1 : Int) := by have := Hlen.out; omega
    have q2 : (n1 : Int) ≤ 4102 := by have := Hlen.out; omega
    obtain ⟨r, hr⟩ : ∃ r, a1.tmod ((n1 : Int) - 2) = r := ⟨_, rfl⟩
    rw [hr] at hk1 hk3 hk4
    have Hk2 := Lib.hid hk2
    obtain ⟨p, hp⟩ : ∃ p, 2 + k = p := ⟨_, rfl⟩
    have hpl : p ≤ 100000 := by omega
    have hpn : 2 ≤ p ∧ p < n1 := by omega
    rw [hp] at hsp
    have Hsp := Lib.hid hsp
    have Hpn := Lib.hid hpn
    have HP2 := Lib.hid (And.intro hp hpl)
    obtain ⟨A2, c2, w2, hrun, o2, hx⟩ := append_new w1 A1 n1 c1 x hn1 (by omega) hr1 hzr1
    have hbw2 := bnext hbw1 hx
    have hca := own_caps o2
    obtain ⟨g, rfl⟩ := own_some o2 (by omega)
    have x0 := cell_at' o2 p hn1 (by omega)
    have x1 := o2.frozenAt p
    have hge := own_ge' o2
    have hges : w.heap.size ≤ g := Nat.le_trans hbw1.size hge
    have q3 : (p : Int) < (n1 : Int) := by omega
    have q4 : (0 : Int) ≤ (p : Int) := by omega
    have Hca := Lib.hid hca
    have O2 := Lib.hid o2
    have Hge := Lib.hid hge
    have Hr2 := Lib.hid (Hr1.out.below hx)
    have HB12 := Lib.hid hx
    clear hn1 hr1 hsp hrd hlen hzr1 hk2 hca o2 hx hp hpn hge
    have e1 : wrap64 (2 + (k : Int)) = (p : Int) := e1_of k p HP2.out.1 HP2.out.2
    clear HP2
    go_wp2_with (at_builtin; refine wpList_append_run hrun rfl rfl rfl rfl rfl ?_; clear hrun)
    clear e1
    have o3 := (O2.out.stored p (.int .u8 (bits .xor .u8 (bAt x p) (v.toNat : Int)))).1
    rw [bv_spoil x p v (by rw [← Hn1.out]; exact Hpn.out.2)] at o3
    have hbw3 := hbw2.setCell (p := ⟨g, p, none⟩) hges (.int .u8 (bits .xor .u8 (bAt x p) (v.toNat : Int)))
    have hr3 : RdB (w2.setCell ⟨g, p, none⟩ (.int .u8 (bits .xor .u8 (bAt x p) (v.toNat : Int)))) w1.heap.size A1 x := Hr2.out.setCell (p := ⟨g, p, none⟩) Hge.out _
    have hs3 : w1.heap.size ≤ (w2.setCell ⟨g, p, none⟩ (.int .u8 (bits .xor .u8 (bAt x p) (v.toNat : Int)))).heap.size := (HB12.out.setCell (p := ⟨g, p, none⟩) Hge.out _).size
    have hsz : (w2.setCell ⟨g, p, none⟩ (.int .u8 (bits .xor .u8 (bAt x p) (v.toNat : Int)))).heap.size = w2.heap.size := by simp
    clear x0 x1 hbw2
    generalize w2.setCell ⟨g, p, none⟩ (.int .u8 (bits .xor .u8 (bAt x p) (v.toNat : Int))) = w3 at o3 hbw3 hr3 hs3 hsz ⊢
    obtain ⟨y, hy⟩ : ∃ y, spoil x p v = y := ⟨_, rfl⟩
    have hyl : n1 = y.length := by rw [← hy, spoil_length]; exact Hn1.out
    rw [hy] at o3
    have Hsp := Lib.hid (show ∀ t, whyOf (y ++ t) = 3 from by rw [← hy]; exact Hsp.out)
    have Hyl := Lib.hid hyl
    have hr3' := hr3.more hs3
    have Hr3 := Lib.hid hr3'
    have ry := (rdB_own o3).1
    have Ry := Lib.hid ry
    have hall := RdL.lit w3 a3 m cap3 (HS.out.go hbw3) Hzm.out hm3 (by omega)
    rw [hsz] at hall
    have HAl := Lib.hid (frameAll_calls (some ⟨w2.heap.size, 0, none⟩) 1 1 [m] rfl (by simp [frm_length]; have := H1.out; omega) _ hall)
    have hbw4 := balloc hbw3 (.cells #[.slice a3 m.length cap3] 23)
    have Ry4 := Lib.hid (Ry.out.go (bstep w3 (.cells #[.slice a3 m.length cap3] 23)))
    have Rx4 := Lib.hid (Hr3.out.go (bstep w3 (.cells #[.slice a3 m.length cap3] 23)))
    clear hr3 hr3' o3 hy hyl ry hall Ry Hr3 hs3 hsz
    go_wp2_with fail
    refine HAl.out.mono ?_
    rintro e w5 ⟨hp5, hx⟩
    have hp6 := hp5.form
    obtain ⟨Z, hZ⟩ : ∃ Z, allOut [m] = Z := ⟨_, rfl⟩
    obtain ⟨er, her⟩ : ∃ er, allErr [m] = er := ⟨_, rfl⟩
    rw [hZ, her] at hp6
    have hZl : Z.length ≤ 206 := by rw [← hZ]; exact out_len m H1.out.2
    obtain ⟨A5, n5, c5, rfl, hn5, hc5, hd5, hr5, hz5, -⟩ := hp6
    have hbw5 := bnext hbw4 hx
    have Ry5 := Lib.hid (Ry4.out.go hx)
    have Rx5 := Lib.hid (Rx4.out.go hx)
    have Hn5 := Lib.hid hn5
    have Hr5 := Lib.hid hr5
    have Hz5 := Lib.hid hz5
    have HZl := Lib.hid hZl
    clear hp5 HAl hx hZ her hn5 hr5 hz5 hZl Ry4 Rx4
    go_wp2_with fail
    have hw3 := Hsp.out []
    rw [List.append_nil] at hw3
    refine (read_bad (some ⟨g, 0, none⟩) n1 c2 y Hyl.out (by rw [← Hyl.out]; omega) Hca.out.1 Hca.out.2.1 (by rw [hw3]; decide) w5 Ry5.out).mono ?_
    rintro e w6 ⟨rfl, hx⟩
    have hbw6 := bnext hbw5 hx
    have Ry6 := Lib.hid (Ry5.out.go hx)
    have Rx6 := Lib.hid (Rx5.out.go hx)
    have Rz6 := Lib.hid (Hr5.out.go hx)
    have Hw3 := Lib.hid hw3
    clear hx Ry5 Rx5 hw3
    obtain ⟨A7, c7, w7, hrun7, o7, hx7⟩ := append_new w6 (some ⟨g, 0, none⟩) n1 c2 y Hyl.out (by rw [← Hyl.out]; omega) Ry6.out (by simp)
    obtain ⟨A8, c8, w8, hrun8, o8, hx8, -, -, hz8⟩ := append_bytes (P := Try.prog) (t := 23) eb w7 w6.heap.size o7 n5 c5 (Rz6.out.go hx7) Hn5.out (by rw [← Hyl.out]; have := HZl.out; omega) hx7.size Hz5.out
    have hx78 := hx7.trans hx8
    obtain ⟨T, hT⟩ : ∃ T, (y ++ Z).length = T := ⟨_, rfl⟩
    rw [hT] at hrun8 o8 hz8
    have hTl : T ≤ 5000 := by rw [← hT, List.length_append, ← Hyl.out]; have := HZl.out; omega
    have HT := Lib.hid hT
    have hbw8 := bnext hbw6 hx78
    have Ry8 := Lib.hid (Ry6.out.go hx78)
    have Rx8 := Lib.hid (Rx6.out.go hx78)
    have hca8 := own_caps o8
    have HSc := Lib.hid (scan_calls A8 T c8 (y ++ Z) HT.out.symm (by rw [HT.out]; omega) hca8.1 hca8.2.1 w8 (rdB_own o8).1 (fun h => by rw [HT.out]; exact hz8 h))
    clear o7 hx7 hx8 hx78 o8 hz8 hT hca8 Ry6 Rx6 Rz6
    go_wp2_with (first | (at_builtin; refine wpList_append_run hrun7 rfl rfl rfl rfl rfl ?_; clear hrun7) | (at_builtin; refine wpList_append_run hrun8 rfl rfl rfl rfl rfl ?_; clear hrun8))
    refine HSc.out.mono ?_
    rintro e w9 ⟨A9, n9, c9, rfl, hn9, -, hx⟩
    rw [scan_three _ (Hsp.out Z)] at hn9 ⊢
    obtain rfl : n9 = 0 := hn9
    rw [Int.sub_self]
    have hbw9 := bnext hbw8 hx
    have Ry9 := Lib.hid (Ry8.out.go hx)
    have Rx9 := Lib.hid (Rx8.out.go hx)
    clear hx HSc Ry8 Rx8
    go_wp2_with fail
    refine (frameRead_calls A1 n1 c1 x Hn1.out (by rw [← Hn1.out]; omega) hc1 hd1 w9 Rx9.out).mono ?_
    rintro e w10 ⟨hp, hx⟩
    unfold ReadPost at hp
    rw [if_pos Hrd.out] at hp
    obtain ⟨A10, n10, c10, rfl, -, -⟩ := hp
    have hbw10 := bnext hbw9 hx
    have HW := Lib.hid (why_calls (some ⟨g, 0, none⟩) n1 c2 y Hyl.out (by rw [← Hyl.out]; omega) Hca.out.1 Hca.out.2.1 w10 (Ry9.out.go hx) (by simp) 3 (by
      rw [scan_three _ Hw3.out, if_neg (by intro h; have := Hyl.out; rw [show y = [] from h] at this; simp at this; have := Hlen.out; omega)]
      rw [show whyOf y = 3 from Hw3.out]; rfl))
    clear hx Ry9 Rx9
    go_wp2_with fail
    refine HW.out.mono ?_
    rintro e w11 ⟨rfl, hx⟩
    have hbf := bnext hbw10 hx
    clear HW
    go_wp2_with fail
    go_ret
    exact ⟨rfl, hbf⟩
end Go.Proofs.Ytajpinbabgcnkaa
