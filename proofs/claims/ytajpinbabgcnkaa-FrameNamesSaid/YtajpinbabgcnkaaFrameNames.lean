/-
  The walk of FrameNames. No conditions.
-/
import Derived.Test.YtajpinbabgcnkaaFrameAlive
import Derived.Test.YtajpinbabgcnkaaFrameApp
namespace Go.Proofs.Ytajpinbabgcnkaa
open Go Go.RowKit Go.Kw Go.Kw.Crc Go.Kw.Fm
set_option linter.unusedVariables false
set_option linter.unusedSimpArgs false
attribute [local go_sem ↓] Go.wp_at_zero Go.wp_at_succ

theorem made_zeros (n : Nat) : (madeCells (Value.int .u8 0).cells (n * 1)).toList = bv (List.replicate n 0) := by
  unfold madeCells bv
  apply List.ext_getElem?
  intro i
  by_cases h : i < n <;> simp [Value.cells, h, List.getElem?_replicate, Nat.mod_one]
theorem pair_go {w w' : World} {A A' : Option Addr} {l l' : List UInt8} (h : RdB w w.heap.size A l ∧ RdB w w.heap.size A' l') (hb : Below w.heap.size w w') : RdB w' w'.heap.size A l ∧ RdB w' w'.heap.size A' l' := ⟨h.1.go hb, h.2.go hb⟩
def two : List (List UInt8) := [[97], [98, 99]]
theorem two_may : two.all mayR = true := by decide
theorem scan_zero : scan [0] = ([], [0]) := scan_none (by decide)
theorem names_scan : scan (two.flatMap frm ++ [0]) = (two, [0]) := by
  rw [scan_frames two [0] (List.all_eq_true.1 two_may), scan_zero]; rfl
theorem names_len : (two.flatMap frm).length = 15 := rfl
theorem zeros_scan : scan (List.replicate 6 0) = ([], List.replicate 6 0) := scan_none (by decide)
theorem ab_set : (frm [97, 98]).set 7 99 = spoil (frm [97, 98]) 7 1 := rfl
theorem ab_why (t : List UInt8) : whyOf ((frm [97, 98]).set 7 99 ++ t) = 3 := by
  rw [ab_set]; exact why_spoilt [97, 98] (by decide) 7 (by decide) (by decide) 1 (by decide) t
theorem ab_why' : whyOf ((frm [97, 98]).set 7 99) = 3 := by have := ab_why []; rwa [List.append_nil] at this
theorem ab_scan : scan ((frm [97, 98]).set 7 99) = ([], (frm [97, 98]).set 7 99) := scan_none (by rw [ab_why']; decide)
set_option maxRecDepth 100000 in
set_option maxHeartbeats 4000000 in
theorem frameNames_walk (w : World) : Calls Try.prog 7 #[] w fun e w' => e = .returned (.bool true) ∧ Below w.heap.size w w' := by
  have kc := fun (w : World) (C : Array Value) (n c : Nat) => Lib.run_convert_bytes_const (P := Try.prog) w 23 5 C n c Try.underlying23 Try.underlying5
  have hb0 := Below.refl w.heap.size w
  have kc1 := kc w #[.int .u8 97] 1 1
  have kc2 := kc (w.alloc (.cells #[.int .u8 97] 5 (1, 2))) #[.int .u8 98, .int .u8 99] 2 2
  have hb1 := balloc hb0 (.cells #[.int .u8 97] 5 (1, 2))
  have hb2 := balloc hb1 (.cells #[.int .u8 98, .int .u8 99] 5 (2, 3))
  have r1 := rdB_new w #[.int .u8 97] 5 (1, 2) [97] rfl
  have r2 := rdB_new (w.alloc (.cells #[.int .u8 97] 5 (1, 2))) #[.int .u8 98, .int .u8 99] 5 (2, 3) [98, 99] rfl
  have rl : RdL (((w.alloc (.cells #[.int .u8 97] 5 (1, 2))).alloc (.cells #[.int .u8 98, .int .u8 99] 5 (2, 3))).alloc (.cells #[.slice (some ⟨w.heap.size, 0, none⟩) 1 1, .slice (some ⟨w.heap.size + 1, 0, none⟩) 2 2] 23)) (fun _ => True) (some ⟨w.heap.size + 2, 0, none⟩) two := by
    obtain ⟨W, hW⟩ : ∃ W, (w.alloc (.cells #[.int .u8 97] 5 (1, 2))).alloc (.cells #[.int .u8 98, .int .u8 99] 5 (2, 3)) = W := ⟨_, rfl⟩
    have r1' : RdB W W.heap.size (some ⟨w.heap.size, 0, none⟩) [97] := by
      rw [← hW]
      have := r1.alloc (by simp) (.cells #[.int .u8 98, .int .u8 99] 5 (2, 3))
      exact this.more (by simp)
    have r2' : RdB W W.heap.size (some ⟨w.heap.size + 1, 0, none⟩) [98, 99] := by
      rw [← hW]
      simpa using r2
    have hs : W.heap.size = w.heap.size + 2 := by rw [← hW]; simp
    rw [hW, ← hs]
    have hg := blk_new W #[.slice (some ⟨w.heap.size, 0, none⟩) 1 1, .slice (some ⟨w.heap.size + 1, 0, none⟩) 2 2] 23
    refine ⟨fun i => if i = 0 then (some ⟨w.heap.size, 0, none⟩, 1) else (some ⟨w.heap.size + 1, 0, none⟩, 2), .inr ⟨W.heap.size, 0, rfl, trivial, by simp, fun i hi => ?_⟩, fun k hk => ?_⟩
    · have hi : i < 2 := hi
      match i, hi with
      | 0, _ => exact blk_cell hg 0 rfl
      | 1, _ => exact blk_cell hg 1 rfl
    · have hk : k < 2 := hk
      match k, hk with
      | 0, _ => exact ⟨(RdY.of (S := fun _ => True) r1' (fun _ _ => trivial)).go (bstep W _), by simp, Nat.le_refl 1, (by decide : 1 ≤ 9223372036854775807)⟩
      | 1, _ => exact ⟨(RdY.of (S := fun _ => True) r2' (fun _ _ => trivial)).go (bstep W _), by simp, Nat.le_refl 2, (by decide : 2 ≤ 9223372036854775807)⟩
  have HA := Lib.hid (frameAll_calls (some ⟨w.heap.size + 2, 0, none⟩) 2 2 two rfl (by rw [names_len]; decide) _ rl)
  rw [World.size_alloc] at kc2
  have Kc := Lib.hid kc
  clear r1 r2 rl kc
  go_enter Try.func7, Try.ntmps7
  go_wp2_with fail
  refine HA.out.mono ?_
  rintro e w1 ⟨hp1, hx⟩
  have hb3 := bnext (balloc hb2 _) hx
  unfold AllPost at hp1
  rw [two_may, if_pos rfl] at hp1
  obtain ⟨A1, c1, n1, rfl, hn1, o1⟩ := hp1
  obtain rfl : n1 = 15 := hn1.trans names_len
  clear hn1
  clear HA kc1 kc2 hb1 hb2
  obtain ⟨A2, c2, w2, hrun, o2, bx, -⟩ := append_lit (P := Try.prog) (t := 23) eb w1 w.heap.size (own_mono (base := w.heap.size) o1 (by simp only [World.size_alloc]; omega)) #[.int .u8 0] 1 [0] rfl rfl (by rw [names_len]; decide) hb3.size
  have hl2 : (two.flatMap frm ++ [0]).length = 16 := rfl
  rw [hl2] at hrun o2
  have hb4 := hb3.trans bx
  have hr2 := (rdB_own o2).1
  have hc2 := own_caps o2
  have hz2 : A2 = none → (two.flatMap frm ++ [0]).length = 0 := fun h => by have := hc2.2.2.1 h; omega
  have Hr2 := Lib.hid hr2
  have Hz2 := Lib.hid hz2
  have Hc2 := Lib.hid hc2
  have Hl2 := Lib.hid hl2
  clear o1 o2 bx hx hb3 hr2 hz2 hc2 hl2
  go_wp2_with (at_builtin; refine wpList_append_run hrun rfl rfl rfl rfl rfl ?_; clear hrun)
  refine (scan_calls A2 16 c2 (two.flatMap frm ++ [0]) rfl (by rw [Hl2.out]; decide) Hc2.out.1 Hc2.out.2.1 w2 Hr2.out Hz2.out).mono ?_
  rintro e w3 ⟨A3, n3, c3, rfl, hn3, -, hx⟩
  have hz15 : ((two.flatMap frm ++ [0]).length : Int) - ((scan (two.flatMap frm ++ [0])).2.length : Int) = 15 := by rw [names_scan]; rfl
  rw [hz15]
  clear hz15
  rw [names_scan] at hn3
  obtain rfl : n3 = 2 := hn3
  have hb5 := bnext hb4 hx
  have Hk := Lib.hid hx
  clear hx
  go_wp2_with fail
  refine (why_calls A2 16 c2 (two.flatMap frm ++ [0]) rfl (by rw [Hl2.out]; decide) Hc2.out.1 Hc2.out.2.1 w3 (Hr2.out.go Hk.out) Hz2.out 1 (by rw [names_scan]; rfl)).mono ?_
  rintro e w4 ⟨rfl, hx⟩
  have hb6 := bnext hb5 hx
  have Hr4 := Lib.hid ((Hr2.out.go Hk.out).go hx)
  clear hx hb4 hb5 Hk Hr2
  obtain ⟨w5, hrun, o5, g5⟩ := runMake (P := Try.prog) w4 w4.heap.size eb 6 (by omega) (by unfold maxLen; omega) (Nat.le_refl _)
  rw [made_zeros] at o5
  have hx := (Below.refl _ w4).grown g5 (Nat.le_refl _) (by simp)
  have hb7 := bnext hb6 hx
  have Hr5 := Lib.hid (Hr4.out.go hx)
  have hrun' := Lib.hid (show (Instr.makeSlice 23 (.int .i64 6) (.int .i64 6)).run Try.prog w4 = _ from hrun)
  clear g5 hb6 hrun hx Hr4
  go_wp2_with (at_make; refine wpList_make_run hrun'.out rfl rfl rfl rfl ?_)
  refine (why_calls (some ⟨w4.heap.size, 0, none⟩) 6 6 (List.replicate 6 0) (by simp) (by simp) (by omega) (by omega) _ (rdB_own o5).1 (by simp) 2 (by rw [zeros_scan]; decide)).mono ?_
  rintro e w6 ⟨rfl, hx⟩
  have hb8 := bnext hb7 hx
  have Hr6 := Lib.hid (Hr5.out.go hx)
  have kc1 := Kc.out w6 #[.int .u8 97, .int .u8 98] 2 2
  have r1 := rdB_new w6 #[.int .u8 97, .int .u8 98] 5 (2, 3) [97, 98] rfl
  have hb9 := balloc hb8 (.cells #[.int .u8 97, .int .u8 98] 5 (2, 3))
  have HP := Lib.hid (put_good (some ⟨w6.heap.size, 0, none⟩) 2 2 [97, 98] rfl (by decide) 8 rfl (w6.alloc (.cells #[.int .u8 97, .int .u8 98] 5 (2, 3))) (by simpa using r1) (by simp))
  have Hr7 := Lib.hid (Hr6.out.go (bstep w6 (.cells #[.int .u8 97, .int .u8 98] 5 (2, 3))))
  clear hx hb7 o5 hrun' r1 Hr5 Hr6
  go_wp2_with fail
  refine HP.out.mono ?_
  rintro e w7 ⟨⟨A7, c7, rfl, o7⟩, hx⟩
  have hb10 := bnext hb9 hx
  have Hr8 := Lib.hid (Hr7.out.go hx)
  have hca := own_caps o7
  obtain ⟨g, rfl⟩ := own_some o7 (by decide)
  have x0 := cell_at' o7 7 rfl (by decide)
  rw [show bAt (frm [97, 98]) 7 = 98 from rfl] at x0
  have x1 := o7.frozenAt 7
  have hge : w6.heap.size + 1 ≤ g := by have := own_ge' o7; simpa using this
  have rb7 := (Hr7.out.below hx).setCell (p := ⟨g, 7, none⟩) (own_ge' o7) (.int .u8 99)
  have Rs7 := Lib.hid (show (w6.alloc (.cells #[.int .u8 97, .int .u8 98] 5 (2, 3))).heap.size ≤ (w7.setCell ⟨g, 7, none⟩ (.int .u8 99)).heap.size from (hx.setCell (p := ⟨g, 7, none⟩) (own_ge' o7) _).size)
  have Rb7 := Lib.hid (rb7.more Rs7.out)
  clear rb7
  have q7 : (7 : Int) < (c7 : Int) := by have := hca.1; omega
  have Hca := Lib.hid hca
  have O7 := Lib.hid o7
  have HB8 := Lib.hid hb8
  clear HP hx hb8 hb9 kc1 hca o7 Hr7
  go_wp2_with fail
  have o8 := (O7.out.stored 7 (.int .u8 99)).1
  have e8 : (bv (frm [97, 98])).set 7 (.int .u8 99) = bv ((frm [97, 98]).set 7 99) := by unfold bv; rw [List.map_set]; rfl
  rw [e8] at o8
  have hb11 := hb10.setCell (p := ⟨g, 7, none⟩) (Nat.le_trans (Nat.le_trans HB8.out.size (Nat.le_succ _)) hge) (.int .u8 99)
  clear x0 x1 hb10 Hr8 e8
  have hrb := Rb7.out
  clear Rb7 Rs7
  generalize w7.setCell ⟨g, 7, none⟩ (.int .u8 99) = w8 at o8 hb11 hrb ⊢
  obtain ⟨y, hy⟩ : ∃ y, (frm [97, 98]).set 7 99 = y := ⟨_, rfl⟩
  have hyl : 8 = y.length := by rw [← hy]; rfl
  have hys := ab_scan
  have hyw := ab_why'
  rw [hy] at o8 hys hyw
  have Hyl := Lib.hid hyl
  have Hyw := Lib.hid hyw
  have Hys := Lib.hid hys
  have Ry := Lib.hid (And.intro (rdB_own o8).1 hrb)
  clear hrb
  clear hyl hyw hys hy o8
  refine (why_calls (some ⟨g, 0, none⟩) 8 c7 y Hyl.out (by rw [← Hyl.out]; decide) Hca.out.1 Hca.out.2.1 w8 Ry.out.1 (by simp) 3 (by
    rw [Hys.out, if_neg (by intro h; have := Hyl.out; rw [show y = [] from h] at this; cases this)]
    rw [show whyOf y = 3 from Hyw.out]; rfl)).mono ?_
  rintro e w9 ⟨rfl, hx⟩
  have hb12 := bnext hb11 hx
  have Ry9 := Lib.hid (pair_go Ry.out hx)
  clear hx hb11 Ry
  go_wp2_with fail
  refine (put_bad none 0 0 [] rfl (by decide) (by decide) w9 (.inl rfl) (fun _ => rfl)).mono ?_
  rintro e w10 ⟨rfl, hx⟩
  have hb13 := bnext hb12 hx
  have Ry10 := Lib.hid (pair_go Ry9.out hx)
  clear hx hb12 Ry9
  obtain ⟨w11, hrun, o11, g11⟩ := runMake (P := Try.prog) w10 w10.heap.size eb 4097 (by omega) (by unfold maxLen; omega) (Nat.le_refl _)
  rw [made_zeros] at o11
  have hx := (Below.refl _ w10).grown g11 (Nat.le_refl _) (by simp)
  have hb14 := bnext hb13 hx
  have Ry11 := Lib.hid (pair_go Ry10.out hx)
  have hrun2 := Lib.hid (show (Instr.makeSlice 23 (.int .i64 4097) (.int .i64 4097)).run Try.prog w10 = _ from hrun)
  have HP2 := Lib.hid (put_bad (some ⟨w10.heap.size, 0, none⟩) 4097 4097 (List.replicate 4097 0) (by rw [List.length_replicate]) (by unfold mayR; rw [List.length_replicate]; decide) (by rw [List.length_replicate]; decide) w11 (rdB_own o11).1 (by simp))
  clear g11 hb13 hrun hx Ry10 o11
  go_wp2_with (at_make; refine wpList_make_run hrun2.out rfl rfl rfl rfl ?_)
  refine HP2.out.mono ?_
  rintro e w12 ⟨rfl, hx⟩
  have hb15 := bnext hb14 hx
  have Ry12 := Lib.hid (pair_go Ry11.out hx)
  clear hx hb14 Ry11 HP2 hrun2
  obtain ⟨w13, hrun, o13, g13⟩ := runMake (P := Try.prog) w12 w12.heap.size eb 4096 (by omega) (by unfold maxLen; omega) (Nat.le_refl _)
  rw [made_zeros] at o13
  have hx := (Below.refl _ w12).grown g13 (Nat.le_refl _) (by simp)
  have hb16 := bnext hb15 hx
  have Ry13 := Lib.hid (pair_go Ry12.out hx)
  have hrun3 := Lib.hid (show (Instr.makeSlice 23 (.int .i64 4096) (.int .i64 4096)).run Try.prog w12 = _ from hrun)
  have HP3 := Lib.hid (put_good (some ⟨w12.heap.size, 0, none⟩) 4096 4096 (List.replicate 4096 0) (by rw [List.length_replicate]) (by unfold mayR; rw [List.length_replicate]; decide) 4102 rfl w13 (rdB_own o13).1 (by simp))
  clear g13 hb15 hrun hx Ry12 o13
  go_wp2_with (at_make; refine wpList_make_run hrun3.out rfl rfl rfl rfl ?_)
  refine HP3.out.mono ?_
  rintro e w14 ⟨⟨A14, c14, rfl, -⟩, hx⟩
  have hb17 := bnext hb16 hx
  have Ry14 := Lib.hid (pair_go Ry13.out hx)
  clear hx hb16 Ry13 HP3 hrun3
  go_wp2_with fail
  refine (read_bad (some ⟨g, 0, none⟩) 8 c7 y Hyl.out (by rw [← Hyl.out]; decide) Hca.out.1 Hca.out.2.1 (by rw [Hyw.out]; decide) w14 Ry14.out.1).mono ?_
  rintro e w15 ⟨rfl, hx⟩
  have hb18 := bnext hb17 hx
  have Rb15 := Lib.hid (pair_go Ry14.out hx).2
  clear hx hb17 Ry14
  go_wp2_with fail
  refine (exact_calls A2 16 c2 (two.flatMap frm ++ [0]) Hl2.out.symm (by rw [Hl2.out]; decide) Hc2.out.1 Hc2.out.2.1 w15 Rb15.out Hz2.out).mono ?_
  rintro e w16 ⟨hp, hx⟩
  unfold ExactPost at hp
  rw [names_scan, if_neg (by decide)] at hp
  obtain rfl := hp
  have hb19 := bnext hb18 hx
  clear hx hb18
  go_wp2_with fail
  refine (alive_calls _).mono ?_
  rintro e w17 ⟨rfl, hx⟩
  have hb20 := bnext hb19 hx
  clear hx hb19
  go_wp2_with fail
  refine (size_n none 0 0 (by decide) 0 (by decide) w17).mono ?_
  rintro e w' ⟨rfl, rfl⟩
  go_wp2_with fail
  go_ret
  exact ⟨rfl, hb20⟩
end Go.Proofs.Ytajpinbabgcnkaa
