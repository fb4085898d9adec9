/-
  DaysLists: the walk of the law, case by case. Conditions stand at each theorem. (Printed by gen_dlists.py.)
-/
import Derived.Test.YthmgngmhnjeegaaDoorListNo
namespace Go.Proofs.YthmgngmhnjeegaaDoor
open Go Go.RowKit Go.Kw Go.Kw.Cv
set_option linter.unusedVariables false
set_option linter.unusedSimpArgs false

set_option maxRecDepth 1000000 in
set_option maxHeartbeats 16000000 in
theorem lists_day (A : Option Addr) (la ca : Nat) (gh : Nat → Nat → Int) (B : Option Addr) (lb cb : Nat) (gs : Nat → Nat → Int) (y n kind : Int) (w : World) (hR : RdCal w A la ca gh B lb cb gs) (hL : Lens w) (h20 : ¬ la > 20) (h30 : ¬ lb > 30) (hcal : calOk la gh lb gs) (hy : 1970 ≤ y ∧ y ≤ 9999) (hn : 0 ≤ n ∧ n ≤ 2932896) :
    Calls Tryd.prog 8 #[calC A la ca B lb cb, .int .i64 y, .int .i64 n, .int .i64 kind] w fun e w' => e = .returned (.bool true) ∧ Below w.heap.size w w' := by
  have hS := St.new hR hL
  obtain ⟨b0, hb0⟩ : ∃ b0, w.heap.size = b0 := ⟨_, rfl⟩
  have Hb0 := Lib.hid hb0
  rw [show St w.heap.size w A la ca gh B lb cb gs = St b0 w A la ca gh B lb cb gs by rw [hb0]] at hS
  have c0 := hS.c0
  have c1 := hS.c1
  unfold calC
  clear hR hL
  have k1 : decide ((la : Int) > 20) = false := decide_eq_false (by omega)
  have k2 : decide (y < 1970) = false := decide_eq_false (by omega)
  have k3 : decide (y > 9999) = false := decide_eq_false (by omega)
  have Hy := Lib.hid hy
  have Hcal := Lib.hid hcal
  have Hn := Lib.hid hn
  clear hcal hy hn
  have HX := (great_calls A la ca B lb cb false (by constructor <;> intro h <;> first | omega | rfl | exact absurd h Bool.false_ne_true) (w.alloc (.cells #[.slice A la ca, .slice B lb cb] 35)))
  unfold calC at HX
  replace HX := Lib.hid HX
  have HT := Lib.hid hS
  clear hS h20 h30
  go_enter Tryd.func8, Tryd.ntmps8
  go_wp2_with fail
  refine HX.out.mono ?_
  rintro e w1 ⟨rfl, hb⟩
  have hS := HT.out.go hb
  clear HX HT c0 c1 hb
  have c0 := hS.c0
  have c1 := hS.c1
  have HX := list_ok A la ca gh B lb cb gs y Hcal.out Hy.out w1 hS.2.1 hS.2.2.1
  unfold calC ListE at HX
  have hLs := list_sorted gh la y
  have hLi : ∀ m, ahd y ≤ m ∧ m < ahd (y + 1) → (m ∈ listL gh la y ↔ isF gh la m = true) := fun m hm => list_is gh la Hy.out hm
  have hLy : ∀ m ∈ listL gh la y, ahd y ≤ m ∧ m < ahd (y + 1) := fun m hm => in_year ((list_mem gh la y m).1 hm).2
  have hLen : (listL gh la y).length ≤ 1000000 := by
    have h1 := compact_le ((rawL gh la y).mergeSort fun x y => decide (x ≤ y))
    rw [List.length_mergeSort] at h1
    have h2 := List.length_filter_le (inY y) (feastL gh la y)
    have h3 := fe_len gh la y
    have h4 := Hcal.out.1
    have h5 : (rawL gh la y).length ≤ (feastL gh la y).length := h2
    have h6 : (listL gh la y).length ≤ (rawL gh la y).length := h1
    omega
  obtain ⟨L, hLe⟩ : ∃ L, listL gh la y = L := ⟨_, rfl⟩
  rw [hLe] at HX hLs hLi hLy hLen
  have Hlen := Lib.hid hLen
  have HLs := Lib.hid (And.intro hLs (And.intro hLi hLy))
  replace HX := Lib.hid HX
  have HT := Lib.hid hS
  clear hS hLs hLi hLy hLe hLen
  go_wp2_with fail
  refine HX.out.mono ?_
  rintro e w2 ⟨⟨LA, lc, rfl, hLr⟩, hb⟩
  have hS := HT.out.go hb
  clear HX HT c0 c1 hb
  have hok := Lib.hid (eas_ok Hy.out)
  have HE := easter_calls y Hy.out w2
  have HE2 := refEaster_calls y Hy.out
  obtain ⟨em, hm⟩ : ∃ m, easM y = m := ⟨_, rfl⟩
  obtain ⟨ed, hd⟩ : ∃ d, easD y = d := ⟨_, rfl⟩
  rw [hm, hd] at HE HE2
  replace HE := Lib.hid HE
  replace HE2 := Lib.hid HE2
  have HT := Lib.hid hS
  clear hS hm hd
  go_wp2_with fail
  refine HE.out.mono ?_
  rintro e w3 ⟨rfl, hb⟩
  have t3 := bstep w3 (.cells #[.int .i64 y, .int .i64 em, .int .i64 ed] 24)
  have rD := World.alloc_heap_new w3 (.cells #[.int .i64 y, .int .i64 em, .int .i64 ed] 24)
  have hS := (HT.out.go hb).go t3
  have hLr := (hLr.go hb).go t3
  have d0 := cell_of_row _ _ 0 _ _ _ rD
  have d1 := cell_of_row _ _ 1 _ _ _ rD
  have d2 := cell_of_row _ _ 2 _ _ _ rD
  clear HE HT hb t3 rD hok
  have HLr := Lib.hid hLr
  clear hLr
  go_wp2_with fail
  refine (HE2.out _).mono ?_
  rintro e w4 ⟨rfl, e4⟩
  rw [e4]
  clear e4 w4 HE2
  have c0 := hS.c0
  have c1 := hS.c1
  have HX := (by have h := refCal_calls A la ca gh B lb cb gs _ hS.2.1; rw [decide_eq_true Hcal.out] at h; exact h)
  unfold calC at HX
  replace HX := Lib.hid HX
  have HT := Lib.hid hS
  clear hS
  go_wp2_with fail
  refine HX.out.mono ?_
  rintro e w5 ⟨rfl, hb⟩
  have hS := HT.out.go hb
  have hLr := HLr.out.go hb
  clear HX HT c0 c1 hb HLr d0 d1 d2
  obtain ⟨hf1, hf2⟩ := first_day y Hy.out
  obtain ⟨hl1, hl2⟩ := last_day y Hy.out
  have HF := refDay_calls y 1 1
  rw [show dayE y 1 1 = ahd y from (if_pos hf1).trans hf2, chk_ok hf1] at HF
  have HLd := refDay_calls y 12 31
  rw [show dayE y 12 31 = ahd (y + 1) - 1 from (if_pos hl1).trans hl2, chk_ok hl1] at HLd
  have hstep := ahd_step y
  have hlp := lp_01 y
  have hyr : ∀ m, ahd y ≤ m ∧ m < ahd (y + 1) → 0 ≤ m ∧ m ≤ 2932896 := fun m hm => (year_of Hy.out hm).1
  obtain ⟨a, ha⟩ : ∃ a, ahd y = a := ⟨_, rfl⟩
  obtain ⟨z, hz⟩ : ∃ z, ahd (y + 1) = z := ⟨_, rfl⟩
  rw [ha] at HF hstep hyr
  rw [hz] at HLd hstep hyr
  have HLs2 := HLs.out
  rw [ha, hz] at HLs2
  have haz : a ≤ z := by omega
  have ha0 := hyr a ⟨Int.le_refl _, by omega⟩
  have hz0 := hyr (z - 1) ⟨by omega, by omega⟩
  have HQ := Lib.hid (And.intro HLs2 (And.intro hyr (And.intro haz (And.intro ha0 hz0))))
  replace HF := Lib.hid HF
  replace HLd := Lib.hid HLd
  have HT := Lib.hid (And.intro hS hLr)
  clear hf1 hf2 hl1 hl2 hstep hlp hyr ha hz HLs2 haz ha0 hz0 hS hLr HLs
  go_wp2_with fail
  refine (HF.out _).mono ?_
  rintro e w6 ⟨rfl, e6⟩
  rw [e6]
  clear e6 w6
  go_wp2_with fail
  refine (HLd.out _).mono ?_
  rintro e w6 ⟨rfl, e6⟩
  rw [e6]
  clear e6 w6
  go_wp2_with fail
  go_loopw [20, 21] (fun va vi wr => ∃ m : Int, vi = .int .i64 m ∧ va = .int .i64 (cntL L m) ∧ a ≤ m ∧ m ≤ z ∧ St b0 w A la ca gh B lb cb gs wr ∧ Rd wr wr.heap.size LA L.length (fun i => .int .i64 (L.getD i 0))) (fun _ vi _ => (z - intOf vi).toNat)
  case atStart => exact ⟨a, rfl, by rw [cnt_above (fun x hx => (HQ.out.1.2.2 x hx).1)]; rfl, Int.le_refl _, HQ.out.2.2.1, HT.out.1, HT.out.2⟩
  case round =>
    obtain ⟨m, rfl, rfl, hm1, hm2, hS, hLr⟩ := hrel
    clear HT HF HLd
    by_cases hlt : m ≤ z - 1
    · have kl : decide (m ≤ z - 1) = true := decide_eq_true hlt
      have hmr := HQ.out.2.1 m ⟨hm1, by omega⟩
      have c0 := hS.c0
      have c1 := hS.c1
      have HX := refIs_calls A la ca gh B lb cb gs Hcal.out.2.2.1 m hmr wr hS.2.1
      have hmem := HQ.out.1.2.1 m ⟨hm1, by omega⟩
      obtain ⟨b, hb⟩ : ∃ b, isF gh la m = b := ⟨_, rfl⟩
      rw [hb] at HX hmem
      unfold calC at HX
      replace HX := Lib.hid HX
      have a1 := i64_same (m + 1) (by omega)
      have A1 := Lib.hid (wrap64_in (m + 1) (by omega))
      have Hm := Lib.hid (And.intro hm1 (And.intro hlt hmr))
      have HMs := Lib.hid (show (z - (m + 1)).toNat < (z - m).toNat by omega)
      have HT := Lib.hid (And.intro hS hLr)
      cases b with
      | true =>
        obtain ⟨h1, h2⟩ := cntL_hit HQ.out.1.1 (hmem.2 rfl)
        obtain ⟨q, hq⟩ : ∃ q, cntL L m = q := ⟨_, rfl⟩
        rw [hq] at h1 h2 ⊢
        have hql := (List.getElem?_eq_some_iff.1 h1).1
        have hLlen : L.length ≤ 1000000 := Hlen.out
        have hqg : L.getD q 0 = m := by rw [List.getD_eq_getElem?_getD, h1]; rfl
        have kq : decide ((q : Int) ≥ (L.length : Int)) = false := decide_eq_false (by omega)
        have a2 := i64_same ((q : Int) + 1) (by omega)
        have A2 := Lib.hid (wrap64_in ((q : Int) + 1) (by omega))
        have H2 := Lib.hid (And.intro h2 (And.intro hql hqg))
        clear h1 h2 hql hqg hb hmem hlt hmr hS hLr hm1 hm2 hLlen hq
        have x1 := A1.out
        have x2 := A2.out
        go_wp2_with fail
        refine HX.out.mono ?_
        rintro e w7 ⟨rfl, hb⟩
        have hS := HT.out.1.go hb
        have hLr := HT.out.2.go hb
        obtain ⟨sb, off, rfl, hsb, hc⟩ := Rd.at_ hLr H2.out.2.1
        rw [H2.out.2.2] at hc
        have HU := Lib.hid (And.intro hS hLr)
        have hq2 : (q : Int) < (L.length : Int) := by have := H2.out.2.1; omega
        clear hb hS hLr c0 c1
        go_wp2_with fail
        clear x1 x2
        exact ⟨⟨m + 1, rfl, by rw [H2.out.1]; push_cast; rfl, by have := Hm.out; omega, by have := Hm.out; omega, HU.out.1, HU.out.2⟩, HMs.out⟩
      | false =>
        have h2 := cntL_miss (fun h => Bool.false_ne_true (hmem.1 h))
        have H2 := Lib.hid h2
        clear h2 hb hmem hlt hmr hS hLr hm1 hm2
        have x1 := A1.out
        go_wp2_with fail
        refine HX.out.mono ?_
        rintro e w7 ⟨rfl, hb⟩
        have hS := HT.out.1.go hb
        have hLr := HT.out.2.go hb
        clear hb c0 c1
        go_wp2_with fail
        clear x1
        exact ⟨⟨m + 1, rfl, by rw [H2.out], by have := Hm.out; omega, by have := Hm.out; omega, hS, hLr⟩, HMs.out⟩
    · obtain rfl : m = z := by omega
      have kl : decide (m ≤ m - 1) = false := decide_eq_false (by omega)
      have hfull := cnt_below (fun x hx => (HQ.out.1.2.2 x hx).2)
      rw [hfull]
      clear hfull hlt hm1 hm2 hLr
      have c0 := hS.c0
      have c1 := hS.c1
      have HX := next_ok A la ca gh B lb cb gs n kind Hcal.out Hn.out wr hS.2.1 hS.2.2.1
      unfold calC at HX
      replace HX := Lib.hid HX
      have HT := Lib.hid hS
      clear hS
      go_wp2_with fail
      refine HX.out.mono ?_
      rintro e w8 ⟨⟨r, hs, rfl, hP⟩, hb⟩
      have hS := HT.out.go hb
      have HP := Lib.hid hP
      clear HX HT c0 c1 hb hP
      have HD := Lib.hid (refDayOk_calls n true ⟨fun _ => Hn.out, fun _ => rfl⟩)
      have a1 := i64_same (n + 40) (by have := Hn.out; omega)
      have A1 := Lib.hid (wrap64_in (n + 40) (by have := Hn.out; omega))
      have a2 := i64_same (n + 3700) (by have := Hn.out; omega)
      have A2 := Lib.hid (wrap64_in (n + 3700) (by have := Hn.out; omega))
      have HT := Lib.hid hS
      clear hS
      go_wp2_with fail
      refine (HD.out _).mono ?_
      rintro e w9 ⟨rfl, e9⟩
      rw [e9]
      clear e9 w9
      go_wp2_with fail
      go_loopw [24] (fun vi wq => ∃ i : Int, vi = .int .i64 i ∧ n ≤ i ∧ i ≤ n + 40 ∧ i ≤ 2932897 ∧ (∀ j, n ≤ j → j < i → kindD gh la j ≠ kind) ∧ St b0 w A la ca gh B lb cb gs wq) (fun vi _ => (n + 40 - intOf vi).toNat)
      case atStart => exact ⟨n, rfl, by omega, by omega, by have := Hn.out; omega, fun j h1 h2 => absurd h2 (by omega), HT.out⟩
      case round =>
        clear HT
        obtain ⟨i, rfl, hi1, hi2, hi3, hno, hS⟩ := hrel
        have hnn := Hn.out
        have hlast : lastN n = n + 3700 ∨ lastN n = 2932896 := by unfold lastN; split <;> omega
        have hlast2 : n + 3700 ≤ 2932896 → lastN n = n + 3700 := fun h => if_pos h
        have hlast3 : lastN n ≤ n + 3700 := by unfold lastN; split <;> omega
        have hlast4 : lastN n ≤ 2932896 := by unfold lastN; split <;> omega
        have x1 := A1.out
        have x2 := A2.out
        by_cases hgo : i < n + 40 ∧ i ≤ 2932896
        · have g1 : decide (i < n + 40) = true := decide_eq_true hgo.1
          have g2 : decide (i ≤ 2932896) = true := decide_eq_true hgo.2
          have c0 := hS.c0
          have c1 := hS.c1
          have HX := refKind_calls A la ca gh B lb cb gs Hcal.out.2.2.1 i (by omega) wr hS.2.1
          obtain ⟨K, hK⟩ : ∃ K, kindD gh la i = K := ⟨_, rfl⟩
          rw [hK] at HX
          unfold calC at HX
          replace HX := Lib.hid HX
          have HT := Lib.hid hS
          by_cases hk : K = kind
          · have kk : (K == kind) = true := beq_iff_eq.2 hk
            obtain ⟨rfl, rfl⟩ : hs = true ∧ r = i := by
              rcases HP.out with ⟨h1, h2, h3, h4, h5⟩ | ⟨h1, h2, h3⟩
              · refine ⟨h1, ?_⟩
                rcases Int.lt_trichotomy r i with h6 | h6 | h6
                · exact absurd h4 (hno r h2 h6)
                · exact h6
                · exact absurd (hK.trans hk) (h5 i hi1 h6)
              · exact absurd (hK.trans hk) (h3 i hi1 (by rcases hlast with h | h <;> omega))
            clear hno hgo hK hk hS hi1 hi2 hi3 hnn hlast hlast2 hlast3 hlast4
            go_wp2_with fail
            refine HX.out.mono ?_
            rintro e w10 ⟨rfl, hb⟩
            have HB := Lib.hid (HT.out.go hb).2.2.2
            clear hb c0 c1
            go_wp2_with fail
            go_ret
            exact ⟨rfl, by first | exact HB.out | (rw [Hb0.out]; exact HB.out) | (rw [← Hb0.out]; exact HB.out)⟩
          · have kk : (K == kind) = false := beq_eq_false_iff_ne.2 hk
            have HN := Lib.hid (show ∀ j, n ≤ j → j < i + 1 → kindD gh la j ≠ kind from fun j h1 h2 => by
              by_cases e : j = i
              · rw [e, hK]; exact hk
              · exact hno j h1 (by omega))
            have a3 := i64_same (i + 1) (by omega)
            have A3 := Lib.hid (wrap64_in (i + 1) (by omega))
            have Hi := Lib.hid (And.intro hi1 hgo)
            have HMs := Lib.hid (show (n + 40 - (i + 1)).toNat < (n + 40 - i).toNat by omega)
            clear hno hgo hK hk hS hi1 hi2 hi3 hnn hlast hlast2 hlast3 hlast4
            have x3 := A3.out
            go_wp2_with fail
            refine HX.out.mono ?_
            rintro e w10 ⟨rfl, hb⟩
            have hS := HT.out.go hb
            clear hb c0 c1
            go_wp2_with fail
            clear x1 x2 x3
            exact ⟨⟨i + 1, rfl, by have := Hi.out; omega, by have := Hi.out; omega, by have := Hi.out; omega, HN.out, hS⟩, HMs.out⟩
        · have hend : i = n + 40 ∨ i = 2932897 := by omega
          have hP := HP.out
          rcases hP with ⟨rfl, h2, h3, h4, h5⟩ | ⟨rfl, rfl, h3⟩
          · have hge : r ≥ n + 40 := by
              rcases Int.lt_or_le r i with h6 | h6
              · exact absurd h4 (hno r h2 h6)
              · rcases hlast with h | h <;> omega
            have r1 : decide (r ≥ n + 40) = true := decide_eq_true hge
            have r2 : decide (r ≤ n + 3700) = true := decide_eq_true (by omega)
            have c0 := hS.c0
            have c1 := hS.c1
            have HX := refKind_calls A la ca gh B lb cb gs Hcal.out.2.2.1 r (by rcases hlast with h | h <;> omega) wr hS.2.1
            rw [h4] at HX
            unfold calC at HX
            replace HX := Lib.hid HX
            have HT := Lib.hid hS
            by_cases g1' : i < n + 40
            · have g1 : decide (i < n + 40) = true := decide_eq_true g1'
              have g2 : decide (i ≤ 2932896) = false := decide_eq_false (by omega)
              clear hno hgo hS hi1 hi2 hi3 hnn hlast hlast2 hlast3 hlast4 hend h2 h3 h4 h5 hge g1'
              go_wp2_with fail
              refine HX.out.mono ?_
              rintro e w10 ⟨rfl, hb⟩
              have HB := Lib.hid (HT.out.go hb).2.2.2
              clear hb c0 c1
              go_wp2_with fail
              go_ret
              exact ⟨rfl, by first | exact HB.out | (rw [Hb0.out]; exact HB.out) | (rw [← Hb0.out]; exact HB.out)⟩
            · have g1 : decide (i < n + 40) = false := decide_eq_false g1'
              clear hno hgo hS hi1 hi2 hi3 hnn hlast hlast2 hlast3 hlast4 hend h2 h3 h4 h5 hge g1'
              go_wp2_with fail
              refine HX.out.mono ?_
              rintro e w10 ⟨rfl, hb⟩
              have HB := Lib.hid (HT.out.go hb).2.2.2
              clear hb c0 c1
              go_wp2_with fail
              go_ret
              exact ⟨rfl, by first | exact HB.out | (rw [Hb0.out]; exact HB.out) | (rw [← Hb0.out]; exact HB.out)⟩
          · have HB := Lib.hid hS.2.2.2
            by_cases g1' : i < n + 40
            · have g1 : decide (i < n + 40) = true := decide_eq_true g1'
              have g2 : decide (i ≤ 2932896) = false := decide_eq_false (by omega)
              clear hno hgo hS hi1 hi2 hi3 hnn hlast hlast2 hlast3 hlast4 hend h3 g1'
              go_wp2_with fail
              go_ret
              exact ⟨rfl, by first | exact HB.out | (rw [Hb0.out]; exact HB.out) | (rw [← Hb0.out]; exact HB.out)⟩
            · have g1 : decide (i < n + 40) = false := decide_eq_false g1'
              clear hno hgo hS hi1 hi2 hi3 hnn hlast hlast2 hlast3 hlast4 hend h3 g1'
              go_wp2_with fail
              go_ret
              exact ⟨rfl, by first | exact HB.out | (rw [Hb0.out]; exact HB.out) | (rw [← Hb0.out]; exact HB.out)⟩
end Go.Proofs.YthmgngmhnjeegaaDoor
