/-
  TariffPays, walked. Conditions stand at each theorem.
-/
import Derived.Test.YtbbbjgilbddabaaPurse4
import Derived.Deep.QuietTactic
namespace Go.Proofs.Ytbbbjgilbddabaa
open Go Go.RowKit Go.Kw Go.Joins Go.ChangeShapes Go.WideShapes Go.ChangeAt
set_option linter.unusedVariables false
set_option linter.unusedSimpArgs false

theorem Only.row {b c : Nat} {w w' : World} {o : Obj} (h : Only b w w') (hp : w.heap[c]? = some o) (hc : c ≠ b) : w'.heap[c]? = some o := by
  have hlt : c < w.heap.size := (Array.getElem?_eq_some_iff.1 hp).1
  obtain ⟨w1, h1, rfl | ⟨i, v, rfl⟩⟩ := h
  · exact (h1.block c hlt).trans hp
  · exact (heap_setCell_other w1 ⟨b, i, none⟩ c v hc).trans ((h1.block c hlt).trans hp)
/-- What stands within a round: both purses, the call's box B. -/
structure ST (b0 B : Nat) (w : World) (zk zm zb zn zp : Int) (W : World) (f h : Nat → Int) : Prop where
  one : PB 48 W b0 f
  two : PB 51 W (b0 + 1) h
  box : W.heap[B]? = some (.cells #[.int .i64 zk, .int .i64 zm, .int .i64 zb, .int .i64 zn, .int .i64 zp] 53 (0, 0))
  low : b0 + 1 < B
  bel : Below b0 w W
section
variable {b0 B : Nat} {w W W' : World} {zk zm zb zn zp : Int} {f h f' : Nat → Int}
theorem ST.start {wr : World} (q1 : PB 48 wr b0 f) (q2 : PB 51 wr (b0 + 1) h) (hb : Below b0 w wr) :
    ST b0 wr.heap.size w zk zm zb zn zp (wr.alloc (.cells #[.int .i64 zk, .int .i64 zm, .int .i64 zb, .int .i64 zn, .int .i64 zp] 53)) f h :=
  have st := (Below.refl wr.heap.size wr).alloc (Nat.le_refl _) (.cells #[.int .i64 zk, .int .i64 zm, .int .i64 zb, .int .i64 zn, .int .i64 zp] 53)
  ⟨q1.next st, q2.next st, World.alloc_heap_new wr _, q2.lt, hb.trans (st.mono (by have := q1.lt; omega))⟩
theorem ST.cell0 (s : ST b0 B w zk zm zb zn zp W f h) : W.cell? ⟨B, 0, none⟩ = some (.int .i64 zk) := cell_of_row W B 0 _ _ _ s.box
theorem ST.cell1 (s : ST b0 B w zk zm zb zn zp W f h) : W.cell? ⟨B, 1, none⟩ = some (.int .i64 zm) := cell_of_row W B 1 _ _ _ s.box
theorem ST.cell2 (s : ST b0 B w zk zm zb zn zp W f h) : W.cell? ⟨B, 2, none⟩ = some (.int .i64 zb) := cell_of_row W B 2 _ _ _ s.box
theorem ST.cell3 (s : ST b0 B w zk zm zb zn zp W f h) : W.cell? ⟨B, 3, none⟩ = some (.int .i64 zn) := cell_of_row W B 3 _ _ _ s.box
theorem ST.cell4 (s : ST b0 B w zk zm zb zn zp W f h) : W.cell? ⟨B, 4, none⟩ = some (.int .i64 zp) := cell_of_row W B 4 _ _ _ s.box
theorem ST.big (s : ST b0 B w zk zm zb zn zp W f h) : B < W.heap.size := (Array.getElem?_eq_some_iff.1 s.box).1
theorem ST.set1 (s : ST b0 B w zk zm zb zn zp W f h) (hp : PB 48 W' b0 f') (ho : Only b0 W W') : ST b0 B w zk zm zb zn zp W' f' h :=
  ⟨hp, ho.other s.two (by omega), ho.row s.box (by have := s.low; omega), s.low, ho.below s.bel (Nat.le_refl _) (by have := s.one.lt; omega)⟩
theorem ST.set2 (s : ST b0 B w zk zm zb zn zp W f h) (hp : PB 51 W' (b0 + 1) f') (ho : Only (b0 + 1) W W') : ST b0 B w zk zm zb zn zp W' f f' :=
  ⟨ho.other s.one (by omega), hp, ho.row s.box (by have := s.low; omega), s.low, ho.below s.bel (by omega) (by have := s.one.lt; omega)⟩
theorem ST.keep (s : ST b0 B w zk zm zb zn zp W f h) (hb : Below W.heap.size W W') : ST b0 B w zk zm zb zn zp W' f h :=
  ⟨s.one.next hb, s.two.next hb, (hb.block B s.big).trans s.box, s.low, s.bel.trans (hb.mono (by have := s.one.lt; omega))⟩
theorem ST.far (s : ST b0 B w zk zm zb zn zp W f h) {C : Nat} (hC : B < C) (ho : Only C W W') : ST b0 B w zk zm zb zn zp W' f h :=
  have := s.low
  ⟨ho.other s.one (by omega), ho.other s.two (by omega), ho.row s.box (by omega), s.low, ho.below s.bel (by omega) (by have := s.one.lt; omega)⟩
theorem ST.drew (s : ST b0 B w zk zm zb zn zp W f h) (n : Nat) : ST b0 B w zk zm zb zn zp (W.drewN n) f h := ⟨s.one, s.two, s.box, s.low, below_dN s.bel n⟩
end
/-- What stands at the loop's head. -/
def PaysAt (b0 : Nat) (w wr : World) (f : Nat → Int) : Prop := okF f ∧ PB 48 wr b0 f ∧ PB 51 wr (b0 + 1) f ∧ Below b0 w wr
set_option maxRecDepth 100000 in
set_option maxHeartbeats 20000000 in
theorem tariffPays_walk (v : Value) (x : Option Addr × Nat × Nat × (Nat → Nat → Int)) (w : World) (hx : v = .slice x.1 x.2.1 x.2.2.1 ∧ IRows 5 kOp w x.1 x.2.1 x.2.2.1 x.2.2.2) :
    Calls Try.prog 6 #[v] w fun e w' => e = .returned (.bool true) ∧ Below w.heap.size w w' := by
  obtain ⟨A, len, cap, g⟩ := x
  obtain ⟨rfl, hr⟩ := hx
  simp only at hr
  obtain ⟨b0, hb0⟩ : ∃ b0, w.heap.size = b0 := ⟨_, rfl⟩
  have Hb0 := Lib.hid hb0
  have hlen := hr.1
  have hcap := hr.2.1
  have HR := Lib.hid hr
  by_cases hbig : (200 : Int) < len
  · clear hr HR
    go_enter Try.func6, Try.ntmps6
    go_wp2_with fail
    go_ret
    exact ⟨rfl, Below.refl _ _⟩
  · have hz1 := pur_zero
    have hz2 := rpur_zero
    clear hr
    go_enter Try.func6, Try.ntmps6
    go_wp2_with fail
    have p1 : PB 48 ((w.alloc (.cells (purC fun _ => 0) 48)).alloc (.cells (purC fun _ => 0) 51)) b0 (fun _ => 0) := by
      have h0 := PB.new 48 w (fun _ => 0)
      have := h0.next ((Below.refl _ (w.alloc (.cells (purC fun _ => 0) 48))).alloc (Nat.le_refl _) (.cells (purC fun _ => 0) 51))
      rw [hb0] at this; exact this
    have p2 : PB 51 ((w.alloc (.cells (purC fun _ => 0) 48)).alloc (.cells (purC fun _ => 0) 51)) (b0 + 1) (fun _ => 0) := by
      have := PB.new 51 (w.alloc (.cells (purC fun _ => 0) 48)) (fun _ => 0)
      rw [World.size_alloc, hb0] at this; exact this
    have p3 : Below b0 w ((w.alloc (.cells (purC fun _ => 0) 48)).alloc (.cells (purC fun _ => 0) 51)) := by
      subst hb0
      exact ((Below.refl _ w).alloc (Nat.le_refl _) _).alloc (by simp) _
    try rw [hb0]
    clear hb0
    go_loopw [24] (fun i wr => ∃ (k : Nat) (f : Nat → Int), k ≤ len ∧ i = .int .i64 k ∧ PaysAt b0 w wr f) (fun i _ => len - (intOf i).toNat)
    case atStart => exact ⟨0, fun _ => 0, by omega, rfl, fun _ => ⟨by simp, by simp⟩, p1, p2, p3⟩
    case round =>
      obtain ⟨k, f, hk, rfl, hf, q1, q2, hb⟩ := hrel
      by_cases hlt : k < len
      · have hI : (k : Int) < len := by omega
        obtain ⟨sb, off, rfl, hsb, hc⟩ := HR.out.at_ (by omega) hlt
        have hsb0 : sb < b0 := by have := Hb0.out; omega
        have hc' : ∀ j, j < 5 → wr.cell? ⟨sb, off + k * 5 + j, none⟩ = some (.int .i64 (g k j)) := fun j hj => (hb.cell (p := ⟨sb, off + k * 5 + j, none⟩) hsb0).trans (hc j hj)
        have c0 : wr.cell? ⟨sb, off + k * 5, none⟩ = some (.int .i64 (g k 0)) := hc' 0 (by omega)
        have c1 := hc' 1 (by omega)
        have c2 := hc' 2 (by omega)
        have c3 := hc' 3 (by omega)
        have c4 := hc' 4 (by omega)
        obtain ⟨zk, hzk⟩ : ∃ z, g k 0 = z := ⟨_, rfl⟩
        obtain ⟨zm, hzm⟩ : ∃ z, g k 1 = z := ⟨_, rfl⟩
        obtain ⟨zb, hzb⟩ : ∃ z, g k 2 = z := ⟨_, rfl⟩
        obtain ⟨zn, hzn⟩ : ∃ z, g k 3 = z := ⟨_, rfl⟩
        obtain ⟨zp, hzp⟩ : ∃ z, g k 4 = z := ⟨_, rfl⟩
        rw [hzk] at c0
        rw [hzm] at c1
        rw [hzb] at c2
        rw [hzn] at c3
        rw [hzp] at c4
        clear hzk hzm hzb hzn hzp hc' hc
        by_cases h0 : zk = 0
        · by_cases hmb : okMB zm zb
          · have hS0 : ST b0 wr.heap.size w zk zm zb zn zp (wr.alloc (.cells #[.int .i64 zk, .int .i64 zm, .int .i64 zb, .int .i64 zn, .int .i64 zp] 53)) f f := ST.start q1 q2 hb
            subst h0
            obtain ⟨x, y, hxy⟩ : ∃ x y, payV zm zb zn zp f = (x, y) := ⟨_, _, rfl⟩
            obtain ⟨h, hh⟩ : ∃ h, payF zm zb zn zp f = h := ⟨_, rfl⟩
            have hfh : okF h := hh ▸ hf.pay zm zb zn zp
            have HP := Lib.hid (fun W => pay_calls zm zb zn zp f b0 W hf)
            have HQ := Lib.hid (fun W => refPay_calls zm zb zn zp f (b0 + 1) W hf)
            unfold PayPost at HP HQ
            rw [hxy, hh] at HP HQ
            clear hxy hh
            obtain ⟨R, hR⟩ : ∃ R, restV zm zb h = R := ⟨_, rfl⟩
            have HT := Lib.hid (fun b W => rest_calls zm zb h b W)
            rw [hR] at HT
            have HB := Lib.hid (fun b W => back_calls zm zb 7 h b W)
            have HC := Lib.hid (fun W => copy_calls h b0 W)
            have hRc : h (zm.toNat * 8 + zb.toNat) = R := (if_pos hmb).symm.trans hR
            have Hmb := Lib.hid hmb
            unfold okMB at Hmb
            unfold okMB at hmb
            have HF := Lib.hid hf
            have HFH := Lib.hid hfh
            clear hR q1 q2 hf hfh hb
            go_wp2_with fail
            refine (HP.out _ hS0.one).mono ?_
            rintro e w1 ⟨rfl, hp1, ho1⟩
            have hS1 := hS0.set1 hp1 ho1
            have d1 := hS1.cell1
            have d2 := hS1.cell2
            have d3 := hS1.cell3
            have d4 := hS1.cell4
            clear hp1 ho1
            go_wp2_with fail
            refine (HQ.out _ hS1.two).mono ?_
            rintro e w2 ⟨rfl, hp2, ho2⟩
            have hS2 := hS1.set2 hp2 ho2
            replace d1 := hS2.cell1
            replace d2 := hS2.cell2
            replace d3 := hS2.cell3
            replace d4 := hS2.cell4
            clear hp2 ho2 hS0 hS1
            have r0 := hS2.two.at_ (zm.toNat * 8 + zb.toNat) (ixP_lt Hmb.out)
            rw [hRc] at r0
            go_wp2_with fail
            go_quiet (fail)
            go_wp2_with fail
            refine (HC.out _ (hS2.drew nq).one).mono ?_
            rintro e w3 ⟨rfl, hp3, hb3⟩
            have hS3 := (hS2.drew nq).keep hb3
            have hbg := (hS2.drew nq).big
            replace d1 := hS3.cell1
            replace d2 := hS3.cell2
            replace d3 := hS3.cell3
            replace d4 := hS3.cell4
            clear hb3 hS2
            go_wp2_with fail
            refine (HT.out b0 _ hS3.one).mono ?_
            rintro e w4 ⟨rfl, rfl⟩
            go_wp2_with fail
            refine (HT.out _ _ hp3).mono ?_
            rintro e w5 ⟨rfl, rfl⟩
            go_wp2_with fail
            refine (HB.out _ _ hp3).mono ?_
            rintro e w6 ⟨rfl, hp4, ho4⟩
            have hS4 := hS3.far hbg ho4
            replace d1 := hS4.cell1
            replace d2 := hS4.cell2
            replace d3 := hS4.cell3
            replace d4 := hS4.cell4
            clear hp4 ho4 hS3 hp3
            go_wp2_with fail
            refine (HT.out b0 _ hS4.one).mono ?_
            rintro e w7 ⟨rfl, rfl⟩
            go_wp2_with fail
            refine ⟨⟨k + 1, h, by omega, by push_cast; rfl, HFH.out, hS4.one, hS4.two, hS4.bel⟩, by simp [intOf]; omega⟩
          · have hS0 : ST b0 wr.heap.size w zk zm zb zn zp (wr.alloc (.cells #[.int .i64 zk, .int .i64 zm, .int .i64 zb, .int .i64 zn, .int .i64 zp] 53)) f f := ST.start q1 q2 hb
            subst h0
            obtain ⟨x, y, hxy⟩ : ∃ x y, payV zm zb zn zp f = (x, y) := ⟨_, _, rfl⟩
            obtain ⟨h, hh⟩ : ∃ h, payF zm zb zn zp f = h := ⟨_, rfl⟩
            have hfh : okF h := hh ▸ hf.pay zm zb zn zp
            have HP := Lib.hid (fun W => pay_calls zm zb zn zp f b0 W hf)
            have HQ := Lib.hid (fun W => refPay_calls zm zb zn zp f (b0 + 1) W hf)
            unfold PayPost at HP HQ
            rw [hxy, hh] at HP HQ
            clear hxy hh
            obtain ⟨R, hR⟩ : ∃ R, restV zm zb h = R := ⟨_, rfl⟩
            have HT := Lib.hid (fun b W => rest_calls zm zb h b W)
            rw [hR] at HT
            have HB := Lib.hid (fun b W => back_calls zm zb 7 h b W)
            have HC := Lib.hid (fun W => copy_calls h b0 W)
            have hR0 : R = 0 := hR.symm.trans (if_neg hmb)
            subst hR0
            have Hmb := Lib.hid hmb
            unfold okMB at Hmb
            have HF := Lib.hid hf
            have HFH := Lib.hid hfh
            clear hR q1 q2 hf hfh hb
            clear hmb
            go_wp2_with fail
            refine (HP.out _ hS0.one).mono ?_
            rintro e w1 ⟨rfl, hp1, ho1⟩
            have hS1 := hS0.set1 hp1 ho1
            have d1 := hS1.cell1
            have d2 := hS1.cell2
            have d3 := hS1.cell3
            have d4 := hS1.cell4
            clear hp1 ho1
            go_wp2_with fail
            refine (HQ.out _ hS1.two).mono ?_
            rintro e w2 ⟨rfl, hp2, ho2⟩
            have hS2 := hS1.set2 hp2 ho2
            replace d1 := hS2.cell1
            replace d2 := hS2.cell2
            replace d3 := hS2.cell3
            replace d4 := hS2.cell4
            clear hp2 ho2 hS0 hS1
            go_wp2_with fail
            all_goals try (exfalso; have := Hmb.out; omega)
            all_goals (
              refine (HC.out _ hS2.one).mono ?_
              rintro e w3 ⟨rfl, hp3, hb3⟩
              have hS3 := hS2.keep hb3
              have hbg := hS2.big
              replace d1 := hS3.cell1
              replace d2 := hS3.cell2
              replace d3 := hS3.cell3
              replace d4 := hS3.cell4
              clear hb3 hS2
              go_wp2_with fail
              refine (HT.out b0 _ hS3.one).mono ?_
              rintro e w4 ⟨rfl, rfl⟩
              go_wp2_with fail
              refine (HT.out _ _ hp3).mono ?_
              rintro e w5 ⟨rfl, rfl⟩
              go_wp2_with fail
              refine (HB.out _ _ hp3).mono ?_
              rintro e w6 ⟨rfl, hp4, ho4⟩
              have hS4 := hS3.far hbg ho4
              replace d1 := hS4.cell1
              replace d2 := hS4.cell2
              replace d3 := hS4.cell3
              replace d4 := hS4.cell4
              clear hp4 ho4 hS3 hp3
              go_wp2_with fail
              refine (HT.out b0 _ hS4.one).mono ?_
              rintro e w7 ⟨rfl, rfl⟩
              go_wp2_with fail
              refine ⟨⟨k + 1, h, by omega, by push_cast; rfl, HFH.out, hS4.one, hS4.two, hS4.bel⟩, by simp [intOf]; omega⟩)
        · by_cases h1 : zk = 1
          · by_cases hmb : okMB zm zb
            · have hS0 : ST b0 wr.heap.size w zk zm zb zn zp (wr.alloc (.cells #[.int .i64 zk, .int .i64 zm, .int .i64 zb, .int .i64 zn, .int .i64 zp] 53)) f f := ST.start q1 q2 hb
              subst h1
              obtain ⟨x, hx⟩ : ∃ x, backV zm zb zn = x := ⟨_, rfl⟩
              obtain ⟨h, hh⟩ : ∃ h, backF zm zb zn f = h := ⟨_, rfl⟩
              have hfh : okF h := hh ▸ hf.back zm zb zn
              have HP := Lib.hid (fun W => back_calls zm zb zn f b0 W)
              have HQ := Lib.hid (fun W => refBack_calls zm zb zn f (b0 + 1) W)
              rw [hx, hh] at HP HQ
              clear hx hh
              obtain ⟨R, hR⟩ : ∃ R, restV zm zb h = R := ⟨_, rfl⟩
              have HT := Lib.hid (fun b W => rest_calls zm zb h b W)
              rw [hR] at HT
              have HB := Lib.hid (fun b W => back_calls zm zb 7 h b W)
              have HC := Lib.hid (fun W => copy_calls h b0 W)
              have hRc : h (zm.toNat * 8 + zb.toNat) = R := (if_pos hmb).symm.trans hR
              have Hmb := Lib.hid hmb
              unfold okMB at Hmb
              unfold okMB at hmb
              have HF := Lib.hid hf
              have HFH := Lib.hid hfh
              clear hR q1 q2 hf hfh hb
              go_wp2_with fail
              refine (HP.out _ hS0.one).mono ?_
              rintro e w1 ⟨rfl, hp1, ho1⟩
              have hS1 := hS0.set1 hp1 ho1
              have d1 := hS1.cell1
              have d2 := hS1.cell2
              have d3 := hS1.cell3
              have d4 := hS1.cell4
              clear hp1 ho1
              go_wp2_with fail
              refine (HQ.out _ hS1.two).mono ?_
              rintro e w2 ⟨rfl, hp2, ho2⟩
              have hS2 := hS1.set2 hp2 ho2
              replace d1 := hS2.cell1
              replace d2 := hS2.cell2
              replace d3 := hS2.cell3
              replace d4 := hS2.cell4
              clear hp2 ho2 hS0 hS1
              have r0 := hS2.two.at_ (zm.toNat * 8 + zb.toNat) (ixP_lt Hmb.out)
              rw [hRc] at r0
              go_wp2_with fail
              go_quiet (fail)
              go_wp2_with fail
              refine (HC.out _ (hS2.drew nq).one).mono ?_
              rintro e w3 ⟨rfl, hp3, hb3⟩
              have hS3 := (hS2.drew nq).keep hb3
              have hbg := (hS2.drew nq).big
              replace d1 := hS3.cell1
              replace d2 := hS3.cell2
              replace d3 := hS3.cell3
              replace d4 := hS3.cell4
              clear hb3 hS2
              go_wp2_with fail
              refine (HT.out b0 _ hS3.one).mono ?_
              rintro e w4 ⟨rfl, rfl⟩
              go_wp2_with fail
              refine (HT.out _ _ hp3).mono ?_
              rintro e w5 ⟨rfl, rfl⟩
              go_wp2_with fail
              refine (HB.out _ _ hp3).mono ?_
              rintro e w6 ⟨rfl, hp4, ho4⟩
              have hS4 := hS3.far hbg ho4
              replace d1 := hS4.cell1
              replace d2 := hS4.cell2
              replace d3 := hS4.cell3
              replace d4 := hS4.cell4
              clear hp4 ho4 hS3 hp3
              go_wp2_with fail
              refine (HT.out b0 _ hS4.one).mono ?_
              rintro e w7 ⟨rfl, rfl⟩
              go_wp2_with fail
              refine ⟨⟨k + 1, h, by omega, by push_cast; rfl, HFH.out, hS4.one, hS4.two, hS4.bel⟩, by simp [intOf]; omega⟩
            · have hS0 : ST b0 wr.heap.size w zk zm zb zn zp (wr.alloc (.cells #[.int .i64 zk, .int .i64 zm, .int .i64 zb, .int .i64 zn, .int .i64 zp] 53)) f f := ST.start q1 q2 hb
              subst h1
              obtain ⟨x, hx⟩ : ∃ x, backV zm zb zn = x := ⟨_, rfl⟩
              obtain ⟨h, hh⟩ : ∃ h, backF zm zb zn f = h := ⟨_, rfl⟩
              have hfh : okF h := hh ▸ hf.back zm zb zn
              have HP := Lib.hid (fun W => back_calls zm zb zn f b0 W)
              have HQ := Lib.hid (fun W => refBack_calls zm zb zn f (b0 + 1) W)
              rw [hx, hh] at HP HQ
              clear hx hh
              obtain ⟨R, hR⟩ : ∃ R, restV zm zb h = R := ⟨_, rfl⟩
              have HT := Lib.hid (fun b W => rest_calls zm zb h b W)
              rw [hR] at HT
              have HB := Lib.hid (fun b W => back_calls zm zb 7 h b W)
              have HC := Lib.hid (fun W => copy_calls h b0 W)
              have hR0 : R = 0 := hR.symm.trans (if_neg hmb)
              subst hR0
              have Hmb := Lib.hid hmb
              unfold okMB at Hmb
              have HF := Lib.hid hf
              have HFH := Lib.hid hfh
              clear hR q1 q2 hf hfh hb
              clear hmb
              go_wp2_with fail
              refine (HP.out _ hS0.one).mono ?_
              rintro e w1 ⟨rfl, hp1, ho1⟩
              have hS1 := hS0.set1 hp1 ho1
              have d1 := hS1.cell1
              have d2 := hS1.cell2
              have d3 := hS1.cell3
              have d4 := hS1.cell4
              clear hp1 ho1
              go_wp2_with fail
              refine (HQ.out _ hS1.two).mono ?_
              rintro e w2 ⟨rfl, hp2, ho2⟩
              have hS2 := hS1.set2 hp2 ho2
              replace d1 := hS2.cell1
              replace d2 := hS2.cell2
              replace d3 := hS2.cell3
              replace d4 := hS2.cell4
              clear hp2 ho2 hS0 hS1
              go_wp2_with fail
              all_goals try (exfalso; have := Hmb.out; omega)
              all_goals (
                refine (HC.out _ hS2.one).mono ?_
                rintro e w3 ⟨rfl, hp3, hb3⟩
                have hS3 := hS2.keep hb3
                have hbg := hS2.big
                replace d1 := hS3.cell1
                replace d2 := hS3.cell2
                replace d3 := hS3.cell3
                replace d4 := hS3.cell4
                clear hb3 hS2
                go_wp2_with fail
                refine (HT.out b0 _ hS3.one).mono ?_
                rintro e w4 ⟨rfl, rfl⟩
                go_wp2_with fail
                refine (HT.out _ _ hp3).mono ?_
                rintro e w5 ⟨rfl, rfl⟩
                go_wp2_with fail
                refine (HB.out _ _ hp3).mono ?_
                rintro e w6 ⟨rfl, hp4, ho4⟩
                have hS4 := hS3.far hbg ho4
                replace d1 := hS4.cell1
                replace d2 := hS4.cell2
                replace d3 := hS4.cell3
                replace d4 := hS4.cell4
                clear hp4 ho4 hS3 hp3
                go_wp2_with fail
                refine (HT.out b0 _ hS4.one).mono ?_
                rintro e w7 ⟨rfl, rfl⟩
                go_wp2_with fail
                refine ⟨⟨k + 1, h, by omega, by push_cast; rfl, HFH.out, hS4.one, hS4.two, hS4.bel⟩, by simp [intOf]; omega⟩)
          · by_cases hmb : okMB zm zb
            · have hS0 : ST b0 wr.heap.size w zk zm zb zn zp (wr.alloc (.cells #[.int .i64 zk, .int .i64 zm, .int .i64 zb, .int .i64 zn, .int .i64 zp] 53)) f f := ST.start q1 q2 hb
              have hfh := hf
              obtain ⟨R, hR⟩ : ∃ R, restV zm zb f = R := ⟨_, rfl⟩
              have HT := Lib.hid (fun b W => rest_calls zm zb f b W)
              rw [hR] at HT
              have HB := Lib.hid (fun b W => back_calls zm zb 7 f b W)
              have HC := Lib.hid (fun W => copy_calls f b0 W)
              have hRc : f (zm.toNat * 8 + zb.toNat) = R := (if_pos hmb).symm.trans hR
              have Hmb := Lib.hid hmb
              unfold okMB at Hmb
              unfold okMB at hmb
              have HF := Lib.hid hf
              have HFH := Lib.hid hfh
              clear hR q1 q2 hf hfh hb
              have k0 : (zk == 0) = false := beq_eq_false_iff_ne.2 h0
              have k1 : (zk == 1) = false := beq_eq_false_iff_ne.2 h1
              have k2 : decide (zk = 0) = false := decide_eq_false h0
              have k3 : decide (zk = 1) = false := decide_eq_false h1
              have hS2 := hS0
              clear hS0
              have r0 := hS2.two.at_ (zm.toNat * 8 + zb.toNat) (ixP_lt Hmb.out)
              rw [hRc] at r0
              go_wp2_with fail
              go_quiet (fail)
              go_wp2_with fail
              obtain ⟨W0, hW0⟩ : ∃ W0, wr.alloc (.cells #[.int .i64 zk, .int .i64 zm, .int .i64 zb, .int .i64 zn, .int .i64 zp] 53) = W0 := ⟨_, rfl⟩
              rw [hW0] at hS2 ⊢
              clear r0
              refine (HC.out _ (hS2.drew nq).one).mono ?_
              rintro e w3 ⟨rfl, hp3, hb3⟩
              have hS3 := (hS2.drew nq).keep hb3
              have hbg := (hS2.drew nq).big
              have d1 := hS3.cell1
              have d2 := hS3.cell2
              have d3 := hS3.cell3
              have d4 := hS3.cell4
              clear hb3 hS2
              go_wp2_with fail
              refine (HT.out b0 _ hS3.one).mono ?_
              rintro e w4 ⟨rfl, rfl⟩
              go_wp2_with fail
              refine (HT.out _ _ hp3).mono ?_
              rintro e w5 ⟨rfl, rfl⟩
              go_wp2_with fail
              refine (HB.out _ _ hp3).mono ?_
              rintro e w6 ⟨rfl, hp4, ho4⟩
              have hS4 := hS3.far hbg ho4
              replace d1 := hS4.cell1
              replace d2 := hS4.cell2
              replace d3 := hS4.cell3
              replace d4 := hS4.cell4
              clear hp4 ho4 hS3 hp3
              go_wp2_with fail
              refine (HT.out b0 _ hS4.one).mono ?_
              rintro e w7 ⟨rfl, rfl⟩
              go_wp2_with fail
              refine ⟨⟨k + 1, f, by omega, by push_cast; rfl, HFH.out, hS4.one, hS4.two, hS4.bel⟩, by simp [intOf]; omega⟩
            · have hS0 : ST b0 wr.heap.size w zk zm zb zn zp (wr.alloc (.cells #[.int .i64 zk, .int .i64 zm, .int .i64 zb, .int .i64 zn, .int .i64 zp] 53)) f f := ST.start q1 q2 hb
              have hfh := hf
              obtain ⟨R, hR⟩ : ∃ R, restV zm zb f = R := ⟨_, rfl⟩
              have HT := Lib.hid (fun b W => rest_calls zm zb f b W)
              rw [hR] at HT
              have HB := Lib.hid (fun b W => back_calls zm zb 7 f b W)
              have HC := Lib.hid (fun W => copy_calls f b0 W)
              have hR0 : R = 0 := hR.symm.trans (if_neg hmb)
              subst hR0
              have Hmb := Lib.hid hmb
              unfold okMB at Hmb
              have HF := Lib.hid hf
              have HFH := Lib.hid hfh
              clear hR q1 q2 hf hfh hb
              clear hmb
              have k0 : (zk == 0) = false := beq_eq_false_iff_ne.2 h0
              have k1 : (zk == 1) = false := beq_eq_false_iff_ne.2 h1
              have k2 : decide (zk = 0) = false := decide_eq_false h0
              have k3 : decide (zk = 1) = false := decide_eq_false h1
              have hS2 := hS0
              clear hS0
              go_wp2_with fail
              all_goals try (exfalso; have := Hmb.out; omega)
              all_goals (
                obtain ⟨W0, hW0⟩ : ∃ W0, wr.alloc (.cells #[.int .i64 zk, .int .i64 zm, .int .i64 zb, .int .i64 zn, .int .i64 zp] 53) = W0 := ⟨_, rfl⟩
                rw [hW0] at hS2 ⊢
                refine (HC.out _ hS2.one).mono ?_
                rintro e w3 ⟨rfl, hp3, hb3⟩
                have hS3 := hS2.keep hb3
                have hbg := hS2.big
                have d1 := hS3.cell1
                have d2 := hS3.cell2
                have d3 := hS3.cell3
                have d4 := hS3.cell4
                clear hb3 hS2
                go_wp2_with fail
                refine (HT.out b0 _ hS3.one).mono ?_
                rintro e w4 ⟨rfl, rfl⟩
                go_wp2_with fail
                refine (HT.out _ _ hp3).mono ?_
                rintro e w5 ⟨rfl, rfl⟩
                go_wp2_with fail
                refine (HB.out _ _ hp3).mono ?_
                rintro e w6 ⟨rfl, hp4, ho4⟩
                have hS4 := hS3.far hbg ho4
                replace d1 := hS4.cell1
                replace d2 := hS4.cell2
                replace d3 := hS4.cell3
                replace d4 := hS4.cell4
                clear hp4 ho4 hS3 hp3
                go_wp2_with fail
                refine (HT.out b0 _ hS4.one).mono ?_
                rintro e w7 ⟨rfl, rfl⟩
                go_wp2_with fail
                refine ⟨⟨k + 1, f, by omega, by push_cast; rfl, HFH.out, hS4.one, hS4.two, hS4.bel⟩, by simp [intOf]; omega⟩)
      · obtain rfl : k = len := by omega
        go_wp2_with fail
        go_ret
        exact ⟨rfl, by rw [Hb0.out]; exact hb⟩
end Go.Proofs.Ytbbbjgilbddabaa
