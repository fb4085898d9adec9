/-
  The document's word on a day's season: walked. Conditions stand at each theorem.
-/
import Derived.Test.YthmgngmhnjeegaaDoorSeasonPlain
namespace Go.Proofs.YthmgngmhnjeegaaDoor
open Go Go.RowKit Go.Kw Go.Kw.Cv Go.Shelf
set_option linter.unusedVariables false
set_option linter.unusedSimpArgs false

theorem meas_800 (k : Nat) (h : k + 1 ≤ 800) : 800 - (intOf (Value.int .i64 ((k : Int) + 1))).toNat < 800 - (intOf (Value.int .i64 (k : Int))).toNat := by
  show 800 - ((k : Int) + 1).toNat < 800 - (k : Int).toNat
  omega
set_option maxRecDepth 100000 in
set_option maxHeartbeats 8000000 in
theorem refSeason_calls (A : Option Addr) (la ca : Nat) (gh : Nat → Nat → Int) (B : Option Addr) (lb cb : Nat) (gs : Nat → Nat → Int) (hS : seasAll gs lb) (hlb : lb ≤ 12) (n : Int) (hn : 0 ≤ n ∧ n ≤ 2932896) (w : World) (hR : RdCal w A la ca gh B lb cb gs) :
    Calls Tryd.prog 23 #[calC A la ca B lb cb, .int .i64 n] w fun e w' => e = .returned (.int .i64 (seasD gs lb n)) ∧ Below w.heap.size w w' := by
  obtain ⟨hok, hday⟩ := dOf_spec n hn
  unfold seasD
  obtain ⟨y, hy⟩ : ∃ y, (dOf n).1 = y := ⟨_, rfl⟩
  obtain ⟨m, hm⟩ : ∃ m, (dOf n).2.1 = m := ⟨_, rfl⟩
  obtain ⟨d, hd⟩ : ∃ d, (dOf n).2.2 = d := ⟨_, rfl⟩
  rw [hy, hm, hd] at hok hday
  rw [hm, hd]
  have HO := refOf_calls y m d hok
  rw [hday] at HO
  have hyy := And.intro hok.1 hok.2.1
  have hI0 := seaI_0 gs lb y m d hok
  have HS := Lib.hid hS
  have Hok := Lib.hid hok
  have Hyy := Lib.hid hyy
  have Hlb := Lib.hid hlb
  replace HO := Lib.hid HO
  clear hy hm hd hok hday hyy hS hlb
  obtain ⟨b0, hb0⟩ : ∃ b0, w.heap.size = b0 := ⟨_, rfl⟩
  have Hb0 := Lib.hid hb0
  obtain ⟨W1, hW1⟩ : ∃ W1, w.alloc (.cells #[.slice A la ca, .slice B lb cb] 35) = W1 := ⟨_, rfl⟩
  have hrow : W1.heap[b0]? = some (.cells #[.slice A la ca, .slice B lb cb] 35 (0, 0)) := by rw [← hb0, ← hW1]; exact World.alloc_heap_new w _
  have hB1 : Below w.heap.size w W1 := hW1 ▸ bstep w _
  have HR := Lib.hid hR
  have HB1 := Lib.hid hB1
  have Hrow := Lib.hid hrow
  unfold calC
  clear hR hB1 hrow
  go_enter Tryd.func23, Tryd.ntmps23
  go_wp2_with fail
  refine (HO.out _).mono ?_
  rintro e w3 ⟨rfl, e3⟩
  rw [e3]
  clear e3 w3
  go_wp2_with fail
  try rw [hW1]
  clear hW1
  go_loopw [5, 6, 7, 9] (fun vy vm vd vi wr => ∃ (k : Nat) (a b c : Int), vy = .int .i64 a ∧ vm = .int .i64 b ∧ vd = .int .i64 c ∧ vi = .int .i64 k ∧ k ≤ 800 ∧ wr = W1 ∧ SeaI gs lb y m d a b c k) (fun _ _ _ vi _ => 800 - (intOf vi).toNat)
  case atStart => exact ⟨0, y, m, d, rfl, rfl, rfl, rfl, by omega, rfl, hI0⟩
  case round =>
    obtain ⟨k, a, b, c, rfl, rfl, rfl, rfl, hk, hwr, hI⟩ := hrel
    subst hwr
    by_cases hlt : k < 800
    · have hI8 : (k : Int) < 800 := by omega
      have Hk := Lib.hid (show k + 1 ≤ 800 from hlt)
      have HI := Lib.hid hI
      clear hI hk hlt
      go_wp2_with fail
      go_loopw [10] (fun i wx => ∃ q : Nat, i = .int .i64 q ∧ q ≤ lb ∧ wx = wr ∧ ∀ j, j < q → ¬ (gs j 1 = b ∧ gs j 2 = c)) (fun i _ => lb - (intOf i).toNat)
      case atStart => exact ⟨0, rfl, by omega, rfl, fun j hj => absurd hj (by omega)⟩
      case round =>
        obtain ⟨q, rfl, hq, hwx, hno⟩ := hrel
        subst hwx
        have e1 := cell_of_row _ b0 1 _ _ _ Hrow.out
        by_cases hql : q < lb
        · have hQ : (q : Int) < lb := by omega
          obtain ⟨sb, off, rfl, hsb, hc⟩ := HR.out.2.at_ (by omega) hql
          have hc' : ∀ j, j < 3 → wr.cell? ⟨sb, off + q * 3 + j, none⟩ = some (.int .i64 (gs q j)) := fun j hj => (HB1.out.cell (p := ⟨sb, off + q * 3 + j, none⟩) hsb).trans (hc j hj)
          have c0 : wr.cell? ⟨sb, off + q * 3, none⟩ = some (.int .i64 (gs q 0)) := hc' 0 (by omega)
          have c1 := hc' 1 (by omega)
          have c2 := hc' 2 (by omega)
          have Hno := Lib.hid hno
          have Hq := Lib.hid (show q + 1 ≤ lb from hql)
          have wq1 : IntKind.i64.wrap ((q : Int) + 1) = (q : Int) + 1 := i64_same _ (by have := Hlb.out; omega)
          have Xq := Lib.hid (wrap64_in ((q : Int) + 1) (by have := Hlb.out; omega))
          by_cases h1 : gs q 1 = b
          · have k1 : (gs q 1 == b) = true := beq_iff_eq.2 h1
            by_cases h2 : gs q 2 = c
            · have k2 : (gs q 2 == c) = true := beq_iff_eq.2 h2
              have HY := Lib.hid (seaI_hit HS.out HI.out hql h1 h2)
              clear hc hc' hno hq hql h1 h2
              go_wp2_with fail
              go_ret
              rw [HY.out]
              exact ⟨rfl, HB1.out⟩
            · have k2 : (gs q 2 == c) = false := beq_eq_false_iff_ne.2 h2
              have H2 := Lib.hid (show ¬ (gs q 1 = b ∧ gs q 2 = c) from fun h => h2 h.2)
              clear hc hc' hno hq hql h1 h2
              have xq := Xq.out
              go_wp2_with fail
              clear xq
              exact ⟨⟨q + 1, by push_cast; rfl, Hq.out, by first | rfl | trivial, fun j hj => by
                by_cases e : j = q
                · rw [e]; exact H2.out
                · exact Hno.out j (by omega)⟩, meas_step lb q Hq.out⟩
          · have k1 : (gs q 1 == b) = false := beq_eq_false_iff_ne.2 h1
            have H2 := Lib.hid (show ¬ (gs q 1 = b ∧ gs q 2 = c) from fun h => h1 h.1)
            clear hc hc' hno hq hql h1
            have xq := Xq.out
            go_wp2_with fail
            clear xq
            exact ⟨⟨q + 1, by push_cast; rfl, Hq.out, by first | rfl | trivial, fun j hj => by
              by_cases e : j = q
              · rw [e]; exact H2.out
              · exact Hno.out j (by omega)⟩, meas_step lb q Hq.out⟩
        · obtain rfl : q = lb := by omega
          have hQ : ¬ ((q : Int) < q) := by omega
          have hbd := seaI_bd HI.out
          have hyy := Hyy.out
          have a1 := i64_same (c - 1) (by omega)
          have A1 := Lib.hid (wrap64_in (c - 1) (by omega))
          have wk1 : IntKind.i64.wrap ((k : Int) + 1) = (k : Int) + 1 := i64_same _ (by have := Hk.out; omega)
          have Xk := Lib.hid (wrap64_in ((k : Int) + 1) (by have := Hk.out; omega))
          by_cases h2 : 2 ≤ c
          · have kc : (c - 1 == 0) = false := beq_eq_false_iff_ne.2 (by omega)
            have HN := Lib.hid (seaI_step1 HS.out HI.out hno h2)
            clear hno hq hql h2 hbd hyy
            have x1 := A1.out
            have xk := Xk.out
            go_wp2_with fail
            clear x1 xk
            exact ⟨⟨k + 1, a, b, c - 1, rfl, rfl, rfl, by push_cast; rfl, Hk.out, by first | rfl | trivial, HN.out⟩, meas_800 k Hk.out⟩
          · obtain rfl : c = 1 := by omega
            have a2 := i64_same (b - 1) (by omega)
            have A2 := Lib.hid (wrap64_in (b - 1) (by omega))
            by_cases h3 : 2 ≤ b
            · have kb : (b - 1 == 0) = false := beq_eq_false_iff_ne.2 (by omega)
              have HN := Lib.hid (seaI_step2 HS.out HI.out hno h3)
              have HD := Lib.hid (refDays_calls a (b - 1) (by have := Hk.out; omega))
              clear hno hq hql h2 h3 hbd hyy a1 A1
              have x2 := A2.out
              have xk := Xk.out
              go_wp2_with fail
              refine (HD.out _).mono ?_
              rintro e w4 ⟨rfl, rfl⟩
              go_wp2_with fail
              clear x2 xk
              exact ⟨⟨k + 1, a, b - 1, _, rfl, rfl, rfl, by push_cast; rfl, Hk.out, by first | rfl | trivial, HN.out⟩, meas_800 k Hk.out⟩
            · obtain rfl : b = 1 := by omega
              have a3 := i64_same (a - 1) (by have := Hk.out; omega)
              have A3 := Lib.hid (wrap64_in (a - 1) (by have := Hk.out; omega))
              have HN := Lib.hid (seaI_step3 HS.out HI.out hno)
              have HD := Lib.hid (refDays_calls (a - 1) 12 (by have := Hk.out; omega))
              clear hno hq hql h2 h3 hbd hyy a1 A1 a2 A2
              have x3 := A3.out
              have xk := Xk.out
              go_wp2_with fail
              refine (HD.out _).mono ?_
              rintro e w4 ⟨rfl, rfl⟩
              go_wp2_with fail
              clear x3 xk
              exact ⟨⟨k + 1, a - 1, 12, _, rfl, rfl, rfl, by push_cast; rfl, Hk.out, by first | rfl | trivial, HN.out⟩, meas_800 k Hk.out⟩
    · obtain rfl : k = 800 := by omega
      have HE := Lib.hid (seaI_end Hok.out hI)
      clear hI hlt hk
      go_wp2_with fail
      go_ret
      rw [HE.out]
      exact ⟨rfl, HB1.out⟩
end Go.Proofs.YthmgngmhnjeegaaDoor
