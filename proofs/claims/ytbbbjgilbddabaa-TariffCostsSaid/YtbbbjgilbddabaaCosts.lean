/-
  The document's Cost, and TariffCosts, walked. Conditions stand at each theorem.
-/
import Derived.Test.YtbbbjgilbddabaaCost
import Derived.Deep.RegionHeld3
import Derived.Deep.QuietTactic
import Derived.Lib.SmallJoins
namespace Go.Proofs.Ytbbbjgilbddabaa
open Go Go.RowKit Go.Kw Go.Joins Go.ChangeShapes Go.WideShapes Go.ChangeAt
set_option linter.unusedVariables false
set_option linter.unusedSimpArgs false

theorem wrap64_in (x : Int) (h : -9223372036854775808 ≤ x ∧ x ≤ 9223372036854775807) : wrap64 x = x := by unfold wrap64; omega
theorem sumC_mono (g : Nat → Nat → Int) (k : Nat) : ∀ n, k ≤ n → sumC g k ≤ sumC g n
  | 0, h => by obtain rfl : k = 0 := by omega
               exact Int.le_refl _
  | n + 1, h => by
    rcases Nat.lt_or_ge n k with h1 | h1
    · obtain rfl : k = n + 1 := by omega
      exact Int.le_refl _
    · have h2 := sumC_mono g k n h1
      have h3 := payV_cost 0 0 (g n 0) (g n 1) (costF g n) (costF_ok g n)
      show _ ≤ sumC g n + (payV 0 0 (g n 0) (g n 1) (costF g n)).1
      omega
set_option maxRecDepth 100000 in
set_option maxHeartbeats 4000000 in
theorem refCost_calls (A : Option Addr) (len cap : Nat) (hl2 : len ≤ 200) (hcap : cap ≤ maxLen) (hlen : len ≤ cap) (g : Nat → Nat → Int) (w : World) (hR : RdP w w.heap.size A len g) :
    Calls Try.prog 27 #[.slice A len cap] w fun e w' => e = .returned (.tuple #[.int .i64 (costOut g len).1, .int .i64 (costOut g len).2.1, .int .i64 (costOut g len).2.2]) ∧ Below w.heap.size w w' := by
  have hz1 := rpur_zero
  obtain ⟨b0, hb0⟩ : ∃ b0, w.heap.size = b0 := ⟨_, rfl⟩
  have Hb0 := Lib.hid hb0
  rw [hb0] at hR
  have p2 : PB 51 (w.alloc (.cells (purC fun _ => 0) 51)) b0 (fun _ => 0) := hb0 ▸ PB.new _ w _
  have p3 : Below b0 w (w.alloc (.cells (purC fun _ => 0) 51)) := by subst hb0; exact (Below.refl _ w).alloc (Nat.le_refl _) _
  have HR := Lib.hid hR
  clear hR
  go_enter Try.func27, Try.ntmps27
  go_wp2_with fail
  try rw [hb0]
  clear hb0 hz1
  go_loopw [6, 7, 8] (fun s o i wr => ∃ (k : Nat) (S : Int) (B : Bool), k ≤ len ∧ i = .int .i64 k ∧ s = .int .i64 S ∧ o = .bool B ∧ 0 ≤ S ∧ S ≤ 4611686018427387904 ∧ (B = false → S = sumC g k) ∧ (B = true → 4611686018427387904 < sumC g k) ∧ errAt g k = 0 ∧
      PB 51 wr b0 (costF g k) ∧ Below b0 w wr ∧ b0 ≤ wr.heap.size) (fun _ _ i _ => len - (intOf i).toNat)
  case atStart => exact ⟨0, 0, false, by omega, rfl, rfl, rfl, by omega, by omega, fun _ => rfl, fun h => by simp at h, rfl, p2, p3, by have := p2.lt; omega⟩
  case round =>
    obtain ⟨k, S, B, hk, rfl, rfl, rfl, hS0, hS1, hBf, hBt, he, hP, hB, hs⟩ := hrel
    by_cases hlt : k < len
    · have hI : (k : Int) < len := by omega
      obtain ⟨b, off, rfl, hbb, c0, c1⟩ := HR.out.pair hlt
      have HK : Hid (∀ W, Below b0 wr W → W.cell? ⟨b, off + k * 2, none⟩ = some (.int .i64 (g k 0)) ∧ W.cell? ⟨b, off + k * 2 + 1, none⟩ = some (.int .i64 (g k 1))) := Lib.hid fun W hW =>
        ⟨(hW.cell (p := ⟨b, _, none⟩) hbb).trans ((hB.cell (p := ⟨b, _, none⟩) hbb).trans c0), (hW.cell (p := ⟨b, _, none⟩) hbb).trans ((hB.cell (p := ⟨b, _, none⟩) hbb).trans c1)⟩
      have HPay := refPay_calls 0 0 (g k 0) (g k 1) (costF g k) b0 wr.drew (costF_ok g k) hP
      unfold PayPost at HPay
      rw [show payV 0 0 (g k 0) (g k 1) (costF g k) = costV g k from rfl, show payF 0 0 (g k 0) (g k 1) (costF g k) = costF g (k + 1) from rfl] at HPay
      obtain ⟨y, hy⟩ : ∃ y, (costV g k).1 = y := ⟨_, rfl⟩
      obtain ⟨z, hz⟩ : ∃ z, (costV g k).2 = z := ⟨_, rfl⟩
      rw [hy, hz] at HPay
      have Hyz := Lib.hid (show (costV g k).1 = y ∧ (costV g k).2 = z from ⟨hy, hz⟩)
      have HPc := Lib.hid HPay
      obtain ⟨n0, hn0⟩ : ∃ n0, g k 0 = n0 := ⟨_, rfl⟩
      obtain ⟨p0, hp0⟩ : ∃ p0, g k 1 = p0 := ⟨_, rfl⟩
      rw [hn0, hp0] at HK HPc
      have HBf := Lib.hid hBf
      have HBt := Lib.hid hBt
      clear HPay hy hz hn0 hp0 c0 c1 hBf hBt
      go_wp2_with fail
      go_region_held3 (fun W => W.cell? ⟨b, off + k * 2, none⟩ = some (.int .i64 n0) ∧ W.cell? ⟨b, off + k * 2 + 1, none⟩ = some (.int .i64 p0))
        (first | exact HK.out _ ((Below.refl _ _).drew) | exact HK.out _ hb5)
        ((go_at_call 21; refine HPc.out.mono ?_; rintro e w4 ⟨rfl, hp4, ho4⟩; have hb5 := ho4.below ((Below.refl b0 wr).drew) (Nat.le_refl _) hs))
      all_goals
        have hyb := payV_cost 0 0 (g k 0) (g k 1) (costF g k) (costF_ok g k)
        have hy2 : 0 ≤ y ∧ y ≤ 4611686018427387904 := by rw [← Hyz.out.1]; exact hyb
        have hs1 : errAt g (k + 1) = z := by show (if errAt g k = 0 then (costV g k).2 else errAt g k) = z; rw [if_pos he, Hyz.out.2]
        have hs2 : sumC g (k + 1) = sumC g k + y := by show sumC g k + (costV g k).1 = _; rw [Hyz.out.1]
        have hB4 := hB.trans hb5
        have hs4 := Nat.le_trans hs hb5.size
        have Hs1 := Lib.hid hs1
        have Hs2 := Lib.hid hs2
        clear hyb hs1 hs2 hP HPc HK hb5 ho4 hB
        by_cases hz : z = 0
        · subst hz
          have q1 : -9223372036854775808 ≤ (k : Int) + 1 ∧ (k : Int) + 1 ≤ 9223372036854775807 := by omega
          have q2 : -9223372036854775808 ≤ 4611686018427387904 - S ∧ 4611686018427387904 - S ≤ 9223372036854775807 := by omega
          have W1 := Lib.hid (IntWalk.i64_in ((k : Int) + 1) (by omega))
          have W2 := Lib.hid (wrap64_in _ q1)
          have W3 := Lib.hid (IntWalk.i64_in (4611686018427387904 - S) (by omega))
          have W4 := Lib.hid (wrap64_in _ q2)
          clear q1 q2
          cases B with
          | true =>
            have w1 := W1.out
            have w2 := W2.out
            have w3 := W3.out
            have w4 := W4.out
            go_wp2_with fail
            clear w1 w2 w3 w4
            exact ⟨⟨k + 1, S, true, by omega, by push_cast; rfl, rfl, rfl, hS0, hS1, (fun h => by simp at h), (fun _ => by rw [Hs2.out]; have := HBt.out rfl; omega), Hs1.out, hp4, hB4, hs4⟩, by simp [intOf]; omega⟩
          | false =>
            have hSs := HBf.out rfl
            by_cases hov : y > 4611686018427387904 - S
            · have k1 : decide (y > 4611686018427387904 - S) = true := decide_eq_true hov
              have HSs := Lib.hid hSs
              clear hSs
              have w1 := W1.out
              have w2 := W2.out
              have w3 := W3.out
              have w4 := W4.out
              go_wp2_with fail
              clear w1 w2 w3 w4
              exact ⟨⟨k + 1, S, true, by omega, by push_cast; rfl, rfl, rfl, hS0, hS1, (fun h => by simp at h), (fun _ => by rw [Hs2.out, ← HSs.out]; omega), Hs1.out, hp4, hB4, hs4⟩, by simp [intOf]; omega⟩
            · have k1 : decide (y > 4611686018427387904 - S) = false := decide_eq_false hov
              have hsy : 0 ≤ S + y ∧ S + y ≤ 4611686018427387904 := by omega
              have q3 : -9223372036854775808 ≤ S + y ∧ S + y ≤ 9223372036854775807 := by omega
              have HSs := Lib.hid hSs
              clear hSs
              have w5 := IntWalk.i64_in (S + y) (by omega)
              have w6 := wrap64_in _ q3
              have w1 := W1.out
              have w2 := W2.out
              have w3 := W3.out
              have w4 := W4.out
              go_wp2_with fail
              clear w1 w2 w3 w4 w5 w6
              exact ⟨⟨k + 1, S + y, false, by omega, by push_cast; rfl, rfl, rfl, hsy.1, hsy.2, (fun _ => by rw [Hs2.out, ← HSs.out]), (fun h => by simp at h), Hs1.out, hp4, hB4, hs4⟩, by simp [intOf]; omega⟩
        · have ho : costOut g len = (0, 0, z) := by
            have hst := errAt_stay g (k + 1) (by rw [Hs1.out]; exact hz) len (by omega)
            unfold costOut; rw [if_neg (by rw [hst, Hs1.out]; exact hz), hst, Hs1.out]
          have Ho := Lib.hid ho
          have hb1 : (z != 0) = true := by simpa using hz
          have hb2 : (z == 0) = false := by simpa using hz
          clear ho
          go_wp2_with fail
          go_ret3
          rw [Ho.out]
          exact ⟨rfl, by rw [Hb0.out]; exact hB4⟩
    · obtain rfl : k = len := by omega
      cases B with
      | true =>
        have ho : costOut g k = (0, 0, 10) := by unfold costOut; rw [if_pos he, if_neg (by have := hBt rfl; omega)]
        have Ho := Lib.hid ho
        clear ho hBt hBf
        go_wp2_with fail
        go_ret3
        rw [Ho.out]
        exact ⟨rfl, by rw [Hb0.out]; exact hB⟩
      | false =>
        have ho : costOut g k = (S, costF g k 0, 0) := by unfold costOut; rw [if_pos he, ← hBf rfl, if_pos hS1]
        have Ho := Lib.hid ho
        have c0 := hP.at_ 0 (by omega)
        clear ho hBt hBf
        go_wp2_with fail
        go_quiet (fail)
        go_wp2_with fail
        go_ret3
        rw [Ho.out]
        exact ⟨rfl, by rw [Hb0.out]; exact below_dN hB _⟩
def pairs0 : Unit := ()
set_option maxRecDepth 100000 in
theorem pair_cells {H : Type} {enc : TypeId × Value → H} {W : World} {fuel : Nat} {cs : List Value} {y : DataW H × List MemPlace} (h : DataW.trod enc Try.prog W 0 (fun _ => true) true fuel 96 cs = some y) : IntCells 2 kPair cs :=
  array_ints Try.underlying96 (by kernel_rfl) (by kernel_rfl) Try.underlying2 h
set_option maxRecDepth 100000 in
theorem open_t61 {H : Type} {enc : TypeId × Value → H} {W : World} {base : Nat} {v : Value} {d : DataW H} {p : List MemPlace} (hv : Value.okWide Try.prog W .any base 61 v) (h : DataW.Trod enc Try.prog W 0 (fun _ => true) true 61 v d p) :
    ∃ x : Option Addr × Nat × Nat × (Nat → Nat → Int), v = .slice x.1 x.2.1 x.2.2.1 ∧ IRows 2 kPair W x.1 x.2.1 x.2.2.1 x.2.2.2 := by
  obtain ⟨a, len, cap, rfl⟩ := okWide_slice Try.underlying61 hv
  obtain ⟨fuel, hf⟩ := h
  obtain ⟨A, l, c, g, e, hr⟩ := open_irows (by omega) Try.underlying61 (show Try.prog.cellsOf 96 = 2 by kernel_rfl) (fun _ _ _ h => pair_cells h) hf
  simp [Value.cells] at e
  obtain ⟨rfl, rfl, rfl⟩ := e
  exact ⟨(a, len, cap, g), rfl, hr⟩
set_option maxRecDepth 100000 in
set_option maxHeartbeats 4000000 in
theorem tariffCosts_walk (v : Value) (x : Option Addr × Nat × Nat × (Nat → Nat → Int)) (w : World) (hx : v = .slice x.1 x.2.1 x.2.2.1 ∧ IRows 2 kPair w x.1 x.2.1 x.2.2.1 x.2.2.2) :
    Calls Try.prog 7 #[v] w fun e w' => e = .returned (.bool true) ∧ Below w.heap.size w w' := by
  obtain ⟨A, len, cap, g⟩ := x
  obtain ⟨rfl, hr⟩ := hx
  simp only at hr
  have hlen := hr.1
  have hcap := hr.2.1
  by_cases hbig : (200 : Int) < len
  · clear hr
    go_enter Try.func7, Try.ntmps7
    go_wp2_with fail
    go_ret
    exact ⟨rfl, Below.refl _ _⟩
  · have HA := Lib.hid (cost_calls A len cap (by omega) hcap hlen g w hr.2.2.2.1)
    have HB := Lib.hid (fun w' (hb : Below w.heap.size w w') => refCost_calls A len cap (by omega) hcap hlen g w' (Rd.go hr.2.2.2.1 hb))
    obtain ⟨x, y, z, ho⟩ : ∃ x y z, costOut g len = (x, y, z) := ⟨_, _, _, rfl⟩
    rw [ho] at HA HB
    clear hr ho
    go_enter Try.func7, Try.ntmps7
    go_wp2_with fail
    refine HA.out.mono ?_
    rintro e w1 ⟨rfl, hb1⟩
    go_wp2_with fail
    refine (HB.out _ hb1).mono ?_
    rintro e w2 ⟨rfl, hb2⟩
    have hb3 := bnext hb1 hb2
    go_wp2_with fail
    go_ret
    exact ⟨rfl, hb3⟩
end Go.Proofs.Ytbbbjgilbddabaa
