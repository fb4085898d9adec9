/-
  TariffPieces, walked. Conditions stand at each theorem.
-/
import Derived.Test.YtgbkedjjgbhcmaaDoorTarM13
namespace Go.Proofs.YtgbkedjjgbhcmaaDoor
open Go Go.RowKit Go.Kw Go.Kw.Cv Go.Shelf
set_option linter.unusedVariables false
set_option linter.unusedSimpArgs false

theorem mul_small {n p : Int} (hn : 0 ≤ n ∧ n ≤ 219902325555200) (hp : 0 ≤ p ∧ p ≤ 1073741824) : 0 ≤ n * p ∧ n * p ≤ 236118324143482260684800 := by
  refine ⟨Int.mul_nonneg hn.1 hp.1, ?_⟩
  have h1 : n * p ≤ 219902325555200 * p := Int.mul_le_mul_of_nonneg_right hn.2 hp.1
  omega
theorem pay_small {n p : Int} {f : Nat → Int} (hn : 0 ≤ n ∧ n ≤ 219902325555200) (hp : 0 ≤ p ∧ p ≤ 1073741824) (hf : okF f) :
    payV 5 2 n p f = ((n * p + f 42) / 1000000, 0) ∧ payF 5 2 n p f = updP f 42 ((n * p + f 42) % 1000000) := by
  have hm := mul_small hn hp
  have h42 := hf 42
  have hok : okPay 5 2 n p := by unfold okPay; omega
  have hix : ixP 5 2 = 42 := rfl
  have hle : (n * p + f 42) / 1000000 ≤ 4611686018427387904 := by omega
  constructor
  · unfold payV; rw [if_pos hok, hix, if_pos hle]
  · unfold payF; rw [hix, if_pos ⟨hok, hle⟩]
/-- What stands at the head of round k. -/
structure PcI (b1 : Nat) (w : World) (p : Int) (k : Nat) (all sum : Int) (f : Nat → Int) (W : World) : Prop where
  ok : okF f
  one : PB 28 W b1 f
  two : PB 28 W (b1 + 1) (fun _ => 0)
  bel : Below w.heap.size w W
  a0 : 0 ≤ all
  a1 : all ≤ 1099511627776 * (k : Int)
  s0 : 0 ≤ sum
  eq : all * p = sum * 1000000 + f 42
theorem PcI.step {b1 : Nat} {w : World} {p : Int} {k : Nat} {all sum : Int} {f : Nat → Int} {W W' : World} (h : PcI b1 w p k all sum f W) (hb1 : w.heap.size ≤ b1) {n : Int} (hn : 0 ≤ n ∧ n ≤ 1099511627776) (hp : 0 ≤ p ∧ p ≤ 1073741824)
    (hP : PB 28 W' b1 (payF 5 2 n p f)) (ho : Only b1 W W') : PcI b1 w p (k + 1) (all + n) (sum + (n * p + f 42) / 1000000) (payF 5 2 n p f) W' := by
  have hq := (pay_small ⟨hn.1, by omega⟩ hp h.ok).2
  have hm := mul_small ⟨hn.1, by omega⟩ hp
  have h42 := h.ok 42
  have a0 := h.a0; have a1 := h.a1; have s0 := h.s0; have eq := h.eq
  refine ⟨h.ok.pay 5 2 n p, hP, ho.other h.two (by omega), ho.below h.bel hb1 (by have := h.one.lt; omega), by omega, by push_cast; omega, by omega, ?_⟩
  rw [hq, updP_same, Int.add_mul]
  generalize hx : n * p = x at *
  generalize hy : all * p = y at *
  omega
theorem row_u64 {w : World} {a : Option Addr} {len cap : Nat} {zs : List Int} (h : IsRow .u64 w a len cap zs) : ∀ i, i < len → 0 ≤ zs.getD i 0 ∧ zs.getD i 0 < 18446744073709551616 := by
  intro i hi
  rcases h with ⟨rfl, rfl, rfl, rfl⟩ | ⟨x, rfl, h1, h2, h3, h4, h5⟩
  · omega
  · have hz : i < zs.length := by omega
    have hw := h5 (zs.getD i 0) (by rw [List.getD_eq_getElem?_getD, List.getElem?_eq_getElem hz]; exact List.getElem_mem hz)
    have := Go.bounds_u64 hw
    omega
set_option maxRecDepth 100000 in
set_option maxHeartbeats 16000000 in
theorem tariffPieces_walk (a0 : Option Addr) (len0 cap0 : Nat) (z0 : List Int) (p : Int) (w : World) (w0 : IsRow .u64 w a0 len0 cap0 z0) (w1 : (Lit.int .i64 p).wf = true) (hL : Lens w) :
    Calls Tryd.prog 5 #[.slice a0 len0 cap0, .int .i64 p] w fun e w' => e = .returned (.bool true) ∧ Below w.heap.size w w' := by
  have HA := Lib.hid (talive_calls w hL)
  have HR := Lib.hid w0
  have hcaps := w0.caps
  have Hcaps := Lib.hid hcaps
  have hmx : maxLen = 9223372036854775807 := rfl
  clear hL w0 w1
  by_cases hl : len0 > 200
  · have k0 : decide ((len0 : Int) > 200) = true := decide_eq_true (by omega)
    clear hl hcaps hmx
    go_enter Tryd.func5, Tryd.ntmps5
    go_wp2_with fail
    refine HA.out.mono ?_
    rintro e w2 ⟨rfl, hb2⟩
    have HB := Lib.hid hb2
    clear hb2
    go_wp2_with fail
    go_ret
    exact ⟨rfl, HB.out⟩
  have k0 : decide ((len0 : Int) > 200) = false := decide_eq_false (by omega)
  by_cases hp0 : p < 0
  · have k1 : decide (p < 0) = true := decide_eq_true hp0
    clear hl hcaps hmx hp0
    go_enter Tryd.func5, Tryd.ntmps5
    go_wp2_with fail
    refine HA.out.mono ?_
    rintro e w2 ⟨rfl, hb2⟩
    have HB := Lib.hid hb2
    clear hb2
    go_wp2_with fail
    go_ret
    exact ⟨rfl, HB.out⟩
  have k1 : decide (p < 0) = false := decide_eq_false hp0
  by_cases hp1 : p > 1073741824
  · have k2 : decide (p > 1073741824) = true := decide_eq_true hp1
    clear hl hcaps hmx hp0 hp1
    go_enter Tryd.func5, Tryd.ntmps5
    go_wp2_with fail
    refine HA.out.mono ?_
    rintro e w2 ⟨rfl, hb2⟩
    have HB := Lib.hid hb2
    clear hb2
    go_wp2_with fail
    go_ret
    exact ⟨rfl, HB.out⟩
  have k2 : decide (p > 1073741824) = false := decide_eq_false hp1
  have Hp := Lib.hid (show 0 ≤ p ∧ p ≤ 1073741824 by omega)
  have Hl := Lib.hid (show len0 ≤ 200 by omega)
  have hz := pur_zero
  clear hl hcaps hmx hp0 hp1
  go_enter Tryd.func5, Tryd.ntmps5
  go_wp2_with fail
  refine HA.out.mono ?_
  rintro e w2 ⟨rfl, hb2⟩
  have HB := Lib.hid hb2
  obtain ⟨b1, hb1⟩ : ∃ b1, w2.heap.size = b1 := ⟨_, rfl⟩
  have Hb1 := Lib.hid hb1
  have hP0 := PB.new 28 w2 (fun _ => 0)
  have st1 := bstep w2 (.cells (purC (fun _ => 0)) 28)
  have st2 := bstep (w2.alloc (.cells (purC (fun _ => 0)) 28)) (.cells (purC (fun _ => 0)) 28)
  have hQ0 := PB.new 28 (w2.alloc (.cells (purC (fun _ => 0)) 28)) (fun _ => 0)
  rw [World.size_alloc, hb1] at hQ0
  have hP1 := hP0.next st2
  rw [hb1] at hP1
  have HI := Lib.hid (show PcI b1 w p 0 0 0 (fun _ => 0) ((w2.alloc (.cells (purC (fun _ => 0)) 28)).alloc (.cells (purC (fun _ => 0)) 28)) from
    ⟨okF_0, hP1, hQ0, bnext (bnext hb2 st1) st2, by omega, by omega, by omega, by simp⟩)
  have hsb : w.heap.size ≤ b1 := by have := hb2.size; omega
  have Hsb := Lib.hid hsb
  clear hb2 hP0 st1 st2 hQ0 hP1 hsb
  go_wp2_with fail
  obtain ⟨W4, hW4⟩ : ∃ W4, (w2.alloc (.cells (purC (fun _ => 0)) 28)).alloc (.cells (purC (fun _ => 0)) 28) = W4 := ⟨_, rfl⟩
  rw [hW4] at HI ⊢
  clear hW4 hz
  go_loopw [8, 9, 39] (fun al su iv wr => ∃ (k : Nat) (all sum : Int) (f : Nat → Int), k ≤ len0 ∧ iv = .int .i64 k ∧ al = .int .i64 all ∧ su = .int .i64 sum ∧ PcI b1 w p k all sum f wr) (fun _ _ iv _ => len0 - (intOf iv).toNat)
  case atStart => exact ⟨0, 0, 0, _, by omega, rfl, rfl, rfl, HI.out⟩
  case round =>
    obtain ⟨k, all, sum, f, hk, rfl, rfl, rfl, hI⟩ := hrel
    by_cases hlt : k < len0
    · have hI0 : (k : Int) < (len0 : Int) := by omega
      obtain ⟨sb, off, rfl, hsb, hc⟩ := HR.out.rd.at_ hlt
      have hz := row_u64 HR.out k hlt
      obtain ⟨z, hze⟩ : ∃ z, z0.getD k 0 = z := ⟨_, rfl⟩
      rw [hze] at hc hz
      have hcw := (hI.bel.cell (p := ⟨sb, off + k, none⟩) hsb).trans hc
      have hz0 : 0 ≤ z := hz.1
      obtain ⟨n, hn⟩ : ∃ n, z % 1099511627776 = n := ⟨_, rfl⟩
      have hnn : 0 ≤ n ∧ n < 1099511627776 := by omega
      have hp := Hp.out
      have hpay := pay_calls 5 2 n p f b1 wr hI.ok hI.one
      obtain ⟨e1, e2⟩ := pay_small (n := n) ⟨hnn.1, by omega⟩ hp hI.ok
      rw [e1] at hpay
      obtain ⟨C, hC⟩ : ∃ C, (n * p + f 42) / 1000000 = C := ⟨_, rfl⟩
      rw [hC] at hpay
      have hm := mul_small (n := n) ⟨hnn.1, by omega⟩ hp
      have hm2 := mul_small (n := all) ⟨hI.a0, by have := hI.a1; have := Hl.out; omega⟩ hp
      have h42 := hI.ok 42
      have hC0 : 0 ≤ C := by omega
      have kC : decide (C < 0) = false := decide_eq_false (by omega)
      have hl := Hl.out
      have hb1 : 0 ≤ all + n ∧ all + n ≤ 219902325555200 := by have := hI.a0; have := hI.a1; omega
      have hb2 : 0 ≤ sum + C ∧ sum + C ≤ 4611686018427387904 := by have := hI.s0; have := hI.eq; omega
      have HPay := Lib.hid hpay
      have HI := Lib.hid hI
      have Hn := Lib.hid (And.intro hnn hC)
      have Hlt := Lib.hid hlt
      have wa : IntKind.i64.wrap (all + n) = all + n := i64_same _ (by omega)
      have ws : IntKind.i64.wrap (sum + C) = sum + C := i64_same _ (by omega)
      have wk : IntKind.i64.wrap ((k : Int) + 1) = (k : Int) + 1 := i64_same _ (by omega)
      have wn : IntKind.i64.wrap n = n := i64_same _ (by omega)
      have X := Lib.hid (And.intro (wrap64_in (all + n) (by omega)) (And.intro (wrap64_in (sum + C) (by omega)) (And.intro (wrap64_in ((k : Int) + 1) (by omega)) (wrap64_in n (by omega)))))
      clear hpay e1 e2 hI hC hm hm2 h42 hnn hlt hb1 hb2 hc hsb hz hze hk hp hl
      obtain ⟨xa, xs, xk, xn⟩ := X.out
      go_wp2_with fail
      refine HPay.out.mono ?_
      rintro e w5 ⟨rfl, hq, ho⟩
      have HS := Lib.hid (HI.out.step Hsb.out (n := n) ⟨Hn.out.1.1, by have := Hn.out.1.2; omega⟩ Hp.out hq ho)
      clear hq ho
      go_wp2_with fail
      clear xa xs xk xn
      have hS := HS.out
      rw [Hn.out.2] at hS
      exact ⟨⟨k + 1, all + n, sum + C, _, Hlt.out, by push_cast; rfl, rfl, rfl, hS⟩, meas_z len0 k Hlt.out⟩
    · obtain rfl : k = len0 := by omega
      have hI0 : ¬ ((k : Int) < k) := by omega
      have hp := Hp.out
      have hl := Hl.out
      have hall : 0 ≤ all ∧ all ≤ 219902325555200 := by have := hI.a0; have := hI.a1; omega
      have hpay := pay_calls 5 2 all p (fun _ => 0) (b1 + 1) wr okF_0 hI.two
      obtain ⟨e1, e2⟩ := pay_small hall hp okF_0
      have h42 := hI.ok 42
      have hs : (all * p + 0) / 1000000 = sum := by rw [hI.eq]; omega
      have hr : (all * p + 0) % 1000000 = f 42 := by rw [hI.eq]; omega
      rw [hs] at e1
      rw [hr] at e2
      rw [e1] at hpay
      unfold PayPost at hpay
      rw [e2] at hpay
      have HP := Lib.hid hpay
      have HI := Lib.hid hI
      have H42 := Lib.hid h42
      obtain ⟨R, hR⟩ : ∃ R, f 42 = R := ⟨_, rfl⟩
      have HR2 := Lib.hid hR
      have kR : decide (R < 1000000) = true := decide_eq_true (by rw [← hR]; exact h42.2)
      clear hk hlt hI hp hl hall hpay e1 e2 h42 hs hr hR
      go_wp2_with fail
      refine HP.out.mono ?_
      rintro e w5 ⟨rfl, hq, ho⟩
      have hone := ho.other HI.out.one (by omega)
      have HO := Lib.hid hone
      have HQ := Lib.hid hq
      have hBw := ho.below HI.out.bel (by have := Hsb.out; omega) (by have := HI.out.bel.size; omega)
      have HBw := Lib.hid hBw
      have hr1 := rest_calls 5 2 f b1 w5 hone
      rw [show restV 5 2 f = f 42 from rfl, HR2.out] at hr1
      have hr2 := rest_calls 5 2 _ (b1 + 1) w5 hq
      rw [show restV 5 2 (updP (fun _ => 0) 42 (f 42)) = f 42 from rfl, HR2.out] at hr2
      have H1 := Lib.hid hr1
      have H2 := Lib.hid hr2
      clear hone hq ho hBw hr1 hr2
      go_wp2_with fail
      refine H1.out.mono ?_
      rintro e w6 ⟨rfl, rfl⟩
      go_wp2_with fail
      refine H2.out.mono ?_
      rintro e w7 ⟨rfl, rfl⟩
      go_wp2_with fail
      refine H1.out.mono ?_
      rintro e w8 ⟨rfl, rfl⟩
      go_wp2_with fail
      go_ret
      exact ⟨rfl, HBw.out⟩
end Go.Proofs.YtgbkedjjgbhcmaaDoor
