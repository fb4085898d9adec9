/-
  TariffBack, walked. Conditions stand at each theorem.
-/
import Derived.Test.YtgbkedjjgbhcmaaDoorTarM13
namespace Go.Proofs.YtgbkedjjgbhcmaaDoor
open Go Go.RowKit Go.Kw Go.Kw.Cv Go.Shelf
set_option linter.unusedVariables false
set_option linter.unusedSimpArgs false

theorem pay_err {m k n p : Int} {f : Nat → Int} (h : (payV m k n p f).2 ≠ 0) : payF m k n p f = f := by
  unfold payF
  rw [if_neg]
  rintro ⟨h1, h2⟩
  exact h (by unfold payV; rw [if_pos h1, if_pos h2])
theorem pay_fine {m k n p : Int} {f : Nat → Int} (h : (payV m k n p f).2 = 0) : okPay m k n p ∧ (n * p + f (ixP m k)) / 1000000 ≤ 4611686018427387904 := by
  unfold payV at h
  by_cases h1 : okPay m k n p
  · rw [if_pos h1] at h
    by_cases h2 : (n * p + f (ixP m k)) / 1000000 ≤ 4611686018427387904
    · exact ⟨h1, h2⟩
    · rw [if_neg h2] at h; cases h
  · rw [if_neg h1] at h; cases h
theorem okPay_mb {m k n p : Int} (h : okPay m k n p) : okMB m k := by unfold okPay at h; unfold okMB; omega
/-- What a pay is told hangs on its own rest alone. -/
theorem pay_own {m k n p : Int} {f g : Nat → Int} (h : f (ixP m k) = g (ixP m k)) : payV m k n p f = payV m k n p g := by unfold payV; rw [h]
theorem only_row {b c : Nat} {w w' : World} {o : Obj} (h : Only b w w') (hp : w.heap[c]? = some o) (hc : c ≠ b) : w'.heap[c]? = some o := by
  have hlt : c < w.heap.size := (Array.getElem?_eq_some_iff.1 hp).1
  obtain ⟨w1, h1, rfl | ⟨i, v, rfl⟩⟩ := h
  · exact (h1.block c hlt).trans hp
  · exact (heap_setCell_other w1 ⟨b, i, none⟩ c v hc).trans ((h1.block c hlt).trans hp)
section
variable {m k n p : Int} {f : Nat → Int}
/-- Paid, put back, paid again. -/
theorem back_fine (h : (payV m k n p f).2 = 0) (hf : okF f) : backV m k (restV m k f) = 0 ∧ backF m k (restV m k f) (payF m k n p f) = updP (payF m k n p f) (ixP m k) (f (ixP m k)) := by
  have hmb := okPay_mb (pay_fine h).1
  have hr : restV m k f = f (ixP m k) := if_pos hmb
  rw [hr]
  have hc : okMB m k ∧ 0 ≤ f (ixP m k) ∧ f (ixP m k) < 1000000 := ⟨hmb, (hf _).1, (hf _).2⟩
  exact ⟨if_pos hc, if_pos hc⟩
theorem back_again (h : (payV m k n p f).2 = 0) (hf : okF f) : payV m k n p (backF m k (restV m k f) (payF m k n p f)) = payV m k n p f ∧
    restV m k (payF m k n p (backF m k (restV m k f) (payF m k n p f))) = restV m k (payF m k n p f) := by
  obtain ⟨h1, h2⟩ := pay_fine h
  have hmb := okPay_mb h1
  rw [(back_fine h hf).2]
  have hs : updP (payF m k n p f) (ixP m k) (f (ixP m k)) (ixP m k) = f (ixP m k) := updP_same _ _
  refine ⟨pay_own hs, ?_⟩
  unfold restV
  rw [if_pos hmb, if_pos hmb]
  have at_ : ∀ g : Nat → Int, g (ixP m k) = f (ixP m k) → payF m k n p g (ixP m k) = (n * p + f (ixP m k)) % 1000000 := fun g hg => by
    unfold payF; rw [hg, if_pos ⟨h1, h2⟩, updP_same]
  have e1 := at_ f rfl
  have e2 := at_ _ hs
  rw [e1, e2]
theorem updP_far {i j : Nat} (h : i ≠ j) (v : Int) : updP f j v i = f i := if_neg h
theorem back_other (h : (payV m k n p f).2 = 0) (hf : okF f) : restV m ((k + 1) % 8) (payF m k n p (backF m k (restV m k f) (payF m k n p f))) = restV m ((k + 1) % 8) f := by
  obtain ⟨h1, h2⟩ := pay_fine h
  have hmb := okPay_mb h1
  unfold okMB at hmb
  have hmb2 : okMB m ((k + 1) % 8) := by unfold okMB; omega
  have hne : ixP m ((k + 1) % 8) ≠ ixP m k := by unfold ixP; omega
  rw [(back_fine h hf).2]
  unfold restV
  rw [if_pos hmb2, if_pos hmb2]
  have far : ∀ g : Nat → Int, payF m k n p g (ixP m ((k + 1) % 8)) = g (ixP m ((k + 1) % 8)) := fun g => by
    unfold payF
    split
    · exact updP_far hne _
    · rfl
  rw [far, updP_far hne, far]
end
/-- What stands within a round: the purse, the call's box. -/
structure BkS (b1 B : Nat) (w : World) (zk zm zb zn zp : Int) (f : Nat → Int) (W : World) : Prop where
  ok : okF f
  one : PB 28 W b1 f
  box : W.heap[B]? = some (.cells #[.int .i64 zk, .int .i64 zm, .int .i64 zb, .int .i64 zn, .int .i64 zp] 30 (0, 0))
  low : b1 < B
  bel : Below w.heap.size w W
theorem BkS.step {b1 B : Nat} {w : World} {zk zm zb zn zp : Int} {f f' : Nat → Int} {W W' : World} (h : BkS b1 B w zk zm zb zn zp f W) (hb1 : w.heap.size ≤ b1) (hf : okF f') (hP : PB 28 W' b1 f') (ho : Only b1 W W') : BkS b1 B w zk zm zb zn zp f' W' :=
  ⟨hf, hP, only_row ho h.box (by have := h.low; omega), h.low, ho.below h.bel hb1 (by have := h.one.lt; have := h.bel.size; omega)⟩
/-- The loop's head. -/
def BkI (b1 : Nat) (w W : World) : Prop := ∃ f, okF f ∧ PB 28 W b1 f ∧ Below w.heap.size w W
theorem BkS.end_ {b1 B : Nat} {w : World} {zk zm zb zn zp : Int} {f : Nat → Int} {W : World} (h : BkS b1 B w zk zm zb zn zp f W) : BkI b1 w W := ⟨f, h.ok, h.one, h.bel⟩

set_option maxRecDepth 100000 in
set_option maxHeartbeats 32000000 in
theorem tariffBack_walk (v : Value) (x : Option Addr × Nat × Nat × (Nat → Nat → Int)) (w : World) (hx : v = .slice x.1 x.2.1 x.2.2.1 ∧ IRows 5 kOp w x.1 x.2.1 x.2.2.1 x.2.2.2) (hL : Lens w) :
    Calls Tryd.prog 3 #[v] w fun e w' => e = .returned (.bool true) ∧ Below w.heap.size w w' := by
  obtain ⟨A, len, cap, g⟩ := x
  obtain ⟨rfl, hr⟩ := hx
  simp only at hr
  have HA := Lib.hid (talive_calls w hL)
  have HR := Lib.hid hr
  have hlen := hr.1
  have hcap := hr.2.1
  have hmx : maxLen = 9223372036854775807 := rfl
  clear hL
  by_cases hl : len > 100
  · have k0 : decide ((len : Int) > 100) = true := decide_eq_true (by omega)
    clear hl hlen hcap hmx hr
    go_enter Tryd.func3, Tryd.ntmps3
    go_wp2_with fail
    refine HA.out.mono ?_
    rintro e w2 ⟨rfl, hb2⟩
    have HB := Lib.hid hb2
    clear hb2
    go_wp2_with fail
    go_ret
    exact ⟨rfl, HB.out⟩
  have k0 : decide ((len : Int) > 100) = false := decide_eq_false (by omega)
  have Hl := Lib.hid (show len ≤ 100 by omega)
  have hz := pur_zero
  clear hl hlen hcap hmx hr
  go_enter Tryd.func3, Tryd.ntmps3
  go_wp2_with fail
  refine HA.out.mono ?_
  rintro e w2 ⟨rfl, hb2⟩
  obtain ⟨b1, hb1⟩ : ∃ b1, w2.heap.size = b1 := ⟨_, rfl⟩
  have hP0 := PB.new 28 w2 (fun _ => 0)
  have st1 := bstep w2 (.cells (purC (fun _ => 0)) 28)
  rw [hb1] at hP0
  have HI := Lib.hid (show BkI b1 w (w2.alloc (.cells (purC (fun _ => 0)) 28)) from ⟨_, okF_0, hP0, bnext hb2 st1⟩)
  have Hsb := Lib.hid (show w.heap.size ≤ b1 by have := hb2.size; omega)
  clear hb2 hP0 st1
  go_wp2_with fail
  obtain ⟨W4, hW4⟩ : ∃ W4, (w2.alloc (.cells (purC (fun _ => 0)) 28)) = W4 := ⟨_, rfl⟩
  rw [hW4] at HI ⊢
  clear hW4 hz
  go_loopw [28] (fun iv wr => ∃ k : Nat, k ≤ len ∧ iv = .int .i64 k ∧ BkI b1 w wr) (fun iv _ => len - (intOf iv).toNat)
  case atStart => exact ⟨0, by omega, rfl, HI.out⟩
  case round =>
    obtain ⟨k, hk, rfl, f, hf, hP, hB⟩ := hrel
    by_cases hlt : k < len
    · have hI0 : (k : Int) < (len : Int) := by omega
      obtain ⟨sb, off, rfl, hsb, hc⟩ := HR.out.at_ (by omega) hlt
      have q0 := (hB.cell (p := ⟨sb, off + k * 5, none⟩) hsb).trans (hc 0 (by omega))
      have q1 := (hB.cell (p := ⟨sb, off + k * 5 + 1, none⟩) hsb).trans (hc 1 (by omega))
      have q2 := (hB.cell (p := ⟨sb, off + k * 5 + 2, none⟩) hsb).trans (hc 2 (by omega))
      have q3 := (hB.cell (p := ⟨sb, off + k * 5 + 3, none⟩) hsb).trans (hc 3 (by omega))
      have q4 := (hB.cell (p := ⟨sb, off + k * 5 + 4, none⟩) hsb).trans (hc 4 (by omega))
      obtain ⟨zk, hzk⟩ : ∃ z, g k 0 = z := ⟨_, rfl⟩
      obtain ⟨m, hm⟩ : ∃ z, g k 1 = z := ⟨_, rfl⟩
      obtain ⟨d, hd⟩ : ∃ z, g k 2 = z := ⟨_, rfl⟩
      obtain ⟨n, hn⟩ : ∃ z, g k 3 = z := ⟨_, rfl⟩
      obtain ⟨p, hp⟩ : ∃ z, g k 4 = z := ⟨_, rfl⟩
      have hwd := HR.out.2.2.2.2 k 2 hlt (by omega)
      rw [hd] at hwd
      have hdb := Go.bounds_i64 hwd
      rw [hzk] at q0
      rw [hm] at q1
      rw [hd] at q2
      rw [hn] at q3
      rw [hp] at q4
      unfold kOp at q0 q1 q2 q3 q4
      obtain ⟨B, hBe⟩ : ∃ B, wr.heap.size = B := ⟨_, rfl⟩
      obtain ⟨W1, hW1⟩ : ∃ W1, wr.alloc (.cells #[.int .i64 zk, .int .i64 m, .int .i64 d, .int .i64 n, .int .i64 p] 30) = W1 := ⟨_, rfl⟩
      have hst := bstep wr (.cells #[.int .i64 zk, .int .i64 m, .int .i64 d, .int .i64 n, .int .i64 p] 30)
      have hrow := World.alloc_heap_new wr (.cells #[.int .i64 zk, .int .i64 m, .int .i64 d, .int .i64 n, .int .i64 p] 30)
      rw [hW1] at hst hrow
      rw [hBe] at hrow
      have hS : BkS b1 B w zk m d n p f W1 := ⟨hf, hP.next hst, hrow, by have := hP.lt; omega, bnext hB hst⟩
      have wk : IntKind.i64.wrap ((k : Int) + 1) = (k : Int) + 1 := i64_same _ (by have := Hl.out; omega)
      have X := Lib.hid (wrap64_in ((k : Int) + 1) (by have := Hl.out; omega))
      have Hlt := Lib.hid hlt
      have HS := Lib.hid hS
      have e0 := cell_of_row W1 B 0 _ _ _ hrow
      have e1 := cell_of_row W1 B 1 _ _ _ hrow
      have e2 := cell_of_row W1 B 2 _ _ _ hrow
      have e3 := cell_of_row W1 B 3 _ _ _ hrow
      have e4 := cell_of_row W1 B 4 _ _ _ hrow
      clear hf hP hB hlt hc hsb hk hzk hm hd hn hp hwd hst hrow hS
      by_cases hE : (payV m d n p f).2 = 0
      case neg =>
        have hpe := pay_err hE
        obtain ⟨a, ha⟩ : ∃ a, (payV m d n p f).1 = a := ⟨_, rfl⟩
        obtain ⟨E, hEe⟩ : ∃ E, (payV m d n p f).2 = E := ⟨_, rfl⟩
        have hPay := pay_calls m d n p f b1 W1 HS.out.ok HS.out.one
        rw [ha, hEe] at hPay
        unfold PayPost at hPay
        rw [hpe] at hPay
        have HPay := Lib.hid hPay
        have kE : (E != 0) = true := by rw [← hEe]; simpa using hE
        clear hpe ha hEe hPay hE hdb
        go_wp2_with fail
        refine (rest_calls _ _ f b1 W1 HS.out.one).mono ?_
        rintro e w5 ⟨rfl, rfl⟩
        go_wp2_with fail
        refine (rest_calls _ _ f b1 w5 HS.out.one).mono ?_
        rintro e w6 ⟨rfl, rfl⟩
        go_wp2_with fail
        refine HPay.out.mono ?_
        rintro e w7 ⟨rfl, hP, ho⟩
        have hS2 := HS.out.step Hsb.out HS.out.ok hP ho
        have HS2 := Lib.hid hS2
        replace e1 := cell_of_row w7 B 1 _ _ _ hS2.box
        replace e2 := cell_of_row w7 B 2 _ _ _ hS2.box
        clear e0 e3 e4 hP ho hS2
        go_wp2_with fail
        refine (rest_calls _ _ f b1 w7 HS2.out.one).mono ?_
        rintro e w8 ⟨rfl, rfl⟩
        have kR : (restV m d f != restV m d f) = false := by simp
        have x := X.out
        go_wp2_with fail
        clear x
        exact ⟨⟨k + 1, Hlt.out, by push_cast; rfl, HS2.out.end_⟩, meas_z len k Hlt.out⟩
      case pos =>
        obtain ⟨hb1v, hb1f⟩ := back_fine hE HS.out.ok
        obtain ⟨ha1, ha2⟩ := back_again hE HS.out.ok
        have ho1 := back_other hE HS.out.ok
        have hmb := okPay_mb (pay_fine hE).1
        unfold okMB at hmb
        obtain ⟨f1, hf1⟩ : ∃ f1, payF m d n p f = f1 := ⟨_, rfl⟩
        have hok1 : okF f1 := hf1 ▸ HS.out.ok.pay m d n p
        rw [hf1] at ha1 ha2 ho1
        obtain ⟨f2, hf2⟩ : ∃ f2, backF m d (restV m d f) f1 = f2 := ⟨_, rfl⟩
        have hok2 : okF f2 := hf2 ▸ hok1.back m d (restV m d f)
        rw [hf2] at ha1 ha2 ho1
        obtain ⟨f3, hf3⟩ : ∃ f3, payF m d n p f2 = f3 := ⟨_, rfl⟩
        have hok3 : okF f3 := hf3 ▸ hok2.pay m d n p
        rw [hf3] at ha2 ho1
        obtain ⟨a, ha⟩ : ∃ a, (payV m d n p f).1 = a := ⟨_, rfl⟩
        have HPay := Lib.hid (show ∀ W, PB 28 W b1 f → Calls Tryd.prog 9 #[.pointer (some ⟨b1, 0, none⟩), .int .i64 m, .int .i64 d, .int .i64 n, .int .i64 p] W fun e w' => e = .returned (.tuple #[.int .i64 a, .int .i64 0]) ∧ PB 28 w' b1 f1 ∧ Only b1 W w' from fun W h => by
          have := pay_calls m d n p f b1 W HS.out.ok h
          rw [ha, hE] at this
          unfold PayPost at this
          rw [hf1] at this
          exact this)
        have HPay2 := Lib.hid (show ∀ W, PB 28 W b1 f2 → Calls Tryd.prog 9 #[.pointer (some ⟨b1, 0, none⟩), .int .i64 m, .int .i64 d, .int .i64 n, .int .i64 p] W fun e w' => e = .returned (.tuple #[.int .i64 a, .int .i64 0]) ∧ PB 28 w' b1 f3 ∧ Only b1 W w' from fun W h => by
          have := pay_calls m d n p f2 b1 W hok2 h
          rw [ha1, ha, hE] at this
          unfold PayPost at this
          rw [hf3] at this
          exact this)
        obtain ⟨R, hR⟩ : ∃ R, restV m d f = R := ⟨_, rfl⟩
        obtain ⟨N, hN⟩ : ∃ N, restV m d f1 = N := ⟨_, rfl⟩
        obtain ⟨O, hO⟩ : ∃ O, restV m ((d + 1) % 8) f = O := ⟨_, rfl⟩
        have HBack := Lib.hid (show ∀ W, PB 28 W b1 f1 → Calls Tryd.prog 10 #[.pointer (some ⟨b1, 0, none⟩), .int .i64 m, .int .i64 d, .int .i64 R] W fun e w' => e = .returned (.int .i64 0) ∧ PB 28 w' b1 f2 ∧ Only b1 W w' from fun W h => by
          have := back_calls m d R f1 b1 W h
          rw [← hR, hb1v, hf2] at this
          rw [← hR]
          exact this)
        have HR1 := Lib.hid (show ∀ W, PB 28 W b1 f → Calls Tryd.prog 8 #[.pointer (some ⟨b1, 0, none⟩), .int .i64 m, .int .i64 d] W fun e w' => e = .returned (.int .i64 R) ∧ w' = W from fun W h => by have := rest_calls m d f b1 W h; rw [hR] at this; exact this)
        have HR2 := Lib.hid (show ∀ W, PB 28 W b1 f → Calls Tryd.prog 8 #[.pointer (some ⟨b1, 0, none⟩), .int .i64 m, .int .i64 ((d + 1) % 8)] W fun e w' => e = .returned (.int .i64 O) ∧ w' = W from fun W h => by have := rest_calls m ((d + 1) % 8) f b1 W h; rw [hO] at this; exact this)
        have HR3 := Lib.hid (show ∀ W, PB 28 W b1 f1 → Calls Tryd.prog 8 #[.pointer (some ⟨b1, 0, none⟩), .int .i64 m, .int .i64 d] W fun e w' => e = .returned (.int .i64 N) ∧ w' = W from fun W h => by have := rest_calls m d f1 b1 W h; rw [hN] at this; exact this)
        have HR4 := Lib.hid (show ∀ W, PB 28 W b1 f3 → Calls Tryd.prog 8 #[.pointer (some ⟨b1, 0, none⟩), .int .i64 m, .int .i64 d] W fun e w' => e = .returned (.int .i64 N) ∧ w' = W from fun W h => by have := rest_calls m d f3 b1 W h; rw [ha2, hN] at this; exact this)
        have HR5 := Lib.hid (show ∀ W, PB 28 W b1 f3 → Calls Tryd.prog 8 #[.pointer (some ⟨b1, 0, none⟩), .int .i64 m, .int .i64 ((d + 1) % 8)] W fun e w' => e = .returned (.int .i64 O) ∧ w' = W from fun W h => by have := rest_calls m ((d + 1) % 8) f3 b1 W h; rw [ho1, hO] at this; exact this)
        have Hok := Lib.hid (And.intro hok1 (And.intro hok2 hok3))
        have hd0 : 0 ≤ d := hmb.2.2.1
        have hd7 : d ≤ 7 := hmb.2.2.2
        clear hb1v hb1f ha1 ha2 ho1 hmb hf1 hok1 hf2 hok2 hf3 hok3 ha hR hN hO hE hdb
        go_wp2_with fail
        refine (HR1.out W1 HS.out.one).mono ?_
        rintro e w5 ⟨rfl, rfl⟩
        go_wp2_with fail
        refine (HR2.out w5 HS.out.one).mono ?_
        rintro e w6 ⟨rfl, rfl⟩
        go_wp2_with fail
        refine (HPay.out w6 HS.out.one).mono ?_
        rintro e w7 ⟨rfl, hP, ho⟩
        have hS2 := HS.out.step Hsb.out Hok.out.1 hP ho
        have HS2 := Lib.hid hS2
        replace e1 := cell_of_row w7 B 1 _ _ _ hS2.box
        replace e2 := cell_of_row w7 B 2 _ _ _ hS2.box
        replace e3 := cell_of_row w7 B 3 _ _ _ hS2.box
        replace e4 := cell_of_row w7 B 4 _ _ _ hS2.box
        clear e0 hP ho hS2
        go_wp2_with fail
        refine (HR3.out w7 HS2.out.one).mono ?_
        rintro e w8 ⟨rfl, rfl⟩
        go_wp2_with fail
        refine (HBack.out w8 HS2.out.one).mono ?_
        rintro e w9 ⟨rfl, hP, ho⟩
        have hS3 := HS2.out.step Hsb.out Hok.out.2.1 hP ho
        have HS3 := Lib.hid hS3
        replace e1 := cell_of_row w9 B 1 _ _ _ hS3.box
        replace e2 := cell_of_row w9 B 2 _ _ _ hS3.box
        replace e3 := cell_of_row w9 B 3 _ _ _ hS3.box
        replace e4 := cell_of_row w9 B 4 _ _ _ hS3.box
        clear hP ho hS3
        go_wp2_with fail
        refine (HPay2.out w9 HS3.out.one).mono ?_
        rintro e w10 ⟨rfl, hP, ho⟩
        have hS4 := HS3.out.step Hsb.out Hok.out.2.2 hP ho
        have HS4 := Lib.hid hS4
        replace e1 := cell_of_row w10 B 1 _ _ _ hS4.box
        replace e2 := cell_of_row w10 B 2 _ _ _ hS4.box
        clear hP ho hS4 e3 e4
        go_wp2_with fail
        refine (HR4.out w10 HS4.out.one).mono ?_
        rintro e w11 ⟨rfl, rfl⟩
        go_wp2_with fail
        refine (HR5.out w11 HS4.out.one).mono ?_
        rintro e w12 ⟨rfl, rfl⟩
        have x := X.out
        go_wp2_with fail
        clear x
        exact ⟨⟨k + 1, Hlt.out, by push_cast; rfl, HS4.out.end_⟩, meas_z len k Hlt.out⟩
    · obtain rfl : k = len := by omega
      have hI0 : ¬ ((k : Int) < k) := by omega
      have HB := Lib.hid hB
      clear hk hlt hB hf hP
      go_wp2_with fail
      go_ret
      exact ⟨rfl, HB.out⟩
end Go.Proofs.YtgbkedjjgbhcmaaDoor
