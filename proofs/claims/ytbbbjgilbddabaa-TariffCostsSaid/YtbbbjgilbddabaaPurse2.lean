/-
  Pay of both purses, walked. Conditions stand at each theorem.
-/
import Derived.Test.YtbbbjgilbddabaaPurse
namespace Go.Proofs.Ytbbbjgilbddabaa
open Go Go.RowKit Go.Kw
set_option linter.unusedVariables false
set_option linter.unusedSimpArgs false

set_option maxHeartbeats 4000000 in
theorem pmay_ok (m k : Int) (h : okMB m k) (b : Nat) (w : World) :
    Calls Try.prog 46 #[.pointer (some ⟨b, 0, none⟩), .int .i64 m, .int .i64 k] w fun e w' => e = .returned (.int .i64 0) ∧ w' = w := by
  unfold okMB at h
  go_enter Try.func46, Try.ntmps46
  go_wp2_with fail
  all_goals first | (go_ret; exact ⟨rfl, rfl⟩) | (exfalso; omega)
set_option maxHeartbeats 4000000 in
theorem pmay_bad (m k : Int) (h : ¬ okMB m k) (b : Nat) (w : World) :
    Calls Try.prog 46 #[.pointer (some ⟨b, 0, none⟩), .int .i64 m, .int .i64 k] w fun e w' => e = .returned (.int .i64 2) ∧ w' = w := by
  unfold okMB at h
  have H := Lib.hid h
  clear h
  go_enter Try.func46, Try.ntmps46
  go_wp2_with fail
  all_goals first | (go_ret; exact ⟨rfl, rfl⟩) | (exfalso; have := H.out; omega)
/-- What a pay's walk needs of memory. -/
def PayPost (T : TypeId) (b : Nat) (m k n p : Int) (f : Nat → Int) (w w' : World) : Prop := PB T w' b (payF m k n p f) ∧ Only b w w'
set_option maxHeartbeats 4000000 in
theorem pay_calls (m k n p : Int) (f : Nat → Int) (b : Nat) (w : World) (hf : okF f) (hb : PB 48 w b f) :
    Calls Try.prog 20 #[.pointer (some ⟨b, 0, none⟩), .int .i64 m, .int .i64 k, .int .i64 n, .int .i64 p] w fun e w' =>
      e = .returned (.tuple #[.int .i64 (payV m k n p f).1, .int .i64 (payV m k n p f).2]) ∧ PayPost 48 b m k n p f w w' := by
  by_cases hp : okPay m k n p
  · obtain ⟨N, P, R, rfl, rfl, hR, hR2, hN, hP, hc⟩ := pay_cases m k n p f hf hp
    have hC := carry_calls N P 1000000 R (by omega) (by omega) (by omega) (by omega) (by omega)
    have hmb : okMB m k := by unfold okPay at hp; exact ⟨hp.1, hp.2.1, hp.2.2.1, hp.2.2.2.1⟩
    have HM := Lib.hid (pmay_ok m k hmb b)
    have c0 := hb.at_ (ixP m k) (ixP_lt hmb)
    rw [hR] at c0
    replace c0 : w.cell? ⟨b, m.toNat * 8 + k.toNat, none⟩ = some (.int .i64 (R : Int)) := c0
    have f0 := hb.fr (m.toNat * 8 + k.toNat)
    unfold okPay at hp
    have kR : IntKind.u64.wrap (R : Int) = R := by rw [IntKind.wrap_u64]; omega
    have kN : IntKind.u64.wrap (N : Int) = N := by rw [IntKind.wrap_u64]; omega
    have kP : IntKind.u64.wrap (P : Int) = P := by rw [IntKind.wrap_u64]; omega
    rcases hc with ⟨q, r, e1, hq, hr, e2, e3⟩ | ⟨q, r, e1, hq, e2, e3⟩ | ⟨e1, e2, e3⟩
    · rw [e1] at hC
      unfold PayPost
      rw [e2, e3]
      have HC := Lib.hid hC
      clear e1 e2 e3 hC hR
      have k1 : decide ((q : Int) > 4611686018427387904) = false := by simp; omega
      have k2 : IntKind.i64.wrap (q : Int) = q := by rw [IntKind.wrap_i64]; omega
      have k3 : wrap64 (q : Int) = q := by unfold wrap64; omega
      have k4 : IntKind.i64.wrap (r : Int) = r := by rw [IntKind.wrap_i64]; omega
      have k5 : wrap64 (r : Int) = r := by unfold wrap64; omega
      go_enter Try.func20, Try.ntmps20
      go_wp2_with fail
      refine (HM.out _).mono ?_
      rintro e w1 ⟨rfl, rfl⟩
      go_wp2_with fail
      refine (HC.out _).mono ?_
      rintro e w2 ⟨rfl, hb2⟩
      have hb3 := hb.next hb2
      have HE := Lib.hid (show PB 48 (w2.setCell ⟨b, m.toNat * 8 + k.toNat, none⟩ (.int .i64 (r : Int))) b (updP f (ixP m k) r) ∧ Only b w1 (w2.setCell ⟨b, m.toNat * 8 + k.toNat, none⟩ (.int .i64 (r : Int))) from ⟨hb3.set (ixP m k) r, Only.put hb2 _ _⟩)
      replace c0 := hb3.at_ (ixP m k) (ixP_lt hmb)
      replace c0 : w2.cell? ⟨b, m.toNat * 8 + k.toNat, none⟩ = some (.int .i64 (f (ixP m k))) := c0
      replace f0 := hb3.fr (m.toNat * 8 + k.toNat)
      clear hb3 hb2 hb
      go_wp2_with fail
      go_ret2
      exact ⟨rfl, HE.out⟩
    · rw [e1] at hC
      unfold PayPost
      rw [e2, e3]
      have HC := Lib.hid hC
      clear e1 e2 e3 hC hR
      have k1 : decide ((q : Int) > 4611686018427387904) = true := by simp; omega
      go_enter Try.func20, Try.ntmps20
      go_wp2_with fail
      refine (HM.out _).mono ?_
      rintro e w1 ⟨rfl, rfl⟩
      go_wp2_with fail
      refine (HC.out _).mono ?_
      rintro e w2 ⟨rfl, hb2⟩
      have HE := Lib.hid (show PB 48 w2 b f ∧ Only b w1 w2 from ⟨hb.next hb2, Only.keep hb2⟩)
      clear hb2 hb c0 f0
      go_wp2_with fail
      go_ret2
      exact ⟨rfl, HE.out⟩
    · rw [e1] at hC
      unfold PayPost
      rw [e2, e3]
      have HC := Lib.hid hC
      clear e1 e2 e3 hC hR
      go_enter Try.func20, Try.ntmps20
      go_wp2_with fail
      refine (HM.out _).mono ?_
      rintro e w1 ⟨rfl, rfl⟩
      go_wp2_with fail
      refine (HC.out _).mono ?_
      rintro e w2 ⟨rfl, hb2⟩
      have HE := Lib.hid (show PB 48 w2 b f ∧ Only b w1 w2 from ⟨hb.next hb2, Only.keep hb2⟩)
      clear hb2 hb c0 f0
      go_wp2_with fail
      go_ret2
      exact ⟨rfl, HE.out⟩
  · have e2 : payV m k n p f = (0, 2) := if_neg hp
    have e3 : payF m k n p f = f := if_neg (fun h => hp h.1)
    unfold PayPost
    rw [e2, e3]
    clear e2 e3
    have HE := Lib.hid (show PB 48 w b f ∧ Only b w w from ⟨hb, Only.keep (Below.refl _ w)⟩)
    by_cases hmb : okMB m k
    · have HM := Lib.hid (pmay_ok m k hmb b)
      have H : Hid (¬ (0 ≤ n ∧ n ≤ 4611686018427387904 ∧ 0 ≤ p ∧ p ≤ 1073741824)) := Lib.hid (fun h => hp (by unfold okMB at hmb; unfold okPay; omega))
      clear hp hb hf hmb
      go_enter Try.func20, Try.ntmps20
      go_wp2_with fail
      refine (HM.out _).mono ?_
      rintro e w1 ⟨rfl, rfl⟩
      go_wp2_with fail
      all_goals first | (go_ret2; exact ⟨rfl, HE.out⟩) | (exfalso; have := H.out; omega)
    · have HM := Lib.hid (pmay_bad m k hmb b)
      clear hp hb hf hmb
      go_enter Try.func20, Try.ntmps20
      go_wp2_with fail
      refine (HM.out _).mono ?_
      rintro e w1 ⟨rfl, rfl⟩
      go_wp2_with fail
      go_ret2
      exact ⟨rfl, HE.out⟩
set_option maxHeartbeats 4000000 in
theorem refPay_calls (m k n p : Int) (f : Nat → Int) (b : Nat) (w : World) (hf : okF f) (hb : PB 51 w b f) :
    Calls Try.prog 21 #[.pointer (some ⟨b, 0, none⟩), .int .i64 m, .int .i64 k, .int .i64 n, .int .i64 p] w fun e w' =>
      e = .returned (.tuple #[.int .i64 (payV m k n p f).1, .int .i64 (payV m k n p f).2]) ∧ PayPost 51 b m k n p f w w' := by
  by_cases hp : okPay m k n p
  · obtain ⟨N, P, R, rfl, rfl, hR, hR2, hN, hP, hc⟩ := pay_cases m k n p f hf hp
    have hC := num_carry N P 1000000 R (by omega) (by omega) (by omega) (by omega) (by omega) (by omega)
    have hmb : okMB m k := by unfold okPay at hp; exact ⟨hp.1, hp.2.1, hp.2.2.1, hp.2.2.2.1⟩
    have c0 := hb.at_ (ixP m k) (ixP_lt hmb)
    rw [hR] at c0
    replace c0 : w.cell? ⟨b, m.toNat * 8 + k.toNat, none⟩ = some (.int .i64 (R : Int)) := c0
    have f0 := hb.fr (m.toNat * 8 + k.toNat)
    unfold okPay at hp
    have kR : IntKind.u64.wrap (R : Int) = R := by rw [IntKind.wrap_u64]; omega
    have kN : IntKind.u64.wrap (N : Int) = N := by rw [IntKind.wrap_u64]; omega
    have kP : IntKind.u64.wrap (P : Int) = P := by rw [IntKind.wrap_u64]; omega
    rcases hc with ⟨q, r, e1, hq, hr, e2, e3⟩ | ⟨q, r, e1, hq, e2, e3⟩ | ⟨e1, e2, e3⟩
    · rw [e1] at hC
      unfold PayPost
      rw [e2, e3]
      have HC := Lib.hid hC
      clear e1 e2 e3 hC hR
      have k1 : decide ((q : Int) > 4611686018427387904) = false := by simp; omega
      have k2 : IntKind.i64.wrap (q : Int) = q := by rw [IntKind.wrap_i64]; omega
      have k3 : wrap64 (q : Int) = q := by unfold wrap64; omega
      have k4 : IntKind.i64.wrap (r : Int) = r := by rw [IntKind.wrap_i64]; omega
      have k5 : wrap64 (r : Int) = r := by unfold wrap64; omega
      go_enter Try.func21, Try.ntmps21
      go_wp2_with fail
      refine (HC.out _).mono ?_
      rintro e w2 ⟨rfl, hb2⟩
      have hb3 := hb.next hb2
      have HE := Lib.hid (show PB 51 (w2.setCell ⟨b, m.toNat * 8 + k.toNat, none⟩ (.int .i64 (r : Int))) b (updP f (ixP m k) r) ∧ Only b w (w2.setCell ⟨b, m.toNat * 8 + k.toNat, none⟩ (.int .i64 (r : Int))) from ⟨hb3.set (ixP m k) r, Only.put hb2 _ _⟩)
      replace c0 := hb3.at_ (ixP m k) (ixP_lt hmb)
      replace c0 : w2.cell? ⟨b, m.toNat * 8 + k.toNat, none⟩ = some (.int .i64 (f (ixP m k))) := c0
      replace f0 := hb3.fr (m.toNat * 8 + k.toNat)
      clear hb3 hb2 hb
      go_wp2_with fail
      go_ret2
      exact ⟨rfl, HE.out⟩
    · rw [e1] at hC
      unfold PayPost
      rw [e2, e3]
      have HC := Lib.hid hC
      clear e1 e2 e3 hC hR
      have k1 : decide ((q : Int) > 4611686018427387904) = true := by simp; omega
      go_enter Try.func21, Try.ntmps21
      go_wp2_with fail
      refine (HC.out _).mono ?_
      rintro e w2 ⟨rfl, hb2⟩
      have HE := Lib.hid (show PB 51 w2 b f ∧ Only b w w2 from ⟨hb.next hb2, Only.keep hb2⟩)
      clear hb2 hb c0 f0
      go_wp2_with fail
      go_ret2
      exact ⟨rfl, HE.out⟩
    · rw [e1] at hC
      unfold PayPost
      rw [e2, e3]
      have HC := Lib.hid hC
      clear e1 e2 e3 hC hR
      go_enter Try.func21, Try.ntmps21
      go_wp2_with fail
      refine (HC.out _).mono ?_
      rintro e w2 ⟨rfl, hb2⟩
      have HE := Lib.hid (show PB 51 w2 b f ∧ Only b w w2 from ⟨hb.next hb2, Only.keep hb2⟩)
      clear hb2 hb c0 f0
      go_wp2_with fail
      go_ret2
      exact ⟨rfl, HE.out⟩
  · have e2 : payV m k n p f = (0, 2) := if_neg hp
    have e3 : payF m k n p f = f := if_neg (fun h => hp h.1)
    unfold PayPost
    rw [e2, e3]
    clear e2 e3
    have HE := Lib.hid (show PB 51 w b f ∧ Only b w w from ⟨hb, Only.keep (Below.refl _ w)⟩)
    have H := Lib.hid hp
    unfold okPay at H
    clear hp hb hf
    go_enter Try.func21, Try.ntmps21
    go_wp2_with fail
    all_goals first | (go_ret2; exact ⟨rfl, HE.out⟩) | (exfalso; have := H.out; omega)
end Go.Proofs.Ytbbbjgilbddabaa
