/-
  Back, Rest and Copy of the purses, walked. Conditions stand at each theorem.
-/
import Derived.Test.YtbbbjgilbddabaaPurse2
namespace Go.Proofs.Ytbbbjgilbddabaa
open Go Go.RowKit Go.Kw
set_option linter.unusedVariables false
set_option linter.unusedSimpArgs false

set_option maxHeartbeats 4000000 in
theorem back_calls (m k r : Int) (f : Nat → Int) (b : Nat) (w : World) (hb : PB 48 w b f) :
    Calls Try.prog 22 #[.pointer (some ⟨b, 0, none⟩), .int .i64 m, .int .i64 k, .int .i64 r] w fun e w' =>
      e = .returned (.int .i64 (backV m k r)) ∧ PB 48 w' b (backF m k r f) ∧ Only b w w' := by
  by_cases hp : okMB m k ∧ 0 ≤ r ∧ r < 1000000
  · have e2 : backV m k r = 0 := if_pos hp
    have e3 : backF m k r f = updP f (ixP m k) r := if_pos hp
    rw [e2, e3]
    clear e2 e3
    obtain ⟨hmb, hr⟩ := hp
    have c0 : w.cell? ⟨b, m.toNat * 8 + k.toNat, none⟩ = some (.int .i64 (f (ixP m k))) := hb.at_ (ixP m k) (ixP_lt hmb)
    have f0 := hb.fr (m.toNat * 8 + k.toNat)
    have HE := Lib.hid (show PB 48 (w.setCell ⟨b, m.toNat * 8 + k.toNat, none⟩ (.int .i64 r)) b (updP f (ixP m k) r) ∧ Only b w (w.setCell ⟨b, m.toNat * 8 + k.toNat, none⟩ (.int .i64 r)) from ⟨hb.set (ixP m k) r, Only.put (Below.refl _ w) _ _⟩)
    have HM := Lib.hid (pmay_ok m k hmb b)
    unfold okMB at hmb
    clear hb
    go_enter Try.func22, Try.ntmps22
    go_wp2_with fail
    refine (HM.out _).mono ?_
    rintro e w1 ⟨rfl, rfl⟩
    go_wp2_with fail
    all_goals first | (go_ret; exact ⟨rfl, HE.out⟩) | (exfalso; omega)
  · have e2 : backV m k r = 2 := if_neg hp
    have e3 : backF m k r f = f := if_neg hp
    rw [e2, e3]
    clear e2 e3
    have HE := Lib.hid (show PB 48 w b f ∧ Only b w w from ⟨hb, Only.keep (Below.refl _ w)⟩)
    by_cases hmb : okMB m k
    · have HM := Lib.hid (pmay_ok m k hmb b)
      have H : Hid (¬ (0 ≤ r ∧ r < 1000000)) := Lib.hid (fun h => hp ⟨hmb, h⟩)
      clear hp hb hmb
      go_enter Try.func22, Try.ntmps22
      go_wp2_with fail
      refine (HM.out _).mono ?_
      rintro e w1 ⟨rfl, rfl⟩
      go_wp2_with fail
      all_goals first | (go_ret; exact ⟨rfl, HE.out⟩) | (exfalso; have := H.out; omega)
    · have HM := Lib.hid (pmay_bad m k hmb b)
      clear hp hb hmb
      go_enter Try.func22, Try.ntmps22
      go_wp2_with fail
      refine (HM.out _).mono ?_
      rintro e w1 ⟨rfl, rfl⟩
      go_wp2_with fail
      go_ret
      exact ⟨rfl, HE.out⟩
set_option maxHeartbeats 4000000 in
theorem refBack_calls (m k r : Int) (f : Nat → Int) (b : Nat) (w : World) (hb : PB 51 w b f) :
    Calls Try.prog 23 #[.pointer (some ⟨b, 0, none⟩), .int .i64 m, .int .i64 k, .int .i64 r] w fun e w' =>
      e = .returned (.int .i64 (backV m k r)) ∧ PB 51 w' b (backF m k r f) ∧ Only b w w' := by
  by_cases hp : okMB m k ∧ 0 ≤ r ∧ r < 1000000
  · have e2 : backV m k r = 0 := if_pos hp
    have e3 : backF m k r f = updP f (ixP m k) r := if_pos hp
    rw [e2, e3]
    clear e2 e3
    obtain ⟨hmb, hr⟩ := hp
    have c0 : w.cell? ⟨b, m.toNat * 8 + k.toNat, none⟩ = some (.int .i64 (f (ixP m k))) := hb.at_ (ixP m k) (ixP_lt hmb)
    have f0 := hb.fr (m.toNat * 8 + k.toNat)
    have HE := Lib.hid (show PB 51 (w.setCell ⟨b, m.toNat * 8 + k.toNat, none⟩ (.int .i64 r)) b (updP f (ixP m k) r) ∧ Only b w (w.setCell ⟨b, m.toNat * 8 + k.toNat, none⟩ (.int .i64 r)) from ⟨hb.set (ixP m k) r, Only.put (Below.refl _ w) _ _⟩)
    unfold okMB at hmb
    clear hb
    go_enter Try.func23, Try.ntmps23
    go_wp2_with fail
    all_goals first | (go_ret; exact ⟨rfl, HE.out⟩) | (exfalso; omega)
  · have e2 : backV m k r = 2 := if_neg hp
    have e3 : backF m k r f = f := if_neg hp
    rw [e2, e3]
    clear e2 e3
    have HE := Lib.hid (show PB 51 w b f ∧ Only b w w from ⟨hb, Only.keep (Below.refl _ w)⟩)
    have H := Lib.hid hp
    unfold okMB at H
    clear hp hb
    go_enter Try.func23, Try.ntmps23
    go_wp2_with fail
    all_goals first | (go_ret; exact ⟨rfl, HE.out⟩) | (exfalso; have := H.out; omega)
set_option maxHeartbeats 4000000 in
theorem rest_calls (m k : Int) (f : Nat → Int) (b : Nat) (w : World) (hb : PB 48 w b f) :
    Calls Try.prog 25 #[.pointer (some ⟨b, 0, none⟩), .int .i64 m, .int .i64 k] w fun e w' =>
      e = .returned (.int .i64 (restV m k f)) ∧ w' = w := by
  by_cases hmb : okMB m k
  · have e2 : restV m k f = f (ixP m k) := if_pos hmb
    rw [e2]
    clear e2
    have c0 : w.cell? ⟨b, m.toNat * 8 + k.toNat, none⟩ = some (.int .i64 (f (ixP m k))) := hb.at_ (ixP m k) (ixP_lt hmb)
    have HM := Lib.hid (pmay_ok m k hmb b)
    unfold okMB at hmb
    clear hb
    go_enter Try.func25, Try.ntmps25
    go_wp2_with fail
    refine (HM.out _).mono ?_
    rintro e w1 ⟨rfl, rfl⟩
    go_wp2_with fail
    go_ret
    exact ⟨rfl, rfl⟩
  · have e2 : restV m k f = 0 := if_neg hmb
    rw [e2]
    clear e2
    have HM := Lib.hid (pmay_bad m k hmb b)
    clear hb hmb
    go_enter Try.func25, Try.ntmps25
    go_wp2_with fail
    refine (HM.out _).mono ?_
    rintro e w1 ⟨rfl, rfl⟩
    go_wp2_with fail
    go_ret
    exact ⟨rfl, rfl⟩
end Go.Proofs.Ytbbbjgilbddabaa
