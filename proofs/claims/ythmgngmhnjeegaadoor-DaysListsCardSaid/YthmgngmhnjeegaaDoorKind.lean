/-
  A day's kind: days.Kind, walked. Conditions stand at each theorem.
-/
import Derived.Test.YthmgngmhnjeegaaDoorIs
import Derived.Test.YthmgngmhnjeegaaDoorRefIs
namespace Go.Proofs.YthmgngmhnjeegaaDoor
open Go Go.RowKit Go.Kw Go.Kw.Cv Go.Shelf
set_option linter.unusedVariables false
set_option linter.unusedSimpArgs false

set_option maxRecDepth 100000 in
set_option maxHeartbeats 8000000 in
theorem daysKind_ok (A : Option Addr) (la ca : Nat) (gh : Nat → Nat → Int) (B : Option Addr) (lb cb : Nat) (gs : Nat → Nat → Int) (n : Int) (hcal : calOk la gh lb gs) (hn : 0 ≤ n ∧ n ≤ 2932896) (w : World) (hR : RdCal w A la ca gh B lb cb gs) (hL : Lens w) :
    Calls Tryd.prog 15 #[calC A la ca B lb cb, .int .i64 n] w fun e w' => e = .returned (.tuple #[.int .i64 (kindD gh la n), .int .i64 0]) ∧ Below w.heap.size w w' := by
  have hst := bstep w (.cells #[.slice A la ca, .slice B lb cb] 35)
  have HI := daysIs_ok A la ca gh B lb cb gs n hcal hn _ (hR.go hst) (hL.go hst)
  have HW := weekday_calls n
  unfold kindD
  obtain ⟨b, hb⟩ : ∃ b, isF gh la n = b := ⟨_, rfl⟩
  obtain ⟨W, hW⟩ : ∃ W, wdN n = W := ⟨_, rfl⟩
  rw [hb] at HI ⊢
  rw [hW] at HW ⊢
  clear hb hW
  unfold calC at HI ⊢
  replace HW := Lib.hid HW
  replace HI := Lib.hid HI
  clear hR hL hcal hn
  cases b with
  | true =>
    rw [kindB_t]
    go_enter Tryd.func15, Tryd.ntmps15
    go_wp2_with fail
    refine HI.out.mono ?_
    rintro e w2 ⟨rfl, hb2⟩
    go_wp2_with fail
    refine (HW.out _).mono ?_
    rintro e w1 ⟨rfl, rfl⟩
    go_wp2_with fail
    go_ret2
    exact ⟨rfl, bnext hst hb2⟩
  | false =>
    by_cases h7 : W = 7
    · subst h7
      rw [kindB_7]
      go_enter Tryd.func15, Tryd.ntmps15
      go_wp2_with fail
      refine HI.out.mono ?_
      rintro e w2 ⟨rfl, hb2⟩
      go_wp2_with fail
      refine (HW.out _).mono ?_
      rintro e w1 ⟨rfl, rfl⟩
      go_wp2_with fail
      go_ret2
      exact ⟨rfl, bnext hst hb2⟩
    · by_cases h6 : W = 6
      · subst h6
        rw [kindB_6]
        clear h7
        go_enter Tryd.func15, Tryd.ntmps15
        go_wp2_with fail
        refine HI.out.mono ?_
        rintro e w2 ⟨rfl, hb2⟩
        go_wp2_with fail
        refine (HW.out _).mono ?_
        rintro e w1 ⟨rfl, rfl⟩
        go_wp2_with fail
        go_ret2
        exact ⟨rfl, bnext hst hb2⟩
      · rw [kindB_no W h7 h6]
        have k7 : (W == 7) = false := beq_eq_false_iff_ne.2 h7
        have k6 : (W == 6) = false := beq_eq_false_iff_ne.2 h6
        clear h7 h6
        go_enter Tryd.func15, Tryd.ntmps15
        go_wp2_with fail
        refine HI.out.mono ?_
        rintro e w2 ⟨rfl, hb2⟩
        go_wp2_with fail
        refine (HW.out _).mono ?_
        rintro e w1 ⟨rfl, rfl⟩
        go_wp2_with fail
        go_ret2
        exact ⟨rfl, bnext hst hb2⟩
set_option maxRecDepth 100000 in
set_option maxHeartbeats 8000000 in
theorem daysKind_no (A : Option Addr) (la ca : Nat) (gh : Nat → Nat → Int) (B : Option Addr) (lb cb : Nat) (gs : Nat → Nat → Int) (n : Int) (hE : errA la gh lb gs n ≠ 0) (w : World) (hR : RdCal w A la ca gh B lb cb gs) (hL : Lens w) :
    Calls Tryd.prog 15 #[calC A la ca B lb cb, .int .i64 n] w fun e w' => e = .returned (.tuple #[.int .i64 0, .int .i64 (errA la gh lb gs n)]) ∧ Below w.heap.size w w' := by
  have hst := bstep w (.cells #[.slice A la ca, .slice B lb cb] 35)
  have HI := daysIs_no A la ca gh B lb cb gs n hE _ (hR.go hst) (hL.go hst)
  obtain ⟨E, hEe⟩ : ∃ E, errA la gh lb gs n = E := ⟨_, rfl⟩
  rw [hEe] at HI hE ⊢
  have k0 : (E == 0) = false := beq_eq_false_iff_ne.2 hE
  have k1 : (E != 0) = true := bne_iff_ne.2 hE
  unfold calC at HI ⊢
  replace HI := Lib.hid HI
  clear hR hL hE hEe
  go_enter Tryd.func15, Tryd.ntmps15
  go_wp2_with fail
  refine HI.out.mono ?_
  rintro e w2 ⟨rfl, hb2⟩
  go_wp2_with fail
  go_ret2
  exact ⟨rfl, bnext hst hb2⟩
end Go.Proofs.YthmgngmhnjeegaaDoor
