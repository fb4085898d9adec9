/-
  A calendar that comes in, opened; small walks of the laws of days. Conditions stand at each theorem.
-/
import Derived.Test.YthmgngmhnjeegaaDoorLens
import Derived.Test.YthmgngmhnjeegaaDoorNext
import Derived.Test.YthmgngmhnjeegaaDoorSeason
import Derived.Test.YthmgngmhnjeegaaDoorRefSeason
import Derived.OpenShut
import Derived.Lib.SmallJoins
namespace Go.Proofs.YthmgngmhnjeegaaDoor
open Go Go.RowKit Go.Kw Go.Kw.Cv Go.Joins Go.ChangeShapes Go.WideShapes Go.ChangeAt
set_option linter.unusedVariables false
set_option linter.unusedSimpArgs false

def zero_t35 : Value := .agg #[.slice none 0 0, .slice none 0 0]
/-- What is read of a calendar: the holidays, the seasons. -/
abbrev CalX : Type := (Option Addr × Nat × Nat × (Nat → Nat → Int)) × (Option Addr × Nat × Nat × (Nat → Nat → Int))
set_option maxRecDepth 100000 in
theorem hol_cells {H : Type} {enc : TypeId × Value → H} {W : World} {fuel : Nat} {cs : List Value} {y : DataW H × List MemPlace} (h : DataW.trod enc Tryd.prog W 0 (fun _ => true) true fuel 47 cs = some y) : IntCells 6 kInt cs := by
  refine struct_ints (fs := _) kInt Tryd.underlying47 (by kernel_rfl) (by kernel_rfl) ?_ h
  intro j hj
  have : j = 0 ∨ j = 1 ∨ j = 2 ∨ j = 3 ∨ j = 4 ∨ j = 5 := by omega
  rcases this with rfl | rfl | rfl | rfl | rfl | rfl
  all_goals exact ⟨_, rfl, rfl, by kernel_rfl, Tryd.underlying3⟩
set_option maxRecDepth 100000 in
theorem sea_cells {H : Type} {enc : TypeId × Value → H} {W : World} {fuel : Nat} {cs : List Value} {y : DataW H × List MemPlace} (h : DataW.trod enc Tryd.prog W 0 (fun _ => true) true fuel 49 cs = some y) : IntCells 3 kInt cs := by
  refine struct_ints (fs := _) kInt Tryd.underlying49 (by kernel_rfl) (by kernel_rfl) ?_ h
  intro j hj
  have : j = 0 ∨ j = 1 ∨ j = 2 := by omega
  rcases this with rfl | rfl | rfl
  all_goals exact ⟨_, rfl, rfl, by kernel_rfl, Tryd.underlying3⟩
set_option maxRecDepth 100000 in
theorem open_t35 {H : Type} {enc : TypeId × Value → H} {W : World} {base : Nat} {v : Value} {d : DataW H} {p : List MemPlace} (hv : Value.okWide Tryd.prog W .any base 35 v) (h : DataW.Trod enc Tryd.prog W 0 (fun _ => true) true 35 v d p) :
    ∃ x : CalX, v = calC x.1.1 x.1.2.1 x.1.2.2.1 x.2.1 x.2.2.1 x.2.2.2.1 ∧ RdCal W x.1.1 x.1.2.1 x.1.2.2.1 x.1.2.2.2 x.2.1 x.2.2.1 x.2.2.2.1 x.2.2.2.2 := by
  obtain ⟨c0, c1, y0, y1, m, rfl, rfl, rfl, hy0, hy1⟩ := open_agg2 Tryd.underlying35 (by kernel_rfl) (show Tryd.prog.cellsOf 35 = 2 by kernel_rfl) hv h
  obtain ⟨A, la, ca, gh, e0, r0⟩ := open_irows (by omega) Tryd.underlying32 (show Tryd.prog.cellsOf 47 = 6 by kernel_rfl) (fun _ _ _ h => hol_cells h) hy0
  obtain ⟨B, lb, cb, gs, e1, r1⟩ := open_irows (by omega) Tryd.underlying33 (show Tryd.prog.cellsOf 49 = 3 by kernel_rfl) (fun _ _ _ h => sea_cells h) hy1
  simp at e0 e1
  subst e0 e1
  exact ⟨((A, la, ca, gh), (B, lb, cb, gs)), rfl, r0, r1⟩
set_option maxRecDepth 100000 in
theorem great_calls (A : Option Addr) (la ca : Nat) (B : Option Addr) (lb cb : Nat) (b : Bool) (hb : b = true ↔ la > 120 ∨ lb > 30) (w : World) :
    Calls Tryd.prog 16 #[calC A la ca B lb cb] w fun e w' => e = .returned (.bool b) ∧ Below w.heap.size w w' := by
  have hst := bstep w (.cells #[.slice A la ca, .slice B lb cb] 35)
  unfold calC
  by_cases h1 : (la : Int) > 120
  · have k1 : decide ((la : Int) > 120) = true := decide_eq_true h1
    obtain rfl : b = true := hb.2 (.inl (by omega))
    clear h1 hb
    go_enter Tryd.func16, Tryd.ntmps16
    go_wp2_with fail
    go_ret
    exact ⟨rfl, hst⟩
  · have k1 : decide ((la : Int) > 120) = false := decide_eq_false h1
    by_cases h2 : (lb : Int) > 30
    · have k2 : decide ((lb : Int) > 30) = true := decide_eq_true h2
      obtain rfl : b = true := hb.2 (.inr (by omega))
      clear h1 h2 hb
      go_enter Tryd.func16, Tryd.ntmps16
      go_wp2_with fail
      go_ret
      exact ⟨rfl, hst⟩
    · have k2 : decide ((lb : Int) > 30) = false := decide_eq_false h2
      obtain rfl : b = false := Bool.eq_false_iff.2 (fun h => by have := hb.1 h; omega)
      clear h1 h2 hb
      go_enter Tryd.func16, Tryd.ntmps16
      go_wp2_with fail
      go_ret
      exact ⟨rfl, hst⟩
theorem refDayOk_calls (n : Int) (b : Bool) (hb : b = true ↔ 0 ≤ n ∧ n ≤ 2932896) (w : World) : Calls Tryd.prog 30 #[.int .i64 n] w fun e w' => e = .returned (.bool b) ∧ w' = w := by
  by_cases h1 : n ≥ 0
  · have k1 : decide (n ≥ 0) = true := decide_eq_true h1
    by_cases h2 : n ≤ 2932896
    · have k2 : decide (n ≤ 2932896) = true := decide_eq_true h2
      obtain rfl : b = true := hb.2 ⟨h1, h2⟩
      clear h1 h2 hb
      go_enter Tryd.func30, Tryd.ntmps30
      go_wp2_with fail
      go_ret
      exact ⟨rfl, rfl⟩
    · have k2 : decide (n ≤ 2932896) = false := decide_eq_false h2
      obtain rfl : b = false := Bool.eq_false_iff.2 (fun h => h2 (hb.1 h).2)
      clear h1 h2 hb
      go_enter Tryd.func30, Tryd.ntmps30
      go_wp2_with fail
      go_ret
      exact ⟨rfl, rfl⟩
  · have k1 : decide (n ≥ 0) = false := decide_eq_false h1
    obtain rfl : b = false := Bool.eq_false_iff.2 (fun h => h1 (hb.1 h).1)
    clear h1 hb
    go_enter Tryd.func30, Tryd.ntmps30
    go_wp2_with fail
    go_ret
    exact ⟨rfl, rfl⟩
set_option maxRecDepth 100000 in
set_option maxHeartbeats 4000000 in
theorem refError_calls (A : Option Addr) (la ca : Nat) (gh : Nat → Nat → Int) (B : Option Addr) (lb cb : Nat) (gs : Nat → Nat → Int) (n : Int) (w : World) (hR : RdCal w A la ca gh B lb cb gs) :
    Calls Tryd.prog 18 #[calC A la ca B lb cb, .int .i64 n] w fun e w' => e = .returned (.int .i64 (errA la gh lb gs n)) ∧ Below w.heap.size w w' := by
  have hst := bstep w (.cells #[.slice A la ca, .slice B lb cb] 35)
  have HC := refCal_calls A la ca gh B lb cb gs _ (hR.go hst)
  unfold calC at HC ⊢
  by_cases hcal : calOk la gh lb gs
  · rw [decide_eq_true hcal] at HC
    replace HC := Lib.hid HC
    by_cases hn : 0 ≤ n ∧ n ≤ 2932896
    · rw [errA_ok hcal hn]
      have HD := Lib.hid (refDayOk_calls n true ⟨fun _ => hn, fun _ => rfl⟩)
      clear hcal hn hR
      go_enter Tryd.func18, Tryd.ntmps18
      go_wp2_with fail
      refine HC.out.mono ?_
      rintro e w2 ⟨rfl, hb2⟩
      go_wp2_with fail
      refine (HD.out _).mono ?_
      rintro e w3 ⟨rfl, rfl⟩
      go_wp2_with fail
      go_ret
      exact ⟨rfl, bnext hst hb2⟩
    · rw [errA_out hcal hn]
      have HD := Lib.hid (refDayOk_calls n false ⟨fun h => absurd h Bool.false_ne_true, fun h => absurd h hn⟩)
      clear hcal hn hR
      go_enter Tryd.func18, Tryd.ntmps18
      go_wp2_with fail
      refine HC.out.mono ?_
      rintro e w2 ⟨rfl, hb2⟩
      go_wp2_with fail
      refine (HD.out _).mono ?_
      rintro e w3 ⟨rfl, rfl⟩
      go_wp2_with fail
      go_ret
      exact ⟨rfl, bnext hst hb2⟩
  · rw [decide_eq_false hcal] at HC
    replace HC := Lib.hid HC
    rw [errA_bad hcal]
    clear hcal hR
    go_enter Tryd.func18, Tryd.ntmps18
    go_wp2_with fail
    refine HC.out.mono ?_
    rintro e w2 ⟨rfl, hb2⟩
    go_wp2_with fail
    go_ret
    exact ⟨rfl, bnext hst hb2⟩
end Go.Proofs.YthmgngmhnjeegaaDoor
