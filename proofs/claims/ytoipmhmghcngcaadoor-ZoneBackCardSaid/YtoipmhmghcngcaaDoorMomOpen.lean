/-
  A moment that comes in, opened. Conditions stand at each theorem.
-/
import Derived.Test.YtoipmhmghcngcaaDoorZoneOpen
namespace Go.Proofs.YtoipmhmghcngcaaDoor
open Go Go.RowKit Go.Kw Go.Kw.Cv Go.Joins Go.ChangeShapes Go.WideShapes Go.ChangeAt Go.Deep
set_option linter.unusedVariables false
set_option linter.unusedSimpArgs false

theorem array6 {α : Type} {cs : Array α} (h : cs.size = 6) : ∃ c0 c1 c2 c3 c4 c5, cs = #[c0, c1, c2, c3, c4, c5] := by
  obtain ⟨l⟩ := cs
  match l, h with
  | [c0, c1, c2, c3, c4, c5], _ => exact ⟨c0, c1, c2, c3, c4, c5, rfl⟩
def zero_t44 : Value := .agg #[.int .i64 0, .int .i64 0, .int .i64 0, .int .i64 0, .int .i64 0, .int .i64 0]
abbrev MX := Int × Int × Int × Int × Int × Int
def momX (x : MX) : Value := .agg #[.int .i64 x.1, .int .i64 x.2.1, .int .i64 x.2.2.1, .int .i64 x.2.2.2.1, .int .i64 x.2.2.2.2.1, .int .i64 x.2.2.2.2.2]
set_option maxRecDepth 100000 in
theorem date_cells {H : Type} {enc : TypeId × Value → H} {W : World} {fuel : Nat} {cs : List Value} {y : DataW H × List MemPlace} (h : DataW.trod enc Tryd.prog W 0 (fun _ => true) true fuel 42 cs = some y) : IntCells 3 kI cs := by
  refine struct_ints (fs := _) kI Tryd.underlying42 (by kernel_rfl) (by kernel_rfl) ?_ h
  intro j hj
  have : j = 0 ∨ j = 1 ∨ j = 2 := by omega
  rcases this with rfl | rfl | rfl
  all_goals exact ⟨_, rfl, rfl, by kernel_rfl, Tryd.underlying3⟩
set_option maxRecDepth 100000 in
theorem open_t44 {H : Type} {enc : TypeId × Value → H} {W : World} {base : Nat} {v : Value} {d : DataW H} {p : List MemPlace} (hv : Value.okWide Tryd.prog W .any base 44 v) (h : DataW.Trod enc Tryd.prog W 0 (fun _ => true) true 44 v d p) :
    ∃ x : MX, v = momX x := by
  obtain ⟨cs, rfl, hsz⟩ := okWide_struct Tryd.underlying44 hv
  obtain ⟨c0, c1, c2, c3, c4, c5, rfl⟩ := array6 (hsz.trans (show Tryd.prog.cellsOf 44 = 6 by kernel_rfl))
  obtain ⟨fuel, hf⟩ := h
  obtain ⟨xs, n, rfl, hx, hl, hxl, hall⟩ := DataW.trod_struct Tryd.underlying44 hf
  have ki : Tryd.prog.cellsOf 3 = 1 := by kernel_rfl
  have kd : Tryd.prog.cellsOf 42 = 3 := by kernel_rfl
  match xs, hxl with
  | [y0, y1, y2, y3], _ =>
    have t0 := hall 0 _ rfl
    have t1 := hall 1 _ rfl
    have t2 := hall 2 _ rfl
    have t3 := hall 3 _ rfl
    simp only [ki, kd, Value.cells, List.drop, List.take, List.getElem?_cons_zero, List.getElem?_cons_succ] at t0 t1 t2 t3
    obtain ⟨hl0, g, hg⟩ := date_cells t0
    obtain ⟨a1, e1, -, -⟩ := DataW.trod_int Tryd.underlying3 t1
    obtain ⟨a2, e2, -, -⟩ := DataW.trod_int Tryd.underlying3 t2
    obtain ⟨a3, e3, -, -⟩ := DataW.trod_int Tryd.underlying3 t3
    have g0 := (hg 0 (by omega)).1
    have g1 := (hg 1 (by omega)).1
    have g2 := (hg 2 (by omega)).1
    simp [ki, kd, kI] at g0 g1 g2 e1 e2 e3
    subst g0 g1 g2 e1 e2 e3
    exact ⟨(g 0, g 1, g 2, a1, a2, a3), rfl⟩
end Go.Proofs.YtoipmhmghcngcaaDoor
