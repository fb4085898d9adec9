/-
  A zone that comes in, opened. Conditions stand at each theorem.
-/
import Derived.Test.YtgbkedjjgbhcmaaGreatDoorZonePlain
import Derived.Test.YtgbkedjjgbhcmaaGreatDoorIntRows
import Derived.OpenShut
import Derived.Lib.SmallJoins
namespace Go.Proofs.YtgbkedjjgbhcmaaGreatDoor
open Go Go.RowKit Go.Kw Go.Kw.Cv Go.Joins Go.ChangeShapes Go.WideShapes Go.ChangeAt Go.Deep
set_option linter.unusedVariables false
set_option linter.unusedSimpArgs false

def kI : Nat → IntKind := fun _ => .i64
def zero_t24 : Value := .agg #[.int .i64 0, .slice none 0 0]
/-- A zone's rules, as they are read. -/
abbrev RdZ (W : World) (A : Option Addr) (lr cr : Nat) (g : Nat → Nat → Int) : Prop := IRows 11 kI W A lr cr g
set_option maxRecDepth 100000 in
theorem chg_cells {H : Type} {enc : TypeId × Value → H} {W : World} {fuel : Nat} {cs : List Value} {y : DataW H × List MemPlace} (h : DataW.trod enc Tryz.prog W 0 (fun _ => true) true fuel 88 cs = some y) : IntCells 4 kI cs := by
  refine struct_ints (fs := _) kI Tryz.underlying88 (by kernel_rfl) (by kernel_rfl) ?_ h
  intro j hj
  have : j = 0 ∨ j = 1 ∨ j = 2 ∨ j = 3 := by omega
  rcases this with rfl | rfl | rfl | rfl
  all_goals exact ⟨_, rfl, rfl, by kernel_rfl, Tryz.underlying3⟩
set_option maxRecDepth 100000 in
theorem rul_cells {H : Type} {enc : TypeId × Value → H} {W : World} {fuel : Nat} {cs : List Value} {y : DataW H × List MemPlace} (h : DataW.trod enc Tryz.prog W 0 (fun _ => true) true fuel 90 cs = some y) : IntCells 11 kI cs := by
  obtain ⟨xs, m, rfl, hx, hl, hxl, hall⟩ := DataW.trod_struct Tryz.underlying90 h
  rw [show Tryz.prog.cellsOf 90 = 11 by kernel_rfl] at hl
  have ki : Tryz.prog.cellsOf 3 = 1 := by kernel_rfl
  have kc : Tryz.prog.cellsOf 88 = 4 := by kernel_rfl
  obtain ⟨y0, hy0⟩ : ∃ y, xs[0]? = some y := ⟨_, List.getElem?_eq_getElem (by rw [hxl]; decide)⟩
  have t0 : DataW.trod enc Tryz.prog W 0 (fun _ => true) true m 3 (List.take (Tryz.prog.cellsOf 3) (List.drop 0 cs)) = some y0 := (hall 0 _ rfl).trans hy0
  rw [ki] at t0
  obtain ⟨y1, hy1⟩ : ∃ y, xs[1]? = some y := ⟨_, List.getElem?_eq_getElem (by rw [hxl]; decide)⟩
  have t1 : DataW.trod enc Tryz.prog W 0 (fun _ => true) true m 3 (List.take (Tryz.prog.cellsOf 3) (List.drop 1 cs)) = some y1 := (hall 1 _ rfl).trans hy1
  rw [ki] at t1
  obtain ⟨y2, hy2⟩ : ∃ y, xs[2]? = some y := ⟨_, List.getElem?_eq_getElem (by rw [hxl]; decide)⟩
  have t2 : DataW.trod enc Tryz.prog W 0 (fun _ => true) true m 88 (List.take (Tryz.prog.cellsOf 88) (List.drop 2 cs)) = some y2 := (hall 2 _ rfl).trans hy2
  rw [kc] at t2
  obtain ⟨y3, hy3⟩ : ∃ y, xs[3]? = some y := ⟨_, List.getElem?_eq_getElem (by rw [hxl]; decide)⟩
  have t3 : DataW.trod enc Tryz.prog W 0 (fun _ => true) true m 88 (List.take (Tryz.prog.cellsOf 88) (List.drop 6 cs)) = some y3 := (hall 3 _ rfl).trans hy3
  rw [kc] at t3
  obtain ⟨y4, hy4⟩ : ∃ y, xs[4]? = some y := ⟨_, List.getElem?_eq_getElem (by rw [hxl]; decide)⟩
  have t4 : DataW.trod enc Tryz.prog W 0 (fun _ => true) true m 3 (List.take (Tryz.prog.cellsOf 3) (List.drop 10 cs)) = some y4 := (hall 4 _ rfl).trans hy4
  rw [ki] at t4
  have one : ∀ (o : Nat) (ho : o < cs.length) (z : Int), (cs.drop o).take 1 = [Value.int .i64 z] → cs[o]? = some (.int .i64 z) := fun o ho z e => by
    have h0 : ((cs.drop o).take 1)[0]? = some (.int .i64 z) := by rw [e]; rfl
    rw [List.getElem?_take_of_lt (by omega), List.getElem?_drop] at h0
    exact h0
  obtain ⟨z0, e0, -, w0⟩ := DataW.trod_int Tryz.underlying3 t0
  obtain ⟨z1, e1, -, w1⟩ := DataW.trod_int Tryz.underlying3 t1
  obtain ⟨z10, e10, -, w10⟩ := DataW.trod_int Tryz.underlying3 t4
  obtain ⟨-, ga, ha⟩ := chg_cells t2
  obtain ⟨-, gb, hb⟩ := chg_cells t3
  refine ⟨hl, fun j => if j = 0 then z0 else if j = 1 then z1 else if j = 10 then z10 else if j < 6 then ga (j - 2) else gb (j - 6), fun j hj => ?_⟩
  have c0 := one 0 (by omega) z0 e0
  have c1 := one 1 (by omega) z1 e1
  have c10 := one 10 (by omega) z10 e10
  have ca : ∀ i, i < 4 → cs[2 + i]? = some (.int .i64 (ga i)) := fun i hi => by
    have := (ha i hi).1
    rw [List.getElem?_take_of_lt hi, List.getElem?_drop] at this
    exact this
  have cb : ∀ i, i < 4 → cs[6 + i]? = some (.int .i64 (gb i)) := fun i hi => by
    have := (hb i hi).1
    rw [List.getElem?_take_of_lt hi, List.getElem?_drop] at this
    exact this
  rcases (by omega : j = 0 ∨ j = 1 ∨ j = 2 ∨ j = 3 ∨ j = 4 ∨ j = 5 ∨ j = 6 ∨ j = 7 ∨ j = 8 ∨ j = 9 ∨ j = 10) with rfl | rfl | rfl | rfl | rfl | rfl | rfl | rfl | rfl | rfl | rfl
  · exact ⟨c0, w0⟩
  · exact ⟨c1, w1⟩
  · exact ⟨ca 0 (by omega), (ha 0 (by omega)).2⟩
  · exact ⟨ca 1 (by omega), (ha 1 (by omega)).2⟩
  · exact ⟨ca 2 (by omega), (ha 2 (by omega)).2⟩
  · exact ⟨ca 3 (by omega), (ha 3 (by omega)).2⟩
  · exact ⟨cb 0 (by omega), (hb 0 (by omega)).2⟩
  · exact ⟨cb 1 (by omega), (hb 1 (by omega)).2⟩
  · exact ⟨cb 2 (by omega), (hb 2 (by omega)).2⟩
  · exact ⟨cb 3 (by omega), (hb 3 (by omega)).2⟩
  · exact ⟨c10, w10⟩
set_option maxRecDepth 100000 in
theorem open_t24 {H : Type} {enc : TypeId × Value → H} {W : World} {base : Nat} {v : Value} {d : DataW H} {p : List MemPlace} (hv : Value.okWide Tryz.prog W .any base 24 v) (h : DataW.Trod enc Tryz.prog W 0 (fun _ => true) true 24 v d p) :
    ∃ x : Int × Option Addr × Nat × Nat × (Nat → Nat → Int), v = .agg #[.int .i64 x.1, .slice x.2.1 x.2.2.1 x.2.2.2.1] ∧ RdZ W x.2.1 x.2.2.1 x.2.2.2.1 x.2.2.2.2 ∧ (Lit.int .i64 x.1).wf = true := by
  obtain ⟨c0, c1, y0, y1, m, rfl, rfl, rfl, hy0, hy1⟩ := open_agg2 Tryz.underlying24 (by kernel_rfl) (show Tryz.prog.cellsOf 24 = 2 by kernel_rfl) hv h
  obtain ⟨o, e0, -, w0⟩ := DataW.trod_int Tryz.underlying3 hy0
  obtain ⟨A, lr, cr, g, e1, r1⟩ := open_irows (by omega) Tryz.underlying22 (show Tryz.prog.cellsOf 90 = 11 by kernel_rfl) (fun _ _ _ h => rul_cells h) hy1
  simp at e0 e1
  subst e0 e1
  exact ⟨(o, A, lr, cr, g), rfl, r1, w0⟩
end Go.Proofs.YtgbkedjjgbhcmaaGreatDoor
