/-
  MeterEnergies: a setup opened, and the walk. Conditions stand at each theorem.
-/
import Derived.Test.YtbbbjgilbddabaaMeterEn2
import Derived.OpenShut
import Derived.Lib.SmallJoins
namespace Go.Proofs.Ytbbbjgilbddabaa
open Go Go.RowKit Go.Kw Go.Kw.Nm Go.Joins Go.ChangeShapes Go.WideShapes Go.ChangeAt
set_option linter.unusedVariables false
set_option linter.unusedSimpArgs false

def zero_t39 : Value := .agg #[.int .u64 0, .int .u64 0, .int .u32 0, .int .i64 0, .int .i64 0]
theorem array5 {α : Type} {cs : Array α} (h : cs.size = 5) : ∃ c0 c1 c2 c3 c4, cs = #[c0, c1, c2, c3, c4] := by
  obtain ⟨l⟩ := cs
  match l, h with
  | [c0, c1, c2, c3, c4], _ => exact ⟨c0, c1, c2, c3, c4, rfl⟩
set_option maxRecDepth 100000 in
theorem open_t39 {H : Type} {enc : TypeId × Value → H} {W : World} {base : Nat} {v : Value} {d : DataW H} {p : List MemPlace} (hv : Value.okWide Try.prog W .any base 39 v) (h : DataW.Trod enc Try.prog W 0 (fun _ => true) true 39 v d p) :
    ∃ x : Nat × Nat × Int × Int × Int, v = setV x.1 x.2.1 x.2.2.1 x.2.2.2.1 x.2.2.2.2 := by
  obtain ⟨cs, rfl, hsz⟩ := okWide_struct Try.underlying39 hv
  obtain ⟨c0, c1, c2, c3, c4, rfl⟩ := array5 (hsz.trans (show Try.prog.cellsOf 39 = 5 by kernel_rfl))
  obtain ⟨fuel, hf⟩ := h
  obtain ⟨xs, n, rfl, hx, hl, hxl, hall⟩ := DataW.trod_struct Try.underlying39 hf
  have k64 : Try.prog.cellsOf 36 = 1 := by kernel_rfl
  have k32 : Try.prog.cellsOf 37 = 1 := by kernel_rfl
  have ki : Try.prog.cellsOf 2 = 1 := by kernel_rfl
  match xs, hxl with
  | [y0, y1, y2, y3, y4], _ =>
    have t0 := hall 0 _ rfl
    have t1 := hall 1 _ rfl
    have t2 := hall 2 _ rfl
    have t3 := hall 3 _ rfl
    have t4 := hall 4 _ rfl
    simp only [k64, k32, ki, Value.cells, List.drop, List.take, List.getElem?_cons_zero, List.getElem?_cons_succ] at t0 t1 t2 t3 t4
    obtain ⟨a0, e0, -, u0⟩ := DataW.trod_int Try.underlying36 t0
    obtain ⟨a1, e1, -, u1⟩ := DataW.trod_int Try.underlying36 t1
    obtain ⟨a2, e2, -, -⟩ := DataW.trod_int Try.underlying37 t2
    obtain ⟨a3, e3, -, -⟩ := DataW.trod_int Try.underlying2 t3
    obtain ⟨a4, e4, -, -⟩ := DataW.trod_int Try.underlying2 t4
    simp [k64, k32, ki] at e0 e1 e2 e3 e4
    subst e0 e1 e2 e3 e4
    have g0 : 0 ≤ a0 := by have := Go.bounds_u64 u0; omega
    have g1 : 0 ≤ a1 := by have := Go.bounds_u64 u1; omega
    obtain ⟨m0, rfl⟩ := Int.eq_ofNat_of_zero_le g0
    obtain ⟨m1, rfl⟩ := Int.eq_ofNat_of_zero_le g1
    exact ⟨(m0, m1, a2, a3, a4), rfl⟩
theorem enV_two (n num den : Nat) (gap len : Int) : ∃ x y : Int, enV n num den gap len = .tuple #[.int .i64 x, .int .i64 y] := by
  unfold enV
  split
  · split <;> exact ⟨_, _, rfl⟩
  · exact ⟨_, _, rfl⟩
set_option maxHeartbeats 4000000 in
theorem meterEnergies_walk (v0 : Value) (x0 : Nat × Nat × Int × Int × Int) (a1 : Int) (w : World) (w0 : v0 = setV x0.1 x0.2.1 x0.2.2.1 x0.2.2.2.1 x0.2.2.2.2) (w1 : (Lit.int .u64 a1).wf = true) :
    Calls Try.prog 5 #[v0, .int .u64 a1] w fun e w' => e = .returned (.bool true) ∧ Below w.heap.size w w' := by
  obtain ⟨num, den, bound, gap, len⟩ := x0
  simp only at w0
  subst w0
  have hn : 0 ≤ a1 ∧ a1 < 18446744073709551616 := by have := Go.bounds_u64 w1; omega
  obtain ⟨n, rfl⟩ := Int.eq_ofNat_of_zero_le hn.1
  have HA := Lib.hid (energy_calls n num den bound gap len (by omega))
  have HR := Lib.hid (refEnergy_calls n num den bound gap len (by omega))
  obtain ⟨x, y, hxy⟩ := enV_two n num den gap len
  rw [hxy] at HA HR
  clear hxy hn w1
  obtain ⟨b0, hb0⟩ : ∃ b0, w.heap.size = b0 := ⟨_, rfl⟩
  have Hb0 := Lib.hid hb0
  unfold setV at *
  go_enter Try.func5, Try.ntmps5
  go_wp2_with fail
  refine (HA.out _).mono ?_
  rintro e w1 ⟨rfl, hb1⟩
  have hrow := row_up hb0 hb1
  have HB := Lib.hid (below_up hb0 hb1)
  have c0 := cell_of_row w1 b0 0 _ _ _ hrow
  have c1 := cell_of_row w1 b0 1 _ _ _ hrow
  have c2 := cell_of_row w1 b0 2 _ _ _ hrow
  have c3 := cell_of_row w1 b0 3 _ _ _ hrow
  have c4 := cell_of_row w1 b0 4 _ _ _ hrow
  clear hb1
  go_wp2_with fail
  refine (HR.out _).mono ?_
  rintro e w2 ⟨rfl, hb2⟩
  have HB2 : Hid (Below b0 w w2) := HB.out.1.trans (hb2.mono HB.out.2)
  clear c0 c1 c2 c3 c4 hb2 hrow
  go_wp2_with fail
  go_ret
  exact ⟨rfl, by first | exact HB2.out | (rw [hb0]; exact HB2.out)⟩
end Go.Proofs.Ytbbbjgilbddabaa
