/-
  What the laws of meters are told of what comes in: setups, lists of pairs, lists of calls. Conditions stand at each theorem.
-/
import Derived.Test.YtjmkbpgakfeceaaMt11
import Derived.Test.YtjmkbpgakfeceaaIntRows
import Derived.Lib.SmallJoins
namespace Go.Proofs.Ytjmkbpgakfeceaa
open Go Go.RowKit Go.Kw Go.Kw.Mt Go.Joins Go.ChangeShapes Go.WideShapes Go.ChangeAt
set_option linter.unusedVariables false
set_option linter.unusedSimpArgs false

def zero_t25 : Value := .agg #[.int .u64 0, .int .u64 0, .int .u32 0, .int .i64 0, .int .i64 0]
theorem array5 {α : Type} {cs : Array α} (h : cs.size = 5) : ∃ c0 c1 c2 c3 c4, cs = #[c0, c1, c2, c3, c4] := by
  obtain ⟨l⟩ := cs
  match l, h with
  | [c0, c1, c2, c3, c4], _ => exact ⟨c0, c1, c2, c3, c4, rfl⟩
/-- A setup that comes in. -/
structure SetX where
  num : Nat
  den : Nat
  bound : Nat
  gap : Int
  len : Int
def SetX.v (x : SetX) : Value := setV (x.num : Int) (x.den : Int) (x.bound : Int) x.gap x.len
structure SetX.Ok (x : SetX) : Prop where
  num : x.num < 18446744073709551616
  den : x.den < 18446744073709551616
  bound : x.bound < 4294967296
  gap : -9223372036854775808 ≤ x.gap ∧ x.gap < 9223372036854775808
  len : -9223372036854775808 ≤ x.len ∧ x.len < 9223372036854775808
set_option maxRecDepth 100000 in
theorem open_t25 {H : Type} {enc : TypeId × Value → H} {W : World} {base : Nat} {v : Value} {d : DataW H} {p : List MemPlace} (hv : Value.okWide Try.prog W .any base 25 v) (h : DataW.Trod enc Try.prog W 0 (fun _ => true) true 25 v d p) :
    ∃ x : SetX, v = x.v ∧ x.Ok := by
  obtain ⟨cs, rfl, hsz⟩ := okWide_struct Try.underlying25 hv
  obtain ⟨c0, c1, c2, c3, c4, rfl⟩ := array5 (hsz.trans (show Try.prog.cellsOf 25 = 5 by kernel_rfl))
  obtain ⟨fuel, hf⟩ := h
  obtain ⟨xs, n, rfl, hx, hl, hxl, hall⟩ := DataW.trod_struct Try.underlying25 hf
  have k64 : Try.prog.cellsOf 22 = 1 := by kernel_rfl
  have k32 : Try.prog.cellsOf 23 = 1 := by kernel_rfl
  have ki : Try.prog.cellsOf 2 = 1 := by kernel_rfl
  match xs, hxl with
  | [y0, y1, y2, y3, y4], _ =>
    have t0 := hall 0 _ rfl
    have t1 := hall 1 _ rfl
    have t2 := hall 2 _ rfl
    have t3 := hall 3 _ rfl
    have t4 := hall 4 _ rfl
    simp only [k64, k32, ki, Value.cells, List.drop, List.take, List.getElem?_cons_zero, List.getElem?_cons_succ] at t0 t1 t2 t3 t4
    obtain ⟨a0, e0, -, u0⟩ := DataW.trod_int Try.underlying22 t0
    obtain ⟨a1, e1, -, u1⟩ := DataW.trod_int Try.underlying22 t1
    obtain ⟨a2, e2, -, u2⟩ := DataW.trod_int Try.underlying23 t2
    obtain ⟨a3, e3, -, u3⟩ := DataW.trod_int Try.underlying2 t3
    obtain ⟨a4, e4, -, u4⟩ := DataW.trod_int Try.underlying2 t4
    simp [k64, k32, ki] at e0 e1 e2 e3 e4
    subst e0 e1 e2 e3 e4
    have b0 := Go.bounds_u64 u0
    have b1 := Go.bounds_u64 u1
    have b2 := Go.bounds_u32 u2
    have b3 := Go.bounds_i64 u3
    have b4 := Go.bounds_i64 u4
    obtain ⟨m0, rfl⟩ := Int.eq_ofNat_of_zero_le (show 0 ≤ a0 by omega)
    obtain ⟨m1, rfl⟩ := Int.eq_ofNat_of_zero_le (show 0 ≤ a1 by omega)
    obtain ⟨m2, rfl⟩ := Int.eq_ofNat_of_zero_le (show 0 ≤ a2 by omega)
    exact ⟨⟨m0, m1, m2, a3, a4⟩, rfl, ⟨by show m0 < _; omega, by show m1 < _; omega, by show m2 < _; omega, by show _ ≤ a3 ∧ a3 < _; omega, by show _ ≤ a4 ∧ a4 < _; omega⟩⟩
def kP2 : Nat → IntKind := fun _ => .u32
set_option maxRecDepth 100000 in
theorem pair_cells {H : Type} {enc : TypeId × Value → H} {W : World} {fuel : Nat} {cs : List Value} {y : DataW H × List MemPlace} (h : DataW.trod enc Try.prog W 0 (fun _ => true) true fuel 41 cs = some y) : IntCells 2 kP2 cs :=
  array_ints Try.underlying41 (by kernel_rfl) (by kernel_rfl) Try.underlying23 h
/-- A list of pairs of numbers of 32 bits. -/
def RdP (W : World) (A : Option Addr) (n : Nat) (g : Nat → Nat × Nat) : Prop :=
  (A = none → n = 0) ∧ ∀ i, i < n → (g i).1 < 4294967296 ∧ (g i).2 < 4294967296 ∧ ∃ b o, A = some ⟨b, o, none⟩ ∧ b < W.heap.size ∧ W.cell? ⟨b, o + i * 2, none⟩ = some (.int .u32 ((g i).1 : Int)) ∧ W.cell? ⟨b, o + i * 2 + 1, none⟩ = some (.int .u32 ((g i).2 : Int))
theorem RdP.go {W W' : World} {A : Option Addr} {n : Nat} {g : Nat → Nat × Nat} (h : RdP W A n g) (hb : Below W.heap.size W W') : RdP W' A n g :=
  ⟨h.1, fun i hi => by
    obtain ⟨h1, h2, b, o, hA, hlt, c1, c2⟩ := h.2 i hi
    exact ⟨h1, h2, b, o, hA, Nat.lt_of_lt_of_le hlt hb.size, (cell_same (hb.block b hlt)).trans c1, (cell_same (hb.block b hlt)).trans c2⟩⟩
theorem RdP.kept {S : Nat → Prop} {W W' : World} {A : Option Addr} {n B : Nat} {g : Nat → Nat × Nat} (h : RdP W A n g) (hk : Kept S W W') (hs : ∀ b, b < W.heap.size → S b) : RdP W' A n g :=
  ⟨h.1, fun i hi => by
    obtain ⟨h1, h2, b, o, hA, hlt, c1, c2⟩ := h.2 i hi
    exact ⟨h1, h2, b, o, hA, Nat.lt_of_lt_of_le hlt hk.size, (cell_same (hk.block b hlt (hs b hlt))).trans c1, (cell_same (hk.block b hlt (hs b hlt))).trans c2⟩⟩
theorem irows_rdP {W : World} {A : Option Addr} {n c : Nat} {g : Nat → Nat → Int} (h : IRows 2 kP2 W A n c g) : RdP W A n (fun i => ((g i 0).toNat, (g i 1).toNat)) :=
  ⟨h.2.2.1, fun i hi => by
    have b0 := Go.bounds_u32 (h.2.2.2.2 i 0 hi (by omega))
    have b1 := Go.bounds_u32 (h.2.2.2.2 i 1 hi (by omega))
    obtain ⟨b, o, hA, hlt, hc⟩ := h.at_ (by omega) hi
    have c0 := hc 0 (by omega)
    have c1 := hc 1 (by omega)
    refine ⟨by show (g i 0).toNat < _; omega, by show (g i 1).toNat < _; omega, b, o, hA, hlt, ?_, ?_⟩
    · rw [show ((((fun i => ((g i 0).toNat, (g i 1).toNat)) i : Nat × Nat).1 : Nat) : Int) = g i 0 by show (((g i 0).toNat : Nat) : Int) = _; omega]; exact c0
    · rw [show ((((fun i => ((g i 0).toNat, (g i 1).toNat)) i : Nat × Nat).2 : Nat) : Int) = g i 1 by show (((g i 1).toNat : Nat) : Int) = _; omega]; exact c1⟩
set_option maxRecDepth 100000 in
theorem open_t32 {H : Type} {enc : TypeId × Value → H} {W : World} {base : Nat} {v : Value} {d : DataW H} {p : List MemPlace} (hv : Value.okWide Try.prog W .any base 32 v) (h : DataW.Trod enc Try.prog W 0 (fun _ => true) true 32 v d p) :
    ∃ x : Option Addr × Nat × Nat × (Nat → Nat × Nat), v = .slice x.1 x.2.1 x.2.2.1 ∧ RdP W x.1 x.2.1 x.2.2.2 := by
  obtain ⟨a, len, cap, rfl⟩ := okWide_slice Try.underlying32 hv
  obtain ⟨fuel, hf⟩ := h
  obtain ⟨A, l, c, g, e, hr⟩ := open_irows (by omega) Try.underlying32 (show Try.prog.cellsOf 41 = 2 by kernel_rfl) (fun _ _ _ h => pair_cells h) hf
  simp [Value.cells] at e
  obtain ⟨rfl, rfl, rfl⟩ := e
  exact ⟨(a, len, cap, _), rfl, irows_rdP hr⟩
/-- Calls of the laws: kind, instant, count. -/
structure OpM where
  kd : Int
  t : Int
  v : Nat
def kO3 : Nat → IntKind := fun j => if j = 2 then .u32 else .i64
set_option maxRecDepth 100000 in
theorem opm_cells {H : Type} {enc : TypeId × Value → H} {W : World} {fuel : Nat} {cs : List Value} {y : DataW H × List MemPlace} (h : DataW.trod enc Try.prog W 0 (fun _ => true) true fuel 56 cs = some y) : IntCells 3 kO3 cs := by
  refine struct_ints (fs := _) kO3 Try.underlying56 (by kernel_rfl) (by kernel_rfl) ?_ h
  intro j hj
  have : j = 0 ∨ j = 1 ∨ j = 2 := by omega
  rcases this with rfl | rfl | rfl
  all_goals exact ⟨_, rfl, rfl, by kernel_rfl, by first | exact Try.underlying3 | exact Try.underlying2 | exact Try.underlying23⟩
/-- A list of calls. -/
def RdOpM (W : World) (A : Option Addr) (n : Nat) (g : Nat → OpM) : Prop :=
  (A = none → n = 0) ∧ ∀ i, i < n → (g i).v < 4294967296 ∧ (-9223372036854775808 ≤ (g i).t ∧ (g i).t < 9223372036854775808) ∧ ∃ b o, A = some ⟨b, o, none⟩ ∧ b < W.heap.size ∧ W.cell? ⟨b, o + i * 3, none⟩ = some (.int .i64 (g i).kd) ∧ W.cell? ⟨b, o + i * 3 + 1, none⟩ = some (.int .i64 (g i).t) ∧ W.cell? ⟨b, o + i * 3 + 2, none⟩ = some (.int .u32 ((g i).v : Int))
theorem RdOpM.go {W W' : World} {A : Option Addr} {n : Nat} {g : Nat → OpM} (h : RdOpM W A n g) (hb : Below W.heap.size W W') : RdOpM W' A n g :=
  ⟨h.1, fun i hi => by
    obtain ⟨h1, h2, b, o, hA, hlt, c1, c2, c3⟩ := h.2 i hi
    exact ⟨h1, h2, b, o, hA, Nat.lt_of_lt_of_le hlt hb.size, (cell_same (hb.block b hlt)).trans c1, (cell_same (hb.block b hlt)).trans c2, (cell_same (hb.block b hlt)).trans c3⟩⟩
theorem irows_rdO {W : World} {A : Option Addr} {n c : Nat} {g : Nat → Nat → Int} (h : IRows 3 kO3 W A n c g) : RdOpM W A n (fun i => ⟨g i 0, g i 1, (g i 2).toNat⟩) :=
  ⟨h.2.2.1, fun i hi => by
    have b1 := Go.bounds_i64 (h.2.2.2.2 i 1 hi (by omega))
    have b2 := Go.bounds_u32 (h.2.2.2.2 i 2 hi (by omega))
    obtain ⟨b, o, hA, hlt, hc⟩ := h.at_ (by omega) hi
    have c0 := hc 0 (by omega)
    have c1 := hc 1 (by omega)
    have c2 := hc 2 (by omega)
    refine ⟨by show (g i 2).toNat < _; omega, by show _ ≤ g i 1 ∧ g i 1 < _; omega, b, o, hA, hlt, c0, c1, ?_⟩
    rw [show ((((fun i => (⟨g i 0, g i 1, (g i 2).toNat⟩ : OpM)) i).v : Nat) : Int) = g i 2 by show (((g i 2).toNat : Nat) : Int) = _; omega]; exact c2⟩
set_option maxRecDepth 100000 in
theorem open_t52 {H : Type} {enc : TypeId × Value → H} {W : World} {base : Nat} {v : Value} {d : DataW H} {p : List MemPlace} (hv : Value.okWide Try.prog W .any base 52 v) (h : DataW.Trod enc Try.prog W 0 (fun _ => true) true 52 v d p) :
    ∃ x : Option Addr × Nat × Nat × (Nat → OpM), v = .slice x.1 x.2.1 x.2.2.1 ∧ RdOpM W x.1 x.2.1 x.2.2.2 := by
  obtain ⟨a, len, cap, rfl⟩ := okWide_slice Try.underlying52 hv
  obtain ⟨fuel, hf⟩ := h
  obtain ⟨A, l, c, g, e, hr⟩ := open_irows (by omega) Try.underlying52 (show Try.prog.cellsOf 56 = 3 by kernel_rfl) (fun _ _ _ h => opm_cells h) hf
  simp [Value.cells] at e
  obtain ⟨rfl, rfl, rfl⟩ := e
  exact ⟨(a, len, cap, _), rfl, irows_rdO hr⟩
/-- How many of a list are suspect. -/
def cnt2 (L : List En) : Nat := L.countP (fun x => x.kind == 2)
theorem sumE_take_succ (L : List En) (k : Nat) (x : En) (h : L[k]? = some x) : sumE (L.take (k + 1)) = sumE (L.take k) + x.en := by
  rw [List.take_add_one, h, sumE_append]; simp [sumE]
theorem cnt2_take_succ (L : List En) (k : Nat) (x : En) (h : L[k]? = some x) : cnt2 (L.take (k + 1)) = cnt2 (L.take k) + (if x.kind = 2 then 1 else 0) := by
  rw [List.take_add_one, h]
  simp [cnt2, List.countP_append, List.countP_cons]
theorem sumE_nonneg (L : List En) (h : ∀ x ∈ L, 0 ≤ x.en) : 0 ≤ sumE L := by
  induction L with
  | nil => simp [sumE]
  | cons x r ih =>
    have := h x (by simp)
    have := ih (fun y hy => h y (by simp [hy]))
    simp only [sumE]; omega
theorem sumE_take_le (L : List En) (h : ∀ x ∈ L, 0 ≤ x.en) (k : Nat) : 0 ≤ sumE (L.take k) ∧ sumE (L.take k) ≤ sumE L := by
  have e := congrArg sumE (List.take_append_drop k L)
  rw [sumE_append] at e
  have h1 := sumE_nonneg (L.take k) (fun x hx => h x (List.mem_of_mem_take hx))
  have h2 := sumE_nonneg (L.drop k) (fun x hx => h x (List.mem_of_mem_drop hx))
  omega
end Go.Proofs.Ytjmkbpgakfeceaa
