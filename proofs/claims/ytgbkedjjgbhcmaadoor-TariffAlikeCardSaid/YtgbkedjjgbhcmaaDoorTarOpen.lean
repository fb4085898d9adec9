/-
  A tariff that comes in, opened; Great, walked. Conditions stand at each theorem.
-/
import Derived.Test.YtgbkedjjgbhcmaaDoorTarM6
import Derived.OpenShut
import Derived.Lib.SmallJoins
import Derived.Deep.Matrix
namespace Go.Proofs.YtgbkedjjgbhcmaaDoor
open Go Go.RowKit Go.Kw Go.Kw.Cv Go.Joins Go.ChangeShapes Go.WideShapes Go.ChangeAt Go.Deep
set_option linter.unusedVariables false
set_option linter.unusedSimpArgs false

theorem rd_congr {w : World} {B : Nat} {A : Option Addr} {n : Nat} {f g : Nat → Value} (h : Rd w B A n f) (e : ∀ i, i < n → f i = g i) : Rd w B A n g := by
  rcases h with h | ⟨b, off, ha, hb, hc⟩
  · exact .inl h
  · exact .inr ⟨b, off, ha, hb, fun i hi => (hc i hi).trans (by rw [e i hi])⟩
theorem irows1 {w : World} {A : Option Addr} {n c : Nat} {g : Nat → Nat → Int} (h : IRows 1 kI w A n c g) : IRows 1 kI w A n c (fun j _ => g j 0) :=
  ⟨h.1, h.2.1, h.2.2.1, rd_congr h.2.2.2.1 (fun i hi => by rw [show i % 1 = 0 by omega]), fun r j h1 h2 => by
    obtain rfl : j = 0 := by omega
    exact h.2.2.2.2 r 0 h1 h2⟩
/-- A slice whose elements are opened one by one. -/
theorem open_rowsQ {H : Type} {enc : TypeId × Value → H} {P : Program} {W : World} {fuel : Nat} {t e : TypeId} {cs : List Value} {x : DataW H × List MemPlace} {n : Nat} {β : Type} [Inhabited β] (en : β → List Value) (Q : β → Prop) (hn : 0 < n)
    (ht : P.underlying t = some (.slice e)) (hc : P.cellsOf e = n) (hen : ∀ z, (en z).length = n)
    (hel : ∀ (fuel : Nat) (cs : List Value) (y : DataW H × List MemPlace), DataW.trod enc P W 0 (fun _ => true) true fuel e cs = some y → ∃ z, cs = en z ∧ Q z)
    (h : DataW.trod enc P W 0 (fun _ => true) true fuel t cs = some x) :
    ∃ (A : Option Addr) (len cap : Nat) (F : Nat → β), cs = [Value.slice A len cap] ∧ len ≤ cap ∧ cap ≤ maxLen ∧ (A = none → len = 0) ∧ Rd W W.heap.size A (len * n) (fun i => (en (F (i / n))).getD (i % n) undef) ∧ ∀ i, i < len → Q (F i) := by
  rcases open_slice ht h with ⟨hcs, hx⟩ | ⟨a', len', cap', m, k, D, Pl, hcs, hb0, hl, hm, hmm, hx, hr⟩
  · exact ⟨none, 0, 0, fun _ => default, hcs, Nat.le_refl _, Nat.zero_le _, fun _ => rfl, .inl (by omega), fun i hi => absurd hi (by omega)⟩
  · simp only [if_true] at hmm
    subst hmm
    have each : ∀ r, r < m → ∃ z : β, (∀ j, j < n → W.cell? (a'.add (r * n + j)) = some ((en z).getD j undef)) ∧ Q z := fun r hlt => by
      obtain ⟨cs', h1, h2⟩ := hr r hlt
      rw [hc] at h1
      obtain ⟨-, hlen, hget⟩ := World.cells?_some h1
      obtain ⟨z, hz, hq⟩ := hel _ _ _ h2
      refine ⟨z, fun j hj => ?_, hq⟩
      have g0 := hget j (by omega)
      rw [add_add] at g0
      rw [g0, hz, List.getD_eq_getElem?_getD, List.getElem?_eq_getElem (by rw [hen]; exact hj)]; rfl
    obtain ⟨F, hF⟩ : ∃ F : Nat → β, ∀ r, r < m → (∀ j, j < n → W.cell? (a'.add (r * n + j)) = some ((en (F r)).getD j undef)) ∧ Q (F r) := by
      refine ⟨fun r => if h : r < m then (each r h).choose else default, fun r h => ?_⟩
      simp only [dif_pos h]
      exact (each r h).choose_spec
    refine ⟨some a', len', m, F, hcs, hl, hm, (fun h => by cases h), ?_, fun i hi => (hF i (by omega)).2⟩
    rcases Nat.eq_zero_or_pos len' with h0 | h0
    · exact .inl (by subst h0; omega)
    · have hcell : ∀ i, i < len' * n → W.cell? (a'.add i) = some ((en (F (i / n))).getD (i % n) undef) := fun i hi => by
        have h1 : i / n < len' := Nat.div_lt_of_lt_mul (by rw [Nat.mul_comm]; exact hi)
        have h2 := Nat.mod_lt i hn
        have := (hF (i / n) (by omega)).1 (i % n) h2
        rw [Nat.mul_comm, Nat.div_add_mod] at this
        exact this
      have hp : 0 < len' * n := Nat.mul_pos h0 hn
      obtain ⟨b, off, spot⟩ := a'
      have hspot : spot = none := by simpa [Addr.add] using World.cell?_spot (hcell 0 hp)
      subst hspot
      have hc : ∀ i, i < len' * n → W.cell? ⟨b, off + i, none⟩ = some ((en (F (i / n))).getD (i % n) undef) := fun j hj => by rw [← Go.WideShapes.add_plain]; exact hcell j hj
      exact .inr ⟨b, off, rfl, block_lt (hc 0 hp), hc⟩
section
variable {H : Type} {enc : TypeId × Value → H} {W : World} {fuel : Nat} {cs : List Value} {y : DataW H × List MemPlace}
set_option maxRecDepth 100000 in
theorem one_int {t : TypeId} {k : IntKind} (ht : Tryd.prog.underlying t = some (.int k)) (h : DataW.trod enc Tryd.prog W 0 (fun _ => true) true fuel t cs = some y) : IntCells 1 (fun _ => k) cs := by
  obtain ⟨z, rfl, -, hw⟩ := DataW.trod_int ht h
  exact ⟨rfl, fun _ => z, fun j hj => by
    obtain rfl : j = 0 := by omega
    exact ⟨rfl, hw⟩⟩
set_option maxRecDepth 100000 in
theorem sw_cells (h : DataW.trod enc Tryd.prog W 0 (fun _ => true) true fuel 82 cs = some y) : IntCells 2 kI cs := by
  refine struct_ints (fs := _) kI Tryd.underlying82 (by kernel_rfl) (by kernel_rfl) ?_ h
  intro j hj
  rcases (by omega : j = 0 ∨ j = 1) with rfl | rfl
  all_goals exact ⟨_, rfl, rfl, by kernel_rfl, Tryd.underlying3⟩
set_option maxRecDepth 100000 in
theorem br_cells (h : DataW.trod enc Tryd.prog W 0 (fun _ => true) true fuel 85 cs = some y) : IntCells 3 kI cs := by
  refine struct_ints (fs := _) kI Tryd.underlying85 (by kernel_rfl) (by kernel_rfl) ?_ h
  intro j hj
  rcases (by omega : j = 0 ∨ j = 1 ∨ j = 2) with rfl | rfl | rfl
  all_goals exact ⟨_, rfl, rfl, by kernel_rfl, Tryd.underlying3⟩
set_option maxRecDepth 100000 in
theorem thol_cells (h : DataW.trod enc Tryd.prog W 0 (fun _ => true) true fuel 137 cs = some y) : IntCells 6 kInt cs := by
  refine struct_ints (fs := _) kInt Tryd.underlying137 (by kernel_rfl) (by kernel_rfl) ?_ h
  intro j hj
  rcases (by omega : j = 0 ∨ j = 1 ∨ j = 2 ∨ j = 3 ∨ j = 4 ∨ j = 5) with rfl | rfl | rfl | rfl | rfl | rfl
  all_goals exact ⟨_, rfl, rfl, by kernel_rfl, Tryd.underlying3⟩
set_option maxRecDepth 100000 in
theorem tsea_cells (h : DataW.trod enc Tryd.prog W 0 (fun _ => true) true fuel 125 cs = some y) : IntCells 3 kInt cs := by
  refine struct_ints (fs := _) kInt Tryd.underlying125 (by kernel_rfl) (by kernel_rfl) ?_ h
  intro j hj
  rcases (by omega : j = 0 ∨ j = 1 ∨ j = 2) with rfl | rfl | rfl
  all_goals exact ⟨_, rfl, rfl, by kernel_rfl, Tryd.underlying3⟩
set_option maxRecDepth 100000 in
theorem open_plans (h : DataW.trod enc Tryd.prog W 0 (fun _ => true) true fuel 48 cs = some y) : ∃ (A : Option Addr) (np cp : Nat) (F : Nat → SlX) (g : Nat → Nat → Nat → Int), cs = [.slice A np cp] ∧ RdPl W A np cp F g := by
  obtain ⟨A, np, cp, F, e, h1, h2, h3, h4, h5⟩ := open_rowsQ (n := 1) (β := SlX × (Nat → Nat → Int)) (fun z => [slV z.1]) (fun z => IRows 2 kI W z.1.1 z.1.2.1 z.1.2.2 z.2) (by omega) Tryd.underlying48 (show Tryd.prog.cellsOf 83 = 1 by kernel_rfl) (fun _ => rfl)
    (fun fuel cs y h => by
      obtain ⟨A, n, c, g, e, r⟩ := open_irows (by omega) Tryd.underlying83 (show Tryd.prog.cellsOf 82 = 2 by kernel_rfl) (fun _ _ _ h => sw_cells h) h
      exact ⟨((A, n, c), g), e, r⟩) h
  refine ⟨A, np, cp, fun i => (F i).1, fun i => (F i).2, e, h1, h2, h3, ?_, h5⟩
  rw [Nat.mul_one] at h4
  exact rd_congr h4 (fun i hi => by rw [Nat.div_one, show i % 1 = 0 by omega]; rfl)
set_option maxRecDepth 100000 in
theorem open_versions (h : DataW.trod enc Tryd.prog W 0 (fun _ => true) true fuel 52 cs = some y) : ∃ (A : Option Addr) (nv cv : Nat) (f : Nat → Int) (F : Nat → SlX) (p : Nat → Nat → Int), cs = [.slice A nv cv] ∧ RdRt W A nv cv f F p := by
  obtain ⟨A, nv, cv, F, e, h1, h2, h3, h4, h5⟩ := open_rowsQ (n := 2) (β := Int × SlX × (Nat → Nat → Int)) (fun z => [.int .i64 z.1, slV z.2.1]) (fun z => IRows 1 kI W z.2.1.1 z.2.1.2.1 z.2.1.2.2 z.2.2) (by omega) Tryd.underlying52 (show Tryd.prog.cellsOf 58 = 2 by kernel_rfl) (fun _ => rfl)
    (fun fuel cs y h => by
      obtain ⟨xs, m, rfl, hx, hl, hxl, hall⟩ := DataW.trod_struct Tryd.underlying58 h
      rw [show Tryd.prog.cellsOf 58 = 2 by kernel_rfl] at hl
      match cs, hl, xs, hxl with
      | [c0, c1], _, [y0, y1], _ =>
        have t0 := hall 0 _ rfl
        have t1 := hall 1 _ rfl
        simp only [show Tryd.prog.cellsOf 2 = 1 by kernel_rfl, show Tryd.prog.cellsOf 56 = 1 by kernel_rfl, List.drop, List.take, List.getElem?_cons_zero, List.getElem?_cons_succ] at t0 t1
        obtain ⟨a0, e0, -, -⟩ := DataW.trod_int Tryd.underlying2 t0
        obtain ⟨A, n, c, g, e1, r⟩ := open_irows (by omega) Tryd.underlying56 (show Tryd.prog.cellsOf 2 = 1 by kernel_rfl) (fun _ _ _ h => one_int Tryd.underlying2 h) t1
        simp [show Tryd.prog.cellsOf 2 = 1 by kernel_rfl, show Tryd.prog.cellsOf 56 = 1 by kernel_rfl] at e0 e1
        subst e0 e1
        exact ⟨(a0, (A, n, c), g), rfl, r⟩) h
  refine ⟨A, nv, cv, fun i => (F i).1, fun i => (F i).2.1, fun i j => (F i).2.2 j 0, e, h1, h2, h3, ?_, fun i hi => irows1 (h5 i hi)⟩
  refine rd_congr h4 (fun i hi => ?_)
  by_cases h0 : i % 2 = 0
  · rw [h0, if_pos rfl]; rfl
  · rw [if_neg h0, show i % 2 = 1 by omega]; rfl
end
theorem array7 {α : Type} {cs : Array α} (h : cs.size = 7) : ∃ c0 c1 c2 c3 c4 c5 c6, cs = #[c0, c1, c2, c3, c4, c5, c6] := by
  obtain ⟨l⟩ := cs
  match l, h with
  | [c0, c1, c2, c3, c4, c5, c6], _ => exact ⟨c0, c1, c2, c3, c4, c5, c6, rfl⟩
def zero_t54 : Value := .agg #[.int .i64 0, .slice none 0 0, .slice none 0 0, .slice none 0 0, .slice none 0 0, .slice none 0 0, .slice none 0 0]
set_option maxRecDepth 100000 in
theorem open_t54 {H : Type} {enc : TypeId × Value → H} {W : World} {base : Nat} {v : Value} {d : DataW H} {p : List MemPlace} (hv : Value.okWide Tryd.prog W .any base 54 v) (h : DataW.Trod enc Tryd.prog W 0 (fun _ => true) true 54 v d p) :
    ∃ x : Tar, v = tarV x ∧ RdTar W x := by
  obtain ⟨cs, rfl, hsz⟩ := okWide_struct Tryd.underlying54 hv
  obtain ⟨c0, c1, c2, c3, c4, c5, c6, rfl⟩ := array7 (hsz.trans (show Tryd.prog.cellsOf 54 = 7 by kernel_rfl))
  obtain ⟨fuel, hf⟩ := h
  obtain ⟨xs, n, rfl, hx, hl, hxl, hall⟩ := DataW.trod_struct Tryd.underlying54 hf
  have kz : Tryd.prog.cellsOf 43 = 2 := by kernel_rfl
  have kc : Tryd.prog.cellsOf 47 = 2 := by kernel_rfl
  have kb : Tryd.prog.cellsOf 51 = 2 := by kernel_rfl
  have kr : Tryd.prog.cellsOf 52 = 1 := by kernel_rfl
  have ki : Tryd.prog.cellsOf 3 = 1 := by kernel_rfl
  have s1 : Tryd.prog.cellsOf 41 = 1 := by kernel_rfl
  have s2 : Tryd.prog.cellsOf 44 = 1 := by kernel_rfl
  have s3 : Tryd.prog.cellsOf 45 = 1 := by kernel_rfl
  have s4 : Tryd.prog.cellsOf 48 = 1 := by kernel_rfl
  have s5 : Tryd.prog.cellsOf 49 = 1 := by kernel_rfl
  match xs, hxl with
  | [y0, y1, y2, y3], _ =>
    have t0 := hall 0 _ rfl
    have t1 := hall 1 _ rfl
    have t2 := hall 2 _ rfl
    have t3 := hall 3 _ rfl
    simp only [kz, kc, kb, kr, Value.cells, List.drop, List.take, List.getElem?_cons_zero, List.getElem?_cons_succ] at t0 t1 t2 t3
    obtain ⟨A7, nv, cv, vf, vF, vp, e6, r6⟩ := open_versions t3
    obtain ⟨xa, na, rfl, -, -, hla, ha⟩ := DataW.trod_struct Tryd.underlying43 t0
    obtain ⟨xb, nb, hnb, -, -, hlb, hb⟩ := DataW.trod_struct Tryd.underlying47 t1
    obtain ⟨xc, nc, hnc, -, -, hlc, hc⟩ := DataW.trod_struct Tryd.underlying51 t2
    obtain rfl : na = nb := by omega
    obtain rfl : na = nc := by omega
    match xa, hla, xb, hlb, xc, hlc with
    | [a0, a1], _, [b0, b1], _, [d0, d1], _ =>
      have u0 := ha 0 _ rfl
      have u1 := ha 1 _ rfl
      have u2 := hb 0 _ rfl
      have u3 := hb 1 _ rfl
      have u4 := hc 0 _ rfl
      have u5 := hc 1 _ rfl
      simp [ki, s1, s2, s3, s4, s5] at u0 u1 u2 u3 u4 u5
      obtain ⟨o, e0, -, w0⟩ := DataW.trod_int Tryd.underlying3 u0
      obtain ⟨A1, lr, cr, zg, e1, r1⟩ := open_irows (by omega) Tryd.underlying41 (show Tryd.prog.cellsOf 134 = 11 by kernel_rfl) (fun _ _ _ h => rul_cells h) u1
      obtain ⟨A2, la, ca, gh, e2, r2⟩ := open_irows (by omega) Tryd.underlying44 (show Tryd.prog.cellsOf 137 = 6 by kernel_rfl) (fun _ _ _ h => thol_cells h) u2
      obtain ⟨A3, lb, cb, gs, e3, r3⟩ := open_irows (by omega) Tryd.underlying45 (show Tryd.prog.cellsOf 125 = 3 by kernel_rfl) (fun _ _ _ h => tsea_cells h) u3
      obtain ⟨A4, np, cp, pF, gp, e4, r4⟩ := open_plans u4
      obtain ⟨A5, nr, rc, rr, e5, r5⟩ := open_irows (by omega) Tryd.underlying49 (show Tryd.prog.cellsOf 85 = 3 by kernel_rfl) (fun _ _ _ h => br_cells h) u5
      simp [kz, kc, kb, kr] at e0 e1 e2 e3 e4 e5 e6
      subst e0 e1 e2 e3 e4 e5 e6
      exact ⟨⟨o, A1, lr, cr, zg, A2, la, ca, gh, A3, lb, cb, gs, A4, np, cp, pF, gp, A5, nr, rc, rr, A7, nv, cv, vf, vF, vp⟩, rfl, r1, ⟨r2, r3⟩, r4, r5, r6⟩
/-- Whatever Great says, it is 0 or 1. -/
def GreatOut (w : World) (e : Ending) (w' : World) : Prop := ∃ V : Int, (V = 0 ∨ V = 1) ∧ e = .returned (.int .i64 V) ∧ Below w.heap.size w w'
theorem great0 {w w' : World} (h : Below w.heap.size w w') : GreatOut w (.returned (.int .i64 0)) w' := ⟨0, .inl rfl, rfl, h⟩
theorem great1 {w w' : World} (h : Below w.heap.size w w') : GreatOut w (.returned (.int .i64 1)) w' := ⟨1, .inr rfl, rfl, h⟩
set_option maxRecDepth 100000 in
set_option maxHeartbeats 16000000 in
theorem tgreat_calls (x : Tar) (w : World) (hT : RdTar w x) : Calls Tryd.prog 17 #[tarV x] w (GreatOut w) := by
  obtain ⟨b0, hb0⟩ : ∃ b0, w.heap.size = b0 := ⟨_, rfl⟩
  have Hb0 := Lib.hid hb0
  obtain ⟨W1, hW1⟩ : ∃ W1, w.alloc (.cells (tarRow x) 54) = W1 := ⟨_, rfl⟩
  have hst : Below w.heap.size w W1 := hW1 ▸ bstep w _
  have hr : W1.heap[b0]? = some (.cells (tarRow x) 54 (0, 0)) := by rw [← hb0, ← hW1]; exact World.alloc_heap_new w _
  have HT := Lib.hid (hT.go hst)
  have hB := hst
  have HB := Lib.hid hB
  unfold tarRow at hW1 hr
  have c1 := cell_of_row W1 b0 1 _ _ _ hr
  have c2 := cell_of_row W1 b0 2 _ _ _ hr
  have c3 := cell_of_row W1 b0 3 _ _ _ hr
  have c4 := cell_of_row W1 b0 4 _ _ _ hr
  have c5 := cell_of_row W1 b0 5 _ _ _ hr
  have c6 := cell_of_row W1 b0 6 _ _ _ hr
  have Hnp := Lib.hid (And.intro hT.2.2.1.1 (And.intro hT.2.2.1.2.1 (And.intro hT.2.2.2.2.1 hT.2.2.2.2.2.1)))
  have hmx : maxLen = 9223372036854775807 := rfl
  have Hmx := Lib.hid hmx
  unfold tarV tarRow
  clear hst hr hT hB hmx
  go_enter Tryd.func17, Tryd.ntmps17
  go_wp2_with fail
  all_goals first
    | (go_ret; exact great1 (by first | exact HB.out | (rw [Hb0.out]; exact HB.out)))
    | skip
  go_loop [48] (fun i => ∃ k : Nat, k ≤ x.np ∧ i = .int .i64 k) (fun i => x.np - (intOf i).toNat)
  case atStart => exact ⟨0, by omega, rfl⟩
  case round =>
    obtain ⟨k, hk, rfl⟩ := hrel
    by_cases hlt : k < x.np
    · have hI0 : (k : Int) < (x.np : Int) := by omega
      obtain ⟨sb, off, hpa, hpl, hpc⟩ := HT.out.2.2.1.2.2.2.1.at_ hlt
      unfold slV at hpc
      obtain ⟨P1, hP1⟩ : ∃ z, (x.pF k).1 = z := ⟨_, rfl⟩
      obtain ⟨P2, hP2⟩ : ∃ z, (x.pF k).2.1 = z := ⟨_, rfl⟩
      obtain ⟨P3, hP3⟩ : ∃ z, (x.pF k).2.2 = z := ⟨_, rfl⟩
      rw [hP1, hP2, hP3] at hpc
      rw [hpa] at c4
      have wk : IntKind.i64.wrap ((k : Int) + 1) = (k : Int) + 1 := i64_same _ (by have := Hnp.out; have := Hmx.out; omega)
      have X := Lib.hid (wrap64_in ((k : Int) + 1) (by have := Hnp.out; have := Hmx.out; omega))
      have Hlt := Lib.hid hlt
      clear hpa hpl hP1 hP2 hP3 hlt hk
      by_cases hg : (P2 : Int) > 60
      · have kg : decide ((P2 : Int) > 60) = true := decide_eq_true hg
        clear hg
        go_wp2_with fail
        go_ret
        exact great1 (by first | exact HB.out | (rw [Hb0.out]; exact HB.out))
      · have kg : decide ((P2 : Int) > 60) = false := decide_eq_false hg
        have xk := X.out
        clear hg
        go_wp2_with fail
        clear xk
        exact ⟨⟨k + 1, Hlt.out, by push_cast; rfl⟩, meas_z x.np k Hlt.out⟩
    · obtain rfl : k = x.np := by omega
      have hI0 : ¬ ((x.np : Int) < (x.np : Int)) := by omega
      clear hlt hk
      go_wp2_with fail
      go_loop [63] (fun i => ∃ k : Nat, k ≤ x.nv ∧ i = .int .i64 k) (fun i => x.nv - (intOf i).toNat)
      case atStart => exact ⟨0, by omega, rfl⟩
      case round =>
        obtain ⟨k, hk, rfl⟩ := hrel
        by_cases hlt : k < x.nv
        · have hI1 : (k : Int) < (x.nv : Int) := by omega
          obtain ⟨sb, off, hpa, hpl, -, hpc⟩ := HT.out.2.2.2.2.at_ hlt
          unfold slV at hpc
          obtain ⟨P1, hP1⟩ : ∃ z, (x.vF k).1 = z := ⟨_, rfl⟩
          obtain ⟨P2, hP2⟩ : ∃ z, (x.vF k).2.1 = z := ⟨_, rfl⟩
          obtain ⟨P3, hP3⟩ : ∃ z, (x.vF k).2.2 = z := ⟨_, rfl⟩
          rw [hP1, hP2, hP3] at hpc
          rw [hpa] at c6
          have wk : IntKind.i64.wrap ((k : Int) + 1) = (k : Int) + 1 := i64_same _ (by have := Hnp.out; have := Hmx.out; omega)
          have X := Lib.hid (wrap64_in ((k : Int) + 1) (by have := Hnp.out; have := Hmx.out; omega))
          have Hlt := Lib.hid hlt
          clear hpa hpl hP1 hP2 hP3 hlt hk
          by_cases hg : (P2 : Int) > 20
          · have kg : decide ((P2 : Int) > 20) = true := decide_eq_true hg
            clear hg
            go_wp2_with fail
            go_ret
            exact great1 (by first | exact HB.out | (rw [Hb0.out]; exact HB.out))
          · have kg : decide ((P2 : Int) > 20) = false := decide_eq_false hg
            have xk := X.out
            clear hg
            go_wp2_with fail
            clear xk
            exact ⟨⟨k + 1, Hlt.out, by push_cast; rfl⟩, meas_z x.nv k Hlt.out⟩
        · obtain rfl : k = x.nv := by omega
          have hI1 : ¬ ((x.nv : Int) < (x.nv : Int)) := by omega
          clear hlt hk
          go_wp2_with fail
          go_ret
          exact great0 (by first | exact HB.out | (rw [Hb0.out]; exact HB.out))
end Go.Proofs.YtgbkedjjgbhcmaaDoor
