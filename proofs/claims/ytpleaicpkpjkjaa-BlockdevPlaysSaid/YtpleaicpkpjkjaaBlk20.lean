/-
  The laws' lists of calls, opened; Great, walked. Conditions stand at each theorem.
-/
import Derived.Test.YtpleaicpkpjkjaaBlk19
import Derived.OpenShut
import Derived.Lib.SmallJoins
import Derived.Deep.Matrix
namespace Go.Proofs.Ytpleaicpkpjkjaa
open Go Go.RowKit Go.Kw Go.Joins Go.ChangeShapes Go.WideShapes Go.ChangeAt Go.Deep
set_option linter.unusedVariables false
set_option linter.unusedSimpArgs false

/-- A slice whose elements are opened one by one. -/
theorem open_rowsQ {H : Type} {enc : TypeId × Value → H} {P : Program} {W : World} {fuel : Nat} {t e : TypeId} {cs : List Value} {x : DataW H × List MemPlace} {n : Nat} {β : Type} [Inhabited β] (en : β → List Value) (Q : β → Prop) (hn : 0 < n)
    (ht : P.underlying t = some (.slice e)) (hc : P.cellsOf e = n) (hen : ∀ z, (en z).length = n)
    (hel : ∀ (fuel : Nat) (cs : List Value) (y : DataW H × List MemPlace), DataW.trod enc P W 0 (fun _ => true) true fuel e cs = some y → ∃ z, cs = en z ∧ Q z)
    (h : DataW.trod enc P W 0 (fun _ => true) true fuel t cs = some x) :
    ∃ (A : Option Addr) (len cap : Nat) (F : Nat → β), cs = [Value.slice A len cap] ∧ len ≤ cap ∧ cap ≤ maxLen ∧ (A = none → len = 0) ∧ Rd W W.heap.size A (len * n) (fun i => (en (F (i / n))).getD (i % n) undef) ∧ ∀ i, i < len → Q (F i) := by
  rcases open_slice ht h with ⟨hcs, hx⟩ | ⟨a', len', cap', m, k, D, Pl, hcs, hb0, hl, hm, hmm, hx, hr⟩
  · exact ⟨none, 0, 0, fun _ => default, hcs, Nat.le_refl _, Nat.zero_le _, fun _ => rfl, .inl (by omega), fun i hi => absurd hi (by omega)⟩
  · simp only [if_true] at hmm
    subst hmm
    have each : ∀ r, r < m → ∃ z : β, (∀ j, j < n → W.cell? (a'.add (r * n + j)) = some ((en z).getD j undef)) ∧ Q z := fun r hlt => by
      obtain ⟨cs', h1, h2⟩ := hr r hlt
      rw [hc] at h1
      obtain ⟨-, hlen, hget⟩ := World.cells?_some h1
      obtain ⟨z, hz, hq⟩ := hel _ _ _ h2
      refine ⟨z, fun j hj => ?_, hq⟩
      have g0 := hget j (by omega)
      rw [add_add] at g0
      rw [g0, hz, List.getD_eq_getElem?_getD, List.getElem?_eq_getElem (by rw [hen]; exact hj)]; rfl
    obtain ⟨F, hF⟩ : ∃ F : Nat → β, ∀ r, r < m → (∀ j, j < n → W.cell? (a'.add (r * n + j)) = some ((en (F r)).getD j undef)) ∧ Q (F r) := by
      refine ⟨fun r => if h : r < m then (each r h).choose else default, fun r h => ?_⟩
      simp only [dif_pos h]
      exact (each r h).choose_spec
    refine ⟨some a', len', m, F, hcs, hl, hm, (fun h => by cases h), ?_, fun i hi => (hF i (by omega)).2⟩
    rcases Nat.eq_zero_or_pos len' with h0 | h0
    · exact .inl (by subst h0; omega)
    · have hcell : ∀ i, i < len' * n → W.cell? (a'.add i) = some ((en (F (i / n))).getD (i % n) undef) := fun i hi => by
        have h1 : i / n < len' := Nat.div_lt_of_lt_mul (by rw [Nat.mul_comm]; exact hi)
        have h2 := Nat.mod_lt i hn
        have := (hF (i / n) (by omega)).1 (i % n) h2
        rw [Nat.mul_comm, Nat.div_add_mod] at this
        exact this
      have hp : 0 < len' * n := Nat.mul_pos h0 hn
      obtain ⟨b, off, spot⟩ := a'
      have hspot : spot = none := by simpa [Addr.add] using World.cell?_spot (hcell 0 hp)
      subst hspot
      have hc : ∀ i, i < len' * n → W.cell? ⟨b, off + i, none⟩ = some ((en (F (i / n))).getD (i % n) undef) := fun j hj => by rw [← Go.WideShapes.add_plain]; exact hcell j hj
      exact .inr ⟨b, off, rfl, block_lt (hc 0 hp), hc⟩
/-- A call of the list. -/
structure OpR where
  kd : Int
  N : Int
  b : UInt8
  L : Int
  KA : Option Addr
  kc : Nat
  kp : List UInt8
  to : Int
  at' : Int
instance : Inhabited OpR := ⟨⟨0, 0, 0, 0, none, 0, [], 0, 0⟩⟩
def opE (z : OpR) : List Value := [.int .i64 z.kd, .int .i64 z.N, .int .u8 (z.b.toNat : Int), .int .i64 z.L, .slice z.KA z.kp.length z.kc, .int .i64 z.to, .int .i64 z.at']
/-- Within int64. -/
def inI (x : Int) : Prop := -9223372036854775808 ≤ x ∧ x < 9223372036854775808
/-- A call's bytes of the crash, as they lie. -/
def OpOk (W : World) (z : OpR) : Prop := RdB W W.heap.size z.KA z.kp ∧ (z.KA = none → z.kp.length = 0) ∧ z.kp.length ≤ z.kc ∧ z.kc ≤ maxLen ∧ inI z.kd ∧ inI z.N ∧ inI z.L ∧ inI z.to ∧ inI z.at'
theorem OpOk.go {W W' : World} {z : OpR} (h : OpOk W z) (hb : Below W.heap.size W W') : OpOk W' z := ⟨h.1.go hb, h.2⟩
/-- A list of calls that came in. -/
def RdOps (W : World) (A : Option Addr) (n c : Nat) (g : Nat → OpR) : Prop :=
  n ≤ c ∧ c ≤ maxLen ∧ (A = none → n = 0) ∧ Rd W W.heap.size A (n * 7) (fun i => (opE (g (i / 7))).getD (i % 7) undef) ∧ ∀ i, i < n → OpOk W (g i)
theorem RdOps.go {W W' : World} {A : Option Addr} {n c : Nat} {g : Nat → OpR} (h : RdOps W A n c g) (hb : Below W.heap.size W W') : RdOps W' A n c g := ⟨h.1, h.2.1, h.2.2.1, Rd.go h.2.2.2.1 hb, fun i hi => (h.2.2.2.2 i hi).go hb⟩
/-- One call's cells. -/
theorem RdOps.at_ {W : World} {A : Option Addr} {n c : Nat} {g : Nat → OpR} (h : RdOps W A n c g) {k : Nat} (hk : k < n) : ∃ b off, A = some ⟨b, off, none⟩ ∧ b < W.heap.size ∧
    W.cell? ⟨b, off + k * 7, none⟩ = some (.int .i64 (g k).kd) ∧ W.cell? ⟨b, off + k * 7 + 1, none⟩ = some (.int .i64 (g k).N) ∧ W.cell? ⟨b, off + k * 7 + 2, none⟩ = some (.int .u8 ((g k).b.toNat : Int)) ∧ W.cell? ⟨b, off + k * 7 + 3, none⟩ = some (.int .i64 (g k).L) ∧
    W.cell? ⟨b, off + k * 7 + 4, none⟩ = some (.slice (g k).KA (g k).kp.length (g k).kc) ∧ W.cell? ⟨b, off + k * 7 + 5, none⟩ = some (.int .i64 (g k).to) ∧ W.cell? ⟨b, off + k * 7 + 6, none⟩ = some (.int .i64 (g k).at') := by
  rcases h.2.2.2.1 with h0 | ⟨b, off, e, hb, hc⟩
  · omega
  · have hx : ∀ j, j < 7 → W.cell? ⟨b, off + k * 7 + j, none⟩ = some ((opE (g k)).getD j undef) := fun j hj => by
      have := hc (k * 7 + j) (by have : (k + 1) * 7 ≤ n * 7 := Nat.mul_le_mul_right _ hk; omega)
      rw [Nat.add_assoc, this]
      show some ((opE (g ((k * 7 + j) / 7))).getD ((k * 7 + j) % 7) undef) = _
      rw [show (k * 7 + j) / 7 = k by omega, show (k * 7 + j) % 7 = j by omega]
    exact ⟨b, off, e, hb, hx 0 (by omega), hx 1 (by omega), hx 2 (by omega), hx 3 (by omega), hx 4 (by omega), hx 5 (by omega), hx 6 (by omega)⟩
abbrev OpX : Type := Option Addr × Nat × Nat × (Nat → OpR)
theorem i64_wf {x : Int} (h : (Lit.int .i64 x).wf = true) : inI x := by
  have := Go.bounds_i64 h
  unfold inI; omega
set_option maxRecDepth 100000 in
theorem one_op {H : Type} {enc : TypeId × Value → H} {W : World} {fuel : Nat} {cs : List Value} {y : DataW H × List MemPlace} (h : DataW.trod enc Try.prog W 0 (fun _ => true) true fuel 34 cs = some y) : ∃ z : OpR, cs = opE z ∧ OpOk W z := by
  obtain ⟨xs, n, -, -, hl, hlen, hf⟩ := DataW.trod_struct Try.underlying34 h
  have hC : Try.prog.cellsOf 34 = 7 := by kernel_rfl
  have c1 : Try.prog.cellsOf 3 = 1 := by kernel_rfl
  have c2 : Try.prog.cellsOf 5 = 1 := by kernel_rfl
  have c3 : Try.prog.cellsOf 25 = 3 := by kernel_rfl
  have c4 : Try.prog.cellsOf 23 = 1 := by kernel_rfl
  rw [hC] at hl
  match cs, hl with
  | [x0, x1, x2, x3, x4, x5, x6], _ =>
    match xs, hlen with
    | [y0, y1, y2, y3, y4], _ =>
      have t0 := hf 0 _ rfl
      have t1 := hf 1 _ rfl
      have t2 := hf 2 _ rfl
      have t3 := hf 3 _ rfl
      have t4 := hf 4 _ rfl
      simp [c1, c2, c3] at t0 t1 t2 t3 t4
      obtain ⟨a0, e0, -, v0⟩ := DataW.trod_int Try.underlying3 t0
      obtain ⟨a1, e1, -, v1⟩ := DataW.trod_int Try.underlying3 t1
      obtain ⟨a2, e2, -, v2⟩ := DataW.trod_int Try.underlying5 t2
      obtain ⟨a3, e3, -, v3⟩ := DataW.trod_int Try.underlying3 t3
      obtain ⟨z0, z1, z2, n', -, -, s0, s1, s2⟩ := trod_struct3 Try.underlying25 t4
      simp only [c1, c4, List.drop, List.take] at s0 s1 s2
      obtain ⟨a5, e5, -, v5⟩ := DataW.trod_int Try.underlying3 s1
      obtain ⟨a6, e6, -, v6⟩ := DataW.trod_int Try.underlying3 s2
      simp at e0 e1 e2 e3 e5 e6
      subst e0 e1 e2 e3 e5 e6
      obtain ⟨b0, b1⟩ := Go.bounds_u8 v2
      have hu : (((UInt8.ofNat a2.toNat).toNat : Nat) : Int) = a2 := by
        have : (UInt8.ofNat a2.toNat).toNat = a2.toNat % 256 := by simp [UInt8.toNat_ofNat']
        rw [this]; omega
      rcases open_ints Try.underlying23 Try.underlying5 (by kernel_rfl) s0 with ⟨hcs, _⟩ | ⟨a', len', cap', zs, hcs, hb', hl', hm', hz, _, hcell, hwz⟩
      · have e4 : x4 = .slice none 0 0 := by simpa using hcs
        refine ⟨⟨a0, a1, UInt8.ofNat a2.toNat, a3, none, 0, [], a5, a6⟩, ?_, .inl rfl, fun _ => rfl, Nat.le_refl _, Nat.zero_le _, i64_wf v0, i64_wf v1, i64_wf v3, i64_wf v5, i64_wf v6⟩
        unfold opE
        rw [hu, e4]; rfl
      · have hz' : zs.length = cap' := by simpa using hz
        obtain ⟨l, hl, hr⟩ := IsRow.bytes (w := W) (.inr ⟨a', rfl, hl', hm', hz', hcell, hwz⟩ : IsRow .u8 W (some a') len' cap' zs)
        have e4 : x4 = .slice (some a') len' cap' := by simpa using hcs
        refine ⟨⟨a0, a1, UInt8.ofNat a2.toNat, a3, some a', cap', l, a5, a6⟩, ?_, hr, (fun h => by cases h), by rw [hl]; exact hl', hm', i64_wf v0, i64_wf v1, i64_wf v3, i64_wf v5, i64_wf v6⟩
        unfold opE
        rw [hu, e4, ← hl]
def zero_t22 : Value := .slice none 0 0
theorem open_t22 {H : Type} {enc : TypeId × Value → H} {W : World} {base : Nat} {v : Value} {d : DataW H} {p : List MemPlace} (hv : Value.okWide Try.prog W .any base 22 v) (h : DataW.Trod enc Try.prog W 0 (fun _ => true) true 22 v d p) :
    ∃ x : OpX, v = .slice x.1 x.2.1 x.2.2.1 ∧ RdOps W x.1 x.2.1 x.2.2.1 x.2.2.2 := by
  obtain ⟨a, len, cap, rfl⟩ := okWide_slice Try.underlying22 hv
  obtain ⟨fuel, hf⟩ := h
  obtain ⟨A, len', cap', F, hcs, h1, h2, h3, h4, h5⟩ := open_rowsQ (n := 7) opE (OpOk W) (by omega) Try.underlying22 (by kernel_rfl) (fun z => rfl) (fun _ _ _ h => one_op h) hf
  simp [Value.cells] at hcs
  obtain ⟨rfl, rfl, rfl⟩ := hcs
  exact ⟨(a, len, cap, F), rfl, h1, h2, h3, h4, h5⟩
/-- Are the calls few and short enough? -/
def SmallO (n : Nat) (g : Nat → OpR) : Prop := n ≤ 400 ∧ ∀ i, i < n → (g i).kp.length ≤ 64 ∧ (g i).L ≤ 300
set_option maxHeartbeats 8000000 in
theorem great_calls (W : World) (A : Option Addr) (n c : Nat) (g : Nat → OpR) (h : RdOps W A n c g) :
    Calls Try.prog 8 #[.slice A n c] W fun e w' => (∃ G : Int, e = .returned (.int .i64 G) ∧ (G = 0 ∨ G = 1) ∧ (G = 0 ↔ SmallO n g)) ∧ Below W.heap.size W w' := by
  by_cases hn : n ≤ 400
  · have kn : decide ((n : Int) > 400) = false := decide_eq_false (by omega)
    have HR := Lib.hid h
    have Hn := Lib.hid hn
    clear h hn
    go_enter Try.func8, Try.ntmps8
    go_wp2_with fail
    go_loopw [3, 9] (fun _ iv wr => ∃ k : Nat, k ≤ n ∧ iv = .int .i64 k ∧ (∀ j, j < k → (g j).kp.length ≤ 64 ∧ (g j).L ≤ 300) ∧ Below W.heap.size W wr) (fun _ iv _ => n - (intOf iv).toNat)
    case atStart => exact ⟨0, by omega, rfl, fun j hj => absurd hj (by omega), Below.refl _ _⟩
    case round =>
      obtain ⟨k, hk, rfl, hall, hb⟩ := hrel
      by_cases hlt : k < n
      · have hI : (k : Int) < (n : Int) := by omega
        have hk0 : (0 : Int) ≤ (k : Int) := by omega
        obtain ⟨b, off, rfl, -, -, -, -, q3, q4, -, -⟩ := (HR.out.go hb).at_ hlt
        obtain ⟨z, hz⟩ : ∃ z, g k = z := ⟨_, rfl⟩
        rw [hz] at q3 q4
        have X1 := Lib.hid (wrap64_in' ((k : Int) + 1) (by have := Hn.out; omega))
        have Hz := Lib.hid hz
        have Hk := Lib.hid (And.intro hlt (And.intro hall hb))
        by_cases h1 : (z.kp.length : Int) > 64
        · have k1 : decide ((z.kp.length : Int) > 64) = true := decide_eq_true h1
          have HP := Lib.hid (show (∃ G : Int, Ending.returned (Value.int .i64 1) = .returned (.int .i64 G) ∧ (G = 0 ∨ G = 1) ∧ (G = 0 ↔ SmallO n g)) ∧ Below W.heap.size W wr from ⟨⟨1, rfl, .inr rfl, by simp, fun hs => by have := (hs.2 k hlt).1; rw [hz] at this; omega⟩, hb⟩)
          clear hz hall hb hlt hk h1
          go_wp2_with fail
          go_ret
          exact HP.out
        · have k1 : decide ((z.kp.length : Int) > 64) = false := decide_eq_false h1
          by_cases h2 : z.L > 300
          · have k2 : decide (z.L > 300) = true := decide_eq_true h2
            have HP := Lib.hid (show (∃ G : Int, Ending.returned (Value.int .i64 1) = .returned (.int .i64 G) ∧ (G = 0 ∨ G = 1) ∧ (G = 0 ↔ SmallO n g)) ∧ Below W.heap.size W wr from ⟨⟨1, rfl, .inr rfl, by simp, fun hs => by have := (hs.2 k hlt).2; rw [hz] at this; omega⟩, hb⟩)
            clear hz hall hb hlt hk h1 h2
            go_wp2_with fail
            go_ret
            exact HP.out
          · have k2 : decide (z.L > 300) = false := decide_eq_false h2
            have H2 := Lib.hid (And.intro h1 h2)
            clear hz hall hb hlt hk h1 h2
            go_wp2_with fail
            rw [X1.out]
            obtain ⟨hlt, hall, hb⟩ := Hk.out
            refine ⟨⟨k + 1, hlt, by push_cast; rfl, fun j hj => ?_, hb⟩, by simp [intOf]; omega⟩
            by_cases e : j = k
            · rw [e, Hz.out]; have := H2.out; omega
            · exact hall j (by omega)
      · obtain rfl : k = n := by omega
        have HP := Lib.hid (show (∃ G : Int, Ending.returned (Value.int .i64 0) = .returned (.int .i64 G) ∧ (G = 0 ∨ G = 1) ∧ (G = 0 ↔ SmallO k g)) ∧ Below W.heap.size W wr from ⟨⟨0, rfl, .inl rfl, fun _ => ⟨Hn.out, hall⟩, fun _ => rfl⟩, hb⟩)
        clear hall hb hlt hk
        go_wp2_with fail
        go_ret
        exact HP.out
  · have kn : decide ((n : Int) > 400) = true := decide_eq_true (by omega)
    have HP := Lib.hid (show (∃ G : Int, Ending.returned (Value.int .i64 1) = .returned (.int .i64 G) ∧ (G = 0 ∨ G = 1) ∧ (G = 0 ↔ SmallO n g)) ∧ Below W.heap.size W W from ⟨⟨1, rfl, .inr rfl, by simp, fun hs => absurd hs.1 hn⟩, Below.refl _ _⟩)
    clear h hn
    go_enter Try.func8, Try.ntmps8
    go_wp2_with fail
    go_ret
    exact HP.out
end Go.Proofs.Ytpleaicpkpjkjaa
