/-
  Texts that the proof leans on, merged by program, part 13. Conditions stand at each theorem.
-/
import Derived.Test.YtgbkedjjgbhcmaaDoorTarM1
import Derived.Test.YtgbkedjjgbhcmaaDoorTarM2
import Derived.Test.YtgbkedjjgbhcmaaDoorTarM3
import Derived.Test.YtgbkedjjgbhcmaaDoorTarM12
import Derived.Test.YtgbkedjjgbhcmaaDoorChecked
import Derived.LoopTactic
import Derived.Lib.Hide
import Derived.Laws.Rows
import Derived.Laws.Tables
import Derived.Deep.WholeRow
import Derived.BigRegion
import Derived.Deep.Draws
import Derived.Lib.SmallJoins
import Derived.Test.YtgbkedjjgbhcmaaDoorTie
import Derived.LaidMore
import Derived.Lay
import Derived.OpenShut
/-
  A purse's 512 rests in memory: its cells. Conditions stand at each theorem.
-/
namespace Go.Proofs.YtgbkedjjgbhcmaaDoor
open Go Go.RowKit Go.Kw
set_option linter.unusedVariables false
set_option linter.unusedSimpArgs false

def purC (f : Nat → Int) : Array Value := ((List.range 512).map fun i => Value.int .i64 (f i)).toArray
def updP (f : Nat → Int) (j : Nat) (v : Int) : Nat → Int := fun i => if i = j then v else f i
/-- The place of a meter's band. -/
def ixP (m k : Int) : Nat := m.toNat * 8 + k.toNat
section
variable {f g : Nat → Int}
theorem purC_size : (purC f).size = 512 := by simp [purC]
theorem purC_at (i : Nat) (h : i < 512) : (purC f)[i]? = some (.int .i64 (f i)) := by simp [purC, h]
theorem purC_set (j : Nat) (v : Int) : (purC f).setIfInBounds j (.int .i64 v) = purC (updP f j v) := by
  apply Array.ext_getElem?
  intro i
  rw [Array.getElem?_setIfInBounds]
  by_cases hi : i < 512
  · rw [purC_at i hi, purC_at i hi]
    by_cases hj : j = i
    · subst hj; rw [if_pos rfl, if_pos (by rw [purC_size]; omega)]; unfold updP; rw [if_pos rfl]
    · rw [if_neg hj]; unfold updP; rw [if_neg (by omega)]
  · by_cases hj : j = i
    · rw [if_pos hj, if_neg (by rw [purC_size]; omega), Array.getElem?_eq_none (by rw [purC_size]; omega)]
    · rw [if_neg hj, Array.getElem?_eq_none (by rw [purC_size]; omega), Array.getElem?_eq_none (by rw [purC_size]; omega)]
theorem updP_same (j : Nat) (v : Int) : updP f j v j = v := if_pos rfl
end
/-- A block that holds a purse (T is its type). -/
def PB (T : TypeId) (W : World) (b : Nat) (f : Nat → Int) : Prop := W.heap[b]? = some (.cells (purC f) T (0, 0))
section
variable {W W' : World} {T : TypeId} {b : Nat} {f g : Nat → Int}
theorem PB.lt (h : PB T W b f) : b < W.heap.size := (Array.getElem?_eq_some_iff.1 h).1
theorem PB.at_ (h : PB T W b f) (i : Nat) (hi : i < 512) : W.cell? ⟨b, i, none⟩ = some (.int .i64 (f i)) := (cell_of_row W b i _ _ _ h).trans (purC_at i hi)
theorem PB.fr (h : PB T W b f) (k : Nat) : W.frozen? ⟨b, k, none⟩ = false := frozen_of_row W b k _ _ h
theorem PB.below (h : PB T W b f) {B : Nat} (hb : Below B W W') (hB : b < B) : PB T W' b f := (hb.block b hB).trans h
theorem PB.next (h : PB T W b f) (hb : Below W.heap.size W W') : PB T W' b f := (hb.block b h.lt).trans h
theorem PB.new (T : TypeId) (W : World) (f : Nat → Int) : PB T (W.alloc (.cells (purC f) T)) W.heap.size f := World.alloc_heap_new W _
theorem PB.set (h : PB T W b f) (i : Nat) (v : Int) : PB T (W.setCell ⟨b, i, none⟩ (.int .i64 v)) b (updP f i v) := by
  have := heap_setCell_same W b i _ _ (.int .i64 v) h
  rw [purC_set i v] at this; exact this
theorem PB.far (h : PB T W b f) {p : Addr} (hp : b ≠ p.block) (v : Value) : PB T (W.setCell p v) b f := (heap_setCell_other W p b v hp).trans h
end
/-- Only the block b may have been written, of all that were there; what is new lies behind. -/
def Only (b : Nat) (w w' : World) : Prop := ∃ w1, Below w.heap.size w w1 ∧ (w' = w1 ∨ ∃ i v, w' = w1.setCell ⟨b, i, none⟩ v)
theorem Only.keep {b : Nat} {w w1 : World} (h : Below w.heap.size w w1) : Only b w w1 := ⟨w1, h, .inl rfl⟩
theorem Only.put {b : Nat} {w w1 : World} (h : Below w.heap.size w w1) (i : Nat) (v : Value) : Only b w (w1.setCell ⟨b, i, none⟩ v) := ⟨w1, h, .inr ⟨i, v, rfl⟩⟩
theorem Only.size {b : Nat} {w w' : World} (h : Only b w w') : w.heap.size ≤ w'.heap.size := by
  obtain ⟨w1, h1, rfl | ⟨i, v, rfl⟩⟩ := h
  · exact h1.size
  · simpa using h1.size
theorem Only.other {b c : Nat} {w w' : World} {T : TypeId} {f : Nat → Int} (h : Only b w w') (hp : PB T w c f) (hc : c ≠ b) : PB T w' c f := by
  obtain ⟨w1, h1, rfl | ⟨i, v, rfl⟩⟩ := h
  · exact hp.next h1
  · exact (hp.next h1).far (by exact hc) v
theorem Only.below {b B : Nat} {w0 w w' : World} (h : Only b w w') (hw : Below B w0 w) (hb : B ≤ b) (hs : B ≤ w.heap.size) : Below B w0 w' := by
  obtain ⟨w1, h1, rfl | ⟨i, v, rfl⟩⟩ := h
  · exact hw.trans (h1.mono hs)
  · exact (hw.trans (h1.mono hs)).setCell (by exact hb) v
theorem below_refl_pos (w : World) : Below w.heap.size w w := Below.refl _ w
/-- May there be such a meter and band? -/
def okMB (m k : Int) : Prop := 0 ≤ m ∧ m ≤ 63 ∧ 0 ≤ k ∧ k ≤ 7
instance (m k : Int) : Decidable (okMB m k) := by unfold okMB; infer_instance
theorem ixP_lt {m k : Int} (h : okMB m k) : ixP m k < 512 := by unfold okMB at h; unfold ixP; omega
/-- What a pay has to be for there to be an answer. -/
def okPay (m k n p : Int) : Prop := 0 ≤ m ∧ m ≤ 63 ∧ 0 ≤ k ∧ k ≤ 7 ∧ 0 ≤ n ∧ n ≤ 4611686018427387904 ∧ 0 ≤ p ∧ p ≤ 1073741824
instance (m k n p : Int) : Decidable (okPay m k n p) := by unfold okPay; infer_instance
/-- What a pay is told. -/
def payV (m k n p : Int) (f : Nat → Int) : Int × Int :=
  if okPay m k n p then if (n * p + f (ixP m k)) / 1000000 ≤ 4611686018427387904 then ((n * p + f (ixP m k)) / 1000000, 0) else (0, 10) else (0, 2)
/-- The rests behind a pay. -/
def payF (m k n p : Int) (f : Nat → Int) : Nat → Int :=
  if okPay m k n p ∧ (n * p + f (ixP m k)) / 1000000 ≤ 4611686018427387904 then updP f (ixP m k) ((n * p + f (ixP m k)) % 1000000) else f
/-- Rests that may be. -/
def okF (f : Nat → Int) : Prop := ∀ i, 0 ≤ f i ∧ f i < 1000000
theorem okF.upd {f : Nat → Int} (h : okF f) (j : Nat) (v : Int) (hv : 0 ≤ v ∧ v < 1000000) : okF (updP f j v) := by
  intro i; unfold updP; split
  · exact hv
  · exact h i
theorem okF.pay {f : Nat → Int} (h : okF f) (m k n p : Int) : okF (payF m k n p f) := by
  unfold payF; split
  · exact h.upd _ _ (by omega)
  · exact h
/-- The rests behind a Back, and what it is told. -/
def backF (m k r : Int) (f : Nat → Int) : Nat → Int := if okMB m k ∧ 0 ≤ r ∧ r < 1000000 then updP f (ixP m k) r else f
def backV (m k r : Int) : Int := if okMB m k ∧ 0 ≤ r ∧ r < 1000000 then 0 else 2
theorem okF.back {f : Nat → Int} (h : okF f) (m k r : Int) : okF (backF m k r f) := by
  unfold backF; split
  · exact h.upd _ _ (by omega)
  · exact h
def restV (m k : Int) (f : Nat → Int) : Int := if okMB m k then f (ixP m k) else 0
/-- What the numbers' parts are, of a pay that may be. -/
theorem pay_cases (m k n p : Int) (f : Nat → Int) (hf : okF f) (h : okPay m k n p) : ∃ N P R : Nat, n = N ∧ p = P ∧ f (ixP m k) = R ∧ R < 1000000 ∧ N ≤ 4611686018427387904 ∧ P ≤ 1073741824 ∧
    ((∃ q r : Nat, carryV N P 1000000 R = .tuple #[.int .u64 q, .int .u64 r, .int .i64 0] ∧ q ≤ 4611686018427387904 ∧ r < 1000000 ∧ payV m k n p f = ((q : Int), 0) ∧ payF m k n p f = updP f (ixP m k) (r : Int)) ∨
      (∃ q r : Nat, carryV N P 1000000 R = .tuple #[.int .u64 q, .int .u64 r, .int .i64 0] ∧ 4611686018427387904 < q ∧ payV m k n p f = (0, 10) ∧ payF m k n p f = f) ∨
      (carryV N P 1000000 R = .tuple #[.int .u64 0, .int .u64 0, .int .i64 10] ∧ payV m k n p f = (0, 10) ∧ payF m k n p f = f)) := by
  have hm := h
  unfold okPay at hm
  obtain ⟨N, rfl⟩ := Int.eq_ofNat_of_zero_le hm.2.2.2.2.1
  obtain ⟨P, rfl⟩ := Int.eq_ofNat_of_zero_le hm.2.2.2.2.2.2.1
  obtain ⟨h0, h1⟩ := hf (ixP m k)
  obtain ⟨R, hR⟩ := Int.eq_ofNat_of_zero_le h0
  refine ⟨N, P, R, rfl, rfl, hR, by omega, by omega, by omega, ?_⟩
  obtain ⟨S, hS⟩ : ∃ S, N * P + R = S := ⟨_, rfl⟩
  have hSi : (N : Int) * P + R = (S : Int) := by rw [← hS]; push_cast; rfl
  have e1 : payV m k N P f = if S / 1000000 ≤ 4611686018427387904 then ((((S / 1000000 : Nat) : Int), 0) : Int × Int) else (0, 10) := by
    unfold payV
    rw [if_pos h, hR, hSi]
    by_cases hq : S / 1000000 ≤ 4611686018427387904
    · rw [if_pos hq, if_pos (by omega)]; rfl
    · rw [if_neg hq, if_neg (by omega)]
  have e2 : payF m k N P f = if S / 1000000 ≤ 4611686018427387904 then updP f (ixP m k) (((S % 1000000 : Nat)) : Int) else f := by
    unfold payF
    rw [hR, hSi]
    by_cases hq : S / 1000000 ≤ 4611686018427387904
    · rw [if_pos hq, if_pos ⟨h, by omega⟩]; rfl
    · rw [if_neg hq, if_neg (by omega)]
  rw [e1, e2, ← hS]
  by_cases ho : 1000000 ≤ (N * P + R) / 18446744073709551616
  · have h9 : ¬ (N * P + R) / 1000000 < 18446744073709551616 := fun h8 => absurd ((over_iff (N * P + R) 1000000 (by omega)).1 h8) (by omega)
    have hq : ¬ (N * P + R) / 1000000 ≤ 4611686018427387904 := by omega
    exact .inr (.inr ⟨carry_over N P 1000000 R (by omega) (by omega) ho, if_neg hq, if_neg hq⟩)
  · have e := carry_fine N P 1000000 R (by omega) (by omega) (by omega)
    by_cases hq : (N * P + R) / 1000000 ≤ 4611686018427387904
    · exact .inl ⟨_, _, e, hq, Nat.mod_lt _ (by omega), if_pos hq, if_pos hq⟩
    · exact .inr (.inl ⟨_, _, e, by omega, if_neg hq, if_neg hq⟩)
/-! whole rows -/
section
variable {b : Nat} {f : Nat → Int}
theorem pur_info : (Tryd.prog.info? 28).map (fun i => (i.zero, i.size)) = some (some (Value.agg (purC fun _ => 0)), 512) := by kernel_rfl
theorem pur_zero (w : World) : (zeroValue 28).run Tryd.prog w = .ok (.agg (purC fun _ => 0)) w := (zero_of_info pur_info).1 w
theorem pur_sizeC (f : Nat → Int) : (Tryd.prog.info? 28).map (·.size) = some (purC f).size := by rw [purC_size]; exact (zero_of_info pur_info).2
theorem pur_one (f : Nat → Int) : (purC f).all (·.oneCell') = true := by
  unfold purC
  simp [Value.oneCell']
theorem ld_pur {ops : Array Oper} {rest : List Oper} {o : Oper} {a : Act} {w : World} {Q : Exit → Act → World → Prop} {g : Nat} {f : Nat → Int} (h : PB 28 w g f) (hgd : o.guard = none) (x : Operand) (ho : o.op = .load 28 x) (hx : a.eval x = .pointer (some ⟨g, 0, none⟩))
    (k : wpList Tryd.prog ops Q rest (a.put o.dst (.agg (purC f))) w) : wpList Tryd.prog ops Q (o :: rest) a w :=
  wpList_load_row hgd 28 x ho g hx 28 _ (0, 0) _ h Tryd.underlying28 rfl (pur_sizeC _) k
theorem st_pur {ops : Array Oper} {rest : List Oper} {o : Oper} {a : Act} {w : World} {Q : Exit → Act → World → Prop} {g : Nat} {f : Nat → Int} (h : PB 28 w g f) (hgd : o.guard = none) (x y : Operand) (ho : o.op = .store 28 x y) (hx : a.eval x = .pointer (some ⟨g, 0, none⟩)) (f' : Nat → Int) (hy : a.eval y = .agg (purC f'))
    (k : wpList Tryd.prog ops Q rest (a.put o.dst undef) (w.setRow g (purC f'))) : wpList Tryd.prog ops Q (o :: rest) a w :=
  wpList_store_row hgd 28 x y ho g _ hx hy 28 _ h (pur_sizeC _) (by rw [purC_size, purC_size]) (pur_one _) k
end
end Go.Proofs.YtgbkedjjgbhcmaaDoor

/-
  Pay of both purses, walked. Conditions stand at each theorem.
-/
namespace Go.Proofs.YtgbkedjjgbhcmaaDoor
open Go Go.RowKit Go.Kw
set_option linter.unusedVariables false
set_option linter.unusedSimpArgs false

set_option maxHeartbeats 4000000 in
theorem pmay_ok (m k : Int) (h : okMB m k) (b : Nat) (w : World) :
    Calls Tryd.prog 20 #[.pointer (some ⟨b, 0, none⟩), .int .i64 m, .int .i64 k] w fun e w' => e = .returned (.int .i64 0) ∧ w' = w := by
  unfold okMB at h
  go_enter Tryd.func20, Tryd.ntmps20
  go_wp2_with fail
  all_goals first | (go_ret; exact ⟨rfl, rfl⟩) | (exfalso; omega)
set_option maxHeartbeats 4000000 in
theorem pmay_bad (m k : Int) (h : ¬ okMB m k) (b : Nat) (w : World) :
    Calls Tryd.prog 20 #[.pointer (some ⟨b, 0, none⟩), .int .i64 m, .int .i64 k] w fun e w' => e = .returned (.int .i64 2) ∧ w' = w := by
  unfold okMB at h
  have H := Lib.hid h
  clear h
  go_enter Tryd.func20, Tryd.ntmps20
  go_wp2_with fail
  all_goals first | (go_ret; exact ⟨rfl, rfl⟩) | (exfalso; have := H.out; omega)
/-- What a pay's walk needs of memory. -/
def PayPost (T : TypeId) (b : Nat) (m k n p : Int) (f : Nat → Int) (w w' : World) : Prop := PB T w' b (payF m k n p f) ∧ Only b w w'
set_option maxHeartbeats 4000000 in
theorem pay_calls (m k n p : Int) (f : Nat → Int) (b : Nat) (w : World) (hf : okF f) (hb : PB 28 w b f) :
    Calls Tryd.prog 9 #[.pointer (some ⟨b, 0, none⟩), .int .i64 m, .int .i64 k, .int .i64 n, .int .i64 p] w fun e w' =>
      e = .returned (.tuple #[.int .i64 (payV m k n p f).1, .int .i64 (payV m k n p f).2]) ∧ PayPost 28 b m k n p f w w' := by
  by_cases hp : okPay m k n p
  · obtain ⟨N, P, R, rfl, rfl, hR, hR2, hN, hP, hc⟩ := pay_cases m k n p f hf hp
    have hC := carry_calls N P 1000000 R (by omega) (by omega) (by omega) (by omega) (by omega)
    have hmb : okMB m k := by unfold okPay at hp; exact ⟨hp.1, hp.2.1, hp.2.2.1, hp.2.2.2.1⟩
    have HM := Lib.hid (pmay_ok m k hmb b)
    have c0 := hb.at_ (ixP m k) (ixP_lt hmb)
    rw [hR] at c0
    replace c0 : w.cell? ⟨b, m.toNat * 8 + k.toNat, none⟩ = some (.int .i64 (R : Int)) := c0
    have f0 := hb.fr (m.toNat * 8 + k.toNat)
    unfold okPay at hp
    have kR : IntKind.u64.wrap (R : Int) = R := by rw [IntKind.wrap_u64]; omega
    have kN : IntKind.u64.wrap (N : Int) = N := by rw [IntKind.wrap_u64]; omega
    have kP : IntKind.u64.wrap (P : Int) = P := by rw [IntKind.wrap_u64]; omega
    rcases hc with ⟨q, r, e1, hq, hr, e2, e3⟩ | ⟨q, r, e1, hq, e2, e3⟩ | ⟨e1, e2, e3⟩
    · rw [e1] at hC
      unfold PayPost
      rw [e2, e3]
      have HC := Lib.hid hC
      clear e1 e2 e3 hC hR
      have k1 : decide ((q : Int) > 4611686018427387904) = false := by simp; omega
      have k2 : IntKind.i64.wrap (q : Int) = q := by rw [IntKind.wrap_i64]; omega
      have k3 : wrap64 (q : Int) = q := by unfold wrap64; omega
      have k4 : IntKind.i64.wrap (r : Int) = r := by rw [IntKind.wrap_i64]; omega
      have k5 : wrap64 (r : Int) = r := by unfold wrap64; omega
      go_enter Tryd.func9, Tryd.ntmps9
      go_wp2_with fail
      refine (HM.out _).mono ?_
      rintro e w1 ⟨rfl, rfl⟩
      go_wp2_with fail
      refine (HC.out _).mono ?_
      rintro e w2 ⟨rfl, hb2⟩
      have hb3 := hb.next hb2
      have HE := Lib.hid (show PB 28 (w2.setCell ⟨b, m.toNat * 8 + k.toNat, none⟩ (.int .i64 (r : Int))) b (updP f (ixP m k) r) ∧ Only b w1 (w2.setCell ⟨b, m.toNat * 8 + k.toNat, none⟩ (.int .i64 (r : Int))) from ⟨hb3.set (ixP m k) r, Only.put hb2 _ _⟩)
      replace c0 := hb3.at_ (ixP m k) (ixP_lt hmb)
      replace c0 : w2.cell? ⟨b, m.toNat * 8 + k.toNat, none⟩ = some (.int .i64 (f (ixP m k))) := c0
      replace f0 := hb3.fr (m.toNat * 8 + k.toNat)
      clear hb3 hb2 hb
      go_wp2_with fail
      go_ret2
      exact ⟨rfl, HE.out⟩
    · rw [e1] at hC
      unfold PayPost
      rw [e2, e3]
      have HC := Lib.hid hC
      clear e1 e2 e3 hC hR
      have k1 : decide ((q : Int) > 4611686018427387904) = true := by simp; omega
      go_enter Tryd.func9, Tryd.ntmps9
      go_wp2_with fail
      refine (HM.out _).mono ?_
      rintro e w1 ⟨rfl, rfl⟩
      go_wp2_with fail
      refine (HC.out _).mono ?_
      rintro e w2 ⟨rfl, hb2⟩
      have HE := Lib.hid (show PB 28 w2 b f ∧ Only b w1 w2 from ⟨hb.next hb2, Only.keep hb2⟩)
      clear hb2 hb c0 f0
      go_wp2_with fail
      go_ret2
      exact ⟨rfl, HE.out⟩
    · rw [e1] at hC
      unfold PayPost
      rw [e2, e3]
      have HC := Lib.hid hC
      clear e1 e2 e3 hC hR
      go_enter Tryd.func9, Tryd.ntmps9
      go_wp2_with fail
      refine (HM.out _).mono ?_
      rintro e w1 ⟨rfl, rfl⟩
      go_wp2_with fail
      refine (HC.out _).mono ?_
      rintro e w2 ⟨rfl, hb2⟩
      have HE := Lib.hid (show PB 28 w2 b f ∧ Only b w1 w2 from ⟨hb.next hb2, Only.keep hb2⟩)
      clear hb2 hb c0 f0
      go_wp2_with fail
      go_ret2
      exact ⟨rfl, HE.out⟩
  · have e2 : payV m k n p f = (0, 2) := if_neg hp
    have e3 : payF m k n p f = f := if_neg (fun h => hp h.1)
    unfold PayPost
    rw [e2, e3]
    clear e2 e3
    have HE := Lib.hid (show PB 28 w b f ∧ Only b w w from ⟨hb, Only.keep (Below.refl _ w)⟩)
    by_cases hmb : okMB m k
    · have HM := Lib.hid (pmay_ok m k hmb b)
      have H : Hid (¬ (0 ≤ n ∧ n ≤ 4611686018427387904 ∧ 0 ≤ p ∧ p ≤ 1073741824)) := Lib.hid (fun h => hp (by unfold okMB at hmb; unfold okPay; omega))
      clear hp hb hf hmb
      go_enter Tryd.func9, Tryd.ntmps9
      go_wp2_with fail
      refine (HM.out _).mono ?_
      rintro e w1 ⟨rfl, rfl⟩
      go_wp2_with fail
      all_goals first | (go_ret2; exact ⟨rfl, HE.out⟩) | (exfalso; have := H.out; omega)
    · have HM := Lib.hid (pmay_bad m k hmb b)
      clear hp hb hf hmb
      go_enter Tryd.func9, Tryd.ntmps9
      go_wp2_with fail
      refine (HM.out _).mono ?_
      rintro e w1 ⟨rfl, rfl⟩
      go_wp2_with fail
      go_ret2
      exact ⟨rfl, HE.out⟩
end Go.Proofs.YtgbkedjjgbhcmaaDoor

/-
  Back, Rest and Copy of the purses, walked. Conditions stand at each theorem.
-/
namespace Go.Proofs.YtgbkedjjgbhcmaaDoor
open Go Go.RowKit Go.Kw
set_option linter.unusedVariables false
set_option linter.unusedSimpArgs false

set_option maxHeartbeats 4000000 in
theorem back_calls (m k r : Int) (f : Nat → Int) (b : Nat) (w : World) (hb : PB 28 w b f) :
    Calls Tryd.prog 10 #[.pointer (some ⟨b, 0, none⟩), .int .i64 m, .int .i64 k, .int .i64 r] w fun e w' =>
      e = .returned (.int .i64 (backV m k r)) ∧ PB 28 w' b (backF m k r f) ∧ Only b w w' := by
  by_cases hp : okMB m k ∧ 0 ≤ r ∧ r < 1000000
  · have e2 : backV m k r = 0 := if_pos hp
    have e3 : backF m k r f = updP f (ixP m k) r := if_pos hp
    rw [e2, e3]
    clear e2 e3
    obtain ⟨hmb, hr⟩ := hp
    have c0 : w.cell? ⟨b, m.toNat * 8 + k.toNat, none⟩ = some (.int .i64 (f (ixP m k))) := hb.at_ (ixP m k) (ixP_lt hmb)
    have f0 := hb.fr (m.toNat * 8 + k.toNat)
    have HE := Lib.hid (show PB 28 (w.setCell ⟨b, m.toNat * 8 + k.toNat, none⟩ (.int .i64 r)) b (updP f (ixP m k) r) ∧ Only b w (w.setCell ⟨b, m.toNat * 8 + k.toNat, none⟩ (.int .i64 r)) from ⟨hb.set (ixP m k) r, Only.put (Below.refl _ w) _ _⟩)
    have HM := Lib.hid (pmay_ok m k hmb b)
    unfold okMB at hmb
    clear hb
    go_enter Tryd.func10, Tryd.ntmps10
    go_wp2_with fail
    refine (HM.out _).mono ?_
    rintro e w1 ⟨rfl, rfl⟩
    go_wp2_with fail
    all_goals first | (go_ret; exact ⟨rfl, HE.out⟩) | (exfalso; omega)
  · have e2 : backV m k r = 2 := if_neg hp
    have e3 : backF m k r f = f := if_neg hp
    rw [e2, e3]
    clear e2 e3
    have HE := Lib.hid (show PB 28 w b f ∧ Only b w w from ⟨hb, Only.keep (Below.refl _ w)⟩)
    by_cases hmb : okMB m k
    · have HM := Lib.hid (pmay_ok m k hmb b)
      have H : Hid (¬ (0 ≤ r ∧ r < 1000000)) := Lib.hid (fun h => hp ⟨hmb, h⟩)
      clear hp hb hmb
      go_enter Tryd.func10, Tryd.ntmps10
      go_wp2_with fail
      refine (HM.out _).mono ?_
      rintro e w1 ⟨rfl, rfl⟩
      go_wp2_with fail
      all_goals first | (go_ret; exact ⟨rfl, HE.out⟩) | (exfalso; have := H.out; omega)
    · have HM := Lib.hid (pmay_bad m k hmb b)
      clear hp hb hmb
      go_enter Tryd.func10, Tryd.ntmps10
      go_wp2_with fail
      refine (HM.out _).mono ?_
      rintro e w1 ⟨rfl, rfl⟩
      go_wp2_with fail
      go_ret
      exact ⟨rfl, HE.out⟩
set_option maxHeartbeats 4000000 in
theorem rest_calls (m k : Int) (f : Nat → Int) (b : Nat) (w : World) (hb : PB 28 w b f) :
    Calls Tryd.prog 8 #[.pointer (some ⟨b, 0, none⟩), .int .i64 m, .int .i64 k] w fun e w' =>
      e = .returned (.int .i64 (restV m k f)) ∧ w' = w := by
  by_cases hmb : okMB m k
  · have e2 : restV m k f = f (ixP m k) := if_pos hmb
    rw [e2]
    clear e2
    have c0 : w.cell? ⟨b, m.toNat * 8 + k.toNat, none⟩ = some (.int .i64 (f (ixP m k))) := hb.at_ (ixP m k) (ixP_lt hmb)
    have HM := Lib.hid (pmay_ok m k hmb b)
    unfold okMB at hmb
    clear hb
    go_enter Tryd.func8, Tryd.ntmps8
    go_wp2_with fail
    refine (HM.out _).mono ?_
    rintro e w1 ⟨rfl, rfl⟩
    go_wp2_with fail
    go_ret
    exact ⟨rfl, rfl⟩
  · have e2 : restV m k f = 0 := if_neg hmb
    rw [e2]
    clear e2
    have HM := Lib.hid (pmay_bad m k hmb b)
    clear hb hmb
    go_enter Tryd.func8, Tryd.ntmps8
    go_wp2_with fail
    refine (HM.out _).mono ?_
    rintro e w1 ⟨rfl, rfl⟩
    go_wp2_with fail
    go_ret
    exact ⟨rfl, rfl⟩
end Go.Proofs.YtgbkedjjgbhcmaaDoor

/-
  A purse's Copy, walked; a slice of calls that comes in, opened. Conditions stand at each theorem.
-/
namespace Go.Proofs.YtgbkedjjgbhcmaaDoor
open Go Go.RowKit Go.Kw Go.Joins Go.ChangeShapes Go.WideShapes Go.ChangeAt
set_option linter.unusedVariables false
set_option linter.unusedSimpArgs false

set_option maxRecDepth 100000 in
set_option maxHeartbeats 4000000 in
theorem copy_calls (f : Nat → Int) (b : Nat) (w : World) (hb : PB 28 w b f) :
    Calls Tryd.prog 16 #[.pointer (some ⟨b, 0, none⟩)] w fun e w' =>
      e = .returned (.pointer (some ⟨w.heap.size, 0, none⟩)) ∧ PB 28 w' w.heap.size f ∧ Below w.heap.size w w' := by
  have hz := pur_zero
  have h1 := PB.new 28 w (fun _ => 0)
  have hbl := (Below.refl w.heap.size w).alloc (Nat.le_refl _) (.cells (purC (fun _ => 0)) 28)
  have hb1 := hb.next hbl
  go_enter Tryd.func16, Tryd.ntmps16
  go_wp2_with (first | (refine' ld_pur (f := _) ?hh rfl _ rfl rfl ?_; case hh => with_reducible first | exact hb) | (refine' st_pur (f := _) ?hh rfl _ _ rfl rfl _ rfl ?_; case hh => with_reducible first | exact h1))
  go_ret
  refine ⟨rfl, setRow_heap _ _ _ _ _ _ h1, below_row hbl (Nat.le_refl _) _⟩
def kOp : Nat → IntKind := fun _ => .i64
set_option maxRecDepth 100000 in
theorem op_cells {H : Type} {enc : TypeId × Value → H} {W : World} {fuel : Nat} {cs : List Value} {y : DataW H × List MemPlace} (h : DataW.trod enc Tryd.prog W 0 (fun _ => true) true fuel 30 cs = some y) : IntCells 5 kOp cs := by
  refine struct_ints (fs := _) kOp Tryd.underlying30 (by kernel_rfl) (by kernel_rfl) ?_ h
  intro j hj
  have : j = 0 ∨ j = 1 ∨ j = 2 ∨ j = 3 ∨ j = 4 := by omega
  rcases this with rfl | rfl | rfl | rfl | rfl
  all_goals exact ⟨_, rfl, rfl, by kernel_rfl, by first | exact Tryd.underlying3 | exact Tryd.underlying2⟩
set_option maxRecDepth 100000 in
theorem open_t22 {H : Type} {enc : TypeId × Value → H} {W : World} {base : Nat} {v : Value} {d : DataW H} {p : List MemPlace} (hv : Value.okWide Tryd.prog W .any base 22 v) (h : DataW.Trod enc Tryd.prog W 0 (fun _ => true) true 22 v d p) :
    ∃ x : Option Addr × Nat × Nat × (Nat → Nat → Int), v = .slice x.1 x.2.1 x.2.2.1 ∧ IRows 5 kOp W x.1 x.2.1 x.2.2.1 x.2.2.2 := by
  obtain ⟨a, len, cap, rfl⟩ := okWide_slice Tryd.underlying22 hv
  obtain ⟨fuel, hf⟩ := h
  obtain ⟨A, l, c, g, e, hr⟩ := open_irows (by omega) Tryd.underlying22 (show Tryd.prog.cellsOf 30 = 5 by kernel_rfl) (fun _ _ _ h => op_cells h) hf
  simp [Value.cells] at e
  obtain ⟨rfl, rfl, rfl⟩ := e
  exact ⟨(a, len, cap, g), rfl, hr⟩
end Go.Proofs.YtgbkedjjgbhcmaaDoor

/-
  The chapter's first examples: alive, walked. Conditions stand at each theorem.
-/
namespace Go.Proofs.YtgbkedjjgbhcmaaDoor
open Go Go.RowKit Go.Kw Go.Kw.Cv Go.Shelf
set_option linter.unusedVariables false
set_option linter.unusedSimpArgs false

theorem okF_0 : okF (fun _ => 0) := fun i => ⟨by show (0 : Int) ≤ 0; omega, by show (0 : Int) < 1000000; omega⟩
set_option maxRecDepth 100000 in
set_option maxHeartbeats 8000000 in
theorem talive_calls (w : World) (hL : Lens w) : Calls Tryd.prog 7 #[] w fun e w' => e = .returned (.bool true) ∧ Below w.heap.size w w' := by
  obtain ⟨b0, hb0⟩ : ∃ b0, w.heap.size = b0 := ⟨_, rfl⟩
  have Hb0 := Lib.hid hb0
  have hz := pur_zero
  have h1 := PB.new 28 w (fun _ => 0)
  have hbl := bstep w (.cells (purC (fun _ => 0)) 28)
  rw [hb0] at h1
  have hp1 := pay_calls 0 1 3999 250 (fun _ => 0) b0 _ okF_0 h1
  rw [show payV 0 1 3999 250 (fun _ => 0) = (0, 0) from rfl] at hp1
  have HP1 := Lib.hid hp1
  have HL := Lib.hid hL
  have HB0 := Lib.hid hbl
  clear hp1 h1 hbl hL
  go_enter Tryd.func7, Tryd.ntmps7
  go_wp2_with fail
  refine HP1.out.mono ?_
  rintro e w2 ⟨rfl, hp, ho⟩
  have hB2 : Below w.heap.size w w2 := ho.below HB0.out (by omega) (by simp)
  have hp2 := pay_calls 0 1 1 250 (payF 0 1 3999 250 (fun _ => 0)) b0 w2 (okF_0.pay 0 1 3999 250) hp
  rw [show payV 0 1 1 250 (payF 0 1 3999 250 (fun _ => 0)) = (1, 0) from rfl] at hp2
  have HP2 := Lib.hid hp2
  have HB2 := Lib.hid (And.intro hB2 ho.size)
  clear hp2 hp ho hB2
  go_wp2_with fail
  refine HP2.out.mono ?_
  rintro e w3 ⟨rfl, hp, ho⟩
  have hB3 : Below w.heap.size w w3 := ho.below HB2.out.1 (by omega) (HB2.out.1.size)
  have HI3 := Lib.hid (tis_calls 0 0 100 (by decide) (by omega) rfl rfl w3 (HL.out.go hB3))
  have HP3 := Lib.hid hp
  have HB3 := Lib.hid hB3
  clear hp ho hB3
  go_wp2_with fail
  refine HI3.out.mono ?_
  rintro e w4 ⟨rfl, hb4⟩
  have HB4 := Lib.hid (bnext HB3.out hb4)
  have HP4 := Lib.hid (HP3.out.next hb4)
  have HI4 := Lib.hid (tis_calls 18000 1 250 (by decide) (by omega) rfl rfl w4 (HL.out.go HB4.out))
  clear hb4
  go_wp2_with fail
  refine HI4.out.mono ?_
  rintro e w5 ⟨rfl, hb5⟩
  have HB5 := Lib.hid (bnext HB4.out hb5)
  have HP5 := Lib.hid (HP4.out.next hb5)
  have HI5 := Lib.hid (tis_calls 17999 0 100 (by decide) (by omega) rfl rfl w5 (HL.out.go HB5.out))
  clear hb5
  go_wp2_with fail
  refine HI5.out.mono ?_
  rintro e w6 ⟨rfl, hb6⟩
  have HB6 := Lib.hid (bnext HB5.out hb6)
  have HP6 := Lib.hid (HP5.out.next hb6)
  have HI6 := Lib.hid (tis_calls 277200 0 100 (by decide) (by omega) rfl rfl w6 (HL.out.go HB6.out))
  clear hb6
  go_wp2_with fail
  refine HI6.out.mono ?_
  rintro e w7 ⟨rfl, hb7⟩
  have HB7 := Lib.hid (bnext HB6.out hb7)
  have hr := rest_calls 0 1 _ b0 w7 (HP6.out.next hb7)
  rw [show restV 0 1 (payF 0 1 1 250 (payF 0 1 3999 250 (fun _ => 0))) = 0 from rfl] at hr
  have HR := Lib.hid hr
  clear hr hb7
  go_wp2_with fail
  refine HR.out.mono ?_
  rintro e w8 ⟨rfl, rfl⟩
  go_wp2_with fail
  go_ret
  exact ⟨rfl, by first | exact HB7.out | (rw [Hb0.out]; exact HB7.out)⟩
end Go.Proofs.YtgbkedjjgbhcmaaDoor

/-
  The laid table of months' days, as the walks want it. Conditions stand at each theorem.
-/
namespace Go.Proofs.YtgbkedjjgbhcmaaDoor
open Go Go.RowKit Go.Kw Go.Kw.Cv Go.ChangeShapes Go.WideShapes

theorem lens_laid {W : World} (h : laidMetH Tryd.prog [("kilowatt/civil.lengths", Rows.laid_kilowatt_civil_lengths)] W) : Lens W := by
  rw [MakeChecks.laidMetH_plain _ _ _ (by kernel_rfl)] at h
  obtain ⟨ps, ⟨g, t, cs, fuel, p, q, hg, ht, hv, hd, _, _⟩, _, _⟩ := h
  obtain rfl := Option.some.inj ((show Tryd.prog.globalNamed "kilowatt/civil.lengths" = some 2 by kernel_rfl).symm.trans hg)
  obtain rfl := Option.some.inj ((show (Tryd.prog.globals[2]?).map (·.type) = some 178 by kernel_rfl).symm.trans ht)
  obtain ⟨xs, m, _, ex, _, hl, hel⟩ := DataW.trod_array Tryd.underlying178 hd
  have c5 : Tryd.prog.cellsOf 3 = 1 := by kernel_rfl
  intro r hr
  have hE := hel r hr
  rw [c5, Nat.mul_one, List.getElem?_eq_getElem (by omega)] at hE
  obtain ⟨z, e1, e2, _⟩ := DataW.trod_int Tryd.underlying3 hE
  have hlen : lenZ.length = 12 := rfl
  have e3 : (xs.map (·.1)) = lenZ.map fun n => .lit (.int .i64 n) := (DataW.agg.inj (Prod.mk.inj ex).1).symm
  have e4 : (xs.map (·.1))[r]? = (lenZ.map fun n => (DataW.lit (.int .i64 n) : DataW Unit))[r]? := by rw [e3]
  rw [List.getElem?_map, List.getElem?_map, List.getElem?_eq_getElem (by omega : r < xs.length), List.getElem?_eq_getElem (by omega : r < lenZ.length), e2] at e4
  have hz : z = lenZ.getD r 0 := by
    simp only [Option.map_some, Option.some.injEq, DataW.lit.injEq, Lit.int.injEq, true_and] at e4
    rw [e4, List.getD, List.getElem?_eq_getElem (by omega : r < lenZ.length)]; rfl
  rw [World.var?_cell hg hv r, ← hz]
  have : cs.toList[r]? = some (.int .i64 z) := by
    have h0 : ((cs.toList.drop r).take 1)[0]? = some (.int .i64 z) := by rw [e1]; rfl
    simpa using h0
  simpa using this
end Go.Proofs.YtgbkedjjgbhcmaaDoor
