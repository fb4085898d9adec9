/-
  A purse's 512 rests in memory: its cells. Conditions stand at each theorem.
-/
import Derived.Test.YtbbbjgilbddabaaMeterEn
import Derived.Test.YtbbbjgilbddabaaBase
import Derived.Test.YtbbbjgilbddabaaChecked
import Derived.LoopTactic
import Derived.Lib.Hide
import Derived.Laws.Rows
import Derived.Laws.Tables
import Derived.Deep.WholeRow
import Derived.BigRegion
import Derived.Deep.Draws
namespace Go.Proofs.Ytbbbjgilbddabaa
open Go Go.RowKit Go.Kw
set_option linter.unusedVariables false
set_option linter.unusedSimpArgs false

def purC (f : Nat → Int) : Array Value := ((List.range 512).map fun i => Value.int .i64 (f i)).toArray
def updP (f : Nat → Int) (j : Nat) (v : Int) : Nat → Int := fun i => if i = j then v else f i
/-- The place of a meter's band. -/
def ixP (m k : Int) : Nat := m.toNat * 8 + k.toNat
section
variable {f g : Nat → Int}
theorem purC_size : (purC f).size = 512 := by simp [purC]
theorem purC_at (i : Nat) (h : i < 512) : (purC f)[i]? = some (.int .i64 (f i)) := by simp [purC, h]
theorem purC_set (j : Nat) (v : Int) : (purC f).setIfInBounds j (.int .i64 v) = purC (updP f j v) := by
  apply Array.ext_getElem?
  intro i
  rw [Array.getElem?_setIfInBounds]
  by_cases hi : i < 512
  · rw [purC_at i hi, purC_at i hi]
    by_cases hj : j = i
    · subst hj; rw [if_pos rfl, if_pos (by rw [purC_size]; omega)]; unfold updP; rw [if_pos rfl]
    · rw [if_neg hj]; unfold updP; rw [if_neg (by omega)]
  · by_cases hj : j = i
    · rw [if_pos hj, if_neg (by rw [purC_size]; omega), Array.getElem?_eq_none (by rw [purC_size]; omega)]
    · rw [if_neg hj, Array.getElem?_eq_none (by rw [purC_size]; omega), Array.getElem?_eq_none (by rw [purC_size]; omega)]
theorem updP_same (j : Nat) (v : Int) : updP f j v j = v := if_pos rfl
end
/-- A block that holds a purse (T is its type). -/
def PB (T : TypeId) (W : World) (b : Nat) (f : Nat → Int) : Prop := W.heap[b]? = some (.cells (purC f) T (0, 0))
section
variable {W W' : World} {T : TypeId} {b : Nat} {f g : Nat → Int}
theorem PB.lt (h : PB T W b f) : b < W.heap.size := (Array.getElem?_eq_some_iff.1 h).1
theorem PB.at_ (h : PB T W b f) (i : Nat) (hi : i < 512) : W.cell? ⟨b, i, none⟩ = some (.int .i64 (f i)) := (cell_of_row W b i _ _ _ h).trans (purC_at i hi)
theorem PB.fr (h : PB T W b f) (k : Nat) : W.frozen? ⟨b, k, none⟩ = false := frozen_of_row W b k _ _ h
theorem PB.below (h : PB T W b f) {B : Nat} (hb : Below B W W') (hB : b < B) : PB T W' b f := (hb.block b hB).trans h
theorem PB.next (h : PB T W b f) (hb : Below W.heap.size W W') : PB T W' b f := (hb.block b h.lt).trans h
theorem PB.new (T : TypeId) (W : World) (f : Nat → Int) : PB T (W.alloc (.cells (purC f) T)) W.heap.size f := World.alloc_heap_new W _
theorem PB.set (h : PB T W b f) (i : Nat) (v : Int) : PB T (W.setCell ⟨b, i, none⟩ (.int .i64 v)) b (updP f i v) := by
  have := heap_setCell_same W b i _ _ (.int .i64 v) h
  rw [purC_set i v] at this; exact this
theorem PB.far (h : PB T W b f) {p : Addr} (hp : b ≠ p.block) (v : Value) : PB T (W.setCell p v) b f := (heap_setCell_other W p b v hp).trans h
end
/-- Only the block b may have been written, of all that were there; what is new lies behind. -/
def Only (b : Nat) (w w' : World) : Prop := ∃ w1, Below w.heap.size w w1 ∧ (w' = w1 ∨ ∃ i v, w' = w1.setCell ⟨b, i, none⟩ v)
theorem Only.keep {b : Nat} {w w1 : World} (h : Below w.heap.size w w1) : Only b w w1 := ⟨w1, h, .inl rfl⟩
theorem Only.put {b : Nat} {w w1 : World} (h : Below w.heap.size w w1) (i : Nat) (v : Value) : Only b w (w1.setCell ⟨b, i, none⟩ v) := ⟨w1, h, .inr ⟨i, v, rfl⟩⟩
theorem Only.size {b : Nat} {w w' : World} (h : Only b w w') : w.heap.size ≤ w'.heap.size := by
  obtain ⟨w1, h1, rfl | ⟨i, v, rfl⟩⟩ := h
  · exact h1.size
  · simpa using h1.size
theorem Only.other {b c : Nat} {w w' : World} {T : TypeId} {f : Nat → Int} (h : Only b w w') (hp : PB T w c f) (hc : c ≠ b) : PB T w' c f := by
  obtain ⟨w1, h1, rfl | ⟨i, v, rfl⟩⟩ := h
  · exact hp.next h1
  · exact (hp.next h1).far (by exact hc) v
theorem Only.below {b B : Nat} {w0 w w' : World} (h : Only b w w') (hw : Below B w0 w) (hb : B ≤ b) (hs : B ≤ w.heap.size) : Below B w0 w' := by
  obtain ⟨w1, h1, rfl | ⟨i, v, rfl⟩⟩ := h
  · exact hw.trans (h1.mono hs)
  · exact (hw.trans (h1.mono hs)).setCell (by exact hb) v
theorem below_refl_pos (w : World) : Below w.heap.size w w := Below.refl _ w
/-- May there be such a meter and band? -/
def okMB (m k : Int) : Prop := 0 ≤ m ∧ m ≤ 63 ∧ 0 ≤ k ∧ k ≤ 7
instance (m k : Int) : Decidable (okMB m k) := by unfold okMB; infer_instance
theorem ixP_lt {m k : Int} (h : okMB m k) : ixP m k < 512 := by unfold okMB at h; unfold ixP; omega
/-- What a pay has to be for there to be an answer. -/
def okPay (m k n p : Int) : Prop := 0 ≤ m ∧ m ≤ 63 ∧ 0 ≤ k ∧ k ≤ 7 ∧ 0 ≤ n ∧ n ≤ 4611686018427387904 ∧ 0 ≤ p ∧ p ≤ 1073741824
instance (m k n p : Int) : Decidable (okPay m k n p) := by unfold okPay; infer_instance
/-- What a pay is told. -/
def payV (m k n p : Int) (f : Nat → Int) : Int × Int :=
  if okPay m k n p then if (n * p + f (ixP m k)) / 1000000 ≤ 4611686018427387904 then ((n * p + f (ixP m k)) / 1000000, 0) else (0, 10) else (0, 2)
/-- The rests behind a pay. -/
def payF (m k n p : Int) (f : Nat → Int) : Nat → Int :=
  if okPay m k n p ∧ (n * p + f (ixP m k)) / 1000000 ≤ 4611686018427387904 then updP f (ixP m k) ((n * p + f (ixP m k)) % 1000000) else f
/-- Rests that may be. -/
def okF (f : Nat → Int) : Prop := ∀ i, 0 ≤ f i ∧ f i < 1000000
theorem okF.upd {f : Nat → Int} (h : okF f) (j : Nat) (v : Int) (hv : 0 ≤ v ∧ v < 1000000) : okF (updP f j v) := by
  intro i; unfold updP; split
  · exact hv
  · exact h i
theorem okF.pay {f : Nat → Int} (h : okF f) (m k n p : Int) : okF (payF m k n p f) := by
  unfold payF; split
  · exact h.upd _ _ (by omega)
  · exact h
/-- The rests behind a Back, and what it is told. -/
def backF (m k r : Int) (f : Nat → Int) : Nat → Int := if okMB m k ∧ 0 ≤ r ∧ r < 1000000 then updP f (ixP m k) r else f
def backV (m k r : Int) : Int := if okMB m k ∧ 0 ≤ r ∧ r < 1000000 then 0 else 2
theorem okF.back {f : Nat → Int} (h : okF f) (m k r : Int) : okF (backF m k r f) := by
  unfold backF; split
  · exact h.upd _ _ (by omega)
  · exact h
def restV (m k : Int) (f : Nat → Int) : Int := if okMB m k then f (ixP m k) else 0
/-- What the numbers' parts are, of a pay that may be. -/
theorem pay_cases (m k n p : Int) (f : Nat → Int) (hf : okF f) (h : okPay m k n p) : ∃ N P R : Nat, n = N ∧ p = P ∧ f (ixP m k) = R ∧ R < 1000000 ∧ N ≤ 4611686018427387904 ∧ P ≤ 1073741824 ∧
    ((∃ q r : Nat, carryV N P 1000000 R = .tuple #[.int .u64 q, .int .u64 r, .int .i64 0] ∧ q ≤ 4611686018427387904 ∧ r < 1000000 ∧ payV m k n p f = ((q : Int), 0) ∧ payF m k n p f = updP f (ixP m k) (r : Int)) ∨
      (∃ q r : Nat, carryV N P 1000000 R = .tuple #[.int .u64 q, .int .u64 r, .int .i64 0] ∧ 4611686018427387904 < q ∧ payV m k n p f = (0, 10) ∧ payF m k n p f = f) ∨
      (carryV N P 1000000 R = .tuple #[.int .u64 0, .int .u64 0, .int .i64 10] ∧ payV m k n p f = (0, 10) ∧ payF m k n p f = f)) := by
  have hm := h
  unfold okPay at hm
  obtain ⟨N, rfl⟩ := Int.eq_ofNat_of_zero_le hm.2.2.2.2.1
  obtain ⟨P, rfl⟩ := Int.eq_ofNat_of_zero_le hm.2.2.2.2.2.2.1
  obtain ⟨h0, h1⟩ := hf (ixP m k)
  obtain ⟨R, hR⟩ := Int.eq_ofNat_of_zero_le h0
  refine ⟨N, P, R, rfl, rfl, hR, by omega, by omega, by omega, ?_⟩
  obtain ⟨S, hS⟩ : ∃ S, N * P + R = S := ⟨_, rfl⟩
  have hSi : (N : Int) * P + R = (S : Int) := by rw [← hS]; push_cast; rfl
  have e1 : payV m k N P f = if S / 1000000 ≤ 4611686018427387904 then ((((S / 1000000 : Nat) : Int), 0) : Int × Int) else (0, 10) := by
    unfold payV
    rw [if_pos h, hR, hSi]
    by_cases hq : S / 1000000 ≤ 4611686018427387904
    · rw [if_pos hq, if_pos (by omega)]; rfl
    · rw [if_neg hq, if_neg (by omega)]
  have e2 : payF m k N P f = if S / 1000000 ≤ 4611686018427387904 then updP f (ixP m k) (((S % 1000000 : Nat)) : Int) else f := by
    unfold payF
    rw [hR, hSi]
    by_cases hq : S / 1000000 ≤ 4611686018427387904
    · rw [if_pos hq, if_pos ⟨h, by omega⟩]; rfl
    · rw [if_neg hq, if_neg (by omega)]
  rw [e1, e2, ← hS]
  by_cases ho : 1000000 ≤ (N * P + R) / 18446744073709551616
  · have h9 : ¬ (N * P + R) / 1000000 < 18446744073709551616 := fun h8 => absurd ((over_iff (N * P + R) 1000000 (by omega)).1 h8) (by omega)
    have hq : ¬ (N * P + R) / 1000000 ≤ 4611686018427387904 := by omega
    exact .inr (.inr ⟨carry_over N P 1000000 R (by omega) (by omega) ho, if_neg hq, if_neg hq⟩)
  · have e := carry_fine N P 1000000 R (by omega) (by omega) (by omega)
    by_cases hq : (N * P + R) / 1000000 ≤ 4611686018427387904
    · exact .inl ⟨_, _, e, hq, Nat.mod_lt _ (by omega), if_pos hq, if_pos hq⟩
    · exact .inr (.inl ⟨_, _, e, by omega, if_neg hq, if_neg hq⟩)
/-! whole rows -/
section
variable {b : Nat} {f : Nat → Int}
theorem pur_info : (Try.prog.info? 48).map (fun i => (i.zero, i.size)) = some (some (Value.agg (purC fun _ => 0)), 512) := by kernel_rfl
theorem pur_zero (w : World) : (zeroValue 48).run Try.prog w = .ok (.agg (purC fun _ => 0)) w := (zero_of_info pur_info).1 w
theorem pur_sizeC (f : Nat → Int) : (Try.prog.info? 48).map (·.size) = some (purC f).size := by rw [purC_size]; exact (zero_of_info pur_info).2
theorem rpur_info : (Try.prog.info? 51).map (fun i => (i.zero, i.size)) = some (some (Value.agg (purC fun _ => 0)), 512) := by kernel_rfl
theorem rpur_zero (w : World) : (zeroValue 51).run Try.prog w = .ok (.agg (purC fun _ => 0)) w := (zero_of_info rpur_info).1 w
theorem pur_one (f : Nat → Int) : (purC f).all (·.oneCell') = true := by
  unfold purC
  simp [Value.oneCell']
theorem ld_pur {ops : Array Oper} {rest : List Oper} {o : Oper} {a : Act} {w : World} {Q : Exit → Act → World → Prop} {g : Nat} {f : Nat → Int} (h : PB 48 w g f) (hgd : o.guard = none) (x : Operand) (ho : o.op = .load 48 x) (hx : a.eval x = .pointer (some ⟨g, 0, none⟩))
    (k : wpList Try.prog ops Q rest (a.put o.dst (.agg (purC f))) w) : wpList Try.prog ops Q (o :: rest) a w :=
  wpList_load_row hgd 48 x ho g hx 48 _ (0, 0) _ h Try.underlying48 rfl (pur_sizeC _) k
theorem st_pur {ops : Array Oper} {rest : List Oper} {o : Oper} {a : Act} {w : World} {Q : Exit → Act → World → Prop} {g : Nat} {f : Nat → Int} (h : PB 48 w g f) (hgd : o.guard = none) (x y : Operand) (ho : o.op = .store 48 x y) (hx : a.eval x = .pointer (some ⟨g, 0, none⟩)) (f' : Nat → Int) (hy : a.eval y = .agg (purC f'))
    (k : wpList Try.prog ops Q rest (a.put o.dst undef) (w.setRow g (purC f'))) : wpList Try.prog ops Q (o :: rest) a w :=
  wpList_store_row hgd 48 x y ho g _ hx hy 48 _ h (pur_sizeC _) (by rw [purC_size, purC_size]) (pur_one _) k
end
end Go.Proofs.Ytbbbjgilbddabaa
