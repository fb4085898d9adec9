/-
  What pairs cost, one behind the other: the purse behind each, and the iterator 'paid', walked. Conditions stand at each theorem.
-/
import Derived.Test.YtgbkedjjgbhcmaaDoorTarM7
import Derived.Test.YtgbkedjjgbhcmaaDoorTarM13
namespace Go.Proofs.YtgbkedjjgbhcmaaDoor
open Go Go.RowKit Go.Kw Go.Shelf
attribute [local go_sem] Oper.semAt_some
set_option linter.unusedVariables false
set_option linter.unusedSimpArgs false

theorem keepsCs {W W' : World} (h : Below W.heap.size W W') : KeepsOthers W W' := ⟨h.size, fun k o hk _ => (h.block k (Array.getElem?_eq_some_iff.1 hk).1).trans hk⟩
theorem Only.keeps {b : Nat} {w w' : World} (h : Only b w w') : KeepsOthers w w' := by
  obtain ⟨w1, h1, rfl | ⟨i, v, rfl⟩⟩ := h
  · exact keepsCs h1
  · exact (keepsCs h1).trans (KeepsOthers.setCell _ _ _)
/-- The rests behind i pairs; what pair i is told. -/
def costF (g : Nat → Nat → Int) : Nat → Nat → Int
  | 0 => fun _ => 0
  | i + 1 => payF 0 0 (g i 0) (g i 1) (costF g i)
def costV (g : Nat → Nat → Int) (i : Nat) : Int × Int := payV 0 0 (g i 0) (g i 1) (costF g i)
theorem costF_ok (g : Nat → Nat → Int) : ∀ i, okF (costF g i)
  | 0 => fun _ => ⟨Int.le_refl _, (by show (0 : Int) < 1000000; omega)⟩
  | i + 1 => (costF_ok g i).pay _ _ _ _
theorem payV_cost (m k n p : Int) (f : Nat → Int) (hf : okF f) : 0 ≤ (payV m k n p f).1 ∧ (payV m k n p f).1 ≤ 4611686018427387904 := by
  unfold payV
  split
  · rename_i h
    split
    · rename_i h2
      refine ⟨?_, h2⟩
      have h3 := (hf (ixP m k)).1
      unfold okPay at h
      have : 0 ≤ n * p := Int.mul_nonneg h.2.2.2.2.1 h.2.2.2.2.2.2.1
      show 0 ≤ (n * p + f (ixP m k)) / 1000000
      omega
    · exact ⟨Int.le_refl _, by show (0 : Int) ≤ _; omega⟩
  · exact ⟨Int.le_refl _, by show (0 : Int) ≤ _; omega⟩
def costL (g : Nat → Nat → Int) (len : Nat) : List (Int × Int) := (List.range len).map (costV g)
theorem costL_at (g : Nat → Nat → Int) (len i : Nat) (h : i < len) : (costL g len)[i]? = some (costV g i) := by simp [costL, h]
theorem costL_len (g : Nat → Nat → Int) (len : Nat) : (costL g len).length = len := by simp [costL]
def kPair : Nat → IntKind := fun _ => .i64
/-- The pairs' cells, in blocks below B. -/
def RdP (W : World) (B : Nat) (A : Option Addr) (len : Nat) (g : Nat → Nat → Int) : Prop := Rd W B A (len * 2) (fun i => .int (kPair (i % 2)) (g (i / 2) (i % 2)))
theorem RdP.pair {W : World} {B : Nat} {A : Option Addr} {len : Nat} {g : Nat → Nat → Int} (h : RdP W B A len g) {r : Nat} (hr : r < len) :
    ∃ b off, A = some ⟨b, off, none⟩ ∧ b < B ∧ W.cell? ⟨b, off + r * 2, none⟩ = some (.int .i64 (g r 0)) ∧ W.cell? ⟨b, off + r * 2 + 1, none⟩ = some (.int .i64 (g r 1)) := by
  rcases h with h0 | ⟨b, off, e, hb, hc⟩
  · omega
  · refine ⟨b, off, e, hb, ?_, ?_⟩
    · have := hc (r * 2) (by omega)
      rw [this]
      show some (Value.int .i64 (g (r * 2 / 2) (r * 2 % 2))) = _
      rw [show r * 2 / 2 = r by omega, show r * 2 % 2 = 0 by omega]
    · have := hc (r * 2 + 1) (by omega)
      rw [← Nat.add_assoc] at this
      rw [this]
      show some (Value.int .i64 (g ((r * 2 + 1) / 2) ((r * 2 + 1) % 2))) = _
      rw [show (r * 2 + 1) / 2 = r by omega, show (r * 2 + 1) % 2 = 1 by omega]
theorem RdP.only {W W' : World} {B b : Nat} {A : Option Addr} {len : Nat} {g : Nat → Nat → Int} (h : RdP W B A len g) (ho : Only b W W') (hb : B ≤ b) (hB : B ≤ W.heap.size) : RdP W' B A len g :=
  Rd.below h (ho.below (Below.refl B W) hb hB)
theorem Only.row2 {b c : Nat} {w w' : World} {o : Obj} (h : Only b w w') (hp : w.heap[c]? = some o) (hc : c ≠ b) : w'.heap[c]? = some o := by
  have hlt : c < w.heap.size := (Array.getElem?_eq_some_iff.1 hp).1
  obtain ⟨w1, h1, rfl | ⟨i, v, rfl⟩⟩ := h
  · exact (h1.block c hlt).trans hp
  · exact (heap_setCell_other w1 ⟨b, i, none⟩ c v hc).trans ((h1.block c hlt).trans hp)
theorem boxOnly {W W' : World} {b c : Nat} {t : TypeId} {v : Value} (h : Boxed W c t v) (ho : Only b W W') (hc : c ≠ b) : Boxed W' c t v := ho.row2 h hc
/-- What the iterator holds of memory. -/
def HoldP (W : World) (B pb cb : Nat) (A : Option Addr) (len : Nat) (g : Nat → Nat → Int) (k : Nat) : Prop :=
  PB 28 W pb (costF g k) ∧ Boxed W cb 24 (.pointer (some ⟨pb, 0, none⟩)) ∧ RdP W B A len g

theorem paid_calls (p A : Option Addr) (n c : Nat) (w : World) :
    Calls Tryd.prog 22 #[.pointer p, .slice A n c] w fun e w' => e = .returned (.func (.func 44) #[] #[.pointer (some ⟨w.heap.size + 1, 0, none⟩), .pointer (some ⟨w.heap.size, 0, none⟩)]) ∧ w' = (w.alloc (.cells #[.pointer p] 24)).alloc (.cells #[.slice A n c] 40) := by
  go_enter Tryd.func22, Tryd.ntmps22
  go_wp2
  go_ret
  exact ⟨rfl, rfl⟩
set_option maxRecDepth 100000 in
set_option maxHeartbeats 4000000 in
theorem paid_seq (B pb cb lb : Nat) (hpb : B ≤ pb) (hcb : cb ≠ pb) (A : Option Addr) (len cap : Nat) (hcap : cap ≤ maxLen) (hlen : len ≤ cap) (hl2 : len ≤ 1000000) (g : Nat → Nat → Int) :
    SeqW Tryd.prog 44 #[.pointer (some ⟨lb, 0, none⟩), .pointer (some ⟨cb, 0, none⟩)] (fun x : Int × Int => #[.int .i64 x.1, .int .i64 x.2]) (costL g len) (Only pb)
      (fun W => HoldP W B pb cb A len g 0 ∧ W.cell? ⟨lb, 0, none⟩ = some (.slice A len cap)) (fun k W => HoldP W B pb cb A len g (k + 1)) (fun W => PB 28 W pb (costF g len)) (fun _ _ => True) := by
  intro lo J Jx hJ hJx hY W ⟨hH, hL⟩ h0
  have hF := wide_fn
  rw [costL_len]
  refine callsIn_of_wp Tryd.func44 rfl (hF _) ?_ rfl
  simp only [Tryd.ntmps44, List.size_toArray, List.length_cons, List.length_nil, Nat.reduceAdd, Nat.reduceSub, Array.replicate_succ, Array.replicate_zero, List.push_toArray, List.append_toArray, List.nil_append, List.cons_append]
  gi_wp2
  gi_loopw [8] (fun i wr => ∃ k : Nat, k ≤ len ∧ i = .int .i64 k ∧ J k wr ∧ HoldP wr B pb cb A len g k)
    (fun i _ => len - (intOf i).toNat)
  case atStart => exact ⟨0, Nat.zero_le _, rfl, h0, hH⟩
  case round =>
    obtain ⟨k, hk, rfl, hJs, hP, hC, hR⟩ := hrel
    by_cases hlt : k < len
    · obtain ⟨b, off, rfl, hbs, c0, c1⟩ := hR.pair hlt
      have hI : (k : Int) < len := by omega
      have hv := costL_at g len k hlt
      obtain ⟨n0, hn0⟩ : ∃ z, g k 0 = z := ⟨_, rfl⟩
      obtain ⟨p0, hp0⟩ : ∃ z, g k 1 = z := ⟨_, rfl⟩
      rw [hn0] at c0
      rw [hp0] at c1
      have hV : costV g k = payV 0 0 n0 p0 (costF g k) := by unfold costV; rw [hn0, hp0]
      have hF1 : costF g (k + 1) = payF 0 0 n0 p0 (costF g k) := by show payF 0 0 (g k 0) (g k 1) (costF g k) = _; rw [hn0, hp0]
      have hst := (Below.refl wr.heap.size wr).alloc (Nat.le_refl _) (.cells #[.int .i64 n0, .int .i64 p0] 39)
      have ho0 : Only pb wr (wr.alloc (.cells #[.int .i64 n0, .int .i64 p0] 39)) := Only.keep hst
      have hJ1 := hJ k _ _ hJs ho0
      have hP1 := hP.next hst
      have hC1 := boxOnly hC ho0 hcb
      have hBs : B ≤ wr.heap.size := by have := hP.lt; omega
      have hR1 := RdP.only hR ho0 hpb hBs
      have cC := hC1.cell
      have hBs1 : B ≤ (wr.alloc (.cells #[.int .i64 n0, .int .i64 p0] 39)).heap.size := by simp; omega
      have HPay := pay_calls 0 0 n0 p0 (costF g k) pb _ (costF_ok g k) hP1
      unfold PayPost at HPay
      rw [← hV, ← hF1] at HPay
      obtain ⟨x, hx⟩ : ∃ x, costV g k = x := ⟨_, rfl⟩
      rw [hx] at HPay hv
      replace HPay := Lib.hid HPay
      clear hV hF1 hx hn0 hp0
      have hw1 : wrap64 ((k : Int) + 1) = (k : Int) + 1 := by unfold wrap64; omega
      gi_wp2_with (gi_at_call 9; refine (callsIn_wide.2 HPay.out).mono ?_; rintro e w2 ⟨rfl, hp2, ho2⟩; obtain ⟨fn, tmps, assign, body, hy, hYR⟩ := hY k _ w2 hv (hJ _ _ _ hJ1 ho2) ⟨hp2, boxOnly hC1 ho2 hcb, RdP.only hR1 ho2 hpb hBs1⟩)
      refine hYR.mono ?_
      rintro e W3 ⟨hR3, (⟨rfl, hJ3⟩ | ⟨rfl, hJx3⟩)⟩
      · gi_wp2
        go_roundw
        case rel => exact ⟨k + 1, by omega, by simp, hJ3, hR3⟩
        case measure => simp [intOf]; omega
      · gi_wp2
        refine bodyPost_ret (results_none rfl _ _ _) rfl ?_
        exact ⟨⟨_, rfl⟩, .inr ⟨k, hlt, hJx3, trivial⟩⟩
    · obtain rfl : k = len := by omega
      gi_wp2
      go_end0
      exact ⟨⟨_, rfl⟩, .inl ⟨hJs, hP⟩⟩
end Go.Proofs.YtgbkedjjgbhcmaaDoor
