/-
  Texts that the proof leans on, merged by program, part 2. Conditions stand at each theorem.
-/
import Derived.Test.YtgbkedjjgbhcmaaGreatDoorTelN1
import Derived.Test.YtgbkedjjgbhcmaaGreatDoorKept
import Derived.Test.YtgbkedjjgbhcmaaGreatDoorSlices
import Derived.Test.YtgbkedjjgbhcmaaGreatDoorTelN3
import Derived.Deep.RegionLaw
import Derived.StillTailTactics
import Derived.Lib.Hide
/-
  The document's table of bands out of a tariff's: what the call owns while it is being made. Conditions stand at each theorem.
-/
namespace Go.Proofs.YtgbkedjjgbhcmaaGreatDoor
open Go Go.RowKit Go.Kw Go.Kw.Cv Go.Shelf
set_option linter.unusedVariables false
set_option linter.unusedSimpArgs false

theorem eSw : Elem Tryz.prog 84 109 (.agg #[.int .i64 0, .int .i64 0]) 2 16 := ⟨Tryz.underlying84, by kernel_rfl, rfl, by decide⟩
theorem ePl : Elem Tryz.prog 64 84 (.slice none 0 0) 1 24 := ⟨Tryz.underlying64, by kernel_rfl, rfl, by decide⟩
theorem eRu : Elem Tryz.prog 65 107 (.agg #[.int .i64 0, .int .i64 0, .int .i64 0]) 3 24 := ⟨Tryz.underlying65, by kernel_rfl, rfl, by decide⟩
def swC (g : Nat → Nat → Int) (q : Nat) : Value := .int .i64 (g (q / 2) (q % 2))
def ruC (r : Nat → Nat → Int) (q : Nat) : Value := .int .i64 (r (q / 3) (q % 3))
theorem rdX_turn {w w' : World} {S S' : Nat → Prop} {A : Option Addr} {n : Nat} {f : Nat → Value} (h : RdX w S A n f) (hk : Kept S w w') (hs : ∀ b, b < w.heap.size → S b → S' b) : RdX w' S' A n f := by
  rcases h with h | ⟨b, off, e, hb, hl, hc⟩
  · exact .inl h
  · exact .inr ⟨b, off, e, hs b hl hb, Nat.lt_of_lt_of_le hl hk.size, fun i hi => (World.cell?_of_block (a := ⟨b, off + i, none⟩) (hk.block b hl hb)).trans (hc i hi)⟩
theorem own_turn {w w' : World} {base : Nat} {e : TypeId} {size : Nat} {v : Value} {n : Nat} {xs : List Value} (h : w.ownsRow base e size v n xs) (hk : ∀ q, v.ownBlock = some q → q < w.heap.size → w'.heap[q]? = w.heap[q]?) : w'.ownsRow base e size v n xs := by
  refine ⟨h.1, ?_⟩
  rcases h.2 with h | ⟨g, cap, cur, hv, hg, hh, r⟩
  · exact .inl h
  · exact .inr ⟨g, cap, cur, hv, hg, (hk g (by rw [hv]; rfl) (Array.getElem?_eq_some_iff.1 hh).1).trans hh, r⟩
theorem own_in {w : World} {base : Nat} {e : TypeId} {size : Nat} {v : Value} {n : Nat} {xs : List Value} (h : w.ownsRow base e size v n xs) : ∀ q, v.ownBlock = some q → base ≤ q ∧ q < w.heap.size := h.lt
/-- The plans made so far: v the row of them, L a block that may yet be written. -/
structure PlbX (W : World) (B : Nat) (L : Option Nat) (v : Value) (k : Nat) (n : Nat → Nat) (g : Nat → Nat → Nat → Int) (F : Nat → SlX) : Prop where
  row : W.ownsRow B 84 1 v k (vals (k * 1) (fun i => slV (F i)))
  inn : ∀ i, i < k → (F i).2.1 = n i ∧ n i ≤ (F i).2.2 ∧ (F i).2.2 ≤ maxLen ∧ ((F i).1 = none → n i = 0) ∧ RdX W (fun b => B ≤ b ∧ some b ≠ v.ownBlock ∧ some b ≠ L) (F i).1 (n i * 2) (swC (g i))
  far : ∀ q, v.ownBlock = some q → L ≠ some q
section
variable {W W' : World} {B : Nat} {L L' : Option Nat} {v : Value} {k : Nat} {n : Nat → Nat} {g : Nat → Nat → Nat → Int} {F : Nat → SlX}
theorem PlbX.nil (W : World) (B : Nat) (L : Option Nat) (n : Nat → Nat) (g : Nat → Nat → Nat → Int) (F : Nat → SlX) : PlbX W B L (.slice none 0 0) 0 n g F :=
  ⟨World.ownsRow_nil W B _ 1, fun i hi => absurd hi (Nat.not_lt_zero _), fun q h => by simp [Value.ownBlock] at h⟩
/-- It abides what keeps all blocks from B on but L. -/
theorem PlbX.turn (h : PlbX W B L v k n g F) (hk : Kept (fun b => B ≤ b ∧ some b ≠ L) W W') (hL : L' = L ∨ L' = none ∨ ∃ s, L' = some s ∧ W.heap.size ≤ s) : PlbX W' B L' v k n g F := by
  have hlt := own_in h.row
  refine ⟨own_turn h.row (fun q hq hlt => hk.block q hlt ⟨(own_in h.row q hq).1, fun e => h.far q hq e.symm⟩), fun i hi => ?_, fun q hq => ?_⟩
  · obtain ⟨h1, h2, h3, h4, h5⟩ := h.inn i hi
    refine ⟨h1, h2, h3, h4, rdX_turn h5 (hk.mono fun b _ hb => ⟨hb.1, hb.2.2⟩) (fun b hb hs => ⟨hs.1, hs.2.1, ?_⟩)⟩
    rcases hL with rfl | rfl | ⟨s, rfl, hs2⟩
    · exact hs.2.2
    · simp
    · simp; omega
  · rcases hL with rfl | rfl | ⟨s, rfl, hs2⟩
    · exact h.far q hq
    · simp
    · have := (hlt q hq).2
      simp; omega
theorem PlbX.grow (h : PlbX W B L v k n g F) (hg : W.grownBy W' L) (hL : L' = L ∨ L' = some W.heap.size) : PlbX W' B L' v k n g F :=
  h.turn ⟨hg.os, hg.tape, hg.output, hg.size, fun b hb hs => hg.block b hb hs.2⟩ (by rcases hL with h | h; exact .inl h; exact .inr (.inr ⟨_, h, Nat.le_refl _⟩))
theorem PlbX.go (h : PlbX W B L v k n g F) (hb : Below W.heap.size W W') : PlbX W' B L v k n g F := h.turn (hb.keptS _) (.inl rfl)
theorem PlbX.set (h : PlbX W B L v k n g F) {p : Addr} (hp : p.block < B) (u : Value) : PlbX (W.setCell p u) B L v k n g F :=
  h.turn ((Kept.refl _ W).setCell (fun hs => by omega) u) (.inl rfl)
theorem PlbX.drew (h : PlbX W B L v k n g F) : PlbX W.drew B L v k n g F := h.turn ((Kept.refl _ W).drew) (.inl rfl)
theorem vals_succ (k : Nat) (f : Nat → Value) (x : Value) : vals (k * 1) f ++ [x] = vals ((k + 1) * 1) (fun i => if i < k then f i else x) := by
  have : [x] = vals (1 * 1) (fun _ => x) := rfl
  rw [this, vals_append]
  simp only [Nat.mul_one]
set_option maxRecDepth 100000 in
/-- A plan more. -/
theorem PlbX.push {l : Value} (h : PlbX W B l.ownBlock v k n g F) (hl : W.ownsRow B 109 2 l (n k) (vals (n k * 2) (swC (g k)))) (hB : B ≤ W.heap.size) (hk : k ≤ 100000) :
    ∃ A' c' w' F', (Builtin.append_ #[64, 64] 64 #[v, .slice (some ⟨W.heap.size, 0, none⟩) 1 1]).run Tryz.prog (W.alloc (.cells #[l] 84)) = .ok (.slice A' (k + 1) c') w' ∧
      PlbX w' B none (.slice A' (k + 1) c') (k + 1) n g F' ∧ (W.alloc (.cells #[l] 84)).grownBy w' v.ownBlock ∧ ∀ q, v.ownBlock = some q → B ≤ q := by
  obtain ⟨A, c, hle, hc1, hc2, hc3, hc4⟩ := own_form hl
  obtain ⟨W1, hW1⟩ : ∃ W1, W.alloc (.cells #[l] 84) = W1 := ⟨_, rfl⟩
  have hst : Below W.heap.size W W1 := hW1 ▸ bstep W _
  have hs1 : W1.heap.size = W.heap.size + 1 := by rw [← hW1]; simp
  have hrow : W1.heap[W.heap.size]? = some (.cells #[l] 84 (0, 0)) := hW1 ▸ World.alloc_heap_new W _
  have h1 := h.go hst
  have hl1 := own_below hl hst
  obtain ⟨v', w', hrun, o, gr, -, ob⟩ := run_append (P := Tryz.prog) W1 B 64 ePl h1.row (B := W1.heap.size) (A := some ⟨W.heap.size, 0, none⟩) 1 1 (f := fun _ => l)
    (.inr ⟨W.heap.size, 0, rfl, by omega, fun i hi => by obtain rfl : i = 0 := by omega
                                                         exact blk_cell hrow 0 rfl⟩) (fun i hi => by rw [hle]; rfl) (by unfold maxLen; omega) (by omega) (by omega) (fun h => by cases h)
  rw [show vals (1 * 1) (fun _ => l) = [l] from rfl, vals_succ] at o
  obtain ⟨A', c', rfl, q1, q2, q3, q4⟩ := own_form o
  have hx : RdX W1 (fun b => B ≤ b ∧ some b = l.ownBlock) A (n k * 2) (swC (g k)) := by
    rw [hle] at hl1
    have hr := RdX.of_own (S := fun b => B ≤ b ∧ some b = l.ownBlock) hl1
    rcases hl1.2 with ⟨h', h0⟩ | ⟨gg, cap, cur, h', hb, hg, -⟩
    · exact .inl (by rw [h0])
    · injection h' with e1 e2 e3
      subst e1
      refine .inr ⟨gg, 0, rfl, ⟨hb, by rw [hle]; rfl⟩, (Array.getElem?_eq_some_iff.1 hg).1, fun i hi => ?_⟩
      have hc := hl1.cells (g := gg) rfl i (swC (g k) i) (vals_getElem? hi)
      rw [Go.WideShapes.add_plain] at hc
      exact hc
  have hkept : Kept (fun b => some b ≠ v.ownBlock) W1 w' := ⟨gr.os, gr.tape, gr.output, gr.size, fun b hb hs => gr.block b hb hs⟩
  have far : ∀ b, b < W1.heap.size → some b ≠ v.ownBlock → some b ≠ (Value.slice A' (k + 1) c').ownBlock := fun b hb hne => by
    rcases ob with ob | ob
    · rw [ob]; exact hne
    · rw [ob]; simp; omega
  rw [← hW1] at hrun
  have gr2 : (W.alloc (.cells #[l] 84)).grownBy w' v.ownBlock := hW1 ▸ gr
  refine ⟨A', c', w', fun i => if i < k then F i else (A, n k, c), hrun, ⟨?_, fun i hi => ?_, fun q _ => by simp⟩, gr2, fun q hq => (own_in h.row q hq).1⟩
  · have e : (fun i => slV (if i < k then F i else (A, n k, c))) = (fun i => if i < k then slV (F i) else l) := by
      funext i
      split
      · rfl
      · rw [hle]; rfl
    rw [e]; exact o
  · by_cases hik : i < k
    · simp only [if_pos hik]
      obtain ⟨a1, a2, a3, a4, a5⟩ := h1.inn i hik
      exact ⟨a1, a2, a3, a4, rdX_turn a5 (hkept.mono fun b _ hb => hb.2.1) (fun b hb hs => ⟨hs.1, far b hb hs.2.1, by simp⟩)⟩
    · obtain rfl : i = k := by omega
      simp only [if_neg hik]
      refine ⟨by first | rfl | trivial, hc1, hc2, fun h => (hc3 h).1, rdX_turn hx (hkept.mono fun b _ hb e => h.far b e.symm hb.2.symm) (fun b hb hs => ⟨hs.1, far b hb (fun e => h.far b e.symm hs.2.symm), by simp⟩)⟩
/-- The plans, read. -/
theorem PlbX.rd {A : Option Addr} {c m : Nat} (h : PlbX W B L (.slice A m c) k n g F) (hw : ∀ i, i < k → ∀ r j, r < n i → j < 2 → (Lit.int .i64 (g i r j)).wf = true) : RdPl W A k c F g ∧ ∀ i, i < k → (F i).2.1 = n i := by
  obtain ⟨A', c', e, q1, q2, q3, q4⟩ := own_form h.row
  injection e with e1 e2 e3
  subst e1 e3
  have hr := (RdX.of_own (S := fun _ => True) (e2 ▸ h.row) (fun _ _ => trivial)).rd
  rw [Nat.mul_one] at hr
  refine ⟨⟨q1, q2, fun h => (q3 h).1, hr, fun i hi => ?_⟩, fun i hi => (h.inn i hi).1⟩
  obtain ⟨a1, a2, a3, a4, a5⟩ := h.inn i hi
  rw [a1]
  exact ⟨a2, a3, a4, a5.rd, fun r j h1 h2 => hw i hi r j h1 h2⟩
end
end Go.Proofs.YtgbkedjjgbhcmaaGreatDoor

/-
  The document's table of bands out of a tariff's: kilowattref11.table, walked. Conditions stand at each theorem.
-/
namespace Go.Proofs.YtgbkedjjgbhcmaaGreatDoor
open Go Go.RowKit Go.Kw Go.Kw.Cv Go.Shelf
set_option linter.unusedVariables false
set_option linter.unusedSimpArgs false

/-- 'append' as a step of a drawn region, its run known. -/
theorem stp_append_run {P : Program} {ops : Array Oper} {o : Oper} {a : Act} {w : World} {K : Act → World → Prop} {Q : Exit → Act → World → Prop} {E : Prop}
    (hg : o.guard = none) (d x : Operand) (dT sT ty : TypeId) (hop : o.op = Op.call { callee := Callee.builtin Builtin.append, args := #[d, x], argTypes := #[dT, sT] }) (hty : o.type = ty)
    (v u : Value) (hd : a.eval d = v) (hx : a.eval x = u) {v' : Value} {w' : World} (hr : (Builtin.append_ #[dT, sT] ty #[v, u]).run P w = .ok v' w') (hK : K (a.put o.dst v') w') :
    if Region.wanted o (yielded ops a.tmps) = true then Oper.wp P o a w K Q else E := by
  subst hty
  have hw : Region.wanted o (yielded ops a.tmps) = true := by simp [Region.wanted, hg]
  rw [if_pos hw]
  unfold Oper.wp
  simp [execOp, hop, resolve, invoke, builtin, hd, hx, hr, Result.andThen]
  exact hK
/-- A plan's entry more. -/
theorem sw_push {W : World} {B : Nat} {l : Value} {j : Nat} {g : Nat → Nat → Int} (hl : W.ownsRow B 109 2 l j (vals (j * 2) (swC g))) (hB : B ≤ W.heap.size) (hj : j ≤ 100000) :
    ∃ A' c' w', (Builtin.append_ #[84, 84] 84 #[l, .slice (some ⟨W.heap.size, 0, none⟩) 1 1]).run Tryz.prog (W.alloc (.cells #[.int .i64 (g j 0), .int .i64 (g j 1)] 109)) = .ok (.slice A' (j + 1) c') w' ∧
      w'.ownsRow B 109 2 (.slice A' (j + 1) c') (j + 1) (vals ((j + 1) * 2) (swC g)) ∧ (W.alloc (.cells #[.int .i64 (g j 0), .int .i64 (g j 1)] 109)).grownBy w' l.ownBlock ∧
      ((Value.slice A' (j + 1) c').ownBlock = l.ownBlock ∨ (Value.slice A' (j + 1) c').ownBlock = some (W.heap.size + 1)) ∧ ∀ q, l.ownBlock = some q → B ≤ q := by
  obtain ⟨W1, hW1⟩ : ∃ W1, W.alloc (.cells #[.int .i64 (g j 0), .int .i64 (g j 1)] 109) = W1 := ⟨_, rfl⟩
  have hst : Below W.heap.size W W1 := hW1 ▸ bstep W _
  have hs1 : W1.heap.size = W.heap.size + 1 := by rw [← hW1]; simp
  have hrow : W1.heap[W.heap.size]? = some (.cells #[.int .i64 (g j 0), .int .i64 (g j 1)] 109 (0, 0)) := hW1 ▸ World.alloc_heap_new W _
  obtain ⟨v', w', hrun, o, gr, -, ob⟩ := run_append (P := Tryz.prog) W1 B 84 eSw (own_below hl hst) (B := W1.heap.size) (A := some ⟨W.heap.size, 0, none⟩) 1 1 (f := fun i => .int .i64 (g j i))
    (.inr ⟨W.heap.size, 0, rfl, by omega, fun i hi => by
      rw [Nat.zero_add]
      rcases (by omega : i = 0 ∨ i = 1) with rfl | rfl
      · exact blk_cell hrow 0 rfl
      · exact blk_cell hrow 1 rfl⟩) (fun i hi => rfl) (by unfold maxLen; omega) (by omega) (by omega) (fun h => by cases h)
  have e : vals (j * 2) (swC g) ++ vals (1 * 2) (fun i => Value.int .i64 (g j i)) = vals ((j + 1) * 2) (swC g) := by
    rw [vals_append, show j * 2 + 1 * 2 = (j + 1) * 2 by omega]
    refine vals_congr fun i hi => ?_
    unfold swC
    split
    · rfl
    · rename_i h
      rw [show i / 2 = j by omega, show i % 2 = i - j * 2 by omega]
  rw [e] at o
  obtain ⟨A', c', rfl, q1, q2, q3, q4⟩ := own_form o
  rw [hs1] at ob
  rw [← hW1] at hrun gr
  exact ⟨A', c', w', hrun, o, gr, ob, fun q hq => (own_in hl q hq).1⟩
/-- A rule more. -/
theorem ru_push {W : World} {B : Nat} {u : Value} {j : Nat} {r : Nat → Nat → Int} (hl : W.ownsRow B 107 3 u j (vals (j * 3) (ruC r))) (hB : B ≤ W.heap.size) (hj : j ≤ 100000) :
    ∃ A' c' w', (Builtin.append_ #[65, 65] 65 #[u, .slice (some ⟨W.heap.size, 0, none⟩) 1 1]).run Tryz.prog (W.alloc (.cells #[.int .i64 (r j 0), .int .i64 (r j 1), .int .i64 (r j 2)] 107)) = .ok (.slice A' (j + 1) c') w' ∧
      w'.ownsRow B 107 3 (.slice A' (j + 1) c') (j + 1) (vals ((j + 1) * 3) (ruC r)) ∧ (W.alloc (.cells #[.int .i64 (r j 0), .int .i64 (r j 1), .int .i64 (r j 2)] 107)).grownBy w' u.ownBlock ∧
      ((Value.slice A' (j + 1) c').ownBlock = u.ownBlock ∨ (Value.slice A' (j + 1) c').ownBlock = some (W.heap.size + 1)) ∧ ∀ q, u.ownBlock = some q → B ≤ q := by
  obtain ⟨W1, hW1⟩ : ∃ W1, W.alloc (.cells #[.int .i64 (r j 0), .int .i64 (r j 1), .int .i64 (r j 2)] 107) = W1 := ⟨_, rfl⟩
  have hst : Below W.heap.size W W1 := hW1 ▸ bstep W _
  have hs1 : W1.heap.size = W.heap.size + 1 := by rw [← hW1]; simp
  have hrow : W1.heap[W.heap.size]? = some (.cells #[.int .i64 (r j 0), .int .i64 (r j 1), .int .i64 (r j 2)] 107 (0, 0)) := hW1 ▸ World.alloc_heap_new W _
  obtain ⟨v', w', hrun, o, gr, -, ob⟩ := run_append (P := Tryz.prog) W1 B 65 eRu (own_below hl hst) (B := W1.heap.size) (A := some ⟨W.heap.size, 0, none⟩) 1 1 (f := fun i => .int .i64 (r j i))
    (.inr ⟨W.heap.size, 0, rfl, by omega, fun i hi => by
      rw [Nat.zero_add]
      rcases (by omega : i = 0 ∨ i = 1 ∨ i = 2) with rfl | rfl | rfl
      · exact blk_cell hrow 0 rfl
      · exact blk_cell hrow 1 rfl
      · exact blk_cell hrow 2 rfl⟩) (fun i hi => rfl) (by unfold maxLen; omega) (by omega) (by omega) (fun h => by cases h)
  have e : vals (j * 3) (ruC r) ++ vals (1 * 3) (fun i => Value.int .i64 (r j i)) = vals ((j + 1) * 3) (ruC r) := by
    rw [vals_append, show j * 3 + 1 * 3 = (j + 1) * 3 by omega]
    refine vals_congr fun i hi => ?_
    unfold ruC
    split
    · rfl
    · rename_i h
      rw [show i / 3 = j by omega, show i % 3 = i - j * 3 by omega]
  rw [e] at o
  obtain ⟨A', c', rfl, q1, q2, q3, q4⟩ := own_form o
  rw [hs1] at ob
  rw [← hW1] at hrun gr
  exact ⟨A', c', w', hrun, o, gr, ob, fun q hq => (own_in hl q hq).1⟩
/-- What the boxes hold: the tariff's bands, the result, the table that is being made. -/
structure TbB (b0 : Nat) (w : World) (V1 V2 u1 u2 : Value) (W : World) : Prop where
  t : W.heap[b0]? = some (.cells #[V1, V2] 32 (0, 0))
  r : W.heap[b0 + 1]? = some (.cells #[.slice none 0 0, .slice none 0 0] 67 (0, 0))
  o : W.heap[b0 + 1 + 1]? = some (.cells #[u1, u2] 67 (0, 0))
  bel : Below b0 w W
theorem TbB.lt {b0 : Nat} {w W : World} {V1 V2 u1 u2 : Value} (h : TbB b0 w V1 V2 u1 u2 W) : b0 + 3 ≤ W.heap.size := blk_lt h.o
theorem TbB.grow {b0 : Nat} {w W W' : World} {V1 V2 u1 u2 : Value} {L : Option Nat} (h : TbB b0 w V1 V2 u1 u2 W) (hg : W.grownBy W' L) (hL : ∀ q, L = some q → b0 + 3 ≤ q) : TbB b0 w V1 V2 u1 u2 W' := by
  have hs := h.lt
  have k : ∀ b, b < b0 + 3 → W'.heap[b]? = W.heap[b]? := fun b hb => hg.block b (by omega) (fun e => by have := hL b e.symm; omega)
  exact ⟨(k _ (by omega)).trans h.t, (k _ (by omega)).trans h.r, (k _ (by omega)).trans h.o, h.bel.grown hg (by omega) (fun q e => by have := hL q e; omega)⟩
theorem TbB.go {b0 : Nat} {w W W' : World} {V1 V2 u1 u2 : Value} (h : TbB b0 w V1 V2 u1 u2 W) (hb : Below W.heap.size W W') : TbB b0 w V1 V2 u1 u2 W' :=
  ⟨blk_below h.t hb, blk_below h.r hb, blk_below h.o hb, h.bel.trans (hb.mono (by have := h.lt; omega))⟩
theorem TbB.set0 {b0 : Nat} {w W : World} {V1 V2 u1 u2 : Value} (h : TbB b0 w V1 V2 u1 u2 W) (z : Value) : TbB b0 w V1 V2 z u2 (W.setCell ⟨b0 + 1 + 1, 0, none⟩ z) :=
  ⟨(heap_setCell_other W ⟨b0 + 1 + 1, 0, none⟩ b0 z (by show b0 ≠ b0 + 1 + 1; omega)).trans h.t, (heap_setCell_other W ⟨b0 + 1 + 1, 0, none⟩ (b0 + 1) z (by show b0 + 1 ≠ b0 + 1 + 1; omega)).trans h.r, heap_setCell_same W (b0 + 1 + 1) 0 _ _ z h.o, h.bel.setCell (by show b0 ≤ b0 + 1 + 1; omega) z⟩
theorem TbB.set1 {b0 : Nat} {w W : World} {V1 V2 u1 u2 : Value} (h : TbB b0 w V1 V2 u1 u2 W) (z : Value) : TbB b0 w V1 V2 u1 z (W.setCell ⟨b0 + 1 + 1, 1, none⟩ z) :=
  ⟨(heap_setCell_other W ⟨b0 + 1 + 1, 1, none⟩ b0 z (by show b0 ≠ b0 + 1 + 1; omega)).trans h.t, (heap_setCell_other W ⟨b0 + 1 + 1, 1, none⟩ (b0 + 1) z (by show b0 + 1 ≠ b0 + 1 + 1; omega)).trans h.r, heap_setCell_same W (b0 + 1 + 1) 1 _ _ z h.o, h.bel.setCell (by show b0 ≤ b0 + 1 + 1; omega) z⟩
theorem TbB.drew {b0 : Nat} {w W : World} {V1 V2 u1 u2 : Value} (h : TbB b0 w V1 V2 u1 u2 W) : TbB b0 w V1 V2 u1 u2 W.drew := ⟨h.t, h.r, h.o, h.bel.drew⟩
/-- What comes out. -/
def TabOut (np nr : Nat) (n : Nat → Nat) (g : Nat → Nat → Nat → Int) (r : Nat → Nat → Int) (w : World) (e : Ending) (w' : World) : Prop :=
  ∃ A c F R cr, e = .returned (.agg #[.slice A np c, .slice R nr cr]) ∧ RdPl w' A np c F g ∧ (∀ i, i < np → (F i).2.1 = n i) ∧ IRows 3 kI w' R nr cr r ∧ Below w.heap.size w w'
set_option maxRecDepth 100000 in
set_option maxHeartbeats 32000000 in
theorem table_calls (A : Option Addr) (np cp : Nat) (F : Nat → SlX) (g : Nat → Nat → Nat → Int) (R : Option Addr) (nr cr : Nat) (r : Nat → Nat → Int) (hn : np ≤ 60 ∧ nr ≤ 110 ∧ ∀ i, i < np → (F i).2.1 ≤ 60) (w : World) (hP : RdPl w A np cp F g) (hR : IRows 3 kI w R nr cr r) :
    Calls Tryz.prog 24 #[.agg #[.slice A np cp, .slice R nr cr]] w (TabOut np nr (fun i => (F i).2.1) g r w) := by
  obtain ⟨b0, hb0⟩ : ∃ b0, w.heap.size = b0 := ⟨_, rfl⟩
  have Hb0 := Lib.hid hb0
  have HP := Lib.hid hP
  have HR := Lib.hid hR
  have Hn := Lib.hid hn
  obtain ⟨W1, hW1⟩ : ∃ W1, w.alloc (.cells #[.slice A np cp, .slice R nr cr] 32) = W1 := ⟨_, rfl⟩
  have t1 : Below w.heap.size w W1 := hW1 ▸ bstep w _
  have z1 : W1.heap.size = b0 + 1 := by rw [← hW1]; simp [hb0]
  have r1 : W1.heap[b0]? = some (.cells #[.slice A np cp, .slice R nr cr] 32 (0, 0)) := by rw [← hb0, ← hW1]; exact World.alloc_heap_new w _
  obtain ⟨W2, hW2⟩ : ∃ W2, W1.alloc (.cells #[.slice none 0 0, .slice none 0 0] 67) = W2 := ⟨_, rfl⟩
  have t2 : Below W1.heap.size W1 W2 := hW2 ▸ bstep W1 _
  have z2 : W2.heap.size = b0 + 1 + 1 := by rw [← hW2]; simp [z1]
  have r2 : W2.heap[b0 + 1]? = some (.cells #[.slice none 0 0, .slice none 0 0] 67 (0, 0)) := by rw [← z1, ← hW2]; exact World.alloc_heap_new W1 _
  obtain ⟨W3, hW3⟩ : ∃ W3, W2.alloc (.cells #[.slice none 0 0, .slice none 0 0] 67) = W3 := ⟨_, rfl⟩
  have t3 : Below W2.heap.size W2 W3 := hW3 ▸ bstep W2 _
  have z3 : W3.heap.size = b0 + 1 + 1 + 1 := by rw [← hW3]; simp [z2]
  have r3 : W3.heap[b0 + 1 + 1]? = some (.cells #[.slice none 0 0, .slice none 0 0] 67 (0, 0)) := by rw [← z2, ← hW3]; exact World.alloc_heap_new W2 _
  have hT : TbB b0 w (.slice A np cp) (.slice R nr cr) (.slice none 0 0) (.slice none 0 0) W3 := ⟨blk_below (blk_below r1 t2) t3, blk_below r2 t3, r3, hb0 ▸ bnext (bnext t1 t2) t3⟩
  have hX : PlbX W3 (b0 + 3) none (.slice none 0 0) 0 (fun i => (F i).2.1) g F := PlbX.nil _ _ _ _ _ _
  have HT := Lib.hid (And.intro hT hX)
  clear t1 r1 t2 r2 t3 r3 hT hX hP hR hn
  go_enter Tryz.func24, Tryz.ntmps24
  go_wp2_with fail
  clear hW1 hW2 hW3 z1 z2 z3
  go_loopw [4] (fun iv wr => ∃ (k : Nat) (v : Value) (F' : Nat → SlX), k ≤ np ∧ iv = .int .i64 k ∧ TbB b0 w (.slice A np cp) (.slice R nr cr) v (.slice none 0 0) wr ∧ PlbX wr (b0 + 3) none v k (fun i => (F i).2.1) g F') (fun iv _ => np - (intOf iv).toNat)
  case atStart => exact ⟨0, _, F, by omega, rfl, HT.out.1, HT.out.2⟩
  case round =>
    obtain ⟨k, v, F', hk, rfl, hT, hX⟩ := hrel
    have d0 := cell_of_row wr b0 0 _ _ _ hT.t
    have d1 := cell_of_row wr b0 1 _ _ _ hT.t
    by_cases hlt : k < np
    · have hI : (k : Int) < np := by omega
      have hk0 : (0 : Int) ≤ (k : Int) := by omega
      have HT2 := Lib.hid (And.intro hT hX)
      have Hlt := Lib.hid hlt
      have hbel : Below w.heap.size w wr := Hb0.out.symm ▸ hT.bel
      obtain ⟨sb, off, rfl, hsb, hc0⟩ := (HP.out.go hbel).2.2.2.1.at_ hlt
      unfold slV at hc0
      obtain ⟨P1, hP1⟩ : ∃ x, (F k).1 = x := ⟨_, rfl⟩
      obtain ⟨P2, hP2⟩ : ∃ x, (F k).2.1 = x := ⟨_, rfl⟩
      obtain ⟨P3, hP3⟩ : ∃ x, (F k).2.2 = x := ⟨_, rfl⟩
      rw [hP1, hP2, hP3] at hc0
      have HPe := Lib.hid (And.intro hP1 (And.intro hP2 hP3))
      have hsw : wr.ownsRow (b0 + 3) 109 2 (.slice none 0 0) 0 (vals (0 * 2) (swC (g k))) := World.ownsRow_nil wr _ _ 2
      have HSW := Lib.hid hsw
      have Hsb := Lib.hid hsb
      clear hT hX hlt hP1 hP2 hP3 hbel hsb hk hsw
      obtain ⟨wo, rfl⟩ : ∃ wo : World, wo = wr := ⟨_, rfl⟩
      go_wp2_with fail
      clear d0 d1 hc0
      go_loopw [5, 6] (fun lv jv wr => ∃ (j : Nat) (lA : Option Addr) (lc : Nat), j ≤ P2 ∧ jv = .int .i64 j ∧ lv = .slice lA j lc ∧ TbB b0 w (.slice (some ⟨sb, off, none⟩) np cp) (.slice R nr cr) v (.slice none 0 0) wr ∧ PlbX wr (b0 + 3) (Value.slice lA j lc).ownBlock v k (fun i => (F i).2.1) g F' ∧ wr.ownsRow (b0 + 3) 109 2 (.slice lA j lc) j (vals (j * 2) (swC (g k)))) (fun _ jv _ => P2 - (intOf jv).toNat)
      case atStart => exact ⟨0, none, 0, by omega, rfl, rfl, HT2.out.1, HT2.out.2, HSW.out⟩
      case round =>
        obtain ⟨j, lA, lc, hj, rfl, rfl, hT, hX, hS⟩ := hrel
        have d0 := cell_of_row wr b0 0 _ _ _ hT.t
        have hbel : Below w.heap.size w wr := Hb0.out.symm ▸ hT.bel
        have hPw := HP.out.go hbel
        have hc0 : wr.cell? ⟨sb, off + k, none⟩ = some (.slice P1 P2 P3) := by
          obtain ⟨sb', off', e, -, hc⟩ := hPw.2.2.2.1.at_ Hlt.out
          injection e with e
          injection e with e1 e2
          subst e1 e2
          unfold slV at hc
          rw [HPe.out.1, HPe.out.2.1, HPe.out.2.2] at hc
          exact hc
        by_cases hjl : j < P2
        · have hI2 : (j : Int) < (P2 : Int) := by omega
          have hj0 : (0 : Int) ≤ (j : Int) := by omega
          have hrows := hPw.2.2.2.2 k Hlt.out
          rw [HPe.out.1, HPe.out.2.1, HPe.out.2.2] at hrows
          obtain ⟨s2, o2, hp1, -, c0, c1⟩ := sw_at hrows hjl
          rw [hp1] at hc0
          have h60 : P2 ≤ 60 := by have := Hn.out.2.2 k Hlt.out; rw [HPe.out.2.1] at this; exact this
          obtain ⟨A', c', w', hrun, ho, hg, hob, hlo⟩ := sw_push hS hT.lt (by omega)
          obtain ⟨M, hM⟩ : ∃ M, g k j 0 = M := ⟨_, rfl⟩
          obtain ⟨D, hD⟩ : ∃ D, g k j 1 = D := ⟨_, rfl⟩
          rw [hM] at c0
          rw [hD] at c1
          rw [hM, hD] at hrun hg
          have hst := bstep wr (.cells #[.int .i64 M, .int .i64 D] 109)
          have HN := Lib.hid (show TbB b0 w (.slice (some ⟨sb, off, none⟩) np cp) (.slice R nr cr) v (.slice none 0 0) w' ∧ PlbX w' (b0 + 3) (Value.slice A' (j + 1) c').ownBlock v k (fun i => (F i).2.1) g F' from
            ⟨(hT.go hst).grow hg hlo, (hX.go hst).grow hg (by rw [World.size_alloc]; exact hob)⟩)
          have HO := Lib.hid ho
          have wj : IntKind.i64.wrap ((j : Int) + 1) = (j : Int) + 1 := i64_same _ (by omega)
          have Xj := Lib.hid (wrap64_in ((j : Int) + 1) (by omega))
          have Hjl := Lib.hid hjl
          clear hT hX hS hbel hPw hrows hp1 h60 ho hg hob hlo hM hD hst hjl hj
          have x := Xj.out
          go_wp2_with (at_builtin; refine wpList_append_run hrun rfl rfl rfl rfl rfl ?_; clear hrun)
          clear x
          exact ⟨⟨j + 1, A', c', Hjl.out, by push_cast; rfl, by push_cast; rfl, HN.out.1, HN.out.2, HO.out⟩, meas_z P2 j Hjl.out⟩
        · obtain rfl : j = P2 := by omega
          have hI2 : ¬ ((j : Int) < (j : Int)) := by omega
          have e0 := cell_of_row wr (b0 + 1 + 1) 0 _ _ _ hT.o
          have f0 : wr.frozen? ⟨b0 + 1 + 1, 0, none⟩ = false := frozen_of_row wr (b0 + 1 + 1) 0 _ _ hT.o
          have hnk : (fun i => (F i).2.1) k = j := HPe.out.2.1
          have hS2 : wr.ownsRow (b0 + 3) 109 2 (.slice lA j lc) ((fun i => (F i).2.1) k) (vals ((fun i => (F i).2.1) k * 2) (swC (g k))) := by rw [hnk]; exact hS
          obtain ⟨A', c', w', F2, hrun, hX2, hg, hlo⟩ := hX.push hS2 hT.lt (by have := Hn.out.1; have := Hlt.out; omega)
          have hst := bstep wr (.cells #[.slice lA j lc] 84)
          have hT2 := (hT.go hst).grow hg hlo
          have e1 := cell_of_row w' (b0 + 1 + 1) 0 _ _ _ hT2.o
          have f1 : w'.frozen? ⟨b0 + 1 + 1, 0, none⟩ = false := frozen_of_row w' (b0 + 1 + 1) 0 _ _ hT2.o
          have HN := Lib.hid (And.intro (hT2.set0 (.slice A' (k + 1) c')) (hX2.set (p := ⟨b0 + 1 + 1, 0, none⟩) (by show b0 + 1 + 1 < b0 + 3; omega) (.slice A' (k + 1) c')))
          have wk : IntKind.i64.wrap ((k : Int) + 1) = (k : Int) + 1 := i64_same _ (by have := Hn.out.1; have := Hlt.out; omega)
          have Xk := Lib.hid (wrap64_in ((k : Int) + 1) (by have := Hn.out.1; have := Hlt.out; omega))
          clear hT hX hS hbel hPw hnk hS2 hX2 hg hlo hst hT2 hj hjl
          have x := Xk.out
          go_wp2_with (at_builtin; refine wpList_append_run hrun rfl rfl rfl rfl rfl ?_; clear hrun)
          clear x
          exact ⟨⟨k + 1, _, F2, Hlt.out, by push_cast; rfl, HN.out.1, HN.out.2⟩, meas_z np k Hlt.out⟩
    · obtain rfl : k = np := by omega
      have hI : ¬ ((k : Int) < k) := by omega
      have HT3 := Lib.hid (show TbB b0 w (.slice A k cp) (.slice R nr cr) v (.slice none 0 0) wr ∧ PlbX wr (b0 + 3) (Value.slice none 0 0).ownBlock v k (fun i => (F i).2.1) g F' ∧ wr.ownsRow (b0 + 3) 107 3 (.slice none 0 0) 0 (vals (0 * 3) (ruC r)) from ⟨hT, hX, World.ownsRow_nil wr _ _ 3⟩)
      clear hT hX hlt hk
      obtain ⟨wo, rfl⟩ : ∃ wo : World, wo = wr := ⟨_, rfl⟩
      go_wp2_with fail
      clear d0 d1
      go_loopw [7] (fun iv wr => ∃ (q : Nat) (uA : Option Addr) (uc : Nat), q ≤ nr ∧ iv = .int .i64 q ∧ TbB b0 w (.slice A k cp) (.slice R nr cr) v (.slice uA q uc) wr ∧ PlbX wr (b0 + 3) (Value.slice uA q uc).ownBlock v k (fun i => (F i).2.1) g F' ∧ wr.ownsRow (b0 + 3) 107 3 (.slice uA q uc) q (vals (q * 3) (ruC r))) (fun iv _ => nr - (intOf iv).toNat)
      case atStart => exact ⟨0, none, 0, by omega, rfl, HT3.out.1, HT3.out.2.1, HT3.out.2.2⟩
      case round =>
        obtain ⟨q, uA, uc, hq, rfl, hT, hX, hS⟩ := hrel
        have d1 := cell_of_row wr b0 1 _ _ _ hT.t
        have hbel : Below w.heap.size w wr := Hb0.out.symm ▸ hT.bel
        by_cases hql : q < nr
        · have hI2 : (q : Int) < (nr : Int) := by omega
          have hq0 : (0 : Int) ≤ (q : Int) := by omega
          obtain ⟨s2, o2, hp1, -, c0, c1, c2⟩ := br_at (HR.out.go hbel) hql
          rw [hp1] at d1
          obtain ⟨A', c', w', hrun, ho, hg, hob, hlo⟩ := ru_push (W := wr.drew) hS (by have := hT.lt; show b0 + 3 ≤ wr.heap.size; exact this) (by have := Hn.out.2.1; omega)
          obtain ⟨M, hM⟩ : ∃ M, r q 0 = M := ⟨_, rfl⟩
          obtain ⟨D, hD⟩ : ∃ D, r q 1 = D := ⟨_, rfl⟩
          obtain ⟨E, hE⟩ : ∃ E, r q 2 = E := ⟨_, rfl⟩
          rw [hM] at c0
          rw [hD] at c1
          rw [hE] at c2
          rw [hM, hD, hE] at hrun hg
          have e0 := cell_of_row wr (b0 + 1 + 1) 1 _ _ _ hT.o
          have hst := bstep wr.drew (.cells #[.int .i64 M, .int .i64 D, .int .i64 E] 107)
          have ea := cell_of_row _ (b0 + 1 + 1) 1 _ _ _ (blk_below hT.o (bstep wr (.cells #[.int .i64 M, .int .i64 D, .int .i64 E] 107)))
          have hT2 := (hT.drew.go hst).grow hg hlo
          have hX2 := (hX.drew.go hst).grow hg (by rw [World.size_alloc]; exact hob)
          have e1 := cell_of_row w' (b0 + 1 + 1) 1 _ _ _ hT2.o
          have f1 : w'.frozen? ⟨b0 + 1 + 1, 1, none⟩ = false := frozen_of_row w' (b0 + 1 + 1) 1 _ _ hT2.o
          have hsz : wr.drew.heap.size = wr.heap.size := rfl
          have HN := Lib.hid (show TbB b0 w (.slice A k cp) (.slice R nr cr) v (.slice A' (q + 1) c') (w'.setCell ⟨b0 + 1 + 1, 1, none⟩ (.slice A' (q + 1) c')) ∧ PlbX (w'.setCell ⟨b0 + 1 + 1, 1, none⟩ (.slice A' (q + 1) c')) (b0 + 3) (Value.slice A' (q + 1) c').ownBlock v k (fun i => (F i).2.1) g F' ∧ (w'.setCell ⟨b0 + 1 + 1, 1, none⟩ (.slice A' (q + 1) c')).ownsRow (b0 + 3) 107 3 (.slice A' (q + 1) c') (q + 1) (vals ((q + 1) * 3) (ruC r)) from
            ⟨hT2.set1 _, hX2.set (p := ⟨b0 + 1 + 1, 1, none⟩) (by show b0 + 1 + 1 < b0 + 3; omega) _, own_turn ho (fun z hz hzl => heap_setCell_other w' ⟨b0 + 1 + 1, 1, none⟩ z _ (by have := (own_in ho z hz).1; show z ≠ b0 + 1 + 1; omega))⟩)
          have wj : IntKind.i64.wrap ((q : Int) + 1) = (q : Int) + 1 := i64_same _ (by have := Hn.out.2.1; omega)
          have Xj := Lib.hid (wrap64_in ((q : Int) + 1) (by have := Hn.out.2.1; omega))
          have Hql := Lib.hid hql
          clear hT hX hS hbel hp1 ho hg hob hlo hM hD hE hst hql hq hT2 hX2 hsz
          have Hrun := Lib.hid hrun
          clear hrun
          have x := Xj.out
          go_wp2_with fail
          go_region_law ((refine stp_append_run (by rfl) (.tmp 50) (.tmp 56) _ _ _ (by rfl) (by rfl) (.slice uA q uc) (.slice (some ⟨wr.heap.size, 0, none⟩) 1 1) (by simp [Act.eval, Act.put]) (by simp [Act.eval, Act.put]) Hrun.out ?_))
          all_goals
            go_wp2_with fail
            clear x
            exact ⟨⟨q + 1, A', c', Hql.out, by push_cast; rfl, HN.out.1, HN.out.2.1, HN.out.2.2⟩, meas_z nr q Hql.out⟩
        · obtain rfl : q = nr := by omega
          have hI2 : ¬ ((q : Int) < (q : Int)) := by omega
          obtain ⟨vA, vc, rfl, v1, v2, v3, v4⟩ := own_form hX.row
          have o0 := cell_of_row wr (b0 + 1 + 1) 0 _ _ _ hT.o
          have o1 := cell_of_row wr (b0 + 1 + 1) 1 _ _ _ hT.o
          have p0 := cell_of_row wr (b0 + 1) 0 _ _ _ hT.r
          have p1 := cell_of_row wr (b0 + 1) 1 _ _ _ hT.r
          have f0 : wr.frozen? ⟨b0 + 1, 0, none⟩ = false := frozen_of_row wr (b0 + 1) 0 _ _ hT.r
          have f1 : wr.frozen? ⟨b0 + 1, 1, none⟩ = false := frozen_of_row wr (b0 + 1) 1 _ _ hT.r
          have hw1 : ∀ i, i < k → ∀ a b, a < (fun i => (F i).2.1) i → b < 2 → (Lit.int .i64 (g i a b)).wf = true := fun i hi a b ha hb => (HP.out.2.2.2.2 i hi).2.2.2.2 a b ha hb
          have hXf := (hX.set (p := ⟨b0 + 1, 0, none⟩) (by show b0 + 1 < b0 + 3; omega) (.slice vA k vc)).set (p := ⟨b0 + 1, 1, none⟩) (by show b0 + 1 < b0 + 3; omega) (.slice uA q uc)
          have hSf : ((wr.setCell ⟨b0 + 1, 0, none⟩ (.slice vA k vc)).setCell ⟨b0 + 1, 1, none⟩ (.slice uA q uc)).ownsRow (b0 + 3) 107 3 (.slice uA q uc) q (vals (q * 3) (ruC r)) :=
            own_turn (own_turn hS (fun z hz hzl => heap_setCell_other wr ⟨b0 + 1, 0, none⟩ z _ (by have := (own_in hS z hz).1; show z ≠ b0 + 1; omega))) (fun z hz hzl => heap_setCell_other _ ⟨b0 + 1, 1, none⟩ z _ (by have := (own_in hS z hz).1; show z ≠ b0 + 1; omega))
          have hrf : ((wr.setCell ⟨b0 + 1, 0, none⟩ (.slice vA k vc)).setCell ⟨b0 + 1, 1, none⟩ (.slice uA q uc)).heap[b0 + 1]? = some (.cells #[.slice vA k vc, .slice uA q uc] 67 (0, 0)) :=
            heap_setCell_same _ (b0 + 1) 1 _ _ (.slice uA q uc) (heap_setCell_same wr (b0 + 1) 0 _ _ (.slice vA k vc) hT.r)
          have hbf : Below w.heap.size w ((wr.setCell ⟨b0 + 1, 0, none⟩ (.slice vA k vc)).setCell ⟨b0 + 1, 1, none⟩ (.slice uA q uc)) :=
            Hb0.out.symm ▸ (hT.bel.setCell (p := ⟨b0 + 1, 0, none⟩) (by show b0 ≤ b0 + 1; omega) _).setCell (p := ⟨b0 + 1, 1, none⟩) (by show b0 ≤ b0 + 1; omega) _
          obtain ⟨hpl, hFn⟩ := hXf.rd hw1
          obtain ⟨uA', uc', e5, u1, u2, u3, u4⟩ := own_form hSf
          injection e5 with e5 _ e6
          subst e5 e6
          have hru : IRows 3 kI _ uA q uc r := ⟨u1, u2, fun h => (u3 h).1, (RdX.of_own (S := fun _ => True) hSf (fun _ _ => trivial)).rd, HR.out.2.2.2.2⟩
          have HF := Lib.hid (show TabOut k q (fun i => (F i).2.1) g r w (.returned (.agg #[.slice vA k vc, .slice uA q uc])) ((wr.setCell ⟨b0 + 1, 0, none⟩ (.slice vA k vc)).setCell ⟨b0 + 1, 1, none⟩ (.slice uA q uc)) from ⟨vA, vc, F', uA, uc, rfl, hpl, hFn, hru, hbf⟩)
          have HC0 := Lib.hid (And.intro (cell_of_row _ (b0 + 1) 0 _ _ _ hrf) (cell_of_row _ (b0 + 1) 1 _ _ _ hrf))
          clear hXf hSf hrf hbf hT hX hS hbel hw1 hpl hFn hru u1 u2 u3 u4 v1 v2 v3 v4 hql hq
          go_wp2_with fail
          obtain ⟨Wf, hWf⟩ : ∃ Wf, (wr.setCell ⟨b0 + 1, 0, none⟩ (.slice vA k vc)).setCell ⟨b0 + 1, 1, none⟩ (.slice uA q uc) = Wf := ⟨_, rfl⟩
          rw [hWf] at HF HC0 ⊢
          obtain ⟨g0, g1⟩ := HC0.out
          clear o0 o1 p0 p1 f0 f1 d1 hWf
          refine bodyPost_ret (v := .agg #[.slice vA k vc, .slice uA q uc]) (by simp [results, Tryz.results24, go_sem, g0, g1]) rfl ?_
          exact HF.out
end Go.Proofs.YtgbkedjjgbhcmaaGreatDoor
