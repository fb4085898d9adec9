/-
  A device of sectors as the laws hold it: made by the law, its blocks at or above the law's own beginning ('LD'); the calls over it. Conditions stand at each theorem.
-/
import Derived.Test.YtpleaicpkpjkjaaBlk7
import Derived.Test.YtpleaicpkpjkjaaBlk17
import Derived.Test.YtpleaicpkpjkjaaBlk18
namespace Go.Proofs.Ytpleaicpkpjkjaa
open Go Go.RowKit Go.Kw
set_option linter.unusedVariables false
set_option linter.unusedSimpArgs false

/-- A device that was made since w0; the blocks of X are there, and none of its own. -/
def LD (w0 : World) (d sb sc : Nat) (D : Dv) (X : Nat → Prop) (W : World) : Prop := ∃ V, DevO W w0.heap.size d sb sc V D ∧ Below w0.heap.size w0 W ∧ ∀ b, X b → b < W.heap.size ∧ Ft d sb V b
section
variable {w0 W W' : World} {d sb sc : Nat} {D D' : Dv} {X : Nat → Prop}
theorem LD.go (h : LD w0 d sb sc D X W) (hb : Below W.heap.size W W') : LD w0 d sb sc D X W' := by
  obtain ⟨V, h1, h2, h3⟩ := h
  exact ⟨V, h1.go hb, bnext h2 hb, fun b hx => ⟨Nat.lt_of_lt_of_le (h3 b hx).1 hb.size, (h3 b hx).2⟩⟩
theorem LD.below (h : LD w0 d sb sc D X W) : Below w0.heap.size w0 W := by obtain ⟨V, h1, h2, h3⟩ := h; exact h2
theorem LD.ok (h : LD w0 d sb sc D X W) : DvOk D := by obtain ⟨V, h1, h2, h3⟩ := h; exact h1.ok
/-- What was made since lies beside it. -/
theorem LD.more (h : LD w0 d sb sc D X W) (hb : Below W.heap.size W W') : LD w0 d sb sc D (fun b => X b ∨ W.heap.size ≤ b ∧ b < W'.heap.size) W' := by
  obtain ⟨V, h1, h2, h3⟩ := h
  refine ⟨V, h1.go hb, bnext h2 hb, fun b hx => ?_⟩
  rcases hx with hx | ⟨hx, hx2⟩
  · exact ⟨Nat.lt_of_lt_of_le (h3 b hx).1 hb.size, (h3 b hx).2⟩
  · exact ⟨hx2, h1.new hx⟩
theorem LD.less {Y : Nat → Prop} (h : LD w0 d sb sc D X W) (hy : ∀ b, Y b → X b) : LD w0 d sb sc D Y W := by
  obtain ⟨V, h1, h2, h3⟩ := h
  exact ⟨V, h1, h2, fun b hb => h3 b (hy b hb)⟩
/-- What was there at the beginning lies beside it. -/
theorem LD.old (h : LD w0 d sb sc D X W) : LD w0 d sb sc D (fun b => X b ∨ b < w0.heap.size) W := by
  obtain ⟨V, h1, h2, h3⟩ := h
  refine ⟨V, h1, h2, fun b hx => ?_⟩
  rcases hx with hx | hx
  · exact h3 b hx
  · exact ⟨Nat.lt_of_lt_of_le hx h2.size, h1.below hx⟩
theorem LD.ofP {V : Value} (h : DevO W w0.heap.size d sb sc V D) (h2 : Below w0.heap.size w0 W) (h3 : ∀ b, X b → b < W.heap.size ∧ Ft d sb V b) (hp : DevP W w0.heap.size d sb sc V D' W') : LD w0 d sb sc D' X W' ∧ Kept X W W' := by
  have hb := hp.belowB h h2.size
  obtain ⟨V', h4, hk, hv⟩ := hp
  exact ⟨⟨V', h4, h2.trans hb, fun b hx => ⟨Nat.lt_of_lt_of_le (h3 b hx).1 hk.size, ft_on hv (h3 b hx).1 (h3 b hx).2⟩⟩, hk.mono (fun b _ hx => (h3 b hx).2)⟩
theorem made_secC (n : Nat) : (madeCells (Value.agg (Array.replicate 128 (.int .u8 0))).cells (n * 128)).toList = secC (newV n).S := by
  show _ = secC (List.replicate n (List.replicate 128 0))
  rw [secC_new]
  apply List.ext_getElem
  · simp [madeCells]
  · intro i h1 h2
    simp [madeCells, Value.cells, Nat.mod_lt]
theorem LD_new (w0 w : World) (hb0 : Below w0.heap.size w0 w) (n : Nat) (h1 : 1 ≤ n) (h2 : n ≤ 65536) : Calls Try.prog 9 #[.int .i64 (n : Int)] w fun e w' => ∃ d sb, e = .returned (.tuple #[.pointer (some ⟨d, 0, none⟩), .int .i64 0]) ∧ LD w0 d sb n (newV n) (fun _ => False) w' ∧ Below w.heap.size w w' := by
  refine (dNew_calls w n h1 h2).mono ?_
  rintro e w' ⟨d, sb, rfl, hs, hsd, hd, hH, ho, hb⟩
  have hl : (newV n).S.length = n := by simp [newV]
  have hz := hb0.size
  rw [made_secC] at ho
  exact ⟨d, sb, rfl, ⟨.slice none 0 0, ⟨newV_ok n h1 h2, ⟨none, 0, rfl, by rw [hl]; exact hH⟩, by rw [hl]; exact own_mono ho hz, World.ownsRow_nil _ _ _ _, by omega, by simp [Value.ownBlock], by simp [Value.ownBlock], by omega⟩, bnext hb0 hb, fun b h => h.elim⟩, hb⟩
theorem LD.write {W0 : World} (h : LD w0 d sb sc D X W0) (hb : Below W0.heap.size W0 W) (hk : 0 ≤ D.k ∧ D.k < 4611686018427387904) {e : TypeId} {A : Option Addr} {n c : Nat} {l : List UInt8} (ho : W.ownsRow W0.heap.size e 1 (.slice A n c) n (bv l)) (i : Int) :
    Calls Try.prog 10 #[.pointer (some ⟨d, 0, none⟩), .int .i64 i, .slice A n c] W fun e W' => e = .returned (.int .i64 (putV D i l).1) ∧ LD w0 d sb sc (putV D i l).2 X W' ∧ Kept X W W' := by
  obtain ⟨V, h1, h2, h5⟩ := h
  have h3 := h1.go hb
  have h4 := bnext h2 hb
  refine (dWrite_calls W _ d sb sc V D h3 hk h4.size i A n c l (rdB_own ho).2 (RdY.of_own ho (fun b hb => h1.new hb))).mono ?_
  rintro e W' ⟨rfl, hp⟩
  exact ⟨rfl, LD.ofP h3 h4 (fun b hx => ⟨Nat.lt_of_lt_of_le (h5 b hx).1 hb.size, (h5 b hx).2⟩) hp⟩
theorem LD.flush (h : LD w0 d sb sc D X W) (hk : 0 ≤ D.k ∧ D.k < 4611686018427387904) :
    Calls Try.prog 12 #[.pointer (some ⟨d, 0, none⟩)] W fun e W' => e = .returned (.int .i64 (flushV D).1) ∧ LD w0 d sb sc (flushV D).2 X W' ∧ Kept X W W' := by
  obtain ⟨V, h1, h2, h5⟩ := h
  refine (dFlush_calls W _ d sb sc V D h1 hk).mono ?_
  rintro e W' ⟨rfl, hp⟩
  exact ⟨rfl, LD.ofP h1 h2 h5 hp⟩
theorem LD.plan (h : LD w0 d sb sc D X W) (i : Int) (hi : i < 9223372036854775808) :
    Calls Try.prog 18 #[.pointer (some ⟨d, 0, none⟩), .int .i64 i] W fun e W' => e = .returned (.int .i64 (planV D i).1) ∧ LD w0 d sb sc (planV D i).2 X W' ∧ Kept X W W' := by
  obtain ⟨V, h1, h2, h5⟩ := h
  refine (dPlan_dev W _ d sb sc V D h1 i hi).mono ?_
  rintro e W' ⟨rfl, hp⟩
  exact ⟨rfl, LD.ofP h1 h2 h5 hp⟩
theorem LD.pull (h : LD w0 d sb sc D X W) :
    Calls Try.prog 15 #[.pointer (some ⟨d, 0, none⟩)] W fun e W' => e = .returned (.int .i64 0) ∧ LD w0 d sb sc { D with dn := true } X W' ∧ Kept X W W' := by
  obtain ⟨V, h1, h2, h5⟩ := h
  refine (dPull_dev W _ d sb sc V D h1).mono ?_
  rintro e W' ⟨rfl, hp⟩
  exact ⟨rfl, LD.ofP h1 h2 h5 hp⟩
theorem LD.down (h : LD w0 d sb sc D X W) : Calls Try.prog 19 #[.pointer (some ⟨d, 0, none⟩)] W fun e W' => e = .returned (.bool D.dn) ∧ Below W.heap.size W W' := by
  obtain ⟨V, h1, h2⟩ := h
  exact dDown_dev W _ d sb sc V D h1
theorem LD.calls (h : LD w0 d sb sc D X W) : Calls Try.prog 17 #[.pointer (some ⟨d, 0, none⟩)] W fun e W' => e = .returned (.int .i64 D.k) ∧ Below W.heap.size W W' := by
  obtain ⟨V, h1, h2⟩ := h
  exact dCalls_dev W _ d sb sc V D h1
theorem LD.cached (h : LD w0 d sb sc D X W) : Calls Try.prog 20 #[.pointer (some ⟨d, 0, none⟩)] W (CachB W D.C) := by
  obtain ⟨V, h1, h2⟩ := h
  exact dCached_calls W _ d sb sc V D h1
theorem LD.safe (h : LD w0 d sb sc D X W) (i : Nat) (hi : i < D.S.length) : Calls Try.prog 21 #[.pointer (some ⟨d, 0, none⟩), .int .i64 (i : Int)] W (SafeB W (D.S.getD i [])) := by
  obtain ⟨V, h1, h2⟩ := h
  exact dSafe_dev W _ d sb sc V D h1 i hi
theorem LD.read (h : LD w0 d sb sc D X W) (i : Nat) (hi : i < D.S.length) (hdn : D.dn = false) : Calls Try.prog 13 #[.pointer (some ⟨d, 0, none⟩), .int .i64 (i : Int)] W (SafeB W (seenD D i)) := by
  obtain ⟨V, h1, h2⟩ := h
  exact dRead_calls W _ d sb sc V D h1 i hi hdn
theorem LD.restart (h : LD w0 d sb sc D X W) (KA : Option Addr) (kc : Nat) (kp : List UInt8) (to at' : Int) (hK : RdY W (fun b => b ≠ sb) KA kp) :
    Calls Try.prog 16 #[.pointer (some ⟨d, 0, none⟩), .agg #[.slice KA kp.length kc, .int .i64 to, .int .i64 at']] W fun e W' => e = .returned (.int .i64 (restV D kp to at').1) ∧ LD w0 d sb sc (restV D kp to at').2 X W' ∧ Kept X W W' := by
  obtain ⟨V, h1, h2, h5⟩ := h
  have : Calls Try.prog 16 #[.pointer (some ⟨d, 0, none⟩), .agg #[.slice KA kp.length kc, .int .i64 to, .int .i64 at']] W fun e W' => e = .returned (.int .i64 (restV D kp to at').1) ∧ DevP W w0.heap.size d sb sc V (restV D kp to at').2 W' := by
    cases hdn : D.dn with
    | false => exact dRest_up W _ d sb sc V D h1 KA kc kp to at' hdn
    | true => exact dRest_down W _ d sb sc V D h1 KA kc kp to at' hdn h2.size hK
  refine this.mono ?_
  rintro e W' ⟨rfl, hp⟩
  exact ⟨rfl, LD.ofP h1 h2 h5 hp⟩
theorem LD.lt (h : LD w0 d sb sc D X W) : w0.heap.size ≤ sb ∧ sb < W.heap.size ∧ w0.heap.size ≤ d ∧ d < W.heap.size := by
  obtain ⟨V, h1, h2⟩ := h
  have a := h1.lt
  have b := h1.le
  exact ⟨b.2.1, a.2.1, b.1, a.1⟩
/-- A copy, as a device that was made since W. -/
theorem LD.copy (h : LD w0 d sb sc D X W) : Calls Try.prog 14 #[.pointer (some ⟨d, 0, none⟩)] W fun e W' => ∃ d' sb' sc', e = .returned (.pointer (some ⟨d', 0, none⟩)) ∧ LD W d' sb' sc' D (fun _ => False) W' ∧ Below W.heap.size W W' := by
  obtain ⟨V, h1, h2⟩ := h
  refine (dCopy_calls W _ d sb sc V D h1).mono ?_
  rintro e W' ⟨d', sb', sc', V', rfl, h3, h4⟩
  exact ⟨d', sb', sc', rfl, ⟨V', h3, h4, fun b h => h.elim⟩, h4⟩
end
theorem seen_128 {D : Dv} (h : DvOk D) {n : Nat} (hn : n < D.S.length) : (seenD D n).length = 128 := by
  unfold seenD
  cases hg : (D.C.filter (fun x => x.1 == n)).getLast? with
  | none => exact seen_len h hn
  | some x =>
    have := List.mem_of_getLast? hg
    exact (h.c x (List.mem_filter.1 this).1).2
set_option maxHeartbeats 8000000 in
/-- reads: has a sector these bytes? -/
theorem reads_calls {w0 W : World} {d sb sc : Nat} {D : Dv} {X : Nat → Prop} (h : LD w0 d sb sc D X W) (i : Nat) (hi : i < D.S.length) (hdn : D.dn = false) (A : Option Addr) (n c : Nat) (l : List UInt8) (hn : n = l.length) (hR : RdB W W.heap.size A l) (hA : A = none → l.length = 0) :
    Calls Try.prog 27 #[.pointer (some ⟨d, 0, none⟩), .int .i64 (i : Int), .slice A n c] W fun e W' => e = .returned (.bool (seenD D i == l)) ∧ Below W.heap.size W W' := by
  subst hn
  have HR := Lib.hid (h.read i hi hdn)
  have HB := Lib.hid (And.intro hR hA)
  have hl := seen_128 h.ok hi
  obtain ⟨x, hx⟩ : ∃ x, seenD D i = x := ⟨_, rfl⟩
  rw [hx] at hl ⊢
  have Hx := Lib.hid (And.intro hx hl)
  clear h hR hA hl hx
  go_enter Try.func27, Try.ntmps27
  go_wp2_with fail
  refine HR.out.mono ?_
  rintro e w2 ⟨A', c', rfl, ho, hb⟩
  obtain ⟨hx, hl⟩ := Hx.out
  rw [hx] at ho
  have h1 := rdB_own ho
  have hA' : A' = none → x.length = 0 := fun e => by
    subst e
    rcases ho.2 with ⟨h, h0⟩ | ⟨g, cap, cur, h, _⟩
    · omega
    · cases h
  have s1 := fun X (hX : Below w2.heap.size w2 X) => run_string (P := Try.prog) (src := 23) (dst := 9) (e := 5) (h1.1.go hX) c' hA' Try.underlying23 Try.underlying5 Try.underlying9
  have s2 := fun X (hX : Below w2.heap.size w2 X) => run_string (P := Try.prog) (src := 23) (dst := 9) (e := 5) ((HB.out.1.go hb).go hX) c HB.out.2 Try.underlying23 Try.underlying5 Try.underlying9
  have t1 := s1 w2 (Below.refl _ _)
  have t2 := s2 w2 (Below.refl _ _)
  rw [hl] at t1
  have HB2 := Lib.hid hb
  clear s1 s2 h1 ho hb hl hx hA'
  go_wp2_with fail
  go_ret
  exact ⟨rfl, HB2.out⟩
end Go.Proofs.Ytpleaicpkpjkjaa
