/-
  One call on the device and on the document's (do of package kilowattlaw12), walked kind by kind. Conditions stand at each theorem. (Printed by gen_plays2.py.)
-/
import Derived.Test.YtpleaicpkpjkjaaPlays1
import Derived.Test.YtpleaicpkpjkjaaBlk26
namespace Go.Proofs.Ytpleaicpkpjkjaa
open Go Go.RowKit Go.Kw
set_option linter.unusedVariables false
set_option linter.unusedSimpArgs false

def opAgg (z : OpR) : Value := .agg #[.int .i64 z.kd, .int .i64 z.N, .int .u8 (z.b.toNat : Int), .int .i64 z.L, .slice z.KA z.kp.length z.kc, .int .i64 z.to, .int .i64 z.at']
def DoB (w0 W : World) (d sb sc r mb m : Nat) (D : Dv) (G : Nat → Prop) (e : Ending) (W' : World) : Prop := e = .returned (.bool true) ∧ ∃ D', PL w0 d sb sc r mb D' D' (m + 256) G W' ∧ DNext D D' ∧ Kept G W W'
theorem opC_cells {W : World} {b : Nat} {z : OpR} {t : TypeId} (h : W.heap[b]? = some (.cells #[.int .i64 z.kd, .int .i64 z.N, .int .u8 (z.b.toNat : Int), .int .i64 z.L, .slice z.KA z.kp.length z.kc, .int .i64 z.to, .int .i64 z.at'] t (0, 0))) : OpC b 0 z W :=
  ⟨blk_cell h 0 rfl, blk_cell h 1 rfl, blk_cell h 2 rfl, blk_cell h 3 rfl, blk_cell h 4 rfl, blk_cell h 5 rfl, blk_cell h 6 rfl⟩
theorem inc_set {l : List UInt8} {i : Nat} (hi : i < l.length) : (bv l).set i (.int .u8 ((bAt l i + 1) % 256)) = bv (l.set i (l.getD i 0 + 1)) := by
  unfold bv
  rw [List.map_set]
  congr 2
theorem rdY_own {w : World} {B g k n c : Nat} {e : TypeId} {l : List UInt8} (h : w.ownsRow B e 1 (.slice (some ⟨g, 0, none⟩) k c) n (bv l)) : RdY w (fun b => b = g) (some ⟨g, 0, none⟩) l := by
  rcases (rdB_own h).1 with h0 | ⟨b, off, e, hlt, hc⟩
  · exact .inl h0
  · injection e with e; injection e with e1 e2
    subst e1 e2
    exact .inr ⟨g, 0, rfl, rfl, hlt, hc⟩
theorem own_bcell {w : World} {B g n c : Nat} {l : List UInt8} (h : w.ownsRow B 5 1 (.slice (some ⟨g, 0, none⟩) n c) n (bv l)) {i : Nat} (hi : i < n) : i < l.length ∧ w.cell? ⟨g, i, none⟩ = some (.int .u8 (bAt l i)) := by
  have hn : l.length = n := by have := h.1; rw [bv_length] at this; omega
  refine ⟨by omega, ?_⟩
  rw [h.cellAt i (by omega), bv]
  simp [bAt, show i < l.length by omega]
theorem refRest_any {w : World} {B r mb nn : Nat} {V : Value} {X : Nat → Prop} {D : Dv} (h : RefO w B r mb nn V X D) (hX : ∀ b, X b → b < w.heap.size) (hnn : nn ≤ 1000000000) (KA : Option Addr) (kl kc : Nat) (tn at' : Int) (kp : List UInt8) (hkl : kl = kp.length) (hK : RdY w (fun b => b ≠ mb ∧ b ≠ r) KA kp) :
    Calls Try.prog 42 #[.pointer (some ⟨r, 0, none⟩), .agg #[.slice KA kl kc, .int .i64 tn, .int .i64 at']] w fun e w' => e = .returned (.int .i64 (restV D kp tn at').1) ∧ RefP w B r mb nn V X (restV D kp tn at').2 w' := by
  cases hdn : D.dn with
  | false => exact refRest_up h KA kl kc tn at' kp hdn
  | true => exact refRest_down h hX hnn KA kl kc tn at' kp hkl hdn hK
section
variable {w0 W : World} {d sb sc r mb m : Nat} {D : Dv} {G : Nat → Prop}

set_option maxRecDepth 100000 in
set_option maxHeartbeats 16000000 in
theorem do0_calls (h : PL w0 d sb sc r mb D D m G W) (hk : 0 ≤ D.k ∧ D.k < 4611686018427387904) (hm : m ≤ 1000000000) (z : OpR) (hkd : z.kd = 0) (hz : OpOk w0 z) (hL : z.L ≤ 300) :
    Calls Try.prog 23 #[.pointer (some ⟨d, 0, none⟩), .pointer (some ⟨r, 0, none⟩), opAgg z] W (DoB w0 W d sb sc r mb m D G) := by
  obtain ⟨b0, hb0⟩ : ∃ b0, W.heap.size = b0 := ⟨_, rfl⟩
  obtain ⟨W1, hW1⟩ : ∃ W1, W.alloc (.cells #[.int .i64 z.kd, .int .i64 z.N, .int .u8 (z.b.toNat : Int), .int .i64 z.L, .slice z.KA z.kp.length z.kc, .int .i64 z.to, .int .i64 z.at'] 34) = W1 := ⟨_, rfl⟩
  have hst : Below W.heap.size W W1 := hW1 ▸ bstep W _
  have hbx : W1.heap[b0]? = some (.cells #[.int .i64 z.kd, .int .i64 z.N, .int .u8 (z.b.toNat : Int), .int .i64 z.L, .slice z.KA z.kp.length z.kc, .int .i64 z.to, .int .i64 z.at'] 34 (0, 0)) := by rw [← hb0, ← hW1]; exact blk_new W _ _
  have HP := Lib.hid (h.more hst)
  have HG := Lib.hid (And.intro h.glt (hst.keptS G))
  have Hb0 := Lib.hid (show W.heap.size ≤ b0 ∧ b0 < W1.heap.size from ⟨by omega, blk_lt hbx⟩)
  have Hbx := Lib.hid hbx
  have Hk := Lib.hid (And.intro hk (And.intro hm (And.intro hz hL)))
  obtain ⟨q0, q1, q2, q3, q4, q5, q6⟩ := opC_cells hbx
  rw [Nat.zero_add] at q1 q2 q3 q4 q5 q6
  unfold opAgg
  have k0 : (z.kd == 0) = true := beq_iff_eq.2 hkd
  clear hkd
  clear h hk hm hz hL hst hbx
  go_enter Try.func23, Try.ntmps23
  go_wp2_with fail
  clear hW1 hb0
  obtain ⟨n, hn⟩ : ∃ n, opN z.L = n := ⟨_, rfl⟩
  have hBy := op_bytes W1 z Hk.out.2.2.2
  rw [hn] at hBy
  have HBy := Lib.hid hBy
  clear hBy
  refine HBy.out.mono ?_
  rintro e u1 ⟨A3, rfl, ho3, hb3⟩
  obtain ⟨l, hl⟩ : ∃ l, opX z.b n n = l := ⟨_, rfl⟩
  rw [hl] at ho3
  have hn0 : 0 < n ∧ n ≤ 300 := by rw [← hn]; unfold opN; have := Hk.out.2.2.2; split <;> omega
  obtain ⟨g, hg⟩ := own_some ho3 hn0.1
  subst hg
  have hP1 := (HP.out.more hb3).less (H := fun b => G b ∨ b = b0 ∨ b = g) (fun b hb => by
    have hg1 := ho3.lt g rfl
    have hb1 := Hb0.out
    rcases hb with hb | rfl | rfl
    · exact .inl (.inl hb)
    · exact .inl (.inr ⟨hb1.1, hb1.2⟩)
    · exact .inr ⟨hg1.1, hg1.2⟩)
  have Hgb := Lib.hid (show W1.heap.size ≤ g from (ho3.lt g rfl).1)
  have HK0 := Lib.hid (HG.out.2.trans (hb3.keptS G))
  have hl2 : n = l.length := (rdB_own ho3).2
  obtain ⟨E, hE⟩ : ∃ E, (putV D z.N l).1 = E := ⟨_, rfl⟩
  obtain ⟨D1, hD1⟩ : ∃ D1, (putV D z.N l).2 = D1 := ⟨_, rfl⟩
  have hX := hP1.dev (Q := fun e => e = .returned (.int .i64 (putV D z.N l).1)) (fun X hX hL => hL.writeX (c := n) Hk.out.1 hl2 ((rdY_own ho3).mono (fun b hb => hX b (.inr (.inr hb)))) z.N)
  rw [hE, hD1] at hX
  have HX := Lib.hid hX
  have HD := Lib.hid (And.intro hE (And.intro hD1 (And.intro hn0 (And.intro hl2 (And.intro ho3 (heap_kept (hb3.keptS (fun _ => True)) Hbx.out trivial))))))
  obtain ⟨-, q1, -⟩ := opC_cells HD.out.2.2.2.2.2
  rw [Nat.zero_add] at q1
  clear hX hE hD1 ho3 hb3 hn hl hP1 HBy hn0 hl2 HP
  go_wp2_with fail
  refine HX.out.mono ?_
  rintro e u2 ⟨rfl, hP2, hk2⟩
  have ho := own_keptV HD.out.2.2.2.2.1 hk2 (fun b hb => .inr (.inr (by injection hb with hb; exact hb.symm)))
  have hbx := heap_kept hk2 HD.out.2.2.2.2.2 (.inr (.inl rfl))
  have HK1 := Lib.hid (HK0.out.trans (hk2.mono (fun b _ hb => .inl hb)))
  obtain ⟨-, q1, -⟩ := opC_cells hbx
  rw [Nat.zero_add] at q1
  have hX := hP2.ref (Q := fun e => e = .returned (.int .i64 (putV D z.N l).1)) (fun V X hO hX hw => refPut_calls hO hw hX Hk.out.1 z.N (some ⟨g, 0, none⟩) n n l HD.out.2.2.2.1 (rdB_own ho).1)
  rw [HD.out.1, HD.out.2.1] at hX
  have HX := Lib.hid hX
  have HO := Lib.hid ho
  clear hX hP2 hk2 ho hbx
  go_wp2_with fail
  refine HX.out.mono ?_
  rintro e u3 ⟨rfl, hP3, hk3⟩
  have ho := own_keptV HO.out hk3 (fun b hb => .inr (.inr (by injection hb with hb; exact hb.symm)))
  have HK2 := Lib.hid (HK1.out.trans (hk3.mono (fun b _ hb => .inl hb)))
  have HR := Lib.hid (And.intro hP3 ho)
  clear hP3 hk3 ho HX HO
  go_wp2_with fail
  go_loopw [10, 39] (fun _ iv wr => ∃ (i : Nat) (l' : List UInt8), i ≤ n ∧ iv = .int .i64 i ∧ wr.ownsRow W1.heap.size 5 1 (.slice (some ⟨g, 0, none⟩) n n) n (bv l') ∧ Kept (fun b => b ≠ g) u3 wr) (fun _ iv _ => n - (intOf iv).toNat)
  case atStart => exact ⟨0, l, by omega, rfl, HR.out.2, Kept.refl _ _⟩
  case round =>
    obtain ⟨i, l', hi, rfl, ho, hK⟩ := hrel
    by_cases hlt : i < n
    · have hI : (i : Int) < (n : Int) := by omega
      have hi0 : (0 : Int) ≤ (i : Int) := by omega
      obtain ⟨hil, hc⟩ := own_bcell ho hlt
      have hf := ho.frozenAt i
      have Hi := Lib.hid (And.intro hlt (And.intro ho (And.intro hK hil)))
      have X1 := Lib.hid (wrap64_in' ((i : Int) + 1) (by have := HD.out.2.2.1; omega))
      clear hlt ho hK hi hil
      go_wp2_with fail
      try rw [X1.out]
      obtain ⟨hlt, ho, hK, hil⟩ := Hi.out
      obtain ⟨o3, g3⟩ := ho.stored i (.int .u8 ((bAt l' i + 1) % 256))
      rw [inc_set hil] at o3
      exact ⟨⟨i + 1, _, hlt, by push_cast; rfl, o3, hK.setCell (fun hh => hh rfl) _⟩, by simp [intOf]; omega⟩
    · obtain rfl : i = n := by omega
      have HK := Lib.hid hK
      clear hlt ho hK hi
      go_wp2_with fail
      go_ret
      have hd := put_next D z.N l
      rw [HD.out.2.1] at hd
      exact ⟨rfl, D1, (HR.out.1.turnG (HK.out.mono (fun b _ hb e => hb (.inr (.inr e))))).less (fun b hb => .inl hb), hd, HK2.out.trans (HK.out.mono (fun b _ hb e => by have := HG.out.1 b hb; have := Hgb.out; have := Hb0.out; omega))⟩

set_option maxRecDepth 100000 in
set_option maxHeartbeats 16000000 in
theorem do1_calls (h : PL w0 d sb sc r mb D D m G W) (hk : 0 ≤ D.k ∧ D.k < 4611686018427387904) (hm : m ≤ 1000000000) (z : OpR) (hkd : z.kd = 1) (hz : OpOk w0 z) (hL : z.L ≤ 300) :
    Calls Try.prog 23 #[.pointer (some ⟨d, 0, none⟩), .pointer (some ⟨r, 0, none⟩), opAgg z] W (DoB w0 W d sb sc r mb m D G) := by
  obtain ⟨b0, hb0⟩ : ∃ b0, W.heap.size = b0 := ⟨_, rfl⟩
  obtain ⟨W1, hW1⟩ : ∃ W1, W.alloc (.cells #[.int .i64 z.kd, .int .i64 z.N, .int .u8 (z.b.toNat : Int), .int .i64 z.L, .slice z.KA z.kp.length z.kc, .int .i64 z.to, .int .i64 z.at'] 34) = W1 := ⟨_, rfl⟩
  have hst : Below W.heap.size W W1 := hW1 ▸ bstep W _
  have hbx : W1.heap[b0]? = some (.cells #[.int .i64 z.kd, .int .i64 z.N, .int .u8 (z.b.toNat : Int), .int .i64 z.L, .slice z.KA z.kp.length z.kc, .int .i64 z.to, .int .i64 z.at'] 34 (0, 0)) := by rw [← hb0, ← hW1]; exact blk_new W _ _
  have HP := Lib.hid (h.more hst)
  have HG := Lib.hid (And.intro h.glt (hst.keptS G))
  have Hb0 := Lib.hid (show W.heap.size ≤ b0 ∧ b0 < W1.heap.size from ⟨by omega, blk_lt hbx⟩)
  have Hbx := Lib.hid hbx
  have Hk := Lib.hid (And.intro hk (And.intro hm (And.intro hz hL)))
  obtain ⟨q0, q1, q2, q3, q4, q5, q6⟩ := opC_cells hbx
  rw [Nat.zero_add] at q1 q2 q3 q4 q5 q6
  unfold opAgg
  have k0 : (z.kd == 0) = false := beq_eq_false_iff_ne.2 (by omega)
  have k1 : (z.kd == 1) = true := beq_iff_eq.2 hkd
  clear hkd
  clear h hk hm hz hL hst hbx
  go_enter Try.func23, Try.ntmps23
  go_wp2_with fail
  clear hW1 hb0
  have hP1 := HP.out.less (H := fun b => G b ∨ b = b0) (fun b hb => hb.imp id (fun hb => by have := Hb0.out; omega))
  obtain ⟨E, hE⟩ : ∃ E, (flushV D).1 = E := ⟨_, rfl⟩
  obtain ⟨D1, hD1⟩ : ∃ D1, (flushV D).2 = D1 := ⟨_, rfl⟩
  have hX := hP1.dev (Q := fun e => e = .returned (.int .i64 (flushV D).1)) (fun X hX hL => hL.flush Hk.out.1)
  rw [hE, hD1] at hX
  have HX := Lib.hid hX
  have HD := Lib.hid (And.intro hE hD1)
  clear hX hE hD1 hP1 HP
  go_wp2_with fail
  refine HX.out.mono ?_
  rintro e u2 ⟨rfl, hP2, hk2⟩
  obtain ⟨q0, q1, q2, q3, q4, q5, q6⟩ := opC_cells (heap_kept hk2 Hbx.out (.inr rfl))
  rw [Nat.zero_add] at q1 q2 q3 q4 q5 q6
  have hX := hP2.ref (Q := fun e => e = .returned (.int .i64 (flushV D).1)) (fun V X hO hX hw => refFlush_calls hO hX Hk.out.1 Hk.out.2.1)
  rw [HD.out.1, HD.out.2] at hX
  have HX := Lib.hid hX
  have HK1 := Lib.hid (HG.out.2.trans (hk2.mono (fun b _ hb => .inl hb)))
  clear hX hP2 hk2
  go_wp2_with fail
  refine HX.out.mono ?_
  rintro e u3 ⟨rfl, hP3, hk3⟩
  have HR := Lib.hid (And.intro (hP3.less (H := G) (fun b hb => .inl hb)) (HK1.out.trans (hk3.mono (fun b _ hb => .inl hb))))
  clear hP3 hk3 HX
  go_wp2_with fail
  go_ret
  have hd := flush_next D
  rw [HD.out.2] at hd
  exact ⟨rfl, D1, HR.out.1, hd, HR.out.2⟩
set_option maxRecDepth 100000 in
set_option maxHeartbeats 16000000 in
theorem do2_calls (h : PL w0 d sb sc r mb D D m G W) (hk : 0 ≤ D.k ∧ D.k < 4611686018427387904) (hm : m ≤ 1000000000) (z : OpR) (hkd : z.kd = 2) (hz : OpOk w0 z) (hL : z.L ≤ 300) :
    Calls Try.prog 23 #[.pointer (some ⟨d, 0, none⟩), .pointer (some ⟨r, 0, none⟩), opAgg z] W (DoB w0 W d sb sc r mb m D G) := by
  obtain ⟨b0, hb0⟩ : ∃ b0, W.heap.size = b0 := ⟨_, rfl⟩
  obtain ⟨W1, hW1⟩ : ∃ W1, W.alloc (.cells #[.int .i64 z.kd, .int .i64 z.N, .int .u8 (z.b.toNat : Int), .int .i64 z.L, .slice z.KA z.kp.length z.kc, .int .i64 z.to, .int .i64 z.at'] 34) = W1 := ⟨_, rfl⟩
  have hst : Below W.heap.size W W1 := hW1 ▸ bstep W _
  have hbx : W1.heap[b0]? = some (.cells #[.int .i64 z.kd, .int .i64 z.N, .int .u8 (z.b.toNat : Int), .int .i64 z.L, .slice z.KA z.kp.length z.kc, .int .i64 z.to, .int .i64 z.at'] 34 (0, 0)) := by rw [← hb0, ← hW1]; exact blk_new W _ _
  have HP := Lib.hid (h.more hst)
  have HG := Lib.hid (And.intro h.glt (hst.keptS G))
  have Hb0 := Lib.hid (show W.heap.size ≤ b0 ∧ b0 < W1.heap.size from ⟨by omega, blk_lt hbx⟩)
  have Hbx := Lib.hid hbx
  have Hk := Lib.hid (And.intro hk (And.intro hm (And.intro hz hL)))
  obtain ⟨q0, q1, q2, q3, q4, q5, q6⟩ := opC_cells hbx
  rw [Nat.zero_add] at q1 q2 q3 q4 q5 q6
  unfold opAgg
  have k0 : (z.kd == 0) = false := beq_eq_false_iff_ne.2 (by omega)
  have k1 : (z.kd == 1) = false := beq_eq_false_iff_ne.2 (by omega)
  have k2 : (z.kd == 2) = true := beq_iff_eq.2 hkd
  clear hkd
  clear h hk hm hz hL hst hbx
  go_enter Try.func23, Try.ntmps23
  go_wp2_with fail
  clear hW1 hb0
  have hP1 := HP.out.less (H := fun b => G b ∨ b = b0) (fun b hb => hb.imp id (fun hb => by have := Hb0.out; omega))
  obtain ⟨E, hE⟩ : ∃ E, (planV D z.N).1 = E := ⟨_, rfl⟩
  obtain ⟨D1, hD1⟩ : ∃ D1, (planV D z.N).2 = D1 := ⟨_, rfl⟩
  have hX := hP1.dev (Q := fun e => e = .returned (.int .i64 (planV D z.N).1)) (fun X hX hL => hL.plan z.N Hk.out.2.2.1.2.2.2.2.2.1.2)
  rw [hE, hD1] at hX
  have HX := Lib.hid hX
  have HD := Lib.hid (And.intro hE hD1)
  clear hX hE hD1 hP1 HP
  go_wp2_with fail
  refine HX.out.mono ?_
  rintro e u2 ⟨rfl, hP2, hk2⟩
  obtain ⟨q0, q1, q2, q3, q4, q5, q6⟩ := opC_cells (heap_kept hk2 Hbx.out (.inr rfl))
  rw [Nat.zero_add] at q1 q2 q3 q4 q5 q6
  have hX := hP2.ref (Q := fun e => e = .returned (.int .i64 (planV D z.N).1)) (fun V X hO hX hw => refSetPlan_calls hO z.N Hk.out.2.2.1.2.2.2.2.2.1.2)
  rw [HD.out.1, HD.out.2] at hX
  have HX := Lib.hid hX
  have HK1 := Lib.hid (HG.out.2.trans (hk2.mono (fun b _ hb => .inl hb)))
  clear hX hP2 hk2
  go_wp2_with fail
  refine HX.out.mono ?_
  rintro e u3 ⟨rfl, hP3, hk3⟩
  have HR := Lib.hid (And.intro (hP3.less (H := G) (fun b hb => .inl hb)) (HK1.out.trans (hk3.mono (fun b _ hb => .inl hb))))
  clear hP3 hk3 HX
  go_wp2_with fail
  go_ret
  have hd := plan_next D z.N
  rw [HD.out.2] at hd
  exact ⟨rfl, D1, HR.out.1, hd, HR.out.2⟩
/-- The crash's bytes lie below. -/
theorem keep_at {z : OpR} (hz : OpOk w0 z) {Y : World} (hb : Below w0.heap.size w0 Y) {S : Nat → Prop} (hS : ∀ b, b < w0.heap.size → S b) : RdY Y S z.KA z.kp := by
  rcases hz.1 with h0 | ⟨b, off, e, hlt, hc⟩
  · exact .inl h0
  · exact .inr ⟨b, off, e, hS b hlt, Nat.lt_of_lt_of_le hlt hb.size, fun i hi => (hb.cell (p := ⟨b, off + i, none⟩) hlt).trans (hc i hi)⟩
set_option maxRecDepth 100000 in
set_option maxHeartbeats 16000000 in
theorem do4_calls (h : PL w0 d sb sc r mb D D m G W) (hk : 0 ≤ D.k ∧ D.k < 4611686018427387904) (hm : m ≤ 1000000000) (z : OpR) (hkd : z.kd = 4) (hz : OpOk w0 z) (hL : z.L ≤ 300) :
    Calls Try.prog 23 #[.pointer (some ⟨d, 0, none⟩), .pointer (some ⟨r, 0, none⟩), opAgg z] W (DoB w0 W d sb sc r mb m D G) := by
  obtain ⟨b0, hb0⟩ : ∃ b0, W.heap.size = b0 := ⟨_, rfl⟩
  obtain ⟨W1, hW1⟩ : ∃ W1, W.alloc (.cells #[.int .i64 z.kd, .int .i64 z.N, .int .u8 (z.b.toNat : Int), .int .i64 z.L, .slice z.KA z.kp.length z.kc, .int .i64 z.to, .int .i64 z.at'] 34) = W1 := ⟨_, rfl⟩
  have hst : Below W.heap.size W W1 := hW1 ▸ bstep W _
  have hbx : W1.heap[b0]? = some (.cells #[.int .i64 z.kd, .int .i64 z.N, .int .u8 (z.b.toNat : Int), .int .i64 z.L, .slice z.KA z.kp.length z.kc, .int .i64 z.to, .int .i64 z.at'] 34 (0, 0)) := by rw [← hb0, ← hW1]; exact blk_new W _ _
  have HP := Lib.hid (h.more hst)
  have HG := Lib.hid (And.intro h.glt (hst.keptS G))
  have Hb0 := Lib.hid (show W.heap.size ≤ b0 ∧ b0 < W1.heap.size from ⟨by omega, blk_lt hbx⟩)
  have Hbx := Lib.hid hbx
  have Hk := Lib.hid (And.intro hk (And.intro hm (And.intro hz hL)))
  obtain ⟨q0, q1, q2, q3, q4, q5, q6⟩ := opC_cells hbx
  rw [Nat.zero_add] at q1 q2 q3 q4 q5 q6
  unfold opAgg
  have k0 : (z.kd == 0) = false := beq_eq_false_iff_ne.2 (by omega)
  have k1 : (z.kd == 1) = false := beq_eq_false_iff_ne.2 (by omega)
  have k2 : (z.kd == 2) = false := beq_eq_false_iff_ne.2 (by omega)
  have k3 : (z.kd == 3) = false := beq_eq_false_iff_ne.2 (by omega)
  have k4 : (z.kd == 4) = true := beq_iff_eq.2 hkd
  clear hkd
  clear h hk hm hz hL hst hbx
  go_enter Try.func23, Try.ntmps23
  go_wp2_with fail
  clear hW1 hb0
  have hP1 := HP.out.less (H := fun b => G b ∨ b = b0) (fun b hb => hb.imp id (fun hb => by have := Hb0.out; omega))
  obtain ⟨E, hE⟩ : ∃ E, (restV D z.kp z.to z.at').1 = E := ⟨_, rfl⟩
  obtain ⟨D1, hD1⟩ : ∃ D1, (restV D z.kp z.to z.at').2 = D1 := ⟨_, rfl⟩
  have hX := hP1.dev (Q := fun e => e = .returned (.int .i64 (restV D z.kp z.to z.at').1)) (fun X hX hL => hL.restart z.KA z.kc z.kp z.to z.at' (keep_at Hk.out.2.2.1 hL.below (fun b hb => by have := hL.lt; omega)))
  rw [hE, hD1] at hX
  have HX := Lib.hid hX
  have HD := Lib.hid (And.intro hE hD1)
  clear hX hE hD1 hP1 HP
  go_wp2_with fail
  refine HX.out.mono ?_
  rintro e u2 ⟨rfl, hP2, hk2⟩
  obtain ⟨q0, q1, q2, q3, q4, q5, q6⟩ := opC_cells (heap_kept hk2 Hbx.out (.inr rfl))
  rw [Nat.zero_add] at q1 q2 q3 q4 q5 q6
  have hX := hP2.ref (Q := fun e => e = .returned (.int .i64 (restV D z.kp z.to z.at').1)) (fun V X hO hX hw => refRest_any hO hX Hk.out.2.1 z.KA z.kp.length z.kc z.to z.at' z.kp rfl (keep_at Hk.out.2.2.1 hP2.below (fun b hb => by have := hO.le; omega)))
  rw [HD.out.1, HD.out.2] at hX
  have HX := Lib.hid hX
  have HK1 := Lib.hid (HG.out.2.trans (hk2.mono (fun b _ hb => .inl hb)))
  clear hX hP2 hk2
  go_wp2_with fail
  refine HX.out.mono ?_
  rintro e u3 ⟨rfl, hP3, hk3⟩
  have HR := Lib.hid (And.intro (hP3.less (H := G) (fun b hb => .inl hb)) (HK1.out.trans (hk3.mono (fun b _ hb => .inl hb))))
  clear hP3 hk3 HX
  go_wp2_with fail
  go_ret
  have hd := rest_next D z.kp z.to z.at'
  rw [HD.out.2] at hd
  exact ⟨rfl, D1, HR.out.1, hd, HR.out.2⟩
set_option maxRecDepth 100000 in
set_option maxHeartbeats 16000000 in
theorem do3_calls (h : PL w0 d sb sc r mb D D m G W) (hk : 0 ≤ D.k ∧ D.k < 4611686018427387904) (hm : m ≤ 1000000000) (z : OpR) (hkd : z.kd = 3) (hz : OpOk w0 z) (hL : z.L ≤ 300) :
    Calls Try.prog 23 #[.pointer (some ⟨d, 0, none⟩), .pointer (some ⟨r, 0, none⟩), opAgg z] W (DoB w0 W d sb sc r mb m D G) := by
  obtain ⟨b0, hb0⟩ : ∃ b0, W.heap.size = b0 := ⟨_, rfl⟩
  obtain ⟨W1, hW1⟩ : ∃ W1, W.alloc (.cells #[.int .i64 z.kd, .int .i64 z.N, .int .u8 (z.b.toNat : Int), .int .i64 z.L, .slice z.KA z.kp.length z.kc, .int .i64 z.to, .int .i64 z.at'] 34) = W1 := ⟨_, rfl⟩
  have hst : Below W.heap.size W W1 := hW1 ▸ bstep W _
  have hbx : W1.heap[b0]? = some (.cells #[.int .i64 z.kd, .int .i64 z.N, .int .u8 (z.b.toNat : Int), .int .i64 z.L, .slice z.KA z.kp.length z.kc, .int .i64 z.to, .int .i64 z.at'] 34 (0, 0)) := by rw [← hb0, ← hW1]; exact blk_new W _ _
  have HP := Lib.hid (h.more hst)
  have HG := Lib.hid (And.intro h.glt (hst.keptS G))
  have Hb0 := Lib.hid (show W.heap.size ≤ b0 ∧ b0 < W1.heap.size from ⟨by omega, blk_lt hbx⟩)
  have Hbx := Lib.hid hbx
  have Hk := Lib.hid (And.intro hk (And.intro hm (And.intro hz hL)))
  obtain ⟨q0, q1, q2, q3, q4, q5, q6⟩ := opC_cells hbx
  rw [Nat.zero_add] at q1 q2 q3 q4 q5 q6
  unfold opAgg
  have k0 : (z.kd == 0) = false := beq_eq_false_iff_ne.2 (by omega)
  have k1 : (z.kd == 1) = false := beq_eq_false_iff_ne.2 (by omega)
  have k2 : (z.kd == 2) = false := beq_eq_false_iff_ne.2 (by omega)
  have k3 : (z.kd == 3) = true := beq_iff_eq.2 hkd
  clear hkd
  clear h hk hm hz hL hst hbx
  go_enter Try.func23, Try.ntmps23
  go_wp2_with fail
  clear hW1 hb0
  have hP1 := HP.out.less (H := fun b => G b ∨ b = b0) (fun b hb => hb.imp id (fun hb => by have := Hb0.out; omega))
  have HX := Lib.hid (hP1.dev (Q := fun e => e = .returned (.int .i64 0)) (fun X hX hL => hL.pull))
  clear hP1 HP
  go_wp2_with fail
  refine HX.out.mono ?_
  rintro e u2 ⟨rfl, hP2, hk2⟩
  obtain ⟨c4, f4, hP3⟩ := hP2.setDown
  have hgr : ∀ b, G b → b ≠ r := fun b hb e => by
    obtain ⟨V, X, h1, h2, h3, h4⟩ := hP3
    exact (h4 b (.inl hb)).2 (e ▸ h2.own.1)
  have HR := Lib.hid (And.intro (hP3.less (H := G) (fun b hb => .inl hb)) ((HG.out.2.trans (hk2.mono (fun b _ hb => .inl hb))).setCell (p := ⟨r, 4, none⟩) (fun hb => hgr _ hb rfl) (.bool true)))
  clear hP2 hP3 hk2 HX hgr
  go_wp2_with fail
  go_ret
  exact ⟨rfl, _, HR.out.1.mono (by omega), ⟨rfl, Int.le_refl _, by show D.k ≤ D.k + 1; omega⟩, HR.out.2⟩
set_option maxRecDepth 100000 in
set_option maxHeartbeats 16000000 in
theorem do6_calls (h : PL w0 d sb sc r mb D D m G W) (hk : 0 ≤ D.k ∧ D.k < 4611686018427387904) (hm : m ≤ 1000000000) (z : OpR) (hkd : ¬ z.kd = 0 ∧ ¬ z.kd = 1 ∧ ¬ z.kd = 2 ∧ ¬ z.kd = 3 ∧ ¬ z.kd = 4 ∧ ¬ z.kd = 5) (hz : OpOk w0 z) (hL : z.L ≤ 300) :
    Calls Try.prog 23 #[.pointer (some ⟨d, 0, none⟩), .pointer (some ⟨r, 0, none⟩), opAgg z] W (DoB w0 W d sb sc r mb m D G) := by
  obtain ⟨b0, hb0⟩ : ∃ b0, W.heap.size = b0 := ⟨_, rfl⟩
  obtain ⟨W1, hW1⟩ : ∃ W1, W.alloc (.cells #[.int .i64 z.kd, .int .i64 z.N, .int .u8 (z.b.toNat : Int), .int .i64 z.L, .slice z.KA z.kp.length z.kc, .int .i64 z.to, .int .i64 z.at'] 34) = W1 := ⟨_, rfl⟩
  have hst : Below W.heap.size W W1 := hW1 ▸ bstep W _
  have hbx : W1.heap[b0]? = some (.cells #[.int .i64 z.kd, .int .i64 z.N, .int .u8 (z.b.toNat : Int), .int .i64 z.L, .slice z.KA z.kp.length z.kc, .int .i64 z.to, .int .i64 z.at'] 34 (0, 0)) := by rw [← hb0, ← hW1]; exact blk_new W _ _
  have HP := Lib.hid (h.more hst)
  have HG := Lib.hid (And.intro h.glt (hst.keptS G))
  have Hb0 := Lib.hid (show W.heap.size ≤ b0 ∧ b0 < W1.heap.size from ⟨by omega, blk_lt hbx⟩)
  have Hbx := Lib.hid hbx
  have Hk := Lib.hid (And.intro hk (And.intro hm (And.intro hz hL)))
  obtain ⟨q0, q1, q2, q3, q4, q5, q6⟩ := opC_cells hbx
  rw [Nat.zero_add] at q1 q2 q3 q4 q5 q6
  unfold opAgg
  have k0 : (z.kd == 0) = false := beq_eq_false_iff_ne.2 (by omega)
  have k1 : (z.kd == 1) = false := beq_eq_false_iff_ne.2 (by omega)
  have k2 : (z.kd == 2) = false := beq_eq_false_iff_ne.2 (by omega)
  have k3 : (z.kd == 3) = false := beq_eq_false_iff_ne.2 (by omega)
  have k4 : (z.kd == 4) = false := beq_eq_false_iff_ne.2 (by omega)
  have k5 : (z.kd == 5) = false := beq_eq_false_iff_ne.2 (by omega)
  clear h hk hm hz hL hst hbx
  go_enter Try.func23, Try.ntmps23
  go_wp2_with fail
  clear hW1 hb0
  go_ret
  exact ⟨rfl, D, (HP.out.less (H := G) (fun b hb => .inl hb)).mono (by omega), next_refl D, HG.out.2⟩
set_option maxRecDepth 100000 in
set_option maxHeartbeats 16000000 in
theorem do5_calls (h : PL w0 d sb sc r mb D D m G W) (hk : 0 ≤ D.k ∧ D.k < 4611686018427387904) (hm : m ≤ 1000000000) (z : OpR) (hkd : z.kd = 5) (hE : readE D z.N = 0) (hz : OpOk w0 z) (hL : z.L ≤ 300) :
    Calls Try.prog 23 #[.pointer (some ⟨d, 0, none⟩), .pointer (some ⟨r, 0, none⟩), opAgg z] W (DoB w0 W d sb sc r mb m D G) := by
  obtain ⟨b0, hb0⟩ : ∃ b0, W.heap.size = b0 := ⟨_, rfl⟩
  obtain ⟨W1, hW1⟩ : ∃ W1, W.alloc (.cells #[.int .i64 z.kd, .int .i64 z.N, .int .u8 (z.b.toNat : Int), .int .i64 z.L, .slice z.KA z.kp.length z.kc, .int .i64 z.to, .int .i64 z.at'] 34) = W1 := ⟨_, rfl⟩
  have hst : Below W.heap.size W W1 := hW1 ▸ bstep W _
  have hbx : W1.heap[b0]? = some (.cells #[.int .i64 z.kd, .int .i64 z.N, .int .u8 (z.b.toNat : Int), .int .i64 z.L, .slice z.KA z.kp.length z.kc, .int .i64 z.to, .int .i64 z.at'] 34 (0, 0)) := by rw [← hb0, ← hW1]; exact blk_new W _ _
  have HP := Lib.hid (h.more hst)
  have HG := Lib.hid (And.intro h.glt (hst.keptS G))
  have Hb0 := Lib.hid (show W.heap.size ≤ b0 ∧ b0 < W1.heap.size from ⟨by omega, blk_lt hbx⟩)
  have Hbx := Lib.hid hbx
  have Hk := Lib.hid (And.intro hk (And.intro hm (And.intro hz hL)))
  obtain ⟨q0, q1, q2, q3, q4, q5, q6⟩ := opC_cells hbx
  rw [Nat.zero_add] at q1 q2 q3 q4 q5 q6
  unfold opAgg
  have k0 : (z.kd == 0) = false := beq_eq_false_iff_ne.2 (by omega)
  have k1 : (z.kd == 1) = false := beq_eq_false_iff_ne.2 (by omega)
  have k2 : (z.kd == 2) = false := beq_eq_false_iff_ne.2 (by omega)
  have k3 : (z.kd == 3) = false := beq_eq_false_iff_ne.2 (by omega)
  have k4 : (z.kd == 4) = false := beq_eq_false_iff_ne.2 (by omega)
  have k5 : (z.kd == 5) = true := beq_iff_eq.2 hkd
  clear hkd
  clear h hk hm hz hL hst hbx
  go_enter Try.func23, Try.ntmps23
  go_wp2_with fail
  clear hW1 hb0
  obtain ⟨X, hL⟩ := HP.out.ld
  have hdn : D.dn = false := by unfold readE at hE; cases h : D.dn with
    | true => rw [h, if_pos rfl] at hE; omega
    | false => rfl
  have hin : 0 ≤ z.N ∧ z.N < (D.S.length : Int) := by
    unfold readE at hE
    rw [hdn, if_neg (by simp)] at hE
    exact Classical.byContradiction fun h => by rw [if_neg h] at hE; omega
  obtain ⟨n, hn⟩ : ∃ n : Nat, z.N = n := ⟨z.N.toNat, by omega⟩
  have hnl : n < D.S.length := by omega
  have hX := hL.read n hnl hdn
  obtain ⟨s, hs⟩ : ∃ s, seenD D n = s := ⟨_, rfl⟩
  have hs128 : s.length = 128 := hs ▸ seen_128 hL.ok hnl
  rw [hs] at hX
  rw [← hn] at hX
  have HX := Lib.hid hX
  have HN := Lib.hid (And.intro hn (And.intro hnl (And.intro hdn (And.intro hs hs128))))
  clear hL hX hE hin hn hnl hdn hs hs128
  refine HX.out.mono ?_
  rintro e u1 ⟨A1, c1, rfl, ho, hb1⟩
  obtain ⟨g, hg⟩ := own_some ho (by omega)
  subst hg
  have hP1 := (HP.out.more hb1).less (H := fun b => G b ∨ b = g) (fun b hb => hb.elim (fun hb => .inl (.inl hb)) (fun hb => .inr (by rw [hb]; exact ho.lt g rfl)))
  have Hgb := Lib.hid (show W1.heap.size ≤ g from (ho.lt g rfl).1)
  obtain ⟨V, X, hO⟩ := hP1.ro
  have hX := refRead_calls hO n HN.out.2.1 HN.out.2.2.1
  rw [HN.out.2.2.2.1, ← HN.out.1] at hX
  obtain ⟨q0, q1, q2, q3, q4, q5, q6⟩ := opC_cells (blk_below Hbx.out hb1)
  rw [Nat.zero_add] at q1 q2 q3 q4 q5 q6
  have HX := Lib.hid hX
  have HR := Lib.hid (And.intro hP1 (And.intro ho (HG.out.2.trans (hb1.keptS G))))
  clear hX hP1 hO hb1 ho
  go_wp2_with fail
  refine HX.out.mono ?_
  rintro e u2 ⟨A2, c2, rfl, hA2, hR2, hb2⟩
  have ho := own_below HR.out.2.1 hb2
  have HR2 := Lib.hid (And.intro (HR.out.1.go hb2) (And.intro ho (HR.out.2.2.trans (hb2.keptS G))))
  have s1 := run_string (P := Try.prog) (src := 23) (dst := 9) (e := 5) (rdB_own ho).1 c1 (fun e => by cases e) Try.underlying23 Try.underlying5 Try.underlying9
  have s2 := run_string (P := Try.prog) (src := 23) (dst := 9) (e := 5) hR2 c2 (fun e => absurd e hA2) Try.underlying23 Try.underlying5 Try.underlying9
  rw [HN.out.2.2.2.2] at s1 s2
  clear HR HX hb2 hA2 hR2 ho
  go_wp2_with fail
  go_loopw [20, 123] (fun _ iv wr => ∃ (i : Nat) (l' : List UInt8), i ≤ 128 ∧ iv = .int .i64 i ∧ wr.ownsRow W1.heap.size 5 1 (.slice (some ⟨g, 0, none⟩) 128 c1) 128 (bv l') ∧ Kept (fun b => b ≠ g) u2 wr) (fun _ iv _ => 128 - (intOf iv).toNat)
  case atStart => exact ⟨0, s, by omega, rfl, HR2.out.2.1, Kept.refl _ _⟩
  case round =>
    obtain ⟨i, l', hi, rfl, ho, hK⟩ := hrel
    by_cases hlt : i < 128
    · have hI : (i : Int) < 128 := by omega
      have hi0 : (0 : Int) ≤ (i : Int) := by omega
      obtain ⟨hil, hc⟩ := own_bcell ho hlt
      have hf := ho.frozenAt i
      have Hi := Lib.hid (And.intro hlt (And.intro ho (And.intro hK hil)))
      have X1 := Lib.hid (wrap64_in' ((i : Int) + 1) (by omega))
      clear hlt ho hK hi hil
      go_wp2_with fail
      try rw [X1.out]
      obtain ⟨hlt, ho, hK, hil⟩ := Hi.out
      obtain ⟨o3, g3⟩ := ho.stored i (.int .u8 ((bAt l' i + 1) % 256))
      rw [inc_set hil] at o3
      exact ⟨⟨i + 1, _, hlt, by push_cast; rfl, o3, hK.setCell (fun hh => hh rfl) _⟩, by simp [intOf]; omega⟩
    · obtain rfl : i = 128 := by omega
      have HK := Lib.hid hK
      clear hlt ho hK hi
      go_wp2_with fail
      go_ret
      exact ⟨rfl, D, ((HR2.out.1.turnG (HK.out.mono (fun b _ hb e => hb (.inr e)))).less (fun b hb => .inl hb)).mono (by omega), next_refl D, HR2.out.2.2.trans (HK.out.mono (fun b _ hb e => by have := HG.out.1 b hb; have := Hgb.out; have := Hb0.out; omega))⟩
set_option maxRecDepth 100000 in
set_option maxHeartbeats 16000000 in
theorem do5no_calls (h : PL w0 d sb sc r mb D D m G W) (hk : 0 ≤ D.k ∧ D.k < 4611686018427387904) (hm : m ≤ 1000000000) (z : OpR) (hkd : z.kd = 5) (hE : readE D z.N ≠ 0) (hz : OpOk w0 z) (hL : z.L ≤ 300) :
    Calls Try.prog 23 #[.pointer (some ⟨d, 0, none⟩), .pointer (some ⟨r, 0, none⟩), opAgg z] W (DoB w0 W d sb sc r mb m D G) := by
  obtain ⟨b0, hb0⟩ : ∃ b0, W.heap.size = b0 := ⟨_, rfl⟩
  obtain ⟨W1, hW1⟩ : ∃ W1, W.alloc (.cells #[.int .i64 z.kd, .int .i64 z.N, .int .u8 (z.b.toNat : Int), .int .i64 z.L, .slice z.KA z.kp.length z.kc, .int .i64 z.to, .int .i64 z.at'] 34) = W1 := ⟨_, rfl⟩
  have hst : Below W.heap.size W W1 := hW1 ▸ bstep W _
  have hbx : W1.heap[b0]? = some (.cells #[.int .i64 z.kd, .int .i64 z.N, .int .u8 (z.b.toNat : Int), .int .i64 z.L, .slice z.KA z.kp.length z.kc, .int .i64 z.to, .int .i64 z.at'] 34 (0, 0)) := by rw [← hb0, ← hW1]; exact blk_new W _ _
  have HP := Lib.hid (h.more hst)
  have HG := Lib.hid (And.intro h.glt (hst.keptS G))
  have Hb0 := Lib.hid (show W.heap.size ≤ b0 ∧ b0 < W1.heap.size from ⟨by omega, blk_lt hbx⟩)
  have Hbx := Lib.hid hbx
  have Hk := Lib.hid (And.intro hk (And.intro hm (And.intro hz hL)))
  obtain ⟨q0, q1, q2, q3, q4, q5, q6⟩ := opC_cells hbx
  rw [Nat.zero_add] at q1 q2 q3 q4 q5 q6
  unfold opAgg
  have k0 : (z.kd == 0) = false := beq_eq_false_iff_ne.2 (by omega)
  have k1 : (z.kd == 1) = false := beq_eq_false_iff_ne.2 (by omega)
  have k2 : (z.kd == 2) = false := beq_eq_false_iff_ne.2 (by omega)
  have k3 : (z.kd == 3) = false := beq_eq_false_iff_ne.2 (by omega)
  have k4 : (z.kd == 4) = false := beq_eq_false_iff_ne.2 (by omega)
  have k5 : (z.kd == 5) = true := beq_iff_eq.2 hkd
  clear hkd
  clear h hk hm hz hL hst hbx
  go_enter Try.func23, Try.ntmps23
  go_wp2_with fail
  clear hW1 hb0
  obtain ⟨X, hL⟩ := HP.out.ld
  have hX := hL.readNo z.N hE
  obtain ⟨x, hx⟩ : ∃ x, readE D z.N = x := ⟨_, rfl⟩
  rw [hx] at hX
  have HX := Lib.hid hX
  have Hx := Lib.hid (And.intro hE hx)
  clear hL hX hE hx
  refine HX.out.mono ?_
  rintro e u1 ⟨rfl, hb1⟩
  have hP1 := HP.out.go hb1
  obtain ⟨V, X, hO⟩ := hP1.ro
  have hX := refRead_no hO z.N Hx.out.1
  rw [Hx.out.2] at hX
  obtain ⟨q0, q1, q2, q3, q4, q5, q6⟩ := opC_cells (blk_below Hbx.out hb1)
  rw [Nat.zero_add] at q1 q2 q3 q4 q5 q6
  have HX := Lib.hid hX
  have HR := Lib.hid (And.intro hP1 (HG.out.2.trans (hb1.keptS G)))
  clear hX hP1 hO hb1
  go_wp2_with fail
  refine HX.out.mono ?_
  rintro e u2 ⟨rfl, hb2⟩
  have HR2 := Lib.hid (And.intro (HR.out.1.go hb2) (HR.out.2.trans (hb2.keptS G)))
  have s1 := run_string (P := Try.prog) (src := 23) (dst := 9) (e := 5) (A := none) (l := []) (rdB_nil u2 0 none) 0 (fun _ => rfl) Try.underlying23 Try.underlying5 Try.underlying9
  have HS := Lib.hid s1
  clear s1 HR HX hb2
  have s1 : (convert 23 9 (.slice none 0 0)).run Try.prog u2 = .ok (.string ⟨#[]⟩) u2 := HS.out
  go_wp2_with fail
  go_loopw [20, 123] (fun _ iv wr => iv = .int .i64 0 ∧ wr = u2) (fun _ iv _ => 0)
  case atStart => exact ⟨rfl, rfl⟩
  case round =>
    obtain ⟨rfl, rfl⟩ := hrel
    go_wp2_with fail
    go_ret
    exact ⟨rfl, D, (HR2.out.1.less (H := G) (fun b hb => .inl hb)).mono (by omega), next_refl D, HR2.out.2⟩
/-- Any call. -/
theorem do_calls (h : PL w0 d sb sc r mb D D m G W) (hk : 0 ≤ D.k ∧ D.k < 4611686018427387904) (hm : m ≤ 1000000000) (z : OpR) (hz : OpOk w0 z) (hL : z.L ≤ 300) :
    Calls Try.prog 23 #[.pointer (some ⟨d, 0, none⟩), .pointer (some ⟨r, 0, none⟩), opAgg z] W (DoB w0 W d sb sc r mb m D G) := by
  by_cases h0 : z.kd = 0
  · exact do0_calls h hk hm z h0 hz hL
  by_cases h1 : z.kd = 1
  · exact do1_calls h hk hm z h1 hz hL
  by_cases h2 : z.kd = 2
  · exact do2_calls h hk hm z h2 hz hL
  by_cases h3 : z.kd = 3
  · exact do3_calls h hk hm z h3 hz hL
  by_cases h4 : z.kd = 4
  · exact do4_calls h hk hm z h4 hz hL
  by_cases h5 : z.kd = 5
  · by_cases hE : readE D z.N = 0
    · exact do5_calls h hk hm z h5 hE hz hL
    · exact do5no_calls h hk hm z h5 hE hz hL
  · exact do6_calls h hk hm z ⟨h0, h1, h2, h3, h4, h5⟩ hz hL
end
end Go.Proofs.Ytpleaicpkpjkjaa
