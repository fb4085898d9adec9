/-
  Scan, Exact, Why. Conditions: at most 100,000 bytes.
-/
import Derived.Test.YtajpinbabgcnkaaFrameIter
import Derived.Stop.RegionWithIn
namespace Go.Proofs.Ytajpinbabgcnkaa
open Go Go.RowKit Go.Kw Go.Kw.Crc Go.Kw.Fm Go.Shelf
attribute [local go_sem] Oper.semAt_some
set_option linter.unusedVariables false
set_option linter.unusedSimpArgs false

/-- 'append' as a step of a drawn region within a fence, its run known. -/
theorem stepIn_append_run {F : Fence} {n : Nat} {P : Program} {ops : Array Oper} {o : Oper} {a : Act} {w : World} {K : Act → World → Prop} {Q : Exit → Act → World → Prop} {E : Prop}
    (hg : o.guard = none) (d x : Operand) (dT sT ty : TypeId) (hop : o.op = Op.call { callee := Callee.builtin Builtin.append, args := #[d, x], argTypes := #[dT, sT] }) (hty : o.type = ty)
    (v u : Value) (hd : a.eval d = v) (hx : a.eval x = u) {v' : Value} {w' : World} (hr : (Builtin.append_ #[dT, sT] ty #[v, u]).run P w = .ok v' w') (hK : K (a.put o.dst v') w') :
    if Region.wanted o (yielded ops a.tmps) = true then Oper.wpIn F n P o a w K Q else E := by
  subst hty
  have hw : Region.wanted o (yielded ops a.tmps) = true := by simp [Region.wanted, hg]
  rw [if_pos hw]
  unfold Oper.wpIn
  refine ⟨?_, ?_⟩
  · simp [Oper.about, hop, resolve, Target.leads, Sem.run_pure]
  · rw [Oper.semAt_plain F _ _ (by rw [hop]; intro c hc'; cases hc')]
    simp [execOp, hop, resolve, invoke, builtin, hd, hx, hr, Result.andThen]
    exact hK
theorem records_calls (A : Option Addr) (n c : Nat) (w : World) : Calls Try.prog 23 #[.slice A n c] w fun e w' => e = .returned (.func (.func 30) #[] #[.pointer (some ⟨w.heap.size, 0, none⟩)]) ∧ w' = w.alloc (.cells #[.slice A n c] 23) := by
  go_enter Try.func23, Try.ntmps23
  go_wp2
  go_ret
  exact ⟨rfl, rfl⟩
theorem size_own (B₀ n : Nat) : OwnW B₀ (fun W => n ≤ W.heap.size) := fun _ _ _ h hg _ => Nat.le_trans h hg.size
theorem HoldR.own (B₀ : Nat) (S : Nat → Prop) (B : Nat) (l : List UInt8) : OwnW B₀ (fun W => HoldR W S B l) :=
  OwnW.ex fun _ => OwnW.ex fun _ => (boxed_ownW _ _ _ _).and ((RdY.own B₀ _ _ _).and (OwnW.const _))
/-- What the rounds of Scan keep. -/
def ScanI (w : World) (M : Nat) (l : List UInt8) (v0 : Value) (k : Nat) (W : World) : Prop :=
  (∃ A c, Boxed W (M + 1) 22 (.slice A ((scan l).1.take k).length c) ∧ OwL W (M + 4) (fun b => M + 4 ≤ b) (.slice A ((scan l).1.take k).length c) ((scan l).1.take k)) ∧ Boxed W (M + 2) 3 (.int .i64 ((l.length : Int) - ((tailAt l k).length : Int))) ∧ Boxed W M 23 v0 ∧
    Below M w W ∧ M + 4 ≤ W.heap.size
theorem ScanI.own (w : World) (M : Nat) (l : List UInt8) (v0 : Value) (k : Nat) : OwnW (M + 4) (ScanI w M l v0 k) := by
  refine (OwnW.ex fun _ => OwnW.ex fun _ => (boxed_ownW _ _ _ _).and (OwL.own _)).and ((boxed_ownW _ _ _ _).and ((boxed_ownW _ _ _ _).and ?_))
  intro W W' row h hg hr
  exact ⟨h.1.grown hg (by omega) (fun j e => by have := (hr j e).1; omega), Nat.le_trans h.2 hg.size⟩
theorem ScanI.ab {w : World} {M : Nat} {l : List UInt8} {v0 : Value} {k : Nat} {X Y : World} (h : ScanI w M l v0 k X) (hk : Kept (fun b => b ≠ M + 3) X Y) : ScanI w M l v0 k Y := by
  obtain ⟨⟨A, c, h1, h2⟩, h3, h4, h5, h6⟩ := h
  exact ⟨⟨A, c, heap_kept hk h1 (by omega), h2.keptX hk (fun b hb => by omega) (fun b hb => by omega)⟩, heap_kept hk h3 (by omega), heap_kept hk h4 (by omega), h5.trans (hk.below (by omega) (fun j hj => by omega)), Nat.le_trans h6 hk.size⟩
theorem scan_many : ∀ (n : Nat) (l : List UInt8), l.length ≤ n → (scan l).1.length ≤ l.length
  | n, l, h => by
    by_cases hw : whyOf l = 0
    · have hh := (whyOf_zero l).1 hw
      match n, h with
      | 0, h => omega
      | n + 1, h =>
        have := scan_many n (l.drop (6 + nOf l)) (by rw [List.length_drop]; omega)
        rw [scan_some hw]
        rw [List.length_drop] at this
        simp only [List.length_cons]; omega
    · rw [scan_none hw]; simp
def ScanPost (w w' : World) (e : Ending) (l : List UInt8) : Prop :=
  ∃ A' n c', e = .returned (.tuple #[.slice A' n c', .int .i64 ((l.length : Int) - ((scan l).2.length : Int))]) ∧ n = (scan l).1.length ∧ OwL w' w.heap.size (fun b => w.heap.size ≤ b) (.slice A' n c') (scan l).1 ∧ Below w.heap.size w w'

set_option maxRecDepth 100000 in
set_option maxHeartbeats 4000000 in
theorem scan_calls (A : Option Addr) (n c : Nat) (l : List UInt8) (hn : n = l.length) (hl : l.length ≤ 100000) (hc : n ≤ c) (hc2 : c ≤ 9223372036854775807) (w : World) (hR : RdB w w.heap.size A l) (hz : A = none → l.length = 0) :
    Calls Try.prog 14 #[.slice A n c] w fun e w' => ScanPost w w' e l := by
  subst hn
  have hF := wide_fn
  have hmany := scan_many _ l (Nat.le_refl _)
  obtain ⟨M, hM⟩ : ∃ M, w.heap.size = M := ⟨_, rfl⟩
  obtain ⟨W4, hW4⟩ : ∃ W4, (((w.alloc (.cells #[.slice A l.length c] 23)).alloc (.cells #[.slice none 0 0] 22)).alloc (.cells #[.int .i64 0] 3)).alloc (.cells #[.slice A l.length c] 23) = W4 := ⟨_, rfl⟩
  have hs4 : W4.heap.size = M + 4 := by rw [← hW4]; simp [hM]
  have hb4 : Below M w W4 := by rw [← hM, ← hW4]; exact balloc (balloc (balloc (bstep w _) _) _) _
  have x0 : Boxed W4 M 23 (.slice A l.length c) := by
    have := (((Boxed.new w 23 (.slice A l.length c)).alloc (.cells #[.slice none 0 0] 22)).alloc (.cells #[.int .i64 0] 3)).alloc (.cells #[.slice A l.length c] 23)
    rw [hW4] at this; simpa [hM] using this
  have x1 : Boxed W4 (M + 1) 22 (.slice none 0 0) := by
    have := ((Boxed.new (w.alloc (.cells #[.slice A l.length c] 23)) 22 (.slice none 0 0)).alloc (.cells #[.int .i64 0] 3)).alloc (.cells #[.slice A l.length c] 23)
    rw [hW4] at this; simpa [hM] using this
  have x2 : Boxed W4 (M + 2) 3 (.int .i64 0) := by
    have := (Boxed.new ((w.alloc (.cells #[.slice A l.length c] 23)).alloc (.cells #[.slice none 0 0] 22)) 3 (.int .i64 0)).alloc (.cells #[.slice A l.length c] 23)
    rw [hW4] at this; simpa [hM] using this
  have x3 : Boxed W4 (M + 3) 23 (.slice A l.length c) := by
    have := Boxed.new (((w.alloc (.cells #[.slice A l.length c] 23)).alloc (.cells #[.slice none 0 0] 22)).alloc (.cells #[.int .i64 0] 3)) 23 (.slice A l.length c)
    rw [hW4] at this; simpa [hM] using this
  have hR4 : RdY W4 (fun b => b < M) A l := by
    have h0 : RdY w (fun b => b < M) A l := RdX.of hR (fun b hb => by omega)
    exact RdY.kept h0 hb4.keptB
  have hold : HoldR W4 (fun b => b < M) (M + 3) l := ⟨A, c, x3, hR4, hz, hc, hc2⟩
  have HM := Lib.hid hM
  refine calls_of_marks Try.func14 rfl ?_
  simp only [Try.ntmps14, List.size_toArray, List.length_cons, List.length_nil, Nat.reduceAdd, Nat.reduceSub, Array.replicate_succ, Array.replicate_zero, List.push_toArray, List.append_toArray, List.nil_append, List.cons_append]
  gi_wp2_with (first | (refine wpIn_scope ?_) | (refine wpIn_label ?_) | (gi_at_call 23; refine (callsIn_wide.2 (records_calls A l.length c _)).mono ?_; rintro e w' ⟨rfl, rfl⟩))
  rw [show M + 1 + 1 + 1 = M + 3 from rfl, show M + 1 + 1 = M + 2 from rfl]
  clear hW4 hR4 hM x3
  refine wpIn_rangeV rfl (by decide) (gf := 30) (lb := #[.pointer (some ⟨M + 3, 0, none⟩)]) rfl trivial (enters_of Try.func30 (by kernel_rfl) rfl)
    (records_seq (fun b => b < M) (M + 3) M (fun b hb => by omega) l (by omega)) (fun X Y h => h.2) (fun k v W hv => by obtain ⟨A1, A2, m, n, c2, rfl, -⟩ := hv; rfl)
    ((HoldR.own _ _ _ _).and (size_own _ _)) (fun k => (HoldR.own _ _ _ _).and (size_own _ _)) (OwnW.const _) (fun _ => OwnW.const _) ⟨hold, by omega⟩
    (ScanI w M l (.slice A l.length c)) (fun _ _ _ => False) (fun k => by rw [hs4]; exact ScanI.own w M l _ k) (fun _ _ => OwnW.const _) (fun k X Y h hab => h.ab hab.1) (fun _ _ _ _ h _ => h)
    ⟨⟨none, 0, by simpa using x1, OwL.nil _ _ _⟩, by simpa [tailAt] using x2, x0, hb4, by omega⟩ ?round ?done ?stop
  case round =>
    rintro lo k x W hkN hV hI hG
    obtain ⟨A1, A2, m, n, c2, rfl, hm, hn, hr, hA1⟩ := hV
    obtain ⟨r, hrq⟩ : ∃ r, recOf (tailAt l k) = r := ⟨_, rfl⟩
    rw [hrq] at hm hr
    have Hrq := Lib.hid hrq
    have Hn := Lib.hid hn
    have Hm := Lib.hid hm
    have HI := Lib.hid hI
    have HG := Lib.hid hG
    clear hrq hm hn hI hG x0 x1 x2 hb4 hold
    gi_wp2
    refine ⟨KeepsOthers.refl _, HI.out, HG.out, fun X => RdY X (fun b => b < M) A1 r, RdY.own _ _ _ _, hr, ?_⟩
    rintro X hrX hI1 hG1 hszX
    obtain ⟨⟨A6, c6, hbx, ho⟩, hbw, hb0, hbX, hMX⟩ := hI1
    obtain ⟨hw, hget⟩ := tail_lt l k hkN
    rw [Hrq.out] at hget
    have htk : ((scan l).1.take k).length = k := by simp; omega
    have htk1 : (scan l).1.take (k + 1) = (scan l).1.take k ++ [r] := by rw [List.take_add_one, hget]; rfl
    have hnl := tailAt_len l (k + 1)
    rw [← Hn.out] at hnl
    have hrl : m ≤ 4096 := by
      have := (mayR_iff _).1 (recOf_may hw)
      rw [Hrq.out] at this
      rw [Hm.out]; exact this.2
    have HC := Lib.hid (clone_n A1 m m r Hm.out (by omega) X.drew (RdY.rd (RdY.kept hrX ((Kept.refl _ X).drew))) (fun h => absurd h hA1))
    have fin : ∀ (w2 : World) (A5 : Option Addr) (c5 : Nat), w2.ownsRow X.drew.heap.size 5 1 (.slice A5 m c5) m (bv r) → Below X.drew.heap.size X.drew w2 →
        ∃ (A8 : Option Addr) (c8 : Nat) (w8 : World), w2.cell? ⟨M + 1, 0, none⟩ = some (.slice A6 k c6) ∧ (Builtin.append_ #[22, 22] 22 #[.slice A6 k c6, .slice (some ⟨w2.heap.size, 0, none⟩) 1 1]).run Try.prog (w2.alloc (.cells #[.slice A5 m c5] 23)) = .ok (.slice A8 (k + 1) c8) w8 ∧
          w8.cell? ⟨M + 1, 0, none⟩ = some (.slice A6 k c6) ∧ w8.frozen? ⟨M + 1, 0, none⟩ = false ∧ (w8.setCell ⟨M + 1, 0, none⟩ (.slice A8 (k + 1) c8)).cell? ⟨M, 0, none⟩ = some (.slice A l.length c) ∧
          (w8.setCell ⟨M + 1, 0, none⟩ (.slice A8 (k + 1) c8)).cell? ⟨M + 2, 0, none⟩ = some (.int .i64 ((l.length : Int) - ((tailAt l k).length : Int))) ∧ (w8.setCell ⟨M + 1, 0, none⟩ (.slice A8 (k + 1) c8)).frozen? ⟨M + 2, 0, none⟩ = false ∧
          (KeepsOthers X ((w8.setCell ⟨M + 1, 0, none⟩ (.slice A8 (k + 1) c8)).setCell ⟨M + 2, 0, none⟩ (.int .i64 ((l.length : Int) - (n : Int)))) ∧
            (HoldR ((w8.setCell ⟨M + 1, 0, none⟩ (.slice A8 (k + 1) c8)).setCell ⟨M + 2, 0, none⟩ (.int .i64 ((l.length : Int) - (n : Int)))) (fun b => b < M) (M + 3) (tailAt l (k + 1)) ∧ M ≤ ((w8.setCell ⟨M + 1, 0, none⟩ (.slice A8 (k + 1) c8)).setCell ⟨M + 2, 0, none⟩ (.int .i64 ((l.length : Int) - (n : Int)))).heap.size) ∧
            ScanI w M l (.slice A l.length c) (k + 1) ((w8.setCell ⟨M + 1, 0, none⟩ (.slice A8 (k + 1) c8)).setCell ⟨M + 2, 0, none⟩ (.int .i64 ((l.length : Int) - (n : Int))))) := by
      intro w2 A5 c5 o5 hb5
      have hsd : X.drew.heap.size = X.heap.size := rfl
      rw [hsd] at o5 hb5
      have hbX2 : Below X.heap.size X w2 := ⟨hb5.os, hb5.tape, hb5.output, hb5.size, hb5.block⟩
      have ho2 := ho.go hbX2
      rw [htk] at hbx ho2
      obtain ⟨psr, hrw, -⟩ := ho
      rw [htk] at hrw
      have hrow : ∀ x, (Value.slice A6 k c6).ownBlock = some x → M + 4 ≤ x ∧ x < X.heap.size := fun x hx => by
        obtain ⟨A', c', e', -, -, -, h4⟩ := own_form hrw
        injection e' with e1 e2 e3
        subst e1
        cases A6 with
        | none => simp [Value.ownBlock] at hx
        | some a => obtain ⟨g', rfl, h1, h2⟩ := h4 a rfl; simp [Value.ownBlock] at hx; omega
      obtain ⟨A5', c5', e5, v1, v2, v3, v4⟩ := own_form o5
      injection e5 with e5 _ e6
      subst e5 e6
      have hpd : RdY w2 (fun b => M + 4 ≤ b ∧ some b ≠ (Value.slice A6 k c6).ownBlock) A5 r := by
        have h0 : RdY w2 (fun b => X.heap.size ≤ b) A5 r := RdY.of_own o5 (fun b hb => hb)
        exact RdX.mono h0 (fun b hb => ⟨by omega, fun e => by have := (hrow b e.symm).2; omega⟩)
      have hm2 := Hm.out
      obtain ⟨A8, c8, w8, hrun, ho8, hg8, hr8, -⟩ := OwL.push (v := .slice A6 k c6) ho2 r (A := A5) (c := c5) hpd (fun h => by rw [← hm2]; exact (v3 h).1) (by rw [← hm2]; exact v1) (by unfold maxLen at v2; omega) (by have := hbX2.size; omega) (by rw [htk]; omega)
      rw [htk, ← hm2] at hrun
      rw [htk, ← htk1] at ho8
      rw [← hm2] at hg8
      obtain ⟨W8, hW8⟩ : ∃ W8, w8.setCell ⟨M + 1, 0, none⟩ (.slice A8 (k + 1) c8) = W8 := ⟨_, rfl⟩
      obtain ⟨W9, hW9⟩ : ∃ W9, W8.setCell ⟨M + 2, 0, none⟩ (.int .i64 ((l.length : Int) - (n : Int))) = W9 := ⟨_, rfl⟩
      have hk8 : ∀ S : Nat → Prop, (∀ x, M + 4 ≤ x → x < X.heap.size → ¬ S x) → Kept S X w8 := fun S hS =>
        (((hbX2.keptS S).alloc _).grown hg8 (fun j hj => .inr (fun h => hS j (hrow j hj).1 (hrow j hj).2 h)))
      have hkW : ∀ S : Nat → Prop, (∀ x, M + 4 ≤ x → x < X.heap.size → ¬ S x) → ¬ S (M + 1) → Kept S X W8 := fun S hS h1 => by rw [← hW8]; exact (hk8 S hS).setCell h1 _
      have hkW9 : ∀ S : Nat → Prop, (∀ x, M + 4 ≤ x → x < X.heap.size → ¬ S x) → ¬ S (M + 1) → ¬ S (M + 2) → Kept S X W9 := fun S hS h1 h2 => by rw [← hW9]; exact (hkW S hS h1).setCell h2 _
      have hbx8 : Boxed w8 (M + 1) 22 (.slice A6 k c6) := heap_kept (hk8 (fun b => b = M + 1) (fun x h1 _ => by omega)) hbx rfl
      have hbx9 : Boxed W8 (M + 1) 22 (.slice A8 (k + 1) c8) := by rw [← hW8]; exact hbx8.set _
      have hbw8 : Boxed W8 (M + 2) 3 (.int .i64 ((l.length : Int) - ((tailAt l k).length : Int))) := heap_kept (hkW (fun b => b = M + 2) (fun x h1 _ => by omega) (by omega)) hbw rfl
      have hb08 : Boxed W8 M 23 (.slice A l.length c) := heap_kept (hkW (fun b => b = M) (fun x h1 _ => by omega) (by omega)) hb0 rfl
      refine ⟨A8, c8, w8, ?_⟩
      rw [hW8, hW9]
      have hko : KeepsOthers X W9 := by
        have k1 : KeepsOthers X w8 := by
          refine ((keepsB hbX2).trans (KeepsOthers.alloc w2 _)).trans (KeepsOthers.of_grownBy hg8 fun j o ej hj => ?_)
          rcases hrw.2 with ⟨h', -⟩ | ⟨g2, cap2, cur2, h', -, hg2, -⟩
          · rw [h'] at ej; simp [Value.ownBlock] at ej
          · rw [h'] at ej
            obtain rfl : g2 = j := by simpa [Value.ownBlock] using ej
            have := (hbX2.block g2 (Array.getElem?_eq_some_iff.1 hg2).1).trans hg2
            rw [Below.heap_alloc _ _ _ (Array.getElem?_eq_some_iff.1 this).1, this] at hj
            cases hj; rfl
        rw [← hW9, ← hW8]
        exact (k1.trans (KeepsOthers.setCell _ _ _)).trans (KeepsOthers.setCell _ _ _)
      have hsz : X.heap.size ≤ W9.heap.size := hko.size
      refine ⟨Boxed.cell (heap_kept (hbX2.keptS (fun _ => True)) hbx trivial), hrun, hbx8.cell, hbx8.frozen, hb08.cell, hbw8.cell, hbw8.frozen, hko, ⟨?_, by omega⟩, ⟨A8, c8, ?_, ?_⟩, ?_, ?_, ?_, by omega⟩
      · obtain ⟨A4, c4, y1, y2, y3⟩ := hG1.1
        exact ⟨A4, c4, heap_kept (hkW9 (fun b => b = M + 3) (fun x h1 _ => by omega) (by omega) (by omega)) y1 rfl, RdY.kept y2 (hkW9 (fun b => b < M) (fun x h1 _ => by omega) (by omega) (by omega)), y3⟩
      · have e : ((scan l).1.take (k + 1)).length = k + 1 := by simp; omega
        rw [e]
        rw [← hW9]
        exact heap_kept ((Kept.refl (fun b => b = M + 1) W8).setCell (p := ⟨M + 2, 0, none⟩) (by simp) _) hbx9 rfl
      · have e : ((scan l).1.take (k + 1)).length = k + 1 := by simp; omega
        rw [e]
        have hk : Kept (fun b => M + 4 ≤ b) w8 W9 := by rw [← hW9, ← hW8]; exact ((Kept.refl _ w8).setCell (by simp) _).setCell (by simp) _
        exact ho8.keptX hk (fun b hb => hb) (fun b hb => hb)
      · rw [← Hn.out, ← hW9]; exact hbw8.set _
      · exact heap_kept (hkW9 (fun b => b = M) (fun x h1 _ => by omega) (by omega) (by omega)) hb0 rfl
      · exact hbX.trans ((hkW9 (fun b => b < M) (fun x h1 _ => by omega) (by omega) (by omega)).below (by omega) (fun j hj => hj))
    have Fin := Lib.hid fin
    have d0 : X.cell? ⟨M + 1, 0, none⟩ = some (.slice A6 k c6) := by have := hbx.cell; rwa [htk] at this
    have Hnl : Hid (n ≤ l.length) := hnl
    have nI : (n : Int) ≤ (l.length : Int) := by omega
    clear fin hbx ho hbw hb0 hbX hG1 hrX htk htk1 hget hw hnl HI HG
    gi_wp2
    refine wpIn_region_any (by kernel_rfl) ?_
    change wpAnyIn _ _ _ _ _ _ _ _ _ (World.drew _)
    refine wpAnyIn_ready (rs := [0, 1]) (by kernel_rfl) (by simp) ?_
    refine AllReadyIn.cons rfl (fun K hK => ?_) ?_
    · skip
      go_simp
      refine hK _ _ ?_
      clear hK K
      refine wpAnyIn_ready (rs := [1]) (by kernel_rfl) (by simp) ?_
      refine AllReadyIn.cons rfl (fun K hK => ?_) AllReadyIn.nil
      go_simp
      refine hK _ _ ?_
      clear hK K
      refine wpAnyIn_ready (rs := [2]) (by kernel_rfl) (by simp) ?_
      refine AllReadyIn.cons rfl (fun K hK => ?_) AllReadyIn.nil
      go_simp
      gi_wp2_with (gi_at_call 24; refine (CallsIn.inRound lo (callsIn_wide.2 HC.out)).mono ?_; rintro e w2 ⟨A5, c5, rfl, o5, hb5⟩; obtain ⟨A8, c8, w8, e1, hrun, e2, e3, e4, e5, e6, hfin⟩ := Fin.out w2 A5 c5 o5 hb5; have Hfin := Lib.hid hfin; clear hfin; have e1b := ((bstep w2 (.cells #[.slice A5 m c5] 23)).cell (p := ⟨M + 1, 0, none⟩) (block_lt e1)).trans e1)
      refine wpAnyIn_ready (rs := [3]) (by kernel_rfl) (by simp) ?_
      refine AllReadyIn.cons rfl (fun K hK => ?_) AllReadyIn.nil
      go_simp
      refine hK _ _ ?_
      clear hK K
      refine wpAnyIn_ready (rs := [4]) (by kernel_rfl) (by simp) ?_
      refine AllReadyIn.cons rfl (fun K hK => ?_) AllReadyIn.nil
      refine stepIn_append_run (by rfl) _ _ _ _ _ (by rfl) (by rfl) _ _ (by rfl) (by rfl) hrun ?_
      refine hK _ _ ?_
      clear hK K
      refine wpAnyIn_ready (rs := [5]) (by kernel_rfl) (by simp) ?_
      refine AllReadyIn.cons rfl (fun K hK => ?_) AllReadyIn.nil
      go_simp
      refine hK _ _ ?_
      clear hK K
      refine wpAnyIn_done (by kernel_rfl) ?_ _
      gi_wp2
      exact Hfin.out
    refine AllReadyIn.cons rfl (fun K hK => ?_) AllReadyIn.nil
    go_simp
    refine hK _ _ ?_
    clear hK K
    refine wpAnyIn_ready (rs := [0, 2]) (by kernel_rfl) (by simp) ?_
    refine AllReadyIn.cons rfl (fun K hK => ?_) ?_
    · skip
      go_simp
      refine hK _ _ ?_
      clear hK K
      refine wpAnyIn_ready (rs := [2]) (by kernel_rfl) (by simp) ?_
      refine AllReadyIn.cons rfl (fun K hK => ?_) AllReadyIn.nil
      go_simp
      gi_wp2_with (gi_at_call 24; refine (CallsIn.inRound lo (callsIn_wide.2 HC.out)).mono ?_; rintro e w2 ⟨A5, c5, rfl, o5, hb5⟩; obtain ⟨A8, c8, w8, e1, hrun, e2, e3, e4, e5, e6, hfin⟩ := Fin.out w2 A5 c5 o5 hb5; have Hfin := Lib.hid hfin; clear hfin; have e1b := ((bstep w2 (.cells #[.slice A5 m c5] 23)).cell (p := ⟨M + 1, 0, none⟩) (block_lt e1)).trans e1)
      refine wpAnyIn_ready (rs := [3]) (by kernel_rfl) (by simp) ?_
      refine AllReadyIn.cons rfl (fun K hK => ?_) AllReadyIn.nil
      go_simp
      refine hK _ _ ?_
      clear hK K
      refine wpAnyIn_ready (rs := [4]) (by kernel_rfl) (by simp) ?_
      refine AllReadyIn.cons rfl (fun K hK => ?_) AllReadyIn.nil
      refine stepIn_append_run (by rfl) _ _ _ _ _ (by rfl) (by rfl) _ _ (by rfl) (by rfl) hrun ?_
      refine hK _ _ ?_
      clear hK K
      refine wpAnyIn_ready (rs := [5]) (by kernel_rfl) (by simp) ?_
      refine AllReadyIn.cons rfl (fun K hK => ?_) AllReadyIn.nil
      go_simp
      refine hK _ _ ?_
      clear hK K
      refine wpAnyIn_done (by kernel_rfl) ?_ _
      gi_wp2
      exact Hfin.out
    refine AllReadyIn.cons rfl (fun K hK => ?_) AllReadyIn.nil
    go_simp
    gi_wp2_with (gi_at_call 24; refine (CallsIn.inRound lo (callsIn_wide.2 HC.out)).mono ?_; rintro e w2 ⟨A5, c5, rfl, o5, hb5⟩; obtain ⟨A8, c8, w8, e1, hrun, e2, e3, e4, e5, e6, hfin⟩ := Fin.out w2 A5 c5 o5 hb5; have Hfin := Lib.hid hfin; clear hfin; have e1b := ((bstep w2 (.cells #[.slice A5 m c5] 23)).cell (p := ⟨M + 1, 0, none⟩) (block_lt e1)).trans e1)
    refine wpAnyIn_ready (rs := [0, 3]) (by kernel_rfl) (by simp) ?_
    refine AllReadyIn.cons rfl (fun K hK => ?_) ?_
    · skip
      go_simp
      refine hK _ _ ?_
      clear hK K
      refine wpAnyIn_ready (rs := [3]) (by kernel_rfl) (by simp) ?_
      refine AllReadyIn.cons rfl (fun K hK => ?_) AllReadyIn.nil
      go_simp
      refine hK _ _ ?_
      clear hK K
      refine wpAnyIn_ready (rs := [4]) (by kernel_rfl) (by simp) ?_
      refine AllReadyIn.cons rfl (fun K hK => ?_) AllReadyIn.nil
      refine stepIn_append_run (by rfl) _ _ _ _ _ (by rfl) (by rfl) _ _ (by rfl) (by rfl) hrun ?_
      refine hK _ _ ?_
      clear hK K
      refine wpAnyIn_ready (rs := [5]) (by kernel_rfl) (by simp) ?_
      refine AllReadyIn.cons rfl (fun K hK => ?_) AllReadyIn.nil
      go_simp
      refine hK _ _ ?_
      clear hK K
      refine wpAnyIn_done (by kernel_rfl) ?_ _
      gi_wp2
      exact Hfin.out
    refine AllReadyIn.cons rfl (fun K hK => ?_) AllReadyIn.nil
    go_simp
    refine hK _ _ ?_
    clear hK K
    refine wpAnyIn_ready (rs := [0]) (by kernel_rfl) (by simp) ?_
    refine AllReadyIn.cons rfl (fun K hK => ?_) AllReadyIn.nil
    go_simp
    refine hK _ _ ?_
    clear hK K
    refine wpAnyIn_ready (rs := [4]) (by kernel_rfl) (by simp) ?_
    refine AllReadyIn.cons rfl (fun K hK => ?_) AllReadyIn.nil
    refine stepIn_append_run (by rfl) _ _ _ _ _ (by rfl) (by rfl) _ _ (by rfl) (by rfl) hrun ?_
    refine hK _ _ ?_
    clear hK K
    refine wpAnyIn_ready (rs := [5]) (by kernel_rfl) (by simp) ?_
    refine AllReadyIn.cons rfl (fun K hK => ?_) AllReadyIn.nil
    go_simp
    refine hK _ _ ?_
    clear hK K
    refine wpAnyIn_done (by kernel_rfl) ?_ _
    gi_wp2
    exact Hfin.out
  case done =>
    rintro D W hD hI hE hK
    obtain ⟨⟨A6, c6, hbx, ho⟩, hbw, hb0, hbX, hMX⟩ := hI
    rw [List.take_length] at hbx ho
    have hte := (tail_end l).2
    rw [hte] at hbw
    obtain ⟨ls, hls⟩ : ∃ ls, (scan l).1 = ls := ⟨_, rfl⟩
    obtain ⟨rest, hrest⟩ : ∃ rest, (scan l).2 = rest := ⟨_, rfl⟩
    rw [hls] at hbx ho
    rw [hrest] at hbw
    have y1 := hbx.cell
    have y2 := hbw.cell
    have z1 := hbx.frozen
    have z2 := hbw.frozen
    have Hbx := Lib.hid hbx
    have Hbw := Lib.hid hbw
    have Ho := Lib.hid ho
    have HbX := Lib.hid hbX
    have Hls := Lib.hid hls
    have Hrest := Lib.hid hrest
    clear hbx hbw ho hb0 hbX hls hrest hte x0 x1 x2 hold hb4 hmany
    gi_wp2
    gi_region
    obtain ⟨W9, hW9⟩ : ∃ W9, ((W.setCell ⟨M + 1, 0, none⟩ (.slice A6 ls.length c6)).setCell ⟨M + 2, 0, none⟩ (.int .i64 ((l.length : Int) - (rest.length : Int)))).drew = W9 := ⟨_, rfl⟩
    have b1 : Boxed W9 (M + 1) 22 (.slice A6 ls.length c6) := by
      rw [← hW9]
      exact heap_kept (((Kept.refl (fun b => b = M + 1) _).setCell (p := ⟨M + 2, 0, none⟩) (by simp) _).drew) (Hbx.out.set _) rfl
    have b2 : Boxed W9 (M + 2) 3 (.int .i64 ((l.length : Int) - (rest.length : Int))) := by
      rw [← hW9]
      have h := heap_kept ((Kept.refl (fun b => b = M + 2) W).setCell (p := ⟨M + 1, 0, none⟩) (by simp) (.slice A6 ls.length c6)) Hbw.out rfl
      exact heap_kept ((Kept.refl (fun b => b = M + 2) _).drew) (Boxed.set _ h) rfl
    have hk9 : Kept (fun b => b ≠ M + 1 ∧ b ≠ M + 2) W W9 := by rw [← hW9]; exact (((Kept.refl _ W).setCell (by simp) _).setCell (by simp) _).drew
    have hK9 : W9.heap[D]? = some (.deferred (some [])) := heap_kept hk9 hK ⟨by omega, by omega⟩
    have o9 : OwL W9 (M + 4) (fun b => M + 4 ≤ b) (.slice A6 ls.length c6) ls := Ho.out.keptX hk9 (fun b hb => ⟨by omega, by omega⟩) (fun b hb => ⟨by omega, by omega⟩)
    have hb9 : Below M w W9 := HbX.out.trans (hk9.below (by omega) (fun j hj => ⟨by omega, by omega⟩))
    have post : ∀ o : Obj, ScanPost w (W9.putObj D o) (.returned (.tuple #[.slice A6 ls.length c6, .int .i64 ((l.length : Int) - (rest.length : Int))])) l := fun o => by
      refine ⟨A6, ls.length, c6, by rw [Hrest.out], by rw [Hls.out], ?_, ?_⟩
      · rw [Hls.out, HM.out]
        exact ((OwL.own (M + 4)).putObj _ o9 (by omega) hK9 rfl).mono (by omega) (fun b hb => by omega)
      · rw [HM.out]; exact hb9.putObj (by omega) (by have := hk9.size; omega) _
    have Post := Lib.hid post
    have q12 : ∀ o : Obj, (W9.putObj D o).cell? ⟨M + 1, 0, none⟩ = some (.slice A6 ls.length c6) ∧ (W9.putObj D o).cell? ⟨M + 2, 0, none⟩ = some (.int .i64 ((l.length : Int) - (rest.length : Int))) := fun o =>
      ⟨Boxed.cell (show Boxed (W9.putObj D o) (M + 1) 22 _ from (World.putObj_heap_other (by omega)).trans b1), Boxed.cell (show Boxed (W9.putObj D o) (M + 2) 3 _ from (World.putObj_heap_other (by omega)).trans b2)⟩
    have Hp := Lib.hid hK9
    clear y1 y2 z1 z2 b1 b2 hk9 o9 hb9 post hK9 hK
    rw [hW9]
    clear hW9
    gi_wp2
    refine ⟨by simp, .inl ⟨_, _, rfl, run_takeDeferred Hp.out, ?_⟩⟩
    refine ⟨_, ?_, Post.out _⟩
    obtain ⟨q1, q2⟩ := q12 (.deferred none)
    simp [results, go_sem, q1, q2, Try.func14]
  case stop =>
    rintro D c k W _ _ h _ _
    exact h.elim
end Go.Proofs.Ytajpinbabgcnkaa
