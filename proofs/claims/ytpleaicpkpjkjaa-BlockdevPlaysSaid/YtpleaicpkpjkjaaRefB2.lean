/-
  The document's device: At, place, counts, SetPlan, walked. Conditions stand at each theorem.
-/
import Derived.Test.YtpleaicpkpjkjaaRefB1
namespace Go.Proofs.Ytpleaicpkpjkjaa
open Go Go.RowKit Go.Kw Go.Maps
set_option linter.unusedVariables false
set_option linter.unusedSimpArgs false

def lenV : Value → Nat
  | .slice _ n _ => n
  | _ => 0
/-- At: a sector's bytes, in memory of their own. -/
def AtB (w : World) (s : List UInt8) (e : Ending) (w' : World) : Prop := ∃ A' c', e = .returned (.slice A' 128 c') ∧ w'.ownsRow w.heap.size 5 1 (.slice A' 128 c') 128 (bv s) ∧ Below w.heap.size w w'
theorem int_wf {i : Int} (h : -9223372036854775808 ≤ i ∧ i < 9223372036854775808) : (Lit.int .i64 i).wf = true := by rw [← wrap64_in' i (by omega)]; exact wrap64_wf i
section
variable {w : World} {B r mb nn : Nat} {V : Value} {X : Nat → Prop} {D : Dv}
set_option maxHeartbeats 8000000 in
theorem refAt_calls (h : RefO w B r mb nn V X D) (n : Nat) (hn : n < D.S.length) :
    Calls Try.prog 24 #[.pointer (some ⟨r, 0, none⟩), .int .i64 (n : Int)] w (AtB w (D.S.getD n [])) := by
  obtain ⟨c0, c1, c2, c3, c4, c5⟩ := h.cells
  obtain ⟨F, h1, h2⟩ := h.map
  obtain ⟨A, c, l, hF, hA, hl, hR, hs⟩ := h2 n hn
  have hn2 := h.ok.n
  have hlook := h1.look (n : Int) (int_wf (by omega))
  rw [hF] at hlook
  obtain ⟨A1, ca, w1, hrun, o1, b1, -, -, z1⟩ := append_bytes (P := Try.prog) (t := 23) (l := []) eb w w.heap.size (World.ownsRow_nil w w.heap.size 5 1) l.length c hR.rd rfl (by simp; omega) (Nat.le_refl _) hA
  rw [List.nil_append] at hrun o1
  have HO := Lib.hid (And.intro o1 b1)
  have Hs := Lib.hid (And.intro hs hl)
  obtain ⟨L, hL⟩ : ∃ L, l.length = L := ⟨_, rfl⟩
  rw [hL] at hlook hrun
  have HL := Lib.hid hL
  clear h h1 h2 hF hA hl hR hs hn2 o1 b1 z1 hn hL c0 c2 c3 c4 c5
  go_enter Try.func24, Try.ntmps24
  go_wp2_with (at_builtin; refine wpList_append_run hrun rfl rfl rfl rfl rfl ?_)
  clear hrun hlook c1
  go_loopw [6] (fun ov wr => ∃ k Ak ck, ov = .slice Ak k ck ∧ l.length ≤ k ∧ k ≤ 128 ∧ wr.ownsRow w.heap.size 5 1 (.slice Ak k ck) k (bv (l ++ List.replicate (k - l.length) 0)) ∧ Below w.heap.size w wr) (fun ov _ => 128 - lenV ov)
  case atStart => exact ⟨L, A1, ca, rfl, by rw [HL.out]; exact Nat.le_refl _, by rw [← HL.out]; exact Hs.out.2, by have := HO.out.1; rw [HL.out] at this ⊢; simpa using this, HO.out.2⟩
  case round =>
    obtain ⟨k, Ak, ck, rfl, hk1, hk2, ok, hBk⟩ := hrel
    by_cases hk : k < 128
    · have hI : (k : Int) < 128 := by omega
      have hlen : (l ++ List.replicate (k - l.length) (0 : UInt8)).length = k := by simp; omega
      obtain ⟨A2, cb, w2, hrun, o2, b2, -, -, -⟩ := append_lit (P := Try.prog) (t := 23) eb wr w.heap.size ok #[.int .u8 0] 1 [0] rfl rfl (by rw [hlen]; simp; omega) hBk.size
      have e1 : (l ++ List.replicate (k - l.length) (0 : UInt8) ++ [0]).length = k + 1 := by rw [List.length_append, hlen]; rfl
      have e2 : l ++ List.replicate (k - l.length) (0 : UInt8) ++ [0] = l ++ List.replicate (k + 1 - l.length) 0 := by
        rw [List.append_assoc, show k + 1 - l.length = (k - l.length) + 1 by omega, List.replicate_succ']
      rw [e1] at hrun o2
      rw [e2] at o2
      have Hk := Lib.hid (And.intro hk (And.intro hk1 (And.intro o2 (hBk.trans b2))))
      clear hlen e1 e2 hk hk1 hk2 ok hBk o2 b2
      go_wp2_with (at_builtin; refine wpList_append_run hrun rfl rfl rfl rfl rfl ?_)
      obtain ⟨hk, hk1, o2, b2⟩ := Hk.out
      exact ⟨⟨k + 1, A2, cb, rfl, by omega, by omega, o2, b2⟩, by simp [lenV]; omega⟩
    · obtain rfl : k = 128 := by omega
      have HP := Lib.hid (show AtB w (D.S.getD n []) (.returned (.slice Ak 128 ck)) wr from ⟨Ak, ck, rfl, by rw [Hs.out.1]; exact ok, hBk⟩)
      clear hk hk1 hk2 ok hBk
      go_wp2_with fail
      go_ret
      exact HP.out
theorem refPlace_calls (h : RefO w B r mb nn V X D) (i : Int) :
    Calls Try.prog 46 #[.pointer (some ⟨r, 0, none⟩), .int .i64 i] w fun e w' => e = .returned (.bool (decide (0 ≤ i ∧ i < (D.S.length : Int)))) ∧ Below w.heap.size w w' := by
  obtain ⟨c0, c1, c2, c3, c4, c5⟩ := h.cells
  obtain ⟨N, hN⟩ : ∃ N, (D.S.length : Int) = N := ⟨_, rfl⟩
  rw [hN] at c0 ⊢
  clear h hN c1 c2 c3 c4 c5
  by_cases h0 : 0 ≤ i
  · by_cases h1 : i < N
    · rw [decide_eq_true (And.intro h0 h1)]
      have k0 : decide (i ≥ 0) = true := decide_eq_true h0
      have k1 : decide (i < N) = true := decide_eq_true h1
      clear h0 h1
      go_enter Try.func46, Try.ntmps46
      go_wp2_with fail
      go_ret
      exact ⟨rfl, Below.refl _ _⟩
    · rw [decide_eq_false (fun h => h1 h.2)]
      have k0 : decide (i ≥ 0) = true := decide_eq_true h0
      have k1 : decide (i < N) = false := decide_eq_false h1
      clear h0 h1
      go_enter Try.func46, Try.ntmps46
      go_wp2_with fail
      go_ret
      exact ⟨rfl, Below.refl _ _⟩
  · rw [decide_eq_false (fun h => h0 h.1)]
    have k0 : decide (i ≥ 0) = false := decide_eq_false h0
    clear h0
    go_enter Try.func46, Try.ntmps46
    go_wp2_with fail
    go_ret
    exact ⟨rfl, Below.refl _ _⟩
theorem cells_set {W : World} {r i : Nat} {cs : Array Value} {t : TypeId} (h : W.heap[r]? = some (.cells cs t (0, 0))) (v : Value) : (W.setCell ⟨r, i, none⟩ v).heap[r]? = some (.cells (cs.setIfInBounds i v) t (0, 0)) := heap_setCell_same W r i _ _ v h
/-- counts: a call more; does the device go down at it? -/
theorem refCounts_calls (h : RefO w B r mb nn V X D) (hk : 0 ≤ D.k ∧ D.k < 4611686018427387904) :
    Calls Try.prog 47 #[.pointer (some ⟨r, 0, none⟩)] w fun e w' => e = .returned (.bool (decide (D.p = 1))) ∧ RefO w' B r mb nn V X (cntV D D D).2 ∧ Kept (fun b => b ≠ r) w w' := by
  have hok : DvOk (cntV D D D).2 := cnt_okA h.ok _ _ h.ok h.ok rfl rfl
  have hS : (cntV D D D).2.S = D.S := by unfold cntV; split <;> rfl
  have hC : (cntV D D D).2.C = D.C := by unfold cntV; split <;> rfl
  have hbox := h.box
  have HT := Lib.hid (fun W' => h.turn (W' := W') hok hS hC)
  obtain ⟨c0, c1, c2, c3, c4, c5⟩ := h.cells
  have f5 := h.fr 5
  have f4 := h.fr 4
  have f3 := h.fr 3
  have X1 := Lib.hid (wrap64_in' (D.k + 1) (by omega))
  have hp := h.ok.p
  have X2 := Lib.hid (wrap64_in' (D.p - 1) (by omega))
  obtain ⟨K, hK⟩ : ∃ K, D.k = K := ⟨_, rfl⟩
  obtain ⟨p, hP⟩ : ∃ p, D.p = p := ⟨_, rfl⟩
  have HD := Lib.hid (And.intro hK (And.intro hP (And.intro hbox (And.intro hp (hK ▸ hk)))))
  rw [hK] at c5 X1
  rw [hP] at c3 X2 ⊢
  clear h hok hS hC hbox hp hk hK hP
  by_cases h0 : p = 0
  · subst h0
    rw [decide_eq_false (by omega)]
    go_enter Try.func47, Try.ntmps47
    go_wp2_with fail
    go_ret
    obtain ⟨hK, hP, hbox, hp, hk⟩ := HD.out
    refine ⟨rfl, ?_⟩
    try rw [IntWalk.i64_right]
    rw [X1.out]
    have hk2 : Kept (fun b => b ≠ r) w (w.setCell ⟨r, 5, none⟩ (.int .i64 (K + 1))) := (Kept.refl _ w).setCell (fun e => e rfl) _
    refine ⟨HT.out _ hk2 ?_, hk2⟩
    rw [cells_set hbox]
    unfold cntV
    rw [if_neg (by omega)]
    simp [refC, hP, hK, planN]
  by_cases h1 : p = 1
  · subst h1
    rw [decide_eq_true rfl]
    go_enter Try.func47, Try.ntmps47
    go_wp2_with fail
    go_ret
    obtain ⟨hK, hP, hbox, hp, hk⟩ := HD.out
    refine ⟨rfl, ?_⟩
    try rw [X1.out]
    have hk2 : Kept (fun b => b ≠ r) w (((w.setCell ⟨r, 5, none⟩ (.int .i64 (K + 1))).setCell ⟨r, 3, none⟩ (.int .i64 0)).setCell ⟨r, 4, none⟩ (.bool true)) := (((Kept.refl _ w).setCell (fun e => e rfl) _).setCell (fun e => e rfl) _).setCell (fun e => e rfl) _
    refine ⟨HT.out _ hk2 ?_, hk2⟩
    rw [cells_set (cells_set (cells_set hbox _) _) _]
    unfold cntV
    rw [if_pos hP]
    simp [refC, hP, hK, planN]
  · have k0 : (p == 0) = false := beq_eq_false_iff_ne.2 h0
    have k1 : (wrap64 (p - 1) == 0) = false := by rw [X2.out]; exact beq_eq_false_iff_ne.2 (by omega)
    rw [decide_eq_false h1]
    have H1 := Lib.hid (And.intro h0 h1)
    clear h0 h1
    go_enter Try.func47, Try.ntmps47
    go_wp2_with fail
    go_ret
    obtain ⟨hK, hP, hbox, hp, hk⟩ := HD.out
    refine ⟨rfl, ?_⟩
    rw [X1.out, X2.out]
    have hk2 : Kept (fun b => b ≠ r) w ((w.setCell ⟨r, 5, none⟩ (.int .i64 (K + 1))).setCell ⟨r, 3, none⟩ (.int .i64 (p - 1))) := ((Kept.refl _ w).setCell (fun e => e rfl) _).setCell (fun e => e rfl) _
    refine ⟨HT.out _ hk2 ?_, hk2⟩
    rw [cells_set (cells_set hbox _) _]
    unfold cntV
    rw [if_neg (by have := H1.out.2; omega)]
    have := H1.out.1
    simp [refC, hP, hK, planN, this]
theorem refSetPlan_calls (h : RefO w B r mb nn V X D) (i : Int) (hi : i < 9223372036854775808) :
    Calls Try.prog 41 #[.pointer (some ⟨r, 0, none⟩), .int .i64 i] w fun e w' => e = .returned (.int .i64 (planV D i).1) ∧ RefP w B r mb nn V X (planV D i).2 w' := by
  obtain ⟨c0, c1, c2, c3, c4, c5⟩ := h.cells
  have f3 := h.fr 3
  have H := Lib.hid h
  clear h c0 c1 c2 c5
  unfold planV
  cases hdn : D.dn with
  | true =>
    rw [hdn] at c4
    rw [if_pos rfl]
    clear hdn c3 f3 hi
    go_enter Try.func41, Try.ntmps41
    go_wp2_with fail
    go_ret
    exact ⟨rfl, RefP.same H.out (Below.refl _ _)⟩
  | false =>
    rw [hdn] at c4
    rw [if_neg (by simp)]
    by_cases h0 : i < 0
    · rw [if_pos h0]
      have k0 : decide (i < 0) = true := decide_eq_true h0
      clear hdn c3 f3 hi h0
      go_enter Try.func41, Try.ntmps41
      go_wp2_with fail
      go_ret
      exact ⟨rfl, RefP.same H.out (Below.refl _ _)⟩
    · rw [if_neg h0]
      have k0 : decide (i < 0) = false := decide_eq_false h0
      have HP := Lib.hid (show RefP w B r mb nn V X { D with p := i, dn := false } (w.setCell ⟨r, 3, none⟩ (.int .i64 i)) from by
        have hk2 : Kept (fun b => b ≠ r) w (w.setCell ⟨r, 3, none⟩ (.int .i64 i)) := (Kept.refl _ w).setCell (fun e => e rfl) _
        have hq := plan_ok H.out.ok i hi
        unfold planV at hq
        rw [if_neg (by simp [hdn]), if_neg h0] at hq
        rw [← hdn]
        refine RefP.box H.out (H.out.turn hq rfl rfl hk2 ?_) hk2
        rw [cells_set H.out.box]
        simp [refC])
      clear hdn hi h0
      go_enter Try.func41, Try.ntmps41
      go_wp2_with fail
      go_ret
      exact ⟨rfl, HP.out⟩
end
end Go.Proofs.Ytpleaicpkpjkjaa
