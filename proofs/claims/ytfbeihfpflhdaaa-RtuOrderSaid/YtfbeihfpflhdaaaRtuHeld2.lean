/-
  Held of package rtu, walked. Conditions: at most 1,000 pieces, 1,000,000 bytes in all.
-/
import Derived.Test.YtfbeihfpflhdaaaRtuHeld
import Derived.ProofKit
import Derived.LoopTactic
namespace Go.Proofs.Ytfbeihfpflhdaaa
open Go Go.RowKit Go.Kw Go.Kw.Crc Go.Shelf
attribute [local go_sem] Oper.semAt_some
set_option linter.unusedVariables false
set_option linter.unusedSimpArgs false

set_option maxRecDepth 100000 in
set_option maxHeartbeats 2000000 in
theorem heldSum_calls (g : Nat) (s : Int) (hs1 : 1 ≤ s) (A : Option Addr) (c : Nat) (vs : List PV) (hl : vs.length ≤ 1000) (hs : ahead vs vs.length ≤ 1000000) (w : World) (hc0 : w.cell? ⟨g, 0, none⟩ = some (.int .i64 s)) (hc1 : w.cell? ⟨g, 1, none⟩ = some (.slice A vs.length c)) (hR : Rd w w.heap.size A vs.length (fun i => (vs.getD i default).v)) :
    Calls Try.prog 19 #[.pointer (some ⟨g, 0, none⟩)] w fun e w' => e = .returned (.int .i64 (ahead vs vs.length : Nat)) ∧ Below w.heap.size w w' := by
  have hF := wide_fn
  have hgl : g < w.heap.size := block_lt hc0
  refine calls_of_marks Try.func19 rfl ?_
  simp only [Try.ntmps19, List.size_toArray, List.length_cons, List.length_nil, Nat.reduceAdd, Nat.reduceSub, Array.replicate_succ, Array.replicate_zero, List.push_toArray, List.append_toArray, List.nil_append, List.cons_append]
  have bO := (Boxed.new w 3 (.int .i64 0)).alloc (.cells #[.pointer (some ⟨g, 0, none⟩)] 41)
  have bB := Boxed.new (w.alloc (.cells #[.int .i64 0] 3)) 41 (.pointer (some ⟨g, 0, none⟩))
  have hB1 : Below w.heap.size w (w.alloc (.cells #[.int .i64 0] 3)) := (Below.refl _ w).alloc (Nat.le_refl _) _
  have hB0 : Below w.heap.size w ((w.alloc (.cells #[.int .i64 0] 3)).alloc (.cells #[.pointer (some ⟨g, 0, none⟩)] 41)) := hB1.alloc (by simp) _
  simp only [World.size_alloc] at bB
  gi_wp2_with (first | (refine wpIn_scope ?_) | (refine wpIn_label ?_) | (gi_at_call 27; refine (callsIn_wide.2 (none_calls g s hs1 w hc0)).mono ?_; rintro e w' ⟨rfl, hww⟩; rw [hww]; clear hww w') | (gi_at_call 30; refine (callsIn_wide.2 (held_calls _ _)).mono ?_; rintro e w' ⟨rfl, rfl⟩))
  obtain ⟨W0, hW0⟩ : ∃ W0, ((w.alloc (.cells #[.int .i64 0] 3)).alloc (.cells #[.pointer (some ⟨g, 0, none⟩)] 41)) = W0 := ⟨_, rfl⟩
  have hs0 : W0.heap.size = w.heap.size + 1 + 1 := by rw [← hW0]; simp
  rw [hW0] at bO bB hB0 ⊢
  have hg1 : W0.cell? ⟨g, 1, none⟩ = some (.slice A vs.length c) := (hB0.cell (p := ⟨g, 1, none⟩) hgl).trans hc1
  clear hW0 hB1
  refine wpIn_rangeX rfl (by decide) (gf := 35) (lb := #[.pointer (some ⟨w.heap.size + 1, 0, none⟩)]) rfl trivial (enters_of Try.func35 (by kernel_rfl) rfl)
    (held_seq (w.heap.size + 1) w.heap.size g A c vs hl hs) (fun A B h => h ▸ KeepsOthers.refl _) (fun _ => rfl)
    ((cell_own _ _ _).and ((cell_own _ _ _).and (Rd.own _ _ _ _ _))) (fun _ => Rd.own _ _ _ _ _) (OwnW.const _) (fun _ => OwnW.const _) ⟨bB.cell, hg1, hR.below hB0⟩
    (fun k W => Boxed W w.heap.size 3 (.int .i64 (ahead vs k : Nat)) ∧ (Below w.heap.size w W ∧ w.heap.size ≤ W.heap.size))
    (fun _ _ _ => False)
    (fun k => (boxed_ownW _ _ _ _).and (below_own (by omega))) (fun _ _ => OwnW.const _) (fun k A B h e => e ▸ h) (fun _ _ _ _ h _ => h)
    ⟨by simpa [ahead] using bO, hB0, by omega⟩ ?round ?done ?stop
  case round =>
    rintro lo k x W hx _ _
    obtain ⟨xn, xa, xl, xc⟩ := x
    have hxk : xn = ahead vs k ∧ vs[k]? = some ⟨xa, xl, xc⟩ := by
      unfold heldL at hx
      rw [List.getElem?_map] at hx
      by_cases hk : k < vs.length
      · rw [List.getElem?_range hk] at hx
        simp only [Option.map_some, Option.some.injEq, Prod.mk.injEq] at hx
        refine ⟨hx.1.symm, ?_⟩
        rw [← hx.2, List.getD_eq_getElem?_getD, List.getElem?_eq_getElem hk]; rfl
      · rw [List.getElem?_eq_none (by simp; omega)] at hx; cases hx
    have has := ahead_succ vs k _ hxk.2
    have hale := ahead_le vs (k + 1)
    obtain ⟨rfl, -⟩ := hxk
    have Has := Lib.hid has
    have hw : IntKind.i64.wrap ((ahead vs k : Int) + (xl : Int)) = (ahead vs k : Int) + (xl : Int) := IntWalk.i64_in _ (by simp at has; omega)
    clear has hale hx
    simp only [PV.v]
    gi_wp2
    intro W1 hn hBa hBb hG hsz
    have hB := And.intro hBa hBb
    have hcn := hn.cell
    have hfn := hn.frozen
    gi_wp2
    refine ⟨KeepsOthers.setCell _ _ _, Rd.setCell hG (Nat.le_refl _) _, ?_, hB.1.setCell (Nat.le_refl _) _, Nat.le_trans hB.2 (KeepsOthers.setCell _ _ _).size⟩
    rw [Has.out]
    simpa using hn.set (.int .i64 ((ahead vs k : Int) + (xl : Int)))
  case done =>
    rintro D W hD ⟨hn, hB⟩ _ hK
    rw [show (heldL vs).length = vs.length from by simp [heldL]] at hn
    have hcn := hn.cell
    gi_wp2
    refine ⟨by simp, .inl ⟨_, _, rfl, run_takeDeferred hK, ?_⟩⟩
    exact ⟨_, results_tmp rfl _ _ _, rfl, hB.1.putObj (by omega) hB.2 _⟩
  case stop =>
    rintro D c k W _ _ h _ _
    exact h.elim
end Go.Proofs.Ytfbeihfpflhdaaa
