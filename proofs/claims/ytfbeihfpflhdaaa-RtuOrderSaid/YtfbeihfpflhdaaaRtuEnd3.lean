/-
  'end' of package rtu, walked. Conditions stand at the theorem.
-/
import Derived.Test.YtfbeihfpflhdaaaRtuEnd
import Derived.Test.YtfbeihfpflhdaaaKept
import Derived.ProofKit
import Derived.LoopTactic
namespace Go.Proofs.Ytfbeihfpflhdaaa
open Go Go.RowKit Go.Kw Go.Kw.Crc Go.Shelf
attribute [local go_sem] Oper.semAt_some
set_option linter.unusedVariables false
set_option linter.unusedSimpArgs false

def allE (bs : Nat → List UInt8) (k : Nat) : List UInt8 := ((List.range k).map bs).flatten
theorem allE_succ (bs : Nat → List UInt8) (k : Nat) : allE bs (k + 1) = allE bs k ++ bs k := by
  unfold allE; rw [List.range_succ, List.map_append, List.flatten_append]; simp
theorem heldL_inv (vs : List PV) (k : Nat) (x : Nat × PV) (hx : (heldL vs)[k]? = some x) : k < vs.length ∧ x = (ahead vs k, vs.getD k default) := by
  unfold heldL at hx
  rw [List.getElem?_map] at hx
  by_cases hk : k < vs.length
  · rw [List.getElem?_range hk] at hx
    simp only [Option.map_some, Option.some.injEq] at hx
    exact ⟨hk, hx.symm⟩
  · rw [List.getElem?_eq_none (by simp; omega)] at hx; cases hx

/-- Reset, said of the cells. -/
theorem reset_k (g : Nat) (s : Int) (hs : 1 ≤ s) (pv : Value) (sp : Bool) (now last bad : Int) (w : World) (h : GBox w g s pv sp now last bad) :
    Calls Try.prog 20 #[.pointer (some ⟨g, 0, none⟩)] w fun e w' => (∃ v, e = .returned v) ∧ GBox w' g s (.slice none 0 0) false now last bad ∧ Kept (fun b => b ≠ g) w w' := by
  refine (reset_calls g s hs pv sp now last bad w h).mono ?_
  rintro e w' ⟨hv, rfl⟩
  exact ⟨hv, (h.set1 _).set2 false, ((Kept.refl _ w).setCell (p := ⟨g, 1, none⟩) (by simp) _).setCell (p := ⟨g, 2, none⟩) (by simp) _⟩
theorem Box2.keptS {W W' : World} {S : Nat → Prop} {b : Nat} {t : TypeId} {x y : Value} (h : Box2 W b t x y) (hk : Kept S W W') (hs : S b) : Box2 W' b t x y := heap_kept hk h hs
theorem _root_.Go.Kw.Kept.putAt {S : Nat → Prop} {a w : World} (h : Kept S a w) {l : Nat} (hl : ¬ S l) (o : Obj) : Kept S a (w.putObj l o) := by
  have hg := grownBy_putObj' w l o
  exact ⟨hg.os.trans h.os, hg.tape.trans h.tape, hg.output.trans h.output, Nat.le_trans h.size hg.size, fun k hk hs => (hg.block k (by have := h.size; omega) (by rintro e; injection e with e; subst e; exact hl hs)).trans (h.block k hk hs)⟩
/-- Bytes abide what keeps the blocks of bytes. -/
theorem RdB.keptN {w w' : World} {B : Nat} {A : Option Addr} {l : List UInt8} {S : Nat → Prop} (h : RdB w B A l) (hB : B ≤ w.heap.size) (hk : Kept S w w') (hs : ∀ b off x, w.cell? ⟨b, off, none⟩ = some (.int .u8 x) → S b) : RdB w' w'.heap.size A l := by
  rcases Nat.eq_zero_or_pos l.length with h0 | h0
  · exact .inl h0
  rcases h with h | ⟨b, off, e, hlt, hc⟩
  · exact .inl h
  · have hb : b < w.heap.size := by omega
    have hS := hs b (off + 0) _ (hc 0 h0)
    exact .inr ⟨b, off, e, Nat.lt_of_lt_of_le hb hk.size, fun i hi => (World.cell?_of_block (a := ⟨b, off + i, none⟩) (hk.block b hb hS)).trans (hc i hi)⟩
theorem GBox.no8 {W : World} {g : Nat} {s now last bad : Int} {A : Option Addr} {n c : Nat} {sp : Bool} (h : GBox W g s (.slice A n c) sp now last bad) (off : Nat) (x : Int) : W.cell? ⟨g, off, none⟩ ≠ some (.int .u8 x) := by
  intro hc
  simp only [World.cell?, show W.heap[g]? = _ from h] at hc
  rcases off with _ | _ | _ | _ | _ | _ | off <;> simp at hc
theorem Box2.no8 {W : World} {b : Nat} {t : TypeId} {y : Int} {A : Option Addr} {n c : Nat} (h : Box2 W b t (.int .i64 y) (.slice A n c)) (off : Nat) (x : Int) : W.cell? ⟨b, off, none⟩ ≠ some (.int .u8 x) := by
  intro hc
  simp only [World.cell?, show W.heap[b]? = _ from h] at hc
  rcases off with _ | _ | off <;> simp at hc
theorem def_no8 {W : World} {D : Nat} {x : Option (List Deferred)} (h : W.heap[D]? = some (.deferred x)) (off : Nat) (y : Int) : W.cell? ⟨D, off, none⟩ ≠ some (.int .u8 y) := by
  intro hc; simp [World.cell?, h] at hc
theorem Box2.fin {W : World} {R D : Nat} {t : TypeId} {x y : Value} (h : Box2 W R t x y) (hD : D ≠ R) (x' y' : Value) (o : Obj) : Box2 (((W.setCell ⟨R, 0, none⟩ x').setCell ⟨R, 1, none⟩ y').putObj D o) R t x' y' := by
  have h1 : (W.setCell ⟨R, 0, none⟩ x').heap[R]? = some (.cells #[x', y] t (0, 0)) := by rw [heap_setCell_same W R 0 _ _ x' h]; rfl
  have h2 : ((W.setCell ⟨R, 0, none⟩ x').setCell ⟨R, 1, none⟩ y').heap[R]? = some (.cells #[x', y'] t (0, 0)) := by rw [heap_setCell_same _ R 1 _ _ y' h1]; rfl
  exact (World.putObj_heap_other (by omega)).trans h2
theorem Box2.far {W : World} {R : Nat} {t : TypeId} {x y : Value} (h : Box2 W R t x y) {p : Addr} (hp : R ≠ p.block) (u : Value) : Box2 (W.setCell p u) R t x y := (heap_setCell_other W p R u hp).trans h
theorem GBox.keptS {W W' : World} {S : Nat → Prop} {g : Nat} {s now last bad : Int} {pv : Value} {sp : Bool} (h : GBox W g s pv sp now last bad) (hk : Kept S W W') (hs : S g) : GBox W' g s pv sp now last bad := heap_kept hk h hs
/-- What 'end' tells. -/
def EndPost (w w' : World) (e : Ending) (g : Nat) (s : Int) (l : List UInt8) (sp : Bool) (now last bad : Int) : Prop :=
  ∃ (u : Int) (q : List UInt8) (A : Option Addr) (c : Nat) (ok : Bool), e = .returned (.tuple #[fv u A q.length c, .bool ok]) ∧
    (if ok then sp = false ∧ readOf l = some (u, q) else (sp = true ∨ readOf l = none) ∧ u = 0 ∧ q = []) ∧ RdB w' w'.heap.size A q ∧ (A = none → q.length = 0) ∧
    GBox w' g s (.slice none 0 0) false now last (if ok then bad else bad + 1) ∧ Kept (fun b => b ≠ g) w w'

set_option maxRecDepth 100000 in
set_option maxHeartbeats 2000000 in
theorem end_calls (g : Nat) (s : Int) (hs1 : 1 ≤ s) (A : Option Addr) (c : Nat) (vs : List PV) (hl : vs.length ≤ 1000) (hs : ahead vs vs.length ≤ 1000000) (bs : Nat → List UInt8) (htot : (allE bs vs.length).length ≤ 1000)
    (hle : ∀ k, k ≤ vs.length → (allE bs k).length ≤ 1000)
    (sp : Bool) (now last bad : Int) (hbad : 0 ≤ bad) (hbad2 : bad ≤ 1000000) (w : World) (h : GBox w g s (.slice A vs.length c) sp now last bad) (hR : Rd w w.heap.size A vs.length (fun i => (vs.getD i default).v))
    (hp : ∀ k, k < vs.length → RdB w w.heap.size (vs.getD k default).a (bs k) ∧ (vs.getD k default).n = (bs k).length ∧ ((vs.getD k default).a = none → (bs k).length = 0)) :
    Calls Try.prog 28 #[.pointer (some ⟨g, 0, none⟩)] w fun e w' => EndPost w w' e g s (allE bs vs.length) sp now last bad := by
  have hF := wide_fn
  have hgl := h.lt
  refine calls_of_marks Try.func28 rfl ?_
  simp only [Try.ntmps28, List.size_toArray, List.length_cons, List.length_nil, Nat.reduceAdd, Nat.reduceSub, Array.replicate_succ, Array.replicate_zero, List.push_toArray, List.append_toArray, List.nil_append, List.cons_append]
  obtain ⟨W1, hW1⟩ : ∃ W1, w.alloc (.cells #[.int .i64 0, .slice none 0 0] 24) = W1 := ⟨_, rfl⟩
  have b1 := Box2.new w 24 (.int .i64 0) (.slice none 0 0)
  have hb1 : Below w.heap.size w (w.alloc (.cells #[.int .i64 0, .slice none 0 0] 24)) := (Below.refl _ w).alloc (Nat.le_refl _) _
  have hs1' : W1.heap.size = w.heap.size + 1 := by rw [← hW1]; simp
  rw [hW1] at b1 hb1
  obtain ⟨W2, hW2⟩ : ∃ W2, W1.alloc (.cells #[.slice none 0 0] 22) = W2 := ⟨_, rfl⟩
  have bO := Boxed.new W1 22 (.slice none 0 0)
  have hb2 : Below w.heap.size w (W1.alloc (.cells #[.slice none 0 0] 22)) := hb1.alloc (by omega) _
  have hs2 : W2.heap.size = w.heap.size + 1 + 1 := by rw [← hW2]; simp [hs1']
  rw [hW2, hs1'] at bO
  rw [hW2] at hb2
  obtain ⟨W3, hW3⟩ : ∃ W3, W2.alloc (.cells #[.pointer (some ⟨g, 0, none⟩)] 41) = W3 := ⟨_, rfl⟩
  have bB := Boxed.new W2 41 (.pointer (some ⟨g, 0, none⟩))
  have bO3 := bO.alloc (.cells #[.pointer (some ⟨g, 0, none⟩)] 41)
  have hb3 : Below w.heap.size w (W2.alloc (.cells #[.pointer (some ⟨g, 0, none⟩)] 41)) := hb2.alloc (by omega) _
  have hs3 : W3.heap.size = w.heap.size + 1 + 1 + 1 := by rw [← hW3]; simp [hs2]
  rw [hW3, hs2] at bB
  rw [hW3] at bO3 hb3
  gi_wp2_with (first | (refine wpIn_scope ?_) | (refine wpIn_label ?_) | (gi_at_call 30; refine (callsIn_wide.2 (held_calls _ _)).mono ?_; rintro e w' ⟨rfl, rfl⟩))
  have hg1 : W3.cell? ⟨g, 1, none⟩ = some (.slice A vs.length c) := (hb3.cell (p := ⟨g, 1, none⟩) hgl).trans h.c1
  have b3 : Box2 W3 w.heap.size 24 (.int .i64 0) (.slice none 0 0) := by
    rw [← hW3]; refine Box2.below ?_ ((Below.refl _ _).alloc (Nat.le_refl _) _)
    rw [← hW2]; exact Box2.below b1 ((Below.refl _ _).alloc (Nat.le_refl _) _)
  clear hW1 hW2 hW3 hs1' hs2 bO hb1 hb2
  refine wpIn_rangeX rfl (by decide) (gf := 35) (lb := #[.pointer (some ⟨w.heap.size + 1 + 1, 0, none⟩)]) rfl trivial (enters_of Try.func35 (by kernel_rfl) rfl)
    (held_seq (w.heap.size + 1 + 1) w.heap.size g A c vs hl hs) (fun A B h => h ▸ KeepsOthers.refl _) (fun _ => rfl)
    ((cell_own _ _ _).and ((cell_own _ _ _).and (Rd.own _ _ _ _ _))) (fun _ => Rd.own _ _ _ _ _) (OwnW.const _) (fun _ => OwnW.const _) ⟨bB.cell, hg1, hR.below hb3⟩
    (fun k W => Box2 W w.heap.size 24 (.int .i64 0) (.slice none 0 0) ∧ (∃ A' c', Boxed W (w.heap.size + 1) 22 (.slice A' (allE bs k).length c') ∧ W.ownsRow w.heap.size 5 1 (.slice A' (allE bs k).length c') (allE bs k).length (bv (allE bs k))) ∧ (Below w.heap.size w W ∧ w.heap.size ≤ W.heap.size))
    (fun _ _ _ => False)
    (fun k => (box2_ownW _ _ _ _ _).and ((OwnW.ex fun _ => OwnW.ex fun _ => (boxed_ownW _ _ _ _).and (own_ownW _ _ _ _ _ _)).and (below_own (by omega)))) (fun _ _ => OwnW.const _) (fun k A B h e => e ▸ h) (fun _ _ _ _ h _ => h)
    ⟨b3, ⟨none, 0, bO3, World.ownsRow_nil W3 w.heap.size 5 1⟩, hb3, by omega⟩ ?round ?done ?stop
  case round =>
    rintro lo k x W hx _ _
    obtain ⟨hk, rfl⟩ := heldL_inv vs k x hx
    obtain ⟨pr, pn, pz⟩ := hp k hk
    have hab := allE_succ bs k
    have hlk := hle k (by omega)
    have hlk1 := hle (k + 1) (by omega)
    obtain ⟨P, hP⟩ : ∃ P, vs.getD k default = P := ⟨_, rfl⟩
    rw [hP] at pr pn pz ⊢
    obtain ⟨pa, pl, pc⟩ := P
    simp only at pr pn pz
    subst pn
    have Hab := Lib.hid hab
    have Hl1 : Hid ((allE bs k).length + (bs k).length ≤ 1000) := by show _ ≤ _; rw [hab, List.length_append] at hlk1; exact hlk1
    clear hab hlk hlk1 hx hP hp hle htot
    gi_wp2
    refine ⟨trivial, ?_⟩
    rintro W4 ⟨hb2x, ⟨A', c', hbx, ho⟩, hB⟩ hG hsz
    obtain ⟨A5, c5, W5, hrun, o5, hb5, g5, -, -⟩ := append_bytes (P := Try.prog) eb W4 w.heap.size ho (bs k).length pc (pr.below hB.1) rfl (by have := Hl1.out; omega) hB.2 pz
    obtain ⟨q1, q2, q3, q4, q5⟩ := boxed_grown hbx (by decide) ho (by omega) o5 g5 hb5
    have hcn := hbx.cell
    have c1 := q1.cell
    have f1 := q1.frozen
    gi_wp2_with (gi_at_builtin; refine wpListIn_append_run hrun rfl rfl rfl rfl rfl ?_)
    simp only [List.length_append] at q2 q3 q4 q5
    refine ⟨q4, Rd.setCell (Rd.below hG hb5) (by simp) _, ((hb2x.kept g5 (hb2x.not_row (by decide) ho)).kept (grownBy_setCell' _ (w.heap.size + 1) _) (by simp)), ⟨A5, c5, ?_, ?_⟩, hB.1.trans q5, Nat.le_trans hB.2 q4.size⟩
    · rw [Hab.out, List.length_append]; exact q2
    · rw [Hab.out, List.length_append]; exact q3
  case done =>
    rintro D W hD ⟨hb2x, ⟨A', c', hbx, ho⟩, hB⟩ _ hK
    rw [show (heldL vs).length = vs.length from by simp [heldL]] at hbx ho
    have hcn := hbx.cell
    have hcap := own_caps ho
    have hz0 := own_none ho
    obtain ⟨⟨u, q⟩, hq⟩ : ∃ uq, Hid (uq = (readOf (allE bs vs.length)).getD (0, [])) := ⟨_, rfl⟩
    obtain ⟨G, hG⟩ : ∃ G : Int, Hid (G = if (readOf (allE bs vs.length)).isSome then 0 else 200) := ⟨_, rfl⟩
    have h4 := h.below hB.1
    have HG := hG
    obtain ⟨R, hRe⟩ : ∃ R, w.heap.size = R := ⟨_, rfl⟩
    have hgR : g ≠ R := by omega
    have hRg : R ≠ g := by omega
    have HRe := Lib.hid hRe
    rw [hRe] at hb2x hbx ho hB hcn ⊢
    clear hRe
    have Hbw : Hid (wrap64 (bad + 1) = bad + 1) := by show wrap64 (bad + 1) = bad + 1; unfold wrap64; omega
    have HhD : Hid (R + 3 ≤ D) := by have := HRe.out; show _ ≤ _; omega
    have hkW : Kept (fun b => b ≠ g) w W := (HRe.out ▸ hB.1 : Below w.heap.size w W).keptS _
    have HkW := Lib.hid hkW
    clear hkW hbad hbad2 hD
    cases sp with
    | true =>
      gi_wp2_with (gi_at_call 10; refine (callsIn_wide.2 (rtuRead_calls A' c' (allE bs vs.length) (Nat.le_trans htot (by omega)) W (rdB_own ho).1 hz0 hcap.1 hcap.2)).mono ?_; rintro e w5 ⟨hx, hb5⟩; obtain ⟨A6, c6, rfl, r6, z6⟩ := hx.gen u q hq.out G hG.out; unfold fv; have h6 := (h4.below hb5).below ((Below.refl _ _).alloc (Nat.le_refl _) (.cells #[.int .i64 u, .slice A6 q.length c6] 24)); have k2 := h6.c2)
      have h6 := (h4.below hb5).below (bstep w5 (.cells #[.int .i64 0, .slice none 0 0] 24))
      refine (callsIn_wide.2 (reset_k g s hs1 _ _ _ _ _ _ h6)).mono ?_
      rintro e w7 ⟨⟨v7, rfl⟩, h7, k7⟩
      have hsF : g < w5.heap.size := Nat.lt_of_lt_of_le (Nat.lt_of_lt_of_le h.lt hB.1.size) hb5.size
      obtain ⟨F, hF5⟩ : ∃ F, w5.heap.size = F := ⟨_, rfl⟩
      have bz := (Box2.new w5 24 (.int .i64 0) (.slice none 0 0)).keptS k7 (by omega)
      have br := ((hb2x.below hb5).below (bstep w5 (.cells #[.int .i64 0, .slice none 0 0] 24))).keptS k7 hRg
      have hK7 : w7.heap[D]? = some (.deferred (some [])) := heap_kept k7 ((Below.heap_alloc _ _ _ (by have := hb5.size; have := (Array.getElem?_eq_some_iff.1 hK).1; omega)).trans ((hb5.block D (Array.getElem?_eq_some_iff.1 hK).1).trans hK)) (by have := h.lt; have := HRe.out; have := HhD.out; omega)
      rw [hF5] at bz
      have hFg : F ≠ g := by omega
      have hgF : g ≠ F := by omega
      have k5 := h7.c5
      have f5 := h7.fr 5
      have z0 := bz.c0
      have z1 := bz.c1
      have r0 := br.c0
      have r1 := br.c1
      have y0 := br.f0
      have y1 := br.f1
      rw [hF5]
      have Hk7 := Lib.hid k7
      have HF5 := Lib.hid hF5
      clear k7 hF5
      gi_wp2_with fail
      rw [Hbw.out]
      have k8 : Kept (fun b => b ≠ g) w ((((w7.setCell ⟨g, 5, none⟩ (.int .i64 (bad + 1))).setCell ⟨R, 0, none⟩ (.int .i64 0)).setCell ⟨R, 1, none⟩ (.slice none 0 0)).putObj D (.deferred none)) :=
        ((((((HkW.out.trans (hb5.keptS _)).trans ((bstep _ _).keptS _)).trans Hk7.out).setCell (p := ⟨g, 5, none⟩) (by simp) _).setNew (p := ⟨R, 0, none⟩) (by rw [HRe.out]; exact Nat.le_refl _) _).setNew (p := ⟨R, 1, none⟩) (by rw [HRe.out]; exact Nat.le_refl _) _).putObj (by have := HhD.out; have := HRe.out; omega) _
      have k9 : Kept (fun b => b ≠ R ∧ b ≠ D) (w7.setCell ⟨g, 5, none⟩ (.int .i64 (bad + 1))) ((((w7.setCell ⟨g, 5, none⟩ (.int .i64 (bad + 1))).setCell ⟨R, 0, none⟩ (.int .i64 0)).setCell ⟨R, 1, none⟩ (.slice none 0 0)).putObj D (.deferred none)) :=
        (((Kept.refl _ _).setCell (p := ⟨R, 0, none⟩) (by simp) _).setCell (p := ⟨R, 1, none⟩) (by simp) _).putAt (by simp) _
      have h9 := (h7.set5 (bad + 1)).keptS k9 ⟨hgR, by have := h.lt; have := HRe.out; have := HhD.out; omega⟩
      refine ⟨by simp, .inl ⟨_, _, rfl, run_takeDeferred ?_, ?_⟩⟩
      · rw [heap_setCell_other _ _ _ _ (by have := HhD.out; simp; omega), heap_setCell_other _ _ _ _ (by have := HhD.out; simp; omega), heap_setCell_other _ _ _ _ (by have := h.lt; have := HRe.out; have := HhD.out; simp; omega)]
        exact hK7
      · refine ⟨_, ?_, 0, [], none, 0, false, rfl, ?_, .inl rfl, fun _ => rfl, ?_, k8⟩
        · have b9 := (br.far (p := ⟨g, 5, none⟩) hRg (.int .i64 (bad + 1))).fin (D := D) (by have := HhD.out; omega) (.int .i64 0) (.slice none 0 0) (.deferred none)
          have e0 := b9.c0
          have e1 := b9.c1
          simp [results, fv, go_sem, e0, e1]
        · simp
        · simpa using h9
    | false =>
      gi_wp2_with (gi_at_call 10; refine (callsIn_wide.2 (rtuRead_calls A' c' (allE bs vs.length) (Nat.le_trans htot (by omega)) W (rdB_own ho).1 hz0 hcap.1 hcap.2)).mono ?_; rintro e w5 ⟨hx, hb5⟩; obtain ⟨A6, c6, rfl, r6, z6⟩ := hx.gen u q hq.out G hG.out; unfold fv; have h6 := (h4.below hb5).below ((Below.refl _ _).alloc (Nat.le_refl _) (.cells #[.int .i64 u, .slice A6 q.length c6] 24)); have k2 := h6.c2)
      refine (callsIn_wide.2 (reset_k g s hs1 _ _ _ _ _ _ h6)).mono ?_
      rintro e w7 ⟨⟨v7, rfl⟩, h7, k7⟩
      have hsF : g < w5.heap.size := Nat.lt_of_lt_of_le (Nat.lt_of_lt_of_le h.lt hB.1.size) hb5.size
      obtain ⟨F, hF5⟩ : ∃ F, w5.heap.size = F := ⟨_, rfl⟩
      have bz := (Box2.new w5 24 (.int .i64 u) (.slice A6 q.length c6)).keptS k7 (by omega)
      have br := ((hb2x.below hb5).below ((Below.refl _ _).alloc (Nat.le_refl _) (.cells #[.int .i64 u, .slice A6 q.length c6] 24))).keptS k7 hRg
      have hKW5 : w5.heap[D]? = some (.deferred (some [])) := (hb5.block D (Array.getElem?_eq_some_iff.1 hK).1).trans hK
      have hK7 : w7.heap[D]? = some (.deferred (some [])) := heap_kept k7 ((Below.heap_alloc _ _ _ (Array.getElem?_eq_some_iff.1 hKW5).1).trans hKW5) (by have := h.lt; have := HRe.out; have := HhD.out; omega)
      have hG5 := h4.below hb5
      have hR5 := hb2x.below hb5
      rw [hF5] at bz
      have hFg : F ≠ g := by omega
      have hgF : g ≠ F := by omega
      have k5 := h7.c5
      have f5 := h7.fr 5
      have z0 := bz.c0
      have z1 := bz.c1
      have r0 := br.c0
      have r1 := br.c1
      have y0 := br.f0
      have y1 := br.f1
      rw [hF5]
      have Hk7 := Lib.hid k7
      have HF5 := Lib.hid hF5
      have k57 : Kept (fun b => b ≠ g) w5 w7 := ((bstep _ _).keptS _).trans k7
      have Hk57 := Lib.hid k57
      have Hns : Hid (∀ b off x, w5.cell? ⟨b, off, none⟩ = some (.int .u8 x) → b ≠ g ∧ b ≠ R ∧ b ≠ D) := fun b off x hc => ⟨fun e => hG5.no8 off x (e ▸ hc), fun e => hR5.no8 off x (e ▸ hc), fun e => def_no8 hKW5 off x (e ▸ hc)⟩
      clear k7 hF5 k57 hKW5 hG5 hR5
      have hG0 : G = 0 ∨ G = 200 := by rw [hG.out]; split <;> simp
      rcases hG0 with rfl | rfl
      · have Hrd : Hid (readOf (allE bs vs.length) = some (u, q)) := by
          show readOf _ = _
          have h1 := hG.out
          have h2 := hq.out
          cases hr : readOf (allE bs vs.length) with
          | none => rw [hr] at h1; simp at h1
          | some r => rw [hr] at h2; rw [h2]; rfl
        gi_wp2_with fail
        have k8 : Kept (fun b => b ≠ g) w (((w7.setCell ⟨R, 0, none⟩ (.int .i64 u)).setCell ⟨R, 1, none⟩ (.slice A6 q.length c6)).putObj D (.deferred none)) :=
          (((((HkW.out.trans (hb5.keptS _)).trans ((bstep _ _).keptS _)).trans Hk7.out).setNew (p := ⟨R, 0, none⟩) (by rw [HRe.out]; exact Nat.le_refl _) _).setNew (p := ⟨R, 1, none⟩) (by rw [HRe.out]; exact Nat.le_refl _) _).putObj (by have := HhD.out; have := HRe.out; omega) _
        have k9 : Kept (fun b => b ≠ R ∧ b ≠ D) w7 (((w7.setCell ⟨R, 0, none⟩ (.int .i64 u)).setCell ⟨R, 1, none⟩ (.slice A6 q.length c6)).putObj D (.deferred none)) :=
          (((Kept.refl _ _).setCell (p := ⟨R, 0, none⟩) (by simp) _).setCell (p := ⟨R, 1, none⟩) (by simp) _).putAt (by simp) _
        have h9 := h7.keptS k9 ⟨hgR, by have := h.lt; have := HRe.out; have := HhD.out; omega⟩
        have r9 := RdB.keptN r6 (Nat.le_refl _) ((Hk57.out.mono (S' := fun b => b ≠ g ∧ b ≠ R ∧ b ≠ D) (fun k _ hh => hh.1)).trans (k9.mono (fun k _ hh => hh.2))) Hns.out
        refine ⟨by simp, .inl ⟨_, _, rfl, run_takeDeferred ?_, ?_⟩⟩
        · rw [heap_setCell_other _ _ _ _ (by have := HhD.out; simp; omega), heap_setCell_other _ _ _ _ (by have := HhD.out; simp; omega)]
          exact hK7
        · refine ⟨_, ?_, u, q, A6, c6, true, rfl, ?_, r9, z6, ?_, k8⟩
          · have b9 := br.fin (D := D) (by have := HhD.out; omega) (.int .i64 u) (.slice A6 q.length c6) (.deferred none)
            have e0 := b9.c0
            have e1 := b9.c1
            simp [results, fv, go_sem, e0, e1]
          · simpa using Hrd.out
          · simpa using h9
      · have Hrd : Hid (readOf (allE bs vs.length) = none ∧ u = 0 ∧ q = []) := by
          show readOf _ = _ ∧ _ ∧ _
          have h1 := hG.out
          have h2 := hq.out
          cases hr : readOf (allE bs vs.length) with
          | none => rw [hr] at h2; injection h2 with h3 h4; exact ⟨rfl, h3, h4⟩
          | some r => rw [hr] at h1; simp at h1
        gi_wp2_with fail
        rw [Hbw.out]
        have k8 : Kept (fun b => b ≠ g) w ((((w7.setCell ⟨g, 5, none⟩ (.int .i64 (bad + 1))).setCell ⟨R, 0, none⟩ (.int .i64 u)).setCell ⟨R, 1, none⟩ (.slice A6 q.length c6)).putObj D (.deferred none)) :=
          ((((((HkW.out.trans (hb5.keptS _)).trans ((bstep _ _).keptS _)).trans Hk7.out).setCell (p := ⟨g, 5, none⟩) (by simp) _).setNew (p := ⟨R, 0, none⟩) (by rw [HRe.out]; exact Nat.le_refl _) _).setNew (p := ⟨R, 1, none⟩) (by rw [HRe.out]; exact Nat.le_refl _) _).putObj (by have := HhD.out; have := HRe.out; omega) _
        have k9 : Kept (fun b => b ≠ R ∧ b ≠ D) (w7.setCell ⟨g, 5, none⟩ (.int .i64 (bad + 1))) ((((w7.setCell ⟨g, 5, none⟩ (.int .i64 (bad + 1))).setCell ⟨R, 0, none⟩ (.int .i64 u)).setCell ⟨R, 1, none⟩ (.slice A6 q.length c6)).putObj D (.deferred none)) :=
          (((Kept.refl _ _).setCell (p := ⟨R, 0, none⟩) (by simp) _).setCell (p := ⟨R, 1, none⟩) (by simp) _).putAt (by simp) _
        have h9 := (h7.set5 (bad + 1)).keptS k9 ⟨hgR, by have := h.lt; have := HRe.out; have := HhD.out; omega⟩
        refine ⟨by simp, .inl ⟨_, _, rfl, run_takeDeferred ?_, ?_⟩⟩
        · rw [heap_setCell_other _ _ _ _ (by have := HhD.out; simp; omega), heap_setCell_other _ _ _ _ (by have := HhD.out; simp; omega), heap_setCell_other _ _ _ _ (by have := h.lt; have := HRe.out; have := HhD.out; simp; omega)]
          exact hK7
        · refine ⟨_, ?_, u, q, A6, c6, false, rfl, ?_, ?_, z6, ?_, k8⟩
          · have b9 := (br.far (p := ⟨g, 5, none⟩) hRg (.int .i64 (bad + 1))).fin (D := D) (by have := HhD.out; omega) (.int .i64 u) (.slice A6 q.length c6) (.deferred none)
            have e0 := b9.c0
            have e1 := b9.c1
            simp [results, fv, go_sem, e0, e1]
          · simpa using Hrd.out
          · rw [Hrd.out.2.2]; exact .inl rfl
          · simpa using h9
  case stop =>
    rintro D c k W _ _ h _ _
    exact h.elim
end Go.Proofs.Ytfbeihfpflhdaaa
