/-
  The iterator of package mbap, walked. Conditions: at most 1,000,000 bytes.
-/
import Derived.Test.YtmfngkhpaadehaaMbapGath
import Derived.Shelf.RegionOpen
import Derived.TacticsInMore
import Derived.LoopNIn
import Derived.LoopIn
import Derived.BigRegionIn
namespace Go.Proofs.Ytmfngkhpaadehaa
open Go Go.RowKit Go.Kw Go.Kw.Mb Go.Shelf
attribute [local go_sem] Oper.semAt_some
set_option linter.unusedVariables false
set_option linter.unusedSimpArgs false

/-- Two rows of unlike types lie apart. -/
theorem own_apart {W : World} {b1 b2 e1 e2 s1 s2 n1 n2 : Nat} {v1 v2 : Value} {x1 x2 : List Value} (h1 : W.ownsRow b1 e1 s1 v1 n1 x1) (h2 : W.ownsRow b2 e2 s2 v2 n2 x2) (he : e1 ≠ e2) {k : Nat} (hk : v1.ownBlock = some k) : some k ≠ v2.ownBlock := by
  rcases h1.2 with ⟨rfl, _⟩ | ⟨g1, c1, r1, rfl, -, hg1, -⟩
  · simp [Value.ownBlock] at hk
  · rcases h2.2 with ⟨rfl, _⟩ | ⟨g2, c2, r2, rfl, -, hg2, -⟩
    · simp [Value.ownBlock]
    · simp [Value.ownBlock] at hk ⊢
      rintro rfl
      subst hk
      rw [hg1] at hg2
      injection hg2 with hg2; injection hg2 with _ h2 _
      exact he h2
theorem keepsB {W W' : World} (h : Below W.heap.size W W') : KeepsOthers W W' := ⟨h.size, fun k o hk _ => (h.block k (Array.getElem?_eq_some_iff.1 hk).1).trans hk⟩
theorem KeepsOthers.drewN (W : World) (n : Nat) : KeepsOthers W (W.drewN n) := ⟨Nat.le_refl _, fun _ _ h _ => h⟩
/-- What a gatherer holds when k frames are taken. -/
def Hold (W : World) (S : Nat → Prop) (B g : Nat) (l : List UInt8) : Prop :=
  W.cell? ⟨B, 0, none⟩ = some (.pointer (some ⟨g, 0, none⟩)) ∧ ∃ A c, GB W g (.slice A l.length c) false ∧ RdY W S A l ∧ (A = none → l.length = 0) ∧ l.length ≤ c ∧ c ≤ 9223372036854775807
/-- What it holds at the end. -/
def HoldEnd (W : World) (S : Nat → Prop) (g : Nat) (l : List UInt8) (br : Bool) : Prop :=
  ∃ A c, GB W g (.slice A l.length c) br ∧ RdY W S A l ∧ (A = none → l.length = 0) ∧ l.length ≤ c ∧ c ≤ 9223372036854775807
/-- What is handed over: frame number k, its bytes new. -/
def FrV (base : Nat) (l : List UInt8) (k : Nat) (v : Array Value) (W : World) : Prop :=
  ∃ A c, v = #[fv (fr (restAt l k)) A c] ∧ W.ownsRow base 5 1 (.slice A (fr (restAt l k)).2.2.length c) (fr (restAt l k)).2.2.length (bv (fr (restAt l k)).2.2)

set_option maxRecDepth 100000 in
set_option maxHeartbeats 2000000 in
theorem frames_seq (S : Nat → Prop) (B g base : Nat) (hSg : ∀ b, S b → b ≠ g) (l : List UInt8) (hl : l.length ≤ 1000000) (hBg : B ≠ g) (hgb : g < base) :
    SeqU Try.prog 29 #[.pointer (some ⟨B, 0, none⟩)] (stream l).1.length (FrV base l) (fun X Y => Kept (fun b => b ≠ g) X Y ∧ KeepsOthers X Y)
      (fun W => Hold W S B g l ∧ base ≤ W.heap.size) (fun k W => Hold W S B g (restAt l (k + 1)) ∧ base ≤ W.heap.size) (fun W => HoldEnd W S g (stream l).2.1 (stream l).2.2) (fun _ _ => True) := by
  intro lo J Jx hJ hJx hY W ⟨⟨hB, A0, c0, hG0, hR0, hz0, hc0, hc1⟩, hbase⟩ h0
  have hF := wide_fn
  refine callsIn_of_wp Try.func29 rfl (hF _) ?_ rfl
  simp only [Try.ntmps29, List.size_toArray, List.length_cons, List.length_nil, Nat.reduceAdd, Nat.reduceSub, Array.replicate_succ, Array.replicate_zero, List.push_toArray, List.append_toArray, List.nil_append, List.cons_append]
  obtain ⟨N, hN⟩ : ∃ N, (stream l).1.length = N := ⟨_, rfl⟩
  have HN := Lib.hid hN
  rw [hN] at hY ⊢
  clear hN
  gi_wp2_with (first | (refine wpIn_scope ?_) | (refine wpIn_label ?_))
  gi_loopw [4] (fun _ wr => ∃ k : Nat, k ≤ N ∧ J k wr ∧ Hold wr S B g (restAt l k) ∧ base ≤ wr.heap.size)
    (fun _ wr => match wr.cell? ⟨g, 0, none⟩ with | some (.slice _ n _) => n | _ => 0)
  case atStart => exact ⟨0, Nat.zero_le _, h0, ⟨hB, A0, c0, hG0, hR0, hz0, hc0, hc1⟩, hbase⟩
  case round =>
    obtain ⟨k, hk, hJk, ⟨hBk, A, c, hG, hR, hz, hc, hc2⟩, hbk⟩ := hrel
    have c0 := hG.c0
    have c1 := hG.c1
    have f0 := hG.fr 0
    have f1 := hG.fr 1
    have hgl := hG.lt
    have hBl := block_lt hBk
    have hrl : (restAt l k).length ≤ 1000000 := by
      obtain ⟨a, e1, -, -⟩ := restAt_at l k (by rw [HN.out]; exact hk)
      rw [e1, List.length_drop]; omega
    have HRd := read_calls A c (restAt l k) hrl wr hR.rd hz hc hc2
    by_cases hlt : k < N
    · obtain ⟨g1, g2, g3⟩ := restAt_lt l k (by rw [HN.out]; exact hlt)
      have hfl := flen_ge g1 g2
      rw [g1, g2] at HRd
      have hnext : restAt l (k + 1) = (restAt l k).drop (flen (restAt l k)) := rfl
      obtain ⟨r, hr⟩ : ∃ r, restAt l k = r := ⟨_, rfl⟩
      rw [hr] at HRd hfl hnext hR hz hc hG c0 hrl
      obtain ⟨F, hF'⟩ : ∃ F, flen r = F := ⟨_, rfl⟩
      rw [hF'] at hfl hnext
      have HRd' := Lib.hid HRd
      have Hr := Lib.hid hr
      have Hnext := Lib.hid hnext
      have HF := Lib.hid hF'
      obtain ⟨b, off, rfl, hbne, hbl, -⟩ := hR.at_ (k := 0) (by omega)
      have k0 : ((F : Int) == 0) = false := beq_eq_false_iff_ne.2 (by omega)
      have n1 : (F : Int) ≤ (r.length : Int) := by omega
      have n2 : (r.length : Int) ≤ (c : Int) := by omega
      have n3 : (c : Int) ≤ 9223372036854775807 := by omega
      have n4 : F ≤ r.length := by omega
      have n5 : 8 ≤ F := by omega
      clear HRd g1 g2 g3 hr hnext hF' hfl
      have fin : ∀ (w2 : World) (A2 : Option Addr) (c2' : Nat) (A3 : Option Addr) (hb2 : Below wr.heap.size wr w2) (o2 : w2.ownsRow wr.heap.size 5 1 (.slice A2 (fr r).2.2.length c2') (fr r).2.2.length (bv (fr r).2.2))
          (hA3 : RdY wr S A3 (r.drop F)) (hA3n : A3 ≠ none) (W3 : World) (hW3 : W3 = (((w2.alloc (.cells #[.int .i64 (fr r).1, .int .i64 (fr r).2.1, .slice A2 (fr r).2.2.length c2'] 24)).setCell ⟨g, 0, none⟩ (.slice A3 (r.length - F) (c - F))).drew)),
          (∃ fn tmps assign body, (Instr.yield lo #[fv (fr r) A2 c2']).run Try.prog W3 = .ok (.round lo fn tmps assign body) W3 ∧ RoundIn Fence.wide 7 Try.prog lo fn tmps assign body W3 (fun e W' => (Hold W' S B g (restAt l (k + 1)) ∧ base ≤ W'.heap.size) ∧ ((e = .returned (.bool true) ∧ J (k + 1) W') ∨ (e = .returned (.bool false) ∧ Jx (k + 1) W')))) ∧
          W3.cell? ⟨w2.heap.size, 0, none⟩ = some (.int .i64 (fr r).1) ∧ W3.cell? ⟨w2.heap.size, 1, none⟩ = some (.int .i64 (fr r).2.1) ∧ W3.cell? ⟨w2.heap.size, 2, none⟩ = some (.slice A2 (fr r).2.2.length c2') := by
        intro w2 A2 c2' A3 hb2 o2 hA3 hA3n W3 hW3
        have hs := hb2.size
        have hbs := bstep w2 (.cells #[.int .i64 (fr r).1, .int .i64 (fr r).2.1, .slice A2 (fr r).2.2.length c2'] 24)
        have hbl2 := hb2.trans (hbs.mono hs)
        have hk1 : Kept (fun b => b ≠ g) wr W3 := by rw [hW3]; exact ((hbl2.keptS _).setCell (by simp) _).drew
        have hk2 : KeepsOthers wr W3 := by rw [hW3]; exact ((keepsB hbl2).trans (KeepsOthers.setCell _ _ _)).trans (KeepsOthers.drew _)
        have hG3 : GB W3 g (.slice A3 (r.length - F) (c - F)) false := by rw [hW3]; exact (hG.below hbl2).set0 _
        have hB3 : W3.cell? ⟨B, 0, none⟩ = some (.pointer (some ⟨g, 0, none⟩)) := (World.cell?_of_block (a := ⟨B, 0, none⟩) (hk1.block B hBl hBg)).trans hBk
        have hH : Hold W3 S B g (restAt l (k + 1)) := by
          rw [Hnext.out]
          refine ⟨hB3, A3, c - F, by rw [List.length_drop]; exact hG3, hA3.kept (hk1.mono fun b _ hs => hSg b hs), fun e => absurd e hA3n, by rw [List.length_drop]; omega, by omega⟩
        have hk3 : Kept (fun b => b ≠ g) w2 W3 := by rw [hW3]; exact ((hbs.keptS _).setCell (by simp) _).drew
        have o3 := own_kept o2 hk3 (fun b hb => by omega)
        have hbox : W3.heap[w2.heap.size]? = some (.cells #[.int .i64 (fr r).1, .int .i64 (fr r).2.1, .slice A2 (fr r).2.2.length c2'] 24 (0, 0)) := by
          rw [hW3]; exact (heap_setCell_other _ ⟨g, 0, none⟩ w2.heap.size _ (by simp; omega)).trans (blk_new w2 _ _)
        refine ⟨hY k _ W3 hlt ?_ (hJ k _ _ hJk ⟨hk1, hk2⟩) ⟨hH, by have := hk1.size; omega⟩, blk_cell hbox 0 rfl, blk_cell hbox 1 rfl, blk_cell hbox 2 rfl⟩
        unfold FrV
        rw [Hr.out]
        exact ⟨A2, c2', rfl, own_mono o3 hbk⟩
      have Fin := Lib.hid fin
      have hR' := Lib.hid hR
      clear fin hY hR
      gi_wp2_with (first | (gi_at_call 12; refine (callsIn_wide.2 HRd'.out).mono ?_; rintro e w2 ⟨⟨A2, c2', rfl, o2⟩, hb2⟩; rw [HF.out]; unfold fv))
      have hbl2 := hb2.trans ((bstep w2 (.cells #[.int .i64 (fr r).1, .int .i64 (fr r).2.1, .slice A2 (fr r).2.2.length c2'] 24)).mono hb2.size)
      have hG2 := hG.below hbl2
      have d0 := hG2.c0
      have d1 := hG2.fr 0
      have dB : (w2.alloc (.cells #[.int .i64 (fr r).1, .int .i64 (fr r).2.1, .slice A2 (fr r).2.2.length c2'] 24)).cell? ⟨B, 0, none⟩ = some (.pointer (some ⟨g, 0, none⟩)) := (hbl2.cell (p := ⟨B, 0, none⟩) hBl).trans hBk
      by_cases hcF : c = F
      · have hrc : r.length = F := by omega
        have hdn : r.drop F = [] := by rw [← hrc]; exact List.drop_length
        have fx := Fin.out w2 A2 c2' (some ⟨b, off, none⟩) hb2 o2 (by rw [hdn]; exact RdY.nil _ _ _) (by simp) _ rfl
        have hs1 : c - F = 0 := by omega
        rw [hs1] at fx
        obtain ⟨⟨fn, tmps, assign, body, hy, hYR⟩, x0, x1, x2⟩ := fx
        have HYR := Lib.hid hYR
        clear hYR hrc hdn hs1
        gi_region
        generalize ((w2.alloc (.cells #[.int .i64 (fr r).1, .int .i64 (fr r).2.1, .slice A2 (fr r).2.2.length c2'] 24)).setCell ⟨g, 0, none⟩ (.slice (some ⟨b, off, none⟩) (r.length - F) 0)).drew = W3 at *
        have C0 := Lib.hid c0
        clear d0 d1 dB c0 c1 f0 f1 hBk hG2 hbl2 o2
        unfold fv at hy
        gi_wp2
        refine HYR.out.mono ?_
        rintro e W4 ⟨⟨hH4, hb4⟩, (⟨rfl, hJ4⟩ | ⟨rfl, hJx4⟩)⟩
        · have hm : (match W4.cell? ⟨g, 0, none⟩ with | some (.slice _ n _) => n | _ => 0) < (match wr.cell? ⟨g, 0, none⟩ with | some (.slice _ n _) => n | _ => 0) := by
            obtain ⟨-, A4, c4, hG4, -⟩ := hH4
            have hle : (restAt l (k + 1)).length = r.length - F := by rw [Hnext.out, List.length_drop]
            simp only [hG4.c0, C0.out, hle]; omega
          have HM := Lib.hid hm
          clear hm
          gi_wp2
          go_roundw
          case rel => exact ⟨k + 1, by omega, hJ4, hH4, hb4⟩
          case measure => exact HM.out
        · gi_wp2
          rw [Exit.noGoto_ret]
          refine bodyPost_ret (results_none rfl _ _ _) rfl ?_
          exact ⟨⟨_, rfl⟩, .inr ⟨k, hlt, hJx4, trivial⟩⟩
      · have fx := Fin.out w2 A2 c2' (some ⟨b, off + F, none⟩) hb2 o2 (RdY.drop hR'.out F) (by simp) _ rfl
        obtain ⟨⟨fn, tmps, assign, body, hy, hYR⟩, x0, x1, x2⟩ := fx
        have HYR := Lib.hid hYR
        clear hYR
        gi_region
        generalize ((w2.alloc (.cells #[.int .i64 (fr r).1, .int .i64 (fr r).2.1, .slice A2 (fr r).2.2.length c2'] 24)).setCell ⟨g, 0, none⟩ (.slice (some ⟨b, off + F, none⟩) (r.length - F) (c - F))).drew = W3 at *
        have C0 := Lib.hid c0
        clear d0 d1 dB c0 c1 f0 f1 hBk hG2 hbl2 o2
        unfold fv at hy
        gi_wp2
        refine HYR.out.mono ?_
        rintro e W4 ⟨⟨hH4, hb4⟩, (⟨rfl, hJ4⟩ | ⟨rfl, hJx4⟩)⟩
        · have hm : (match W4.cell? ⟨g, 0, none⟩ with | some (.slice _ n _) => n | _ => 0) < (match wr.cell? ⟨g, 0, none⟩ with | some (.slice _ n _) => n | _ => 0) := by
            obtain ⟨-, A4, c4, hG4, -⟩ := hH4
            have hle : (restAt l (k + 1)).length = r.length - F := by rw [Hnext.out, List.length_drop]
            simp only [hG4.c0, C0.out, hle]; omega
          have HM := Lib.hid hm
          clear hm
          gi_wp2
          go_roundw
          case rel => exact ⟨k + 1, by omega, hJ4, hH4, hb4⟩
          case measure => exact HM.out
        · gi_wp2
          rw [Exit.noGoto_ret]
          refine bodyPost_ret (results_none rfl _ _ _) rfl ?_
          exact ⟨⟨_, rfl⟩, .inr ⟨k, hlt, hJx4, trivial⟩⟩
    · obtain rfl : k = N := by omega
      have hend := restAt_end l
      rw [HN.out] at hend
      have hk0 : ∀ (w2 : World) (hb2 : Below wr.heap.size wr w2) (o : Obj), J k (w2.alloc o) ∧ GB (w2.alloc o) g (.slice A (restAt l k).length c) false ∧ (w2.alloc o).cell? ⟨B, 0, none⟩ = some (.pointer (some ⟨g, 0, none⟩)) ∧ RdY (w2.alloc o) S A (restAt l k) := fun w2 hb2 o => by
        have hbl2 := hb2.trans ((bstep w2 o).mono hb2.size)
        exact ⟨hJ k _ _ hJk ⟨hbl2.keptS _, keepsB hbl2⟩, hG.below hbl2, (hbl2.cell (p := ⟨B, 0, none⟩) hBl).trans hBk, hR.go hbl2⟩
      have HK0 := Lib.hid hk0
      rcases hend with ⟨g1, g2⟩ | ⟨g1, g1', g2⟩
      · rw [g1] at HRd
        have HRd' := Lib.hid HRd
        have Hg2 := Lib.hid g2
        clear HRd g1 g2 hY hk0 hR
        gi_wp2_with (first | (gi_at_call 12; refine (callsIn_wide.2 HRd'.out).mono ?_; rintro e w2 ⟨rfl, hb2⟩; unfold zeroF))
        obtain ⟨hJ2, hG2, dB, -⟩ := HK0.out w2 hb2 (.cells #[.int .i64 0, .int .i64 0, .slice none 0 0] 24)
        have d0 := hG2.c0
        have d1 := hG2.fr 0
        have d2 := hG2.c1
        have d3 := hG2.fr 1
        clear c0 c1 f0 f1
        gi_region
        all_goals
          have hG3 := (hG2.set1 true).set0 (.slice none 0 0)
          have hG4 := (hG2.set0 (.slice none 0 0)).set1 true
          have hJ3 := hJ k _ _ hJ2 ⟨((((Kept.refl (fun b => b ≠ g) _).setCell (p := ⟨g, 1, none⟩) (by simp) (.bool true)).setCell (p := ⟨g, 0, none⟩) (by simp) (.slice none 0 0)).drew), (((KeepsOthers.setCell _ _ _).trans (KeepsOthers.setCell _ _ _)).trans (KeepsOthers.drew _))⟩
          have hJ4 := hJ k _ _ hJ2 ⟨((((Kept.refl (fun b => b ≠ g) _).setCell (p := ⟨g, 0, none⟩) (by simp) (.slice none 0 0)).setCell (p := ⟨g, 1, none⟩) (by simp) (.bool true)).drew), (((KeepsOthers.setCell _ _ _).trans (KeepsOthers.setCell _ _ _)).trans (KeepsOthers.drew _))⟩
          gi_wp2
          simp only [Exit.noGoto]
          go_end0
          refine ⟨⟨_, rfl⟩, .inl ?_⟩
          rw [Hg2.out]
          first
            | exact ⟨hJ3, none, 0, hG3, RdY.nil _ _ _, fun _ => rfl, Nat.le_refl _, by omega⟩
            | exact ⟨hJ4, none, 0, hG4, RdY.nil _ _ _, fun _ => rfl, Nat.le_refl _, by omega⟩
      · rw [g1, g1'] at HRd
        have HRd' := Lib.hid HRd
        have Hg2 := Lib.hid g2
        clear HRd g1 g1' g2 hY hk0
        gi_wp2_with (first | (gi_at_call 12; refine (callsIn_wide.2 HRd'.out).mono ?_; rintro e w2 ⟨rfl, hb2⟩; unfold zeroF))
        obtain ⟨hJ2, hG2, -, hR2⟩ := HK0.out w2 hb2 (.cells #[.int .i64 0, .int .i64 0, .slice none 0 0] 24)
        simp only [Exit.noGoto]
        go_end0
        refine ⟨⟨_, rfl⟩, .inl ⟨hJ2, ?_⟩⟩
        rw [Hg2.out]
        exact ⟨A, c, hG2, hR2, hz, hc, hc2⟩
end Go.Proofs.Ytmfngkhpaadehaa
