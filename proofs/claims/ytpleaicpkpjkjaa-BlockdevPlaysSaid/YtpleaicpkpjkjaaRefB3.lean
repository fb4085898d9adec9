/-
  The document's device: Put, walked. Conditions stand at each theorem. (Printed by gen_refb3.py.)
-/
import Derived.Test.YtpleaicpkpjkjaaRefB2
import Derived.Test.YtpleaicpkpjkjaaBlk8
import Derived.Deep.RegionHeld3
namespace Go.Proofs.Ytpleaicpkpjkjaa
open Go Go.RowKit Go.Kw Go.Maps
set_option linter.unusedVariables false
set_option linter.unusedSimpArgs false

theorem eRW : Elem Try.prog 55 59 (.agg #[.int .i64 0, .slice none 0 0]) 2 32 := ⟨Try.underlying55, by kernel_rfl, rfl, by decide⟩
theorem built_rw (n : Nat) (A : Option Addr) (c : Nat) : Try.prog.built 59 [(0, .int .i64 (n : Int)), (1, .slice A 128 c)] = some #[.int .i64 (n : Int), .slice A 128 c] := by
  have hz : (Try.prog.info? 59).map (fun i => i.zero) = some (some (.agg (#[.int .i64 0] ++ #[.slice none 0 0]))) := by kernel_rfl
  obtain ⟨i, hi, hz⟩ := Option.map_eq_some_iff.1 hz
  have hf : ∃ fs, Try.prog.underlying 59 = some (.struct fs) ∧ fs.toList.mapM (fun f => (Try.prog.info? f.type).map fun i => (f.offset, i.size)) = some [(0, 1), (1, 1)] := ⟨_, rfl, by kernel_rfl⟩
  obtain ⟨fs, hu, hm⟩ := hf
  unfold Program.built
  rw [hi, hu]
  dsimp only
  rw [hz, hm]
  rfl
theorem built_rws (n : Nat) (A : Option Addr) (c : Nat) (w : World) : (Instr.buildSlice 55 1 #[(0, .agg #[.int .i64 (n : Int), .slice A 128 c])]).run Try.prog w = .ok (.slice (some ⟨w.heap.size, 0, none⟩) 1 1) (w.alloc (.cells #[.int .i64 (n : Int), .slice A 128 c] 59)) := by
  obtain ⟨i, hi, hz, hs, hb⟩ := info_parts eRW.inf
  refine run_buildSlice w _ _ 1 _ _ i _ eRW.ht hi hz (by rw [hs]; decide) (by rw [hs]; decide) ?_
  rw [hs]
  kernel_rfl
section
variable {w u : World} {B r mb nn : Nat} {V : Value} {X : Nat → Prop} {D : Dv}
theorem rput_run (h : RefO u B r mb nn V X D) (hB : B ≤ u.heap.size) (hX : ∀ b, X b → b < u.heap.size) (hC : D.C.length < 256) (n : Nat) (hn : n < D.S.length) (A : Option Addr) (c : Nat) (l : List UInt8) (hl : l.length = 128) (hR : RdB u u.heap.size A l) :
    ∃ A1 c1 W1 CA cc CA' cc' W3, V = .slice CA D.C.length cc ∧
      (Builtin.append_ #[23, 23] 23 #[.slice none 0 0, .slice A 128 c]).run Try.prog u = .ok (.slice A1 128 c1) W1 ∧
      (Builtin.append_ #[55, 55] 55 #[.slice CA D.C.length cc, .slice (some ⟨W1.heap.size, 0, none⟩) 1 1]).run Try.prog (W1.alloc (.cells #[.int .i64 (n : Int), .slice A1 128 c1] 59)) = .ok (.slice CA' (D.C.length + 1) cc') W3 ∧
      W1.cell? ⟨r, 2, none⟩ = some V ∧ (W1.alloc (.cells #[.int .i64 (n : Int), .slice A1 128 c1] 59)).cell? ⟨r, 2, none⟩ = some V ∧ W3.cell? ⟨r, 2, none⟩ = some V ∧ W3.frozen? ⟨r, 2, none⟩ = false ∧
      RefO (W3.setCell ⟨r, 2, none⟩ (.slice CA' (D.C.length + 1) cc')) B r mb nn (.slice CA' (D.C.length + 1) cc') (fun b => X b ∨ u.heap.size ≤ b ∧ b < W3.heap.size) { D with C := D.C ++ [(n, l)] } ∧
      Kept (Fr r mb V) u (W3.setCell ⟨r, 2, none⟩ (.slice CA' (D.C.length + 1) cc')) := by
  obtain ⟨CA, cc, hV, -⟩ := h.slice
  have hA : A = none → l.length = 0 := fun e => by
    rcases hR with h0 | ⟨b, off, e', _⟩
    · exact h0
    · rw [e] at e'; cases e'
  obtain ⟨A1, c1, W1, hrun1, o1, b1, g1, k1, z1⟩ := append_bytes (P := Try.prog) (t := 23) (l := []) eb u u.heap.size (World.ownsRow_nil u u.heap.size 5 1) 128 c hR hl.symm (by simp [hl]) (Nat.le_refl _) hA
  rw [List.nil_append] at o1 k1 z1 hrun1
  rw [hl] at o1 k1 z1 hrun1
  have hA1 : A1 ≠ none := fun e => by have := z1 e; omega
  have h1 : RefO W1 B r mb nn V X D := h.go b1
  have hs1 := b1.size
  obtain ⟨xs, hx1, hx2, hx3⟩ := h1.cac
  have hxl : xs.length = D.C.length := by rw [← hx1]; simp
  have hnew : ((Array.mk [Value.int .i64 (n : Int), Value.slice A1 128 c1])).toList = entC ((n, l), A1, c1) := rfl
  have hr : Rd (W1.alloc (.cells #[.int .i64 (n : Int), .slice A1 128 c1] 59)) (W1.heap.size + 1) (some ⟨W1.heap.size, 0, none⟩) (1 * 2) (fun i => (entC ((n, l), A1, c1)).getD i undef) := by
    refine .inr ⟨W1.heap.size, 0, rfl, by omega, fun i hi => ?_⟩
    rw [Nat.zero_add, World.cell?_alloc_mark]
    have hi2 : i < (entC ((n, l), A1, c1)).length := by simp [entC]; omega
    rw [← Array.getElem?_toList, hnew, List.getElem?_eq_getElem hi2]
    simp [List.getElem?_eq_getElem hi2]
  have h2 : RefO (W1.alloc (.cells #[.int .i64 (n : Int), .slice A1 128 c1] 59)) B r mb nn V X D := h1.go (bstep W1 _)
  subst hV
  obtain ⟨v', W3, hrun3, o3, g3, -, k3⟩ := run_append (P := Try.prog) _ B 55 eRW (hx2.alloc _) 1 1 hr (fun i hi => by match i with | 0 => rfl | 1 => rfl | i + 2 => omega) (by unfold maxLen; omega) (by omega) (by simp; omega) (fun e => by cases e)
  have hev : vals (1 * 2) (fun i => (entC ((n, l), A1, c1)).getD i undef) = entC ((n, l), A1, c1) := rfl
  rw [hev, entsC_snoc] at o3
  obtain ⟨CA', cc', rfl, -⟩ := own_form o3
  have hne := h.ne
  have hlt2 : r < (W1.alloc (.cells #[.int .i64 (n : Int), .slice A1 128 c1] 59)).heap.size := h2.lt
  have hk2 : Kept (Fr r mb (.slice CA D.C.length cc)) u (W1.alloc (.cells #[.int .i64 (n : Int), .slice A1 128 c1] 59)) := (b1.keptS _).alloc _
  have hk3 : Kept (fun b => (Value.slice CA D.C.length cc).ownBlock ≠ some b) u W3 := ((b1.keptS _).alloc _).grown g3 (fun k hk => .inr (fun hh => hh hk))
  have hbox3 : W3.heap[r]? = some (.cells (refC D.S.length mb (.slice CA D.C.length cc) D.p D.dn D.k) 57 (0, 0)) := heap_kept hk3 h.box hne.2.1
  have hkF : Kept (Fr r mb (.slice CA D.C.length cc)) u W3 := hk3.mono (fun b _ hb => hb.2.2)
  have hkF4 : Kept (Fr r mb (.slice CA D.C.length cc)) u (W3.setCell ⟨r, 2, none⟩ (.slice CA' (D.C.length + 1) cc')) := hkF.setCell (fun hh => hh.1 rfl) _
  rw [World.size_alloc] at k3
  have hnb : ∀ b, b < u.heap.size → Fr r mb (.slice CA D.C.length cc) b → Fr r mb (.slice CA' (D.C.length + 1) cc') b := fun b hb hf => by
    refine ⟨hf.1, hf.2.1, fun e => ?_⟩
    rcases k3 with k3 | k3
    · exact hf.2.2 (k3 ▸ e)
    · rw [k3] at e; injection e with e; omega
  have hru := h.lt
  have hmu := h.lts.1
  have hne' : (Value.slice CA' (D.C.length + 1) cc').ownBlock ≠ some r ∧ (Value.slice CA' (D.C.length + 1) cc').ownBlock ≠ some mb := by
    rcases k3 with k3 | k3
    · rw [k3]; exact hne.2
    · rw [k3]; exact ⟨fun e => by injection e with e; omega, fun e => by injection e with e; omega⟩
  have hX3 : ∀ b, X b ∧ Fr r mb (.slice CA D.C.length cc) b → (X b ∨ u.heap.size ≤ b ∧ b < W3.heap.size) ∧ Fr r mb (.slice CA' (D.C.length + 1) cc') b := fun b hb => ⟨.inl hb.1, hnb b (hX b hb.1) hb.2⟩
  have hkX : Kept (fun b => X b ∧ Fr r mb (.slice CA D.C.length cc) b) u (W3.setCell ⟨r, 2, none⟩ (.slice CA' (D.C.length + 1) cc')) := hkF4.mono (fun b _ hb => hb.2)
  have hs3 : W1.heap.size + 1 ≤ W3.heap.size := by have := g3.size; rw [World.size_alloc] at this; exact this
  refine ⟨A1, c1, W1, CA, cc, CA', cc', W3, rfl, hrun1, hrun3, h1.cells.2.2.1, h2.cells.2.2.1, blk_cell hbox3 2 rfl, blk_frozen hbox3 2, ?_, hkF4⟩
  refine ⟨?_, ?_, ?_, ?_, ?_, ?_, h.le⟩
  · have hok := h.ok
    exact ⟨hok.s, fun x hx => by
      rcases List.mem_append.1 hx with hx | hx
      · exact hok.c x hx
      · obtain rfl := List.mem_singleton.1 hx; exact ⟨hn, hl⟩, by simp; omega, hok.n, hok.p⟩
  · rw [cells_set hbox3]
    simp [refC]
  · obtain ⟨F, hf1, hf2⟩ := h.map
    exact ⟨F, hf1.kept (S := fun b => b ≠ r ∧ (Value.slice CA D.C.length cc).ownBlock ≠ some b) ((hk3.mono (fun b _ hb => hb.2)).setCell (fun hh => hh.1 rfl) _) ⟨fun e => hne.1 e.symm, hne.2.2⟩, fun m hm => ((hf2 m hm).kept hkX).mono (fun b _ hb => hX3 b hb)⟩
  · refine ⟨xs ++ [((n, l), A1, c1)], by simp [hx1], ?_, fun x hx => ?_⟩
    · rw [List.length_append, List.length_singleton]
      exact own_set_other o3 r 2 hne'.1 _
    · rcases List.mem_append.1 hx with hx | hx
      · obtain ⟨xs', hy1, hy2, hy3⟩ := h.cac
        refine ⟨(hx3 x hx).1, ?_⟩
        have h4 := (hx3 x hx).2
        have hk14 : Kept (fun b => X b ∧ Fr r mb (.slice CA D.C.length cc) b) W1 (W3.setCell ⟨r, 2, none⟩ (.slice CA' (D.C.length + 1) cc')) := by
          have ha : Kept (fun b => (Value.slice CA D.C.length cc).ownBlock ≠ some b) W1 W3 := ((Kept.refl _ W1).alloc _).grown g3 (fun k hk => .inr (fun hh => hh hk))
          exact (ha.mono (fun b _ hb => hb.2.2.2)).setCell (fun hh => hh.2.1 rfl) _
        exact RdX.mono (h4.kept hk14) hX3
      · obtain rfl := List.mem_singleton.1 hx
        refine ⟨hA1, ?_⟩
        have hn1 := h1.lt
        have hm1 := h1.lts
        have hRn : RdY W1 (fun b => u.heap.size ≤ b) A1 l := RdY.of_own o1 (fun b hb => hb)
        have hRn2 : RdY W1 (fun b => u.heap.size ≤ b ∧ b < W1.heap.size) A1 l := RdX.mono' hRn (fun b hb h => ⟨h, hb⟩)

        have hk14 : Kept (fun b => u.heap.size ≤ b ∧ b < W1.heap.size) W1 (W3.setCell ⟨r, 2, none⟩ (.slice CA' (D.C.length + 1) cc')) := by
          have ha : Kept (fun b => (Value.slice CA D.C.length cc).ownBlock ≠ some b) W1 W3 := ((Kept.refl _ W1).alloc _).grown g3 (fun k hk => .inr (fun hh => hh hk))
          exact (ha.mono (fun b _ hb e => by have := (h.lts.2 b e).1; omega)).setCell (fun hh => by have := hh.1; show False; simp at this; omega) _
        refine RdX.mono (RdY.kept hRn2 hk14) (fun b hb => ⟨.inr ⟨hb.1, by omega⟩, by omega, by omega, fun e => ?_⟩)
        rcases k3 with k3 | k3
        · rw [k3] at e; have := (h.lts.2 b e).1; omega
        · rw [k3] at e; injection e with e; omega
  · refine ⟨.inl h.own.1, .inl h.own.2.1, fun b hb => ?_⟩
    rcases k3 with k3 | k3
    · exact .inl (h.own.2.2 b (k3 ▸ hb))
    · have hb3 := (o3.lt b hb).2; rw [k3] at hb; injection hb with hb; exact .inr (by omega)
  · exact ⟨hne.1, hne'⟩

set_option maxRecDepth 100000 in
set_option maxHeartbeats 16000000 in
theorem refPut_calls (h : RefO w B r mb nn V X D) (hB : B ≤ w.heap.size) (hX : ∀ b, X b → b < w.heap.size) (hk : 0 ≤ D.k ∧ D.k < 4611686018427387904) (i : Int) (A : Option Addr) (m c : Nat) (l : List UInt8) (hm : m = l.length) (hR : RdB w w.heap.size A l) :
    Calls Try.prog 39 #[.pointer (some ⟨r, 0, none⟩), .int .i64 i, .slice A m c] w fun e w' => e = .returned (.int .i64 (putV D i l).1) ∧ RefP w B r mb nn V X (putV D i l).2 w' := by
  subst hm
  obtain ⟨c0, c1, c2, c3, c4, c5⟩ := h.cells
  have H := Lib.hid h
  have HB := Lib.hid (And.intro hB hX)
  have Hk := Lib.hid hk
  have HR := Lib.hid hR
  obtain ⟨E, hE⟩ : ∃ E, putE D i l.length = E := ⟨_, rfl⟩
  have hcs := putE_cases D i l.length
  rw [hE] at hcs
  unfold putV
  rw [hE]
  have HP := Lib.hid (fun (W' : World) (hb : Below w.heap.size w W') => RefP.same h hb)
  rcases hcs with ⟨rfl, hdn⟩ | ⟨hdn, hcs⟩
  · rw [if_neg (by omega)]
    rw [hdn] at c4
    clear h hB hX hk hR hE hdn c0 c1 c2 c3 c5
    go_enter Try.func39, Try.ntmps39
    go_wp2_with fail
    go_ret
    exact ⟨rfl, HP.out _ (Below.refl _ _)⟩
  rw [hdn] at c4
  have HPl := Lib.hid (refPlace_calls h i)
  rcases hcs with ⟨rfl, hpl⟩ | ⟨hpl, hcs⟩
  · rw [if_neg (by omega)]
    rw [decide_eq_false hpl] at HPl
    clear h hB hX hk hR hE hdn c0 c1 c2 c3 c5 hpl
    go_enter Try.func39, Try.ntmps39
    go_wp2_with fail
    refine HPl.out.mono ?_
    rintro e u ⟨rfl, hb⟩
    have Hb := Lib.hid hb
    clear hb HPl
    go_wp2_with fail
    go_ret
    exact ⟨rfl, HP.out _ Hb.out⟩
  rw [decide_eq_true hpl] at HPl
  rcases hcs with ⟨rfl, hl⟩ | ⟨hl, hcs⟩
  · rw [if_neg (by omega)]
    have kl : ((l.length : Int) != 128) = true := bne_iff_ne.2 (by omega)
    obtain ⟨L, hL⟩ : ∃ L, l.length = L := ⟨_, rfl⟩
    rw [hL] at kl ⊢
    clear h hB hX hk hR hE hdn c0 c1 c2 c3 c5 hpl hl hL
    go_enter Try.func39, Try.ntmps39
    go_wp2_with fail
    refine HPl.out.mono ?_
    rintro e u ⟨rfl, hb⟩
    have Hb := Lib.hid hb
    clear hb HPl
    go_wp2_with fail
    go_ret
    exact ⟨rfl, HP.out _ Hb.out⟩
  rw [hl]
  obtain ⟨CA, cc, hV, -⟩ := h.slice
  rcases hcs with ⟨rfl, hcc⟩ | ⟨hcc, rfl⟩
  · rw [if_neg (by omega)]
    have kc : decide ((D.C.length : Int) ≥ 256) = true := decide_eq_true (by omega)
    obtain ⟨L, hL⟩ : ∃ L, D.C.length = L := ⟨_, rfl⟩
    rw [hV] at c2
    rw [hL] at kc c2
    have Hc2 := Lib.hid (show ∀ u, Below w.heap.size w u → u.cell? ⟨r, 4, none⟩ = some (.bool false) ∧ u.cell? ⟨r, 2, none⟩ = some (.slice CA L cc) from fun u hb => ⟨(hb.cell (p := ⟨r, 4, none⟩) h.lt).trans c4, (hb.cell (p := ⟨r, 2, none⟩) h.lt).trans c2⟩)
    clear h hB hX hk hR hE hdn c0 c1 c2 c3 c5 hpl hl hL hcc hV
    go_enter Try.func39, Try.ntmps39
    go_wp2_with fail
    refine HPl.out.mono ?_
    rintro e u ⟨rfl, hb⟩
    have Hb := Lib.hid hb
    have c2 := (Hc2.out u hb).2
    clear hb HPl
    go_wp2_with fail
    go_ret
    exact ⟨rfl, HP.out _ Hb.out⟩
  rw [if_pos rfl]
  have kc : decide ((D.C.length : Int) ≥ 256) = false := decide_eq_false (by omega)
  have hn : i.toNat < D.S.length := by omega
  obtain ⟨n, hn'⟩ : ∃ n, i.toNat = n := ⟨_, rfl⟩
  have hi : i = (n : Int) := by omega
  rw [hn'] at hn ⊢
  subst hi
  clear hn'
  have HN := Lib.hid (And.intro hn (And.intro hl hcc))
  obtain ⟨L, hL⟩ : ∃ L, D.C.length = L := ⟨_, rfl⟩
  rw [hV] at c2
  rw [hL] at kc c2
  have HL := Lib.hid (And.intro hL hV)
  have Hc2 := Lib.hid (show ∀ u, Below w.heap.size w u → u.cell? ⟨r, 2, none⟩ = some (.slice CA L cc) from fun u hb => (hb.cell (p := ⟨r, 2, none⟩) h.lt).trans c2)
  have Hk0 := Lib.hid (fun u (hb : Below w.heap.size w u) => hR.go hb)
  clear h hB hX hk hR hE hdn c0 c1 c2 c3 c5 hpl hL hcc hV hn HP hl
  go_enter Try.func39, Try.ntmps39
  go_wp2_with fail
  refine HPl.out.mono ?_
  rintro e u ⟨rfl, hb⟩
  have hbd := bnext hb (Below.refl u.heap.size u).drew
  obtain ⟨A1, ca, W1, CA0, cc0, CA', cc', W3, hV, hrun1, hrun3, q1, q2, q3, f3, hO, hK⟩ := rput_run (H.out.go hbd) (Nat.le_trans HB.out.1 hbd.size) (fun b hx => Nat.lt_of_lt_of_le (HB.out.2 b hx) hbd.size) HN.out.2.2 n HN.out.1 A c l HN.out.2.1 (Hk0.out _ hbd)
  have hV2 := hV
  rw [HL.out.2, HL.out.1] at hV2
  injection hV2 with hV2 _ hV3
  subst hV2 hV3
  rw [hV] at q1 q2 q3
  rw [HL.out.1] at hrun3 hO hK q1 q2 q3
  have c2 := Hc2.out u hb
  have q0 : u.drew.cell? ⟨r, 2, none⟩ = some (.slice CA L cc) := Hc2.out _ hbd
  have HA1 := Lib.hid hrun1
  have HA3 := Lib.hid hrun3
  have HQ0 := Lib.hid q0
  have HQ1 := Lib.hid q1
  have HQ2 := Lib.hid q2
  have HQ3 := Lib.hid (And.intro q3 f3)
  have HO := Lib.hid (And.intro hO (And.intro hK (And.intro hbd hV)))
  have HBW := Lib.hid (built_rw n A1 ca)
  have HBS := Lib.hid (built_rws n A1 ca W1)
  obtain ⟨W2, hW2⟩ : ∃ W2, W1.alloc (.cells #[.int .i64 (n : Int), .slice A1 128 ca] 59) = W2 := ⟨_, rfl⟩
  rw [hW2] at HA3 HQ2 HBS
  obtain ⟨z1, hz1⟩ : ∃ z, W1.heap.size = z := ⟨_, rfl⟩
  rw [hz1] at HA3 HBS
  obtain ⟨m, hm⟩ : ∃ m, l.length = m := ⟨_, rfl⟩
  have hl := HN.out.2.1
  rw [hm] at hl
  subst hl
  clear hb HPl hrun1 hrun3 q0 q1 q2 q3 f3 hO hK hV hbd hW2 hz1 Hc2 Hk0 hm
  go_wp2_with fail
  refine wp_region_held_drew (S := (fun _ => True)) (by kernel_rfl) trivial (fun hHeld => ?_)
  refine wpAnyH_take (i := 0) (v := ?_) rfl (by kernel_rfl) (by kernel_rfl) (by kernel_rfl) (fun _ _ _ h => h) (Or.inl ⟨by kernel_rfl, ?_⟩) (by assumption) ?_
  rotate_left
  · intro w hSw; (try dsimp only at hSw); go_simp; try with_reducible rfl
  simp only [Act.put, List.getElem_toArray, List.getElem_cons_succ, List.getElem_cons_zero, List.setIfInBounds_toArray, List.set_cons_zero, List.set_cons_succ]
  refine wpAnyH_take (i := 1) (v := ?_) rfl (by kernel_rfl) (by kernel_rfl) (by kernel_rfl) (fun _ _ _ h => h) (Or.inl ⟨by kernel_rfl, ?_⟩) (by assumption) ?_
  rotate_left
  · intro w hSw; (try dsimp only at hSw); go_simp; try with_reducible rfl
  simp only [Act.put, List.getElem_toArray, List.getElem_cons_succ, List.getElem_cons_zero, List.setIfInBounds_toArray, List.set_cons_zero, List.set_cons_succ]
  refine wpAnyH_take (i := 2) (v := ?_) rfl (by kernel_rfl) (by kernel_rfl) (by kernel_rfl) (fun _ _ _ h => h) (Or.inl ⟨by kernel_rfl, ?_⟩) (by assumption) ?_
  rotate_left
  · intro w hSw; (try dsimp only at hSw); go_simp; try with_reducible rfl
  simp only [Act.put, List.getElem_toArray, List.getElem_cons_succ, List.getElem_cons_zero, List.setIfInBounds_toArray, List.set_cons_zero, List.set_cons_succ]
  refine wpAnyH_take (i := 3) (v := ?_) rfl (by kernel_rfl) (by kernel_rfl) (by kernel_rfl) (fun _ _ _ h => h) (Or.inl ⟨by kernel_rfl, ?_⟩) (by assumption) ?_
  rotate_left
  · intro w hSw; (try dsimp only at hSw); go_simp; try with_reducible rfl
  simp only [Act.put, List.getElem_toArray, List.getElem_cons_succ, List.getElem_cons_zero, List.setIfInBounds_toArray, List.set_cons_zero, List.set_cons_succ]
  refine wpAnyH_take (i := 5) (v := ?_) rfl (by kernel_rfl) (by kernel_rfl) (by kernel_rfl) (fun _ _ _ h => h) (Or.inl ⟨by kernel_rfl, ?_⟩) (by assumption) ?_
  rotate_left
  · intro w hSw; (try dsimp only at hSw); go_simp; try with_reducible rfl
  simp only [Act.put, List.getElem_toArray, List.getElem_cons_succ, List.getElem_cons_zero, List.setIfInBounds_toArray, List.set_cons_zero, List.set_cons_succ]
  refine wpAnyH_take (i := 6) (v := ?_) rfl (by kernel_rfl) (by kernel_rfl) (by kernel_rfl) (fun _ _ _ h => h) (Or.inl ⟨by kernel_rfl, ?_⟩) (by assumption) ?_
  rotate_left
  · intro w hSw; (try dsimp only at hSw); go_simp; try with_reducible rfl
  simp only [Act.put, List.getElem_toArray, List.getElem_cons_succ, List.getElem_cons_zero, List.setIfInBounds_toArray, List.set_cons_zero, List.set_cons_succ]
  refine wpAnyH_take (i := 7) (v := ?_) rfl (by kernel_rfl) (by kernel_rfl) (by kernel_rfl) (fun _ _ _ h => h) (Or.inl ⟨by kernel_rfl, ?_⟩) (by assumption) ?_
  rotate_left
  · intro w hSw; (try dsimp only at hSw); go_simp; try with_reducible rfl
  simp only [Act.put, List.getElem_toArray, List.getElem_cons_succ, List.getElem_cons_zero, List.setIfInBounds_toArray, List.set_cons_zero, List.set_cons_succ]
  refine wpAnyH_ready (rs := [4, 8]) (by kernel_rfl) (by simp) ?_
  refine (AllReadyH.cons rfl (fun K hK => ?_) (AllReadyH.cons rfl (fun K hK => ?_) AllReadyH.nil))
  ·
    have cv := HQ0.out
    go_simp
    clear cv
    refine hK.out _ _ trivial (fun hHeld => ?_)
    clear hK K
    try simp only [Act.put, List.getElem_toArray, List.getElem_cons_succ, List.getElem_cons_zero, List.setIfInBounds_toArray, List.set_cons_zero, List.set_cons_succ]
    refine wpAnyH_ready (rs := [8]) (by kernel_rfl) (by simp) ?_
    refine AllReadyH.cons rfl (fun K hK => ?_) AllReadyH.nil
    refine wp_run (v := .slice A1 128 ca) (append_op rfl HA1.out) ?_
    try go_simp
    refine hK.out _ _ trivial (fun hHeld => ?_)
    clear hK K
    try simp only [Act.put, List.getElem_toArray, List.getElem_cons_succ, List.getElem_cons_zero, List.setIfInBounds_toArray, List.set_cons_zero, List.set_cons_succ]
    refine wpAnyH_take (i := 9) (v := (.agg #[.int .i64 (n : Int), .slice A1 128 ca])) rfl (by kernel_rfl) (by kernel_rfl) (by kernel_rfl) (fun _ _ _ h => h) (Or.inl ⟨by kernel_rfl, ?_⟩) (by assumption) ?_
    · intro w hSw; (try dsimp only at hSw)
      refine build_op _ #[(0, .tmp 33), (1, .tmp 36)] rfl _ ?_ w
      simp only [List.map_toArray, List.map_cons, List.map_nil, Act.eval]
      exact HBW.out
    simp only [Act.put, List.getElem_toArray, List.getElem_cons_succ, List.getElem_cons_zero, List.setIfInBounds_toArray, List.set_cons_zero, List.set_cons_succ]
    refine wpAnyH_ready (rs := [10]) (by kernel_rfl) (by simp) ?_
    refine AllReadyH.cons rfl (fun K hK => ?_) AllReadyH.nil
    refine wp_run (v := .slice (some ⟨z1, 0, none⟩) 1 1) (buildSlice_op _ 1 #[(0, .tmp 37)] rfl (by simp only [List.map_toArray, List.map_cons, List.map_nil, Act.eval]; exact HBS.out)) ?_
    refine hK.out _ _ trivial (fun hHeld => ?_)
    clear hK K
    try simp only [Act.put, List.getElem_toArray, List.getElem_cons_succ, List.getElem_cons_zero, List.setIfInBounds_toArray, List.set_cons_zero, List.set_cons_succ]
    refine wpAnyH_ready (rs := [11]) (by kernel_rfl) (by simp) ?_
    refine AllReadyH.cons rfl (fun K hK => ?_) AllReadyH.nil
    refine wp_run (v := .slice CA' (L + 1) cc') (append_op rfl HA3.out) ?_
    try go_simp
    refine hK.out _ _ trivial (fun hHeld => ?_)
    clear hK K
    try simp only [Act.put, List.getElem_toArray, List.getElem_cons_succ, List.getElem_cons_zero, List.setIfInBounds_toArray, List.set_cons_zero, List.set_cons_succ]
    refine wpAnyH_take (i := 12) (v := ?_) rfl (by kernel_rfl) (by kernel_rfl) (by kernel_rfl) (fun _ _ _ h => h) (Or.inl ⟨by kernel_rfl, ?_⟩) (by assumption) ?_
    rotate_left
    · intro w hSw; (try dsimp only at hSw); go_simp; try with_reducible rfl
    simp only [Act.put, List.getElem_toArray, List.getElem_cons_succ, List.getElem_cons_zero, List.setIfInBounds_toArray, List.set_cons_zero, List.set_cons_succ]
    refine wpAnyH_take (i := 13) (v := ?_) rfl (by kernel_rfl) (by kernel_rfl) (by kernel_rfl) (fun _ _ _ h => h) (Or.inl ⟨by kernel_rfl, ?_⟩) (by assumption) ?_
    rotate_left
    · intro w hSw; (try dsimp only at hSw); go_simp; try with_reducible rfl
    simp only [Act.put, List.getElem_toArray, List.getElem_cons_succ, List.getElem_cons_zero, List.setIfInBounds_toArray, List.set_cons_zero, List.set_cons_succ]
    refine wpAnyH_ready (rs := [14]) (by kernel_rfl) (by simp) ?_
    refine AllReadyH.cons rfl (fun K hK => ?_) AllReadyH.nil
    have cv := HQ3.out.1
    have fv := HQ3.out.2
    go_simp
    clear cv fv
    refine hK.out _ _ trivial (fun hHeld => ?_)
    clear hK K
    try simp only [Act.put, List.getElem_toArray, List.getElem_cons_succ, List.getElem_cons_zero, List.setIfInBounds_toArray, List.set_cons_zero, List.set_cons_succ]
    refine wpAnyH_done (by kernel_rfl) ?_ _
    go_wp2_with fail
    have hs34 : W3.heap.size ≤ (W3.setCell ⟨r, 2, none⟩ (.slice CA' (L + 1) cc')).heap.size := by simp [World.setCell]
    obtain ⟨u4, hu4⟩ : ∃ u4, W3.setCell ⟨r, 2, none⟩ (.slice CA' (L + 1) cc') = u4 := ⟨_, rfl⟩
    rw [hu4] at HO hs34
    try rw [hu4]
    have Hs34 := Lib.hid hs34
    have HC := Lib.hid (refCounts_calls HO.out.1 Hk.out)
    clear hu4 hs34
    refine HC.out.mono ?_
    rintro e u5 ⟨rfl, hR5, hk5⟩
    have HF := Lib.hid (show RefP w B r mb nn V X (cntV D { D with C := D.C ++ [(n, l)] } { D with C := D.C ++ [(n, l)] }).2 u5 from by
      have hb := HO.out.2.2.1
      have hb1 := hb.size
      have h5 := hk5.size
      have h4 := Hs34.out
      refine ⟨.slice CA' (L + 1) cc', (RefO.mono (RefO.moreX hR5 (fun b hb => hb.imp id (fun hb => by omega))) (by omega) : RefO u5 B r mb (nn + 256) _ _ _), ?_⟩
      have hk1 : Kept (Fr r mb V) w u4 := (hb.keptS _).trans HO.out.2.1
      exact hk1.trans (hk5.mono (fun b _ hb => hb.1)))
    by_cases hp : D.p = 1
    · have HE := Lib.hid (show (cntV D { D with C := D.C ++ [(n, l)] } { D with C := D.C ++ [(n, l)] }).1 = 120 from by unfold cntV; rw [if_pos hp])
      rw [decide_eq_true hp]
      clear hR5 hk5 hp HC
      go_wp2_with fail
      go_ret
      exact ⟨by rw [HE.out]; rfl, HF.out⟩
    · have HE := Lib.hid (show (cntV D { D with C := D.C ++ [(n, l)] } { D with C := D.C ++ [(n, l)] }).1 = 0 from by unfold cntV; rw [if_neg hp])
      rw [decide_eq_false hp]
      clear hR5 hk5 hp HC
      go_wp2_with fail
      go_ret
      exact ⟨by rw [HE.out]; rfl, HF.out⟩
  ·
    refine wp_run (v := .slice A1 128 ca) (append_op rfl HA1.out) ?_
    try go_simp
    refine hK.out _ _ trivial (fun hHeld => ?_)
    clear hK K
    try simp only [Act.put, List.getElem_toArray, List.getElem_cons_succ, List.getElem_cons_zero, List.setIfInBounds_toArray, List.set_cons_zero, List.set_cons_succ]
    refine wpAnyH_take (i := 9) (v := (.agg #[.int .i64 (n : Int), .slice A1 128 ca])) rfl (by kernel_rfl) (by kernel_rfl) (by kernel_rfl) (fun _ _ _ h => h) (Or.inl ⟨by kernel_rfl, ?_⟩) (by assumption) ?_
    · intro w hSw; (try dsimp only at hSw)
      refine build_op _ #[(0, .tmp 33), (1, .tmp 36)] rfl _ ?_ w
      simp only [List.map_toArray, List.map_cons, List.map_nil, Act.eval]
      exact HBW.out
    simp only [Act.put, List.getElem_toArray, List.getElem_cons_succ, List.getElem_cons_zero, List.setIfInBounds_toArray, List.set_cons_zero, List.set_cons_succ]
    refine wpAnyH_ready (rs := [4, 10]) (by kernel_rfl) (by simp) ?_
    refine (AllReadyH.cons rfl (fun K hK => ?_) (AllReadyH.cons rfl (fun K hK => ?_) AllReadyH.nil))
    ·
      have cv := HQ1.out
      go_simp
      clear cv
      refine hK.out _ _ trivial (fun hHeld => ?_)
      clear hK K
      try simp only [Act.put, List.getElem_toArray, List.getElem_cons_succ, List.getElem_cons_zero, List.setIfInBounds_toArray, List.set_cons_zero, List.set_cons_succ]
      refine wpAnyH_ready (rs := [10]) (by kernel_rfl) (by simp) ?_
      refine AllReadyH.cons rfl (fun K hK => ?_) AllReadyH.nil
      refine wp_run (v := .slice (some ⟨z1, 0, none⟩) 1 1) (buildSlice_op _ 1 #[(0, .tmp 37)] rfl (by simp only [List.map_toArray, List.map_cons, List.map_nil, Act.eval]; exact HBS.out)) ?_
      refine hK.out _ _ trivial (fun hHeld => ?_)
      clear hK K
      try simp only [Act.put, List.getElem_toArray, List.getElem_cons_succ, List.getElem_cons_zero, List.setIfInBounds_toArray, List.set_cons_zero, List.set_cons_succ]
      refine wpAnyH_ready (rs := [11]) (by kernel_rfl) (by simp) ?_
      refine AllReadyH.cons rfl (fun K hK => ?_) AllReadyH.nil
      refine wp_run (v := .slice CA' (L + 1) cc') (append_op rfl HA3.out) ?_
      try go_simp
      refine hK.out _ _ trivial (fun hHeld => ?_)
      clear hK K
      try simp only [Act.put, List.getElem_toArray, List.getElem_cons_succ, List.getElem_cons_zero, List.setIfInBounds_toArray, List.set_cons_zero, List.set_cons_succ]
      refine wpAnyH_take (i := 12) (v := ?_) rfl (by kernel_rfl) (by kernel_rfl) (by kernel_rfl) (fun _ _ _ h => h) (Or.inl ⟨by kernel_rfl, ?_⟩) (by assumption) ?_
      rotate_left
      · intro w hSw; (try dsimp only at hSw); go_simp; try with_reducible rfl
      simp only [Act.put, List.getElem_toArray, List.getElem_cons_succ, List.getElem_cons_zero, List.setIfInBounds_toArray, List.set_cons_zero, List.set_cons_succ]
      refine wpAnyH_take (i := 13) (v := ?_) rfl (by kernel_rfl) (by kernel_rfl) (by kernel_rfl) (fun _ _ _ h => h) (Or.inl ⟨by kernel_rfl, ?_⟩) (by assumption) ?_
      rotate_left
      · intro w hSw; (try dsimp only at hSw); go_simp; try with_reducible rfl
      simp only [Act.put, List.getElem_toArray, List.getElem_cons_succ, List.getElem_cons_zero, List.setIfInBounds_toArray, List.set_cons_zero, List.set_cons_succ]
      refine wpAnyH_ready (rs := [14]) (by kernel_rfl) (by simp) ?_
      refine AllReadyH.cons rfl (fun K hK => ?_) AllReadyH.nil
      have cv := HQ3.out.1
      have fv := HQ3.out.2
      go_simp
      clear cv fv
      refine hK.out _ _ trivial (fun hHeld => ?_)
      clear hK K
      try simp only [Act.put, List.getElem_toArray, List.getElem_cons_succ, List.getElem_cons_zero, List.setIfInBounds_toArray, List.set_cons_zero, List.set_cons_succ]
      refine wpAnyH_done (by kernel_rfl) ?_ _
      go_wp2_with fail
      have hs34 : W3.heap.size ≤ (W3.setCell ⟨r, 2, none⟩ (.slice CA' (L + 1) cc')).heap.size := by simp [World.setCell]
      obtain ⟨u4, hu4⟩ : ∃ u4, W3.setCell ⟨r, 2, none⟩ (.slice CA' (L + 1) cc') = u4 := ⟨_, rfl⟩
      rw [hu4] at HO hs34
      try rw [hu4]
      have Hs34 := Lib.hid hs34
      have HC := Lib.hid (refCounts_calls HO.out.1 Hk.out)
      clear hu4 hs34
      refine HC.out.mono ?_
      rintro e u5 ⟨rfl, hR5, hk5⟩
      have HF := Lib.hid (show RefP w B r mb nn V X (cntV D { D with C := D.C ++ [(n, l)] } { D with C := D.C ++ [(n, l)] }).2 u5 from by
        have hb := HO.out.2.2.1
        have hb1 := hb.size
        have h5 := hk5.size
        have h4 := Hs34.out
        refine ⟨.slice CA' (L + 1) cc', (RefO.mono (RefO.moreX hR5 (fun b hb => hb.imp id (fun hb => by omega))) (by omega) : RefO u5 B r mb (nn + 256) _ _ _), ?_⟩
        have hk1 : Kept (Fr r mb V) w u4 := (hb.keptS _).trans HO.out.2.1
        exact hk1.trans (hk5.mono (fun b _ hb => hb.1)))
      by_cases hp : D.p = 1
      · have HE := Lib.hid (show (cntV D { D with C := D.C ++ [(n, l)] } { D with C := D.C ++ [(n, l)] }).1 = 120 from by unfold cntV; rw [if_pos hp])
        rw [decide_eq_true hp]
        clear hR5 hk5 hp HC
        go_wp2_with fail
        go_ret
        exact ⟨by rw [HE.out]; rfl, HF.out⟩
      · have HE := Lib.hid (show (cntV D { D with C := D.C ++ [(n, l)] } { D with C := D.C ++ [(n, l)] }).1 = 0 from by unfold cntV; rw [if_neg hp])
        rw [decide_eq_false hp]
        clear hR5 hk5 hp HC
        go_wp2_with fail
        go_ret
        exact ⟨by rw [HE.out]; rfl, HF.out⟩
    ·
      refine wp_run (v := .slice (some ⟨z1, 0, none⟩) 1 1) (buildSlice_op _ 1 #[(0, .tmp 37)] rfl (by simp only [List.map_toArray, List.map_cons, List.map_nil, Act.eval]; exact HBS.out)) ?_
      refine hK.out _ _ trivial (fun hHeld => ?_)
      clear hK K
      try simp only [Act.put, List.getElem_toArray, List.getElem_cons_succ, List.getElem_cons_zero, List.setIfInBounds_toArray, List.set_cons_zero, List.set_cons_succ]
      refine wpAnyH_ready (rs := [4]) (by kernel_rfl) (by simp) ?_
      refine AllReadyH.cons rfl (fun K hK => ?_) AllReadyH.nil
      have cv := HQ2.out
      go_simp
      clear cv
      refine hK.out _ _ trivial (fun hHeld => ?_)
      clear hK K
      try simp only [Act.put, List.getElem_toArray, List.getElem_cons_succ, List.getElem_cons_zero, List.setIfInBounds_toArray, List.set_cons_zero, List.set_cons_succ]
      refine wpAnyH_ready (rs := [11]) (by kernel_rfl) (by simp) ?_
      refine AllReadyH.cons rfl (fun K hK => ?_) AllReadyH.nil
      refine wp_run (v := .slice CA' (L + 1) cc') (append_op rfl HA3.out) ?_
      try go_simp
      refine hK.out _ _ trivial (fun hHeld => ?_)
      clear hK K
      try simp only [Act.put, List.getElem_toArray, List.getElem_cons_succ, List.getElem_cons_zero, List.setIfInBounds_toArray, List.set_cons_zero, List.set_cons_succ]
      refine wpAnyH_take (i := 12) (v := ?_) rfl (by kernel_rfl) (by kernel_rfl) (by kernel_rfl) (fun _ _ _ h => h) (Or.inl ⟨by kernel_rfl, ?_⟩) (by assumption) ?_
      rotate_left
      · intro w hSw; (try dsimp only at hSw); go_simp; try with_reducible rfl
      simp only [Act.put, List.getElem_toArray, List.getElem_cons_succ, List.getElem_cons_zero, List.setIfInBounds_toArray, List.set_cons_zero, List.set_cons_succ]
      refine wpAnyH_take (i := 13) (v := ?_) rfl (by kernel_rfl) (by kernel_rfl) (by kernel_rfl) (fun _ _ _ h => h) (Or.inl ⟨by kernel_rfl, ?_⟩) (by assumption) ?_
      rotate_left
      · intro w hSw; (try dsimp only at hSw); go_simp; try with_reducible rfl
      simp only [Act.put, List.getElem_toArray, List.getElem_cons_succ, List.getElem_cons_zero, List.setIfInBounds_toArray, List.set_cons_zero, List.set_cons_succ]
      refine wpAnyH_ready (rs := [14]) (by kernel_rfl) (by simp) ?_
      refine AllReadyH.cons rfl (fun K hK => ?_) AllReadyH.nil
      have cv := HQ3.out.1
      have fv := HQ3.out.2
      go_simp
      clear cv fv
      refine hK.out _ _ trivial (fun hHeld => ?_)
      clear hK K
      try simp only [Act.put, List.getElem_toArray, List.getElem_cons_succ, List.getElem_cons_zero, List.setIfInBounds_toArray, List.set_cons_zero, List.set_cons_succ]
      refine wpAnyH_done (by kernel_rfl) ?_ _
      go_wp2_with fail
      have hs34 : W3.heap.size ≤ (W3.setCell ⟨r, 2, none⟩ (.slice CA' (L + 1) cc')).heap.size := by simp [World.setCell]
      obtain ⟨u4, hu4⟩ : ∃ u4, W3.setCell ⟨r, 2, none⟩ (.slice CA' (L + 1) cc') = u4 := ⟨_, rfl⟩
      rw [hu4] at HO hs34
      try rw [hu4]
      have Hs34 := Lib.hid hs34
      have HC := Lib.hid (refCounts_calls HO.out.1 Hk.out)
      clear hu4 hs34
      refine HC.out.mono ?_
      rintro e u5 ⟨rfl, hR5, hk5⟩
      have HF := Lib.hid (show RefP w B r mb nn V X (cntV D { D with C := D.C ++ [(n, l)] } { D with C := D.C ++ [(n, l)] }).2 u5 from by
        have hb := HO.out.2.2.1
        have hb1 := hb.size
        have h5 := hk5.size
        have h4 := Hs34.out
        refine ⟨.slice CA' (L + 1) cc', (RefO.mono (RefO.moreX hR5 (fun b hb => hb.imp id (fun hb => by omega))) (by omega) : RefO u5 B r mb (nn + 256) _ _ _), ?_⟩
        have hk1 : Kept (Fr r mb V) w u4 := (hb.keptS _).trans HO.out.2.1
        exact hk1.trans (hk5.mono (fun b _ hb => hb.1)))
      by_cases hp : D.p = 1
      · have HE := Lib.hid (show (cntV D { D with C := D.C ++ [(n, l)] } { D with C := D.C ++ [(n, l)] }).1 = 120 from by unfold cntV; rw [if_pos hp])
        rw [decide_eq_true hp]
        clear hR5 hk5 hp HC
        go_wp2_with fail
        go_ret
        exact ⟨by rw [HE.out]; rfl, HF.out⟩
      · have HE := Lib.hid (show (cntV D { D with C := D.C ++ [(n, l)] } { D with C := D.C ++ [(n, l)] }).1 = 0 from by unfold cntV; rw [if_neg hp])
        rw [decide_eq_false hp]
        clear hR5 hk5 hp HC
        go_wp2_with fail
        go_ret
        exact ⟨by rw [HE.out]; rfl, HF.out⟩
end
end Go.Proofs.Ytpleaicpkpjkjaa
