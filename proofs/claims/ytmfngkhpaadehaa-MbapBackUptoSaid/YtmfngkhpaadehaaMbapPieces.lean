/-
  The walk of MbapPieces (printed by gen_pieces.py). Conditions: none beyond the given rows.
-/
import Derived.Test.YtmfngkhpaadehaaMbapStays
namespace Go.Proofs.Ytmfngkhpaadehaa
open Go Go.RowKit Go.Kw Go.Kw.Mb
set_option linter.unusedVariables false
set_option linter.unusedSimpArgs false

theorem IsRow.u16 {w : World} {a : Option Addr} {len cap : Nat} {zs : List Int} (h : IsRow .u16 w a len cap zs) : ∃ q : Nat → Nat, (∀ i, i < len → q i ≤ 65535) ∧ Rd w w.heap.size a len (fun i => .int .u16 (q i : Nat)) := by
  have hwf : ∀ i, i < len → 0 ≤ zs.getD i 0 ∧ zs.getD i 0 ≤ 65535 := fun i hi => by
    rcases h with ⟨rfl, rfl, rfl, rfl⟩ | ⟨x, rfl, h1, h2, h3, h4, h5⟩
    · omega
    · refine Go.bounds_u16 (h5 _ ?_)
      rw [List.getD_eq_getElem?_getD, List.getElem?_eq_getElem (by omega)]
      exact List.getElem_mem (by omega)
  refine ⟨fun i => (zs.getD i 0).toNat, fun i hi => by have := hwf i hi; show (zs.getD i 0).toNat ≤ 65535; omega, ?_⟩
  rcases h.rd with h0 | ⟨b, off, e, hb, hc⟩
  · exact .inl h0
  · refine .inr ⟨b, off, e, hb, fun i hi => ?_⟩
    rw [hc i hi]
    have := hwf i hi
    show some (Value.int .u16 (zs.getD i 0)) = some (Value.int .u16 ((zs.getD i 0).toNat : Int))
    congr 2; omega
theorem RdF.turn {w w' : World} {S S1 : Nat → Prop} {A : Option Addr} {fs : List Fr} (h : RdF w S A fs) (hk : Kept S1 w w') (hs : ∀ b, b < w.heap.size → S b → S1 b) : RdF w' S A fs := by
  obtain ⟨ps, h1, h2⟩ := h
  have hk' : Kept (fun b => b < w.heap.size ∧ S b) w w' := hk.mono fun k hk hh => hs k hk hh.2
  exact ⟨ps, RdX.turn (RdX.mono' (S' := fun b => b < w.heap.size ∧ S b) h1 (fun b hb hh => ⟨hb, hh⟩)) hk' (fun b hb hh => hh.2),
    fun k hlt => ⟨RdX.turn (RdX.mono' (S' := fun b => b < w.heap.size ∧ S b) (h2 k hlt).1 (fun b hb hh => ⟨hb, hh⟩)) hk' (fun b hb hh => hh.2), (h2 k hlt).2⟩⟩
/-- Feed as a step: l has come, p comes. -/
theorem feed_step (g : Nat) (l p : List UInt8) (A : Option Addr) (n c : Nat) (hn : n = p.length) (hl : l.length + n ≤ 500000) (w : World) {S0 : Nat → Prop} (h : HoldEnd w S0 g (stream l).2.1 (stream l).2.2) (hR : RdB w w.heap.size A p) (hz : A = none → n = 0) :
    Calls Try.prog 16 #[.pointer (some ⟨g, 0, none⟩), .slice A n c] w fun e w' => ∃ (A' : Option Addr) (m c' : Nat) (x : Int) (f : List Fr), e = .returned (.tuple #[.slice A' m c', .int .i64 x]) ∧ m = f.length ∧ f.length ≤ 100000 ∧
      OwF w' w.heap.size (fun b => w.heap.size ≤ b) (.slice A' m c') f ∧ HoldEnd w' (fun b => w.heap.size ≤ b) g (stream (l ++ p)).2.1 (stream (l ++ p)).2.2 ∧ Kept (fun b => b ≠ g) w w' ∧ (stream (l ++ p)).1 = (stream l).1 ++ f := by
  subst hn
  have hsa := stream_append _ l p (Nat.le_refl _)
  have hlen := stream_left _ l (Nat.le_refl _)
  cases hb : (stream l).2.2 with
  | true =>
    have hbl := stream_brokenLeft _ l (Nat.le_refl _) hb
    rw [hb, if_pos rfl] at hsa
    rw [hb, hbl] at h
    obtain ⟨A0, c0, hG, -, -, -, hc'⟩ := h
    refine (feed_broken g _ A p.length c w hG).mono ?_
    rintro e w' ⟨rfl, rfl⟩
    rw [hsa]
    exact ⟨none, 0, 0, 210, [], rfl, rfl, by simp, OwF.nil _ _ _, ⟨A0, c0, hG, RdY.nil _ _ _, fun _ => rfl, Nat.zero_le _, hc'⟩, Kept.refl _ _, by simp⟩
  | false =>
    rw [hb, if_neg (by simp)] at hsa
    rw [hb] at h
    refine (feed_calls g _ A c p (by omega) w h hR hz).mono ?_
    rintro e w' ⟨A', c', rfl, h1, h2, h3⟩
    rw [hsa]
    have hm := stream_many _ ((stream l).2.1 ++ p) (Nat.le_refl _)
    rw [List.length_append] at hm
    exact ⟨A', _, c', _, _, rfl, rfl, by omega, h1, h2, h3, rfl⟩
/-- What a way to cut has come to. -/
def Done (W : World) (M : Nat) (b : List UInt8) (v : Value) (x : Int) (r : Bool) : Prop :=
  ∃ A c, v = .slice A (stream b).1.length c ∧ RdF W (fun j => M ≤ j) A (stream b).1 ∧ x = ((stream b).2.1.length : Nat) ∧ r = (stream b).2.2
theorem Done.turn {W W' : World} {M : Nat} {b : List UInt8} {v : Value} {x : Int} {r : Bool} (h : Done W M b v x r) (hk : Kept (fun j => M ≤ j ∧ j < W.heap.size) W W') : Done W' M b v x r := by
  obtain ⟨A, c, h1, h2, h3⟩ := h
  exact ⟨A, c, h1, h2.turn hk (fun b hb hs => ⟨hs, hb⟩), h3⟩
/-- A piece of bytes that came in, as the call cuts it. -/
theorem piece_rd {W : World} {B b off at_ to c : Nat} {l : List UInt8} (h : RdB W B (some ⟨b, off, none⟩) l) (hB : B ≤ W.heap.size) (hat : at_ ≤ l.length) (hc : l.length ≤ c) :
    RdB W W.heap.size (if c = at_ then some ⟨b, off, none⟩ else some ⟨b, off + at_, none⟩) ((l.drop at_).take (to - at_)) := by
  split
  · rename_i e
    have : l.drop at_ = [] := List.drop_eq_nil_of_le (by omega)
    rw [this]; exact .inl (by simp)
  · exact ((RdY.drop (RdY.of (S := fun _ => True) (h.more hB) (fun _ _ => trivial)) at_).take _).rd
theorem take_piece (l : List UInt8) (at_ to : Nat) (h : at_ ≤ to) : l.take at_ ++ (l.drop at_).take (to - at_) = l.take to := by
  have e : to = at_ + (to - at_) := by omega
  rw [e, List.take_add]; congr 2; omega

set_option maxRecDepth 100000 in
set_option maxHeartbeats 8000000 in
theorem mbapPieces_walk (a0 : Option Addr) (len0 cap0 : Nat) (z0 : List Int) (a1 : Option Addr) (len1 cap1 : Nat) (z1 : List Int) (a2 : Option Addr) (len2 cap2 : Nat) (z2 : List Int) (w : World) (w0 : IsRow .u8 w a0 len0 cap0 z0) (w1 : IsRow .u16 w a1 len1 cap1 z1) (w2 : IsRow .u16 w a2 len2 cap2 z2) :
    Calls Try.prog 5 #[.slice a0 len0 cap0, .slice a1 len1 cap1, .slice a2 len2 cap2] w fun e w' => e = .returned (.bool true) ∧ Below w.heap.size w w' := by
  obtain ⟨hm1, hm2, hz0⟩ := w0.caps
  obtain ⟨hm3, hm4, hz1⟩ := w1.caps
  obtain ⟨hm5, hm6, hz2⟩ := w2.caps
  unfold maxLen at hm2 hm4 hm6
  obtain ⟨b, rfl, hR⟩ := w0.bytes
  obtain ⟨q1, hq1, hS1⟩ := IsRow.u16 w1
  obtain ⟨q2, hq2, hS2⟩ := IsRow.u16 w2
  clear w0 w1 w2
  have hz : a0 = none → b.length = 0 ∧ cap0 = 0 := hz0
  clear hz0 hz1 hz2
  by_cases hguard : 3000 < b.length ∨ 100 < len1 ∨ 100 < len2
  · have Hg := Lib.hid hguard
    clear hguard
    go_enter Try.func5, Try.ntmps5
    go_wp2_with fail
    refine (alive_calls _).mono ?_
    rintro e wa ⟨rfl, hba⟩
    go_wp2_with fail
    all_goals first
      | (go_ret; exact ⟨rfl, hba⟩)
      | (exfalso; have := Hg.out; omega)
  · have k1 : (b.length : Int) ≤ 3000 := by omega
    have k2 : (len1 : Int) ≤ 100 := by omega
    have k3 : (len2 : Int) ≤ 100 := by omega
    clear hguard
    go_enter Try.func5, Try.ntmps5
    go_wp2_with fail
    refine (alive_calls _).mono ?_
    rintro e wa ⟨rfl, hba⟩
    obtain ⟨G, hG⟩ : ∃ G, wa.heap.size = G := ⟨_, rfl⟩
    have hGw : w.heap.size ≤ G := by rw [← hG]; exact hba.size
    obtain ⟨W0, hW0⟩ : ∃ W0, ((wa.alloc (.cells #[.slice none 0 0, .slice none 0 0] 49)).alloc (.cells #[.int .i64 0, .int .i64 0] 50)).alloc (.cells #[.bool false, .bool false] 51) = W0 := ⟨_, rfl⟩
    have hs0 : W0.heap.size = G + 3 := by rw [← hW0]; simp [hG]
    have g0 : W0.heap[G]? = some (.cells #[.slice none 0 0, .slice none 0 0] 49 (0, 0)) := by
      rw [← hW0, ← hG]; exact blk_below (blk_below (blk_new wa _ _) (bstep _ _)) (bstep _ _)
    have g1 : W0.heap[G + 1]? = some (.cells #[.int .i64 0, .int .i64 0] 50 (0, 0)) := by
      have := blk_below (blk_new (wa.alloc (.cells #[.slice none 0 0, .slice none 0 0] 49)) #[.int .i64 0, .int .i64 0] 50) (bstep _ (.cells #[.bool false, .bool false] 51))
      rw [hW0] at this; simpa [hG] using this
    have g2 : W0.heap[G + 2]? = some (.cells #[.bool false, .bool false] 51 (0, 0)) := by
      have := blk_new ((wa.alloc (.cells #[.slice none 0 0, .slice none 0 0] 49)).alloc (.cells #[.int .i64 0, .int .i64 0] 50)) #[.bool false, .bool false] 51
      rw [hW0] at this; simpa [hG] using this
    have hbw0 : Below w.heap.size w W0 := by
      rw [← hW0]; exact balloc (balloc (balloc hba _) _) _
    go_wp2_with fail
    clear hW0 hG hba
    go_loopw [11] (fun s wr => ∃ k : Nat, k ≤ 2 ∧ s = .int .i64 k ∧ ∃ (v0 v1 : Value) (x0 x1 : Int) (r0 r1 : Bool), wr.heap[G]? = some (.cells #[v0, v1] 49 (0, 0)) ∧ wr.heap[G + 1]? = some (.cells #[.int .i64 x0, .int .i64 x1] 50 (0, 0)) ∧ wr.heap[G + 2]? = some (.cells #[.bool r0, .bool r1] 51 (0, 0)) ∧
        Hid (1 ≤ k → Done wr (G + 3) b v0 x0 r0) ∧ Hid (2 ≤ k → Done wr (G + 3) b v1 x1 r1) ∧ Hid (k < 1 → v0 = .slice none 0 0) ∧ Hid (k < 2 → v1 = .slice none 0 0) ∧ Below w.heap.size w wr ∧ G + 3 ≤ wr.heap.size) (fun s _ => 2 - (intOf s).toNat)
    case atStart => exact ⟨0, by omega, rfl, _, _, _, _, _, _, g0, g1, g2, fun h => by omega, fun h => by omega, fun _ => rfl, fun _ => rfl, hbw0, by omega⟩
    case round =>
      obtain ⟨k, hk, rfl, v0, v1, x0, x1, r0, r1, hb0, hb1, hb2, hd0, hd1, hn0, hn1, hbw, hsz⟩ := hrel
      by_cases hk0 : k = 0
      · subst hk0
        obtain ⟨wo, rfl⟩ : ∃ wo : World, wo = wr := ⟨_, rfl⟩
        have hv := hn0.out (by omega)
        subst hv
        obtain ⟨g, hg⟩ : ∃ g, wo.heap.size = g := ⟨_, rfl⟩
        have hh := holdNew wo (fun _ => True)
        have hgb := bstep wo (.cells #[.slice none 0 0, .bool false] 41)
        obtain ⟨W9, hW9⟩ : ∃ W9, wo.alloc (.cells #[.slice none 0 0, .bool false] 41) = W9 := ⟨_, rfl⟩
        rw [hg] at hh
        rw [hW9] at hh hgb
        have hs9 : W9.heap.size = g + 1 := by rw [← hW9]; simp [hg]
        have kb0 := blk_below hb0 hgb
        have hbw9 : Below w.heap.size w W9 := hbw.trans (hgb.mono hbw.size)
        have hk9 : Kept (fun j => (G + 3 ≤ j ∧ j < g) ∨ j = G + 1 ∨ j = G + 2) wo W9 := hgb.keptS _
        have hGg : G + 3 ≤ g := by omega
        have hst0 : stream (b.take 0) = ([], [], false) := by rw [List.take_zero]; decide +kernel
        have Hg := Lib.hid hg
        go_wp2_with fail
        clear hW9 hgb hn0
        have Hv1 := Lib.hid (hn1.out (by omega))
        clear hn1
        go_loopw [14, 15] (fun a i w3 => ∃ at_ j : Nat, j ≤ len1 + 1 ∧ i = .int .i64 j ∧ a = .int .i64 at_ ∧ at_ ≤ b.length ∧ Hid (j = len1 + 1 → at_ = b.length) ∧ (∃ (A : Option Addr) (c n : Nat), w3.heap[G]? = some (.cells #[.slice A n c, v1] 49 (0, 0)) ∧ Hid (n = (stream (b.take at_)).1.length) ∧ OwF w3 (g + 1) (fun x => g < x) (.slice A n c) (stream (b.take at_)).1) ∧
            (∃ S, HoldEnd w3 S g (stream (b.take at_)).2.1 (stream (b.take at_)).2.2) ∧ Kept (fun j => (G + 3 ≤ j ∧ j < g) ∨ j = G + 1 ∨ j = G + 2) wo w3 ∧ Below w.heap.size w w3 ∧ g < w3.heap.size) (fun _ i _ => len1 + 1 - (intOf i).toNat)
        case atStart => exact ⟨0, 0, by omega, rfl, rfl, Nat.zero_le _, fun h => by omega, ⟨none, 0, 0, kb0, by show _ = _; rw [hst0]; rfl, by rw [hst0]; exact OwF.nil _ _ _⟩, ⟨_, by rw [hst0]; exact hh⟩, hk9, hbw9, by omega⟩
        case round =>
          obtain ⟨at_, j, hj, rfl, rfl, hat, hlast, ⟨A, c, n, hbx, hn, ho⟩, ⟨S, hH⟩, hkw, hbw3, hgs⟩ := hrel
          clear hh kb0 hk9 hbw9 hs9 hst0
          by_cases hjc : j ≤ len1
          · obtain ⟨T, hT⟩ : ∃ T : Nat, T = if j < len1 then min b.length (at_ + q1 j % 40) else b.length := ⟨_, rfl⟩
            have hT1 : at_ ≤ T := by rw [hT]; split <;> omega
            have hT2 : T ≤ b.length := by rw [hT]; split <;> omega
            have hT3 : j = len1 → T = b.length := fun e => by rw [hT, if_neg (by omega)]
            have HTs : Hid (b.take at_ ++ (b.drop at_).take (T - at_) = b.take T) := take_piece b at_ T hT1
            have hlenp : ((b.drop at_).take (T - at_)).length = T - at_ := by simp; omega
            have hlent : (b.take at_).length = at_ := by simp; omega
            have HT3 := Lib.hid hT3
            have Hlp := Lib.hid hlenp
            have Hlt := Lib.hid hlent
            have m1 : (at_ : Int) ≤ (T : Int) := by omega
            have m2 : (T : Int) ≤ (b.length : Int) := by omega
            have m3 : (b.length : Int) ≤ (cap0 : Int) := by omega
            have m4 : (j : Int) ≤ (len1 : Int) := by omega
            have HTe := Lib.hid hT
            have HHd := Lib.hid hH
            have HhR := Lib.hid hR
            have Hho := Lib.hid ho
            have hcx := blk_cell hbx 0 rfl
            clear hT3 hlenp hlent hT ho hH
            have fin : ∀ (A5 : Option Addr) (c5 : Nat) (x5 : Int) (f5 : List Fr) (w5 : World), f5.length ≤ 100000 → OwF w5 wr.heap.size (fun b => wr.heap.size ≤ b) (.slice A5 f5.length c5) f5 → HoldEnd w5 (fun b => wr.heap.size ≤ b) g (stream (b.take T)).2.1 (stream (b.take T)).2.2 → Kept (fun b => b ≠ g) wr w5 → (stream (b.take T)).1 = (stream (b.take at_)).1 ++ f5 →
                ∃ (A6 : Option Addr) (c6 : Nat) (w6 : World), w5.cell? ⟨G, 0, none⟩ = some (.slice A n c) ∧ (Builtin.append_ #[26, 26] 26 #[.slice A n c, .slice A5 f5.length c5]).run Try.prog w5 = .ok (.slice A6 (stream (b.take T)).1.length c6) w6 ∧ w6.cell? ⟨G, 0, none⟩ = some (.slice A n c) ∧ w6.frozen? ⟨G, 0, none⟩ = false ∧
                  (w6.setCell ⟨G, 0, none⟩ (.slice A6 (stream (b.take T)).1.length c6)).heap[G]? = some (.cells #[.slice A6 (stream (b.take T)).1.length c6, v1] 49 (0, 0)) ∧ OwF (w6.setCell ⟨G, 0, none⟩ (.slice A6 (stream (b.take T)).1.length c6)) (g + 1) (fun x => g < x) (.slice A6 (stream (b.take T)).1.length c6) (stream (b.take T)).1 ∧
                  (∃ S, HoldEnd (w6.setCell ⟨G, 0, none⟩ (.slice A6 (stream (b.take T)).1.length c6)) S g (stream (b.take T)).2.1 (stream (b.take T)).2.2) ∧ Kept (fun j => (G + 3 ≤ j ∧ j < g) ∨ j = G + 1 ∨ j = G + 2) wo (w6.setCell ⟨G, 0, none⟩ (.slice A6 (stream (b.take T)).1.length c6)) ∧ Below w.heap.size w (w6.setCell ⟨G, 0, none⟩ (.slice A6 (stream (b.take T)).1.length c6)) ∧ g < (w6.setCell ⟨G, 0, none⟩ (.slice A6 (stream (b.take T)).1.length c6)).heap.size := by
              intro A5 c5 x5 f5 w5 hf5 o5 h5 k5 hst
              have hbx5 := heap_kept k5 hbx (by omega)
              have ho5 := Hho.out.keptX k5 (fun b hb => by omega) (fun b hb => by omega)
              obtain ⟨psr, hrw, -⟩ := Hho.out
              have q4 := (own_caps hrw).2.2.2
              have hrow : ∀ x, (Value.slice A n c).ownBlock = some x → g + 1 ≤ x ∧ x < wr.heap.size := fun x hx => by
                cases A with
                | none => simp [Value.ownBlock] at hx
                | some a => obtain ⟨g', rfl, h1, h2⟩ := q4 a rfl; simp [Value.ownBlock] at hx; omega
              obtain ⟨qs, r5, p5⟩ := o5
              have hm := stream_many _ (b.take at_) (Nat.le_refl _)
              rw [Hlt.out] at hm
              obtain ⟨A6, c6, w6, hrun, o6, g6, r6, -⟩ := OwF.append ho5 (c := c5) (RdX.of_own r5 (S := fun _ => True) (fun _ _ => trivial)) (Pdus.mono p5 (fun x hx => ⟨by have := hx.1; omega, fun e => by have := hrow x e.symm; have := hx.1; omega⟩)) (own_caps r5).2.2.1 (by have := k5.size; omega) (by omega)
              rw [← hst] at hrun o6
              have hbx6 : w6.heap[G]? = some (.cells #[.slice A n c, v1] 49 (0, 0)) := (g6.block G (blk_lt hbx5) (fun e => by have := hrow G e.symm; omega)).trans hbx5
              have hk67 : ∀ S : Nat → Prop, ¬ S G → Kept S w6 (w6.setCell ⟨G, 0, none⟩ (.slice A6 (stream (b.take T)).1.length c6)) := fun S hS => (Kept.refl S w6).setCell hS _
              have hk57 : ∀ S : Nat → Prop, ¬ S G → (∀ x, g + 1 ≤ x → x < wr.heap.size → ¬ S x) → Kept S w5 (w6.setCell ⟨G, 0, none⟩ (.slice A6 (stream (b.take T)).1.length c6)) := fun S hS hS2 =>
                ((Kept.refl S w5).grown g6 (fun x hx => .inr (hS2 x (hrow x hx).1 (hrow x hx).2))).trans (hk67 S hS)
              have hk37 : ∀ S : Nat → Prop, ¬ S G → ¬ S g → (∀ x, g + 1 ≤ x → x < wr.heap.size → ¬ S x) → Kept S wr (w6.setCell ⟨G, 0, none⟩ (.slice A6 (stream (b.take T)).1.length c6)) := fun S hS hSg hS2 =>
                (k5.mono (fun x _ hx e => hSg (e ▸ hx))).trans (hk57 S hS hS2)
              refine ⟨A6, c6, w6, blk_cell hbx5 0 rfl, hrun, blk_cell hbx6 0 rfl, blk_frozen hbx6 0, heap_setCell_same w6 G 0 _ _ _ hbx6, o6.keptX (hk67 (fun x => x ≠ G) (by simp)) (fun b hb => by omega) (fun b hb => by omega), ?_, hkw.trans (hk37 _ (by omega) (by omega) (fun x h1 h2 => by omega)), ?_, ?_⟩
              · obtain ⟨Ag, cg, y1, y2, y3⟩ := h5
                have hkA := hk57 (fun x => (wr.heap.size ≤ x) ∨ x = g) (by omega) (fun x h1 h2 => by omega)
                exact ⟨_, Ag, cg, heap_kept hkA y1 (.inr rfl), RdX.kept y2 (hkA.mono fun x _ hx => .inl hx), y3⟩
              · have := (hk37 (fun x => x < w.heap.size) (by omega) (by omega) (fun x h1 h2 => by omega)).below hbw3.size (fun k hk => hk)
                exact hbw3.trans this
              · have := (hk37 (fun _ => False) (by simp) (by simp) (fun x h1 h2 => by simp)).size
                omega
            have Fin := Lib.hid fin
            clear fin hcx hbx
            have HzR := Lib.hid hz
            clear hz
            by_cases hca : cap0 = at_
            · subst hca
              have Hpr : RdB wr wr.heap.size (a0) ((b.drop cap0).take (T - cap0)) := .inl (by rw [Hlp.out]; omega)
              have hFd := Lib.hid (feed_step g (b.take cap0) ((b.drop cap0).take (T - cap0)) (a0) (T - cap0) (0) Hlp.out.symm (by rw [Hlt.out]; omega) wr HHd.out Hpr (fun h => by have := HzR.out h; omega))
              by_cases hjl : j < len1
              · obtain ⟨bc, oc, rfl, -, hcc⟩ := Rd.at_ (hS1.below hbw3) (k := j) hjl
                have m5 : (j : Int) < (len1 : Int) := by omega
                have m6 : min (b.length : Int) ((cap0 : Int) + (q1 j : Int) % 40) = (T : Int) := by rw [HTe.out, if_pos hjl]; omega
                have m7 := hq1 j hjl
                go_wp2_with fail
                refine (feed_step g (b.take cap0) ((b.drop cap0).take (T - cap0)) _ _ _ (by rw [Hlp.out] <;> omega) (by rw [Hlt.out] <;> omega) wr HHd.out (.inl (by rw [Hlp.out] <;> omega)) (fun h => by omega)).mono ?_
                rintro e w5 ⟨A5, m5, c5, x5, f5, rfl, rfl, hf5, o5, h5, k5, hst⟩
                rw [HTs.out] at h5 hst
                obtain ⟨A6, c6, w6, y1, hrun, y2, y3, y4, y5, y6, y7, y8, y9⟩ := Fin.out A5 c5 x5 f5 w5 hf5 o5 h5 k5 hst
                have Hy4 := Lib.hid y4
                clear hst y4 o5 h5 k5
                go_wp2_with (at_builtin; refine wpList_append_run hrun rfl rfl rfl rfl rfl ?_)
                go_roundw
                case rel => exact ⟨T, j + 1, by omega, by go_num, rfl, by omega, fun e => HT3.out (by omega), ⟨A6, c6, _, Hy4.out, rfl, y5⟩, y6, y7, y8, y9⟩
                case measure => simp [intOf]; omega
              · have hjc2 : j = len1 := by omega
                have hTb := HT3.out hjc2
                subst hTb
                have Fin2 := Fin.out
                simp only [List.take_length] at Fin2
                have Fin := Lib.hid Fin2
                clear Fin2
                have m5 : ¬ (j : Int) < (len1 : Int) := by omega
                have Hjc := Lib.hid hjc2
                clear hjc2
                go_wp2_with fail
                refine (feed_step g (b.take cap0) ((b.drop cap0).take (b.length - cap0)) _ _ _ (by rw [Hlp.out] <;> omega) (by rw [Hlt.out] <;> omega) wr HHd.out (.inl (by rw [Hlp.out] <;> omega)) (fun h => by omega)).mono ?_
                rintro e w5 ⟨A5, m5, c5, x5, f5, rfl, rfl, hf5, o5, h5, k5, hst⟩
                rw [HTs.out, List.take_length] at h5 hst
                obtain ⟨A6, c6, w6, y1, hrun, y2, y3, y4, y5, y6, y7, y8, y9⟩ := Fin.out A5 c5 x5 f5 w5 hf5 o5 h5 k5 hst
                have Hy4 := Lib.hid y4
                clear hst y4 o5 h5 k5
                go_wp2_with (at_builtin; refine wpList_append_run hrun rfl rfl rfl rfl rfl ?_)
                go_roundw
                case rel =>
                  refine ⟨b.length, j + 1, by have := Hjc.out; omega, by go_num, rfl, Nat.le_refl _, fun e => rfl, ?_⟩
                  simp only [List.take_length]
                  exact ⟨⟨A6, c6, _, Hy4.out, rfl, y5⟩, y6, y7, y8, y9⟩
                case measure => have := Hjc.out; simp [intOf]; omega
            · rcases a0 with _ | ⟨bb, off, sub⟩
              · exfalso; have := HzR.out rfl; omega
              · rcases hR with h0 | ⟨b', off', e', -⟩
                · have hcb := hca
                  have hbn : b = [] := List.eq_nil_of_length_eq_zero h0
                  have ht : ∀ n, b.take n = [] := fun n => by rw [hbn]; exact List.take_nil
                  have Ht := Lib.hid ht
                  have H0 := Lib.hid h0
                  obtain rfl : at_ = 0 := by omega
                  obtain rfl : T = 0 := by omega
                  have Fin2 := Fin.out
                  have HH2 := HHd.out
                  simp only [ht] at Fin2 HH2
                  have Fin := Lib.hid Fin2
                  have hF := fun A n c (hn : n = ([] : List UInt8).length) => feed_step g [] [] A n c hn (by subst hn; simp) wr HH2 (.inl rfl) (fun _ => hn)
                  have HF := Lib.hid hF
                  clear Fin2 HH2 hF ht hbn
                  have n1 : (b.length : Int) = 0 := by omega
                  have n2 : ¬ (b.length : Int) < 0 := by omega
                  have m6b : min (b.length : Int) (0 + (q1 j : Int) % 40) = 0 := by omega
                  have N1 := Lib.hid n1
                  clear h0 n1
                  by_cases hjl : j < len1
                  · obtain ⟨bc, oc, rfl, -, hcc⟩ := Rd.at_ (hS1.below hbw3) (k := j) hjl
                    have m5 : (j : Int) < (len1 : Int) := by omega
                    have m6 : min (b.length : Int) ((q1 j : Int) % 40) = 0 := by omega
                    have m7 := hq1 j hjl
                    go_wp2_with fail
                    refine (HF.out _ _ _ (by have := H0.out; show _ = 0; omega)).mono ?_
                    rintro e w5 ⟨A5, m5, c5, x5, f5, rfl, rfl, hf5, o5, h5, k5, hst⟩
                    rw [List.append_nil] at h5 hst
                    obtain ⟨A6, c6, w6, y1, hrun, y2, y3, y4, y5, y6, y7, y8, y9⟩ := Fin.out A5 c5 x5 f5 w5 hf5 o5 h5 k5 hst
                    have Hy4 := Lib.hid y4
                    clear hst y4 o5 h5 k5
                    go_wp2_with (at_builtin; refine wpList_append_run hrun rfl rfl rfl rfl rfl ?_)
                    go_roundw
                    case rel =>
                      refine ⟨0, j + 1, by omega, by go_num, rfl, Nat.zero_le _, fun e => H0.out.symm, ?_⟩
                      simp only [Ht.out]
                      exact ⟨⟨A6, c6, _, Hy4.out, rfl, y5⟩, y6, y7, y8, y9⟩
                    case measure => simp [intOf]; omega
                  · have hjc2 : j = len1 := by omega
                    have m5 : ¬ (j : Int) < (len1 : Int) := by omega
                    have Hjc := Lib.hid hjc2
                    clear hjc2
                    go_wp2_with fail
                    refine (HF.out _ _ _ (by have := H0.out; show _ = 0; omega)).mono ?_
                    rintro e w5 ⟨A5, m5, c5, x5, f5, rfl, rfl, hf5, o5, h5, k5, hst⟩
                    rw [List.append_nil] at h5 hst
                    obtain ⟨A6, c6, w6, y1, hrun, y2, y3, y4, y5, y6, y7, y8, y9⟩ := Fin.out A5 c5 x5 f5 w5 hf5 o5 h5 k5 hst
                    have Hy4 := Lib.hid y4
                    clear hst y4 o5 h5 k5
                    go_wp2_with (at_builtin; refine wpList_append_run hrun rfl rfl rfl rfl rfl ?_)
                    go_roundw
                    case rel =>
                      refine ⟨b.length, j + 1, by have := Hjc.out; omega, by go_num, rfl, Nat.le_refl _, fun e => rfl, ?_⟩
                      simp only [Ht.out]
                      exact ⟨⟨A6, c6, _, Hy4.out, rfl, y5⟩, y6, y7, y8, y9⟩
                    case measure => have := Hjc.out; simp [intOf]; omega
                · have hca2 := hca
                  cases e'
                  have Hpr : RdB wr wr.heap.size (some ⟨bb, off + at_, none⟩) ((b.drop at_).take (T - at_)) := by
                    have := piece_rd (to := T) (HhR.out.below hbw3) hbw3.size hat hm1
                    rwa [if_neg hca] at this
                  have hFd := Lib.hid (feed_step g (b.take at_) ((b.drop at_).take (T - at_)) (some ⟨bb, off + at_, none⟩) (T - at_) (cap0 - at_) Hlp.out.symm (by rw [Hlt.out]; omega) wr HHd.out Hpr (by simp))
                  by_cases hjl : j < len1
                  · obtain ⟨bc, oc, rfl, -, hcc⟩ := Rd.at_ (hS1.below hbw3) (k := j) hjl
                    have m5 : (j : Int) < (len1 : Int) := by omega
                    have m6 : min (b.length : Int) ((at_ : Int) + (q1 j : Int) % 40) = (T : Int) := by rw [HTe.out, if_pos hjl]; omega
                    have m7 := hq1 j hjl
                    go_wp2_with fail
                    refine (hFd.out).mono ?_
                    rintro e w5 ⟨A5, m5, c5, x5, f5, rfl, rfl, hf5, o5, h5, k5, hst⟩
                    rw [HTs.out] at h5 hst
                    obtain ⟨A6, c6, w6, y1, hrun, y2, y3, y4, y5, y6, y7, y8, y9⟩ := Fin.out A5 c5 x5 f5 w5 hf5 o5 h5 k5 hst
                    have Hy4 := Lib.hid y4
                    clear hst y4 o5 h5 k5
                    go_wp2_with (at_builtin; refine wpList_append_run hrun rfl rfl rfl rfl rfl ?_)
                    go_roundw
                    case rel => exact ⟨T, j + 1, by omega, by go_num, rfl, by omega, fun e => HT3.out (by omega), ⟨A6, c6, _, Hy4.out, rfl, y5⟩, y6, y7, y8, y9⟩
                    case measure => simp [intOf]; omega
                  · have hjc2 : j = len1 := by omega
                    have hTb := HT3.out hjc2
                    subst hTb
                    have Fin2 := Fin.out
                    simp only [List.take_length] at Fin2
                    have Fin := Lib.hid Fin2
                    clear Fin2
                    have m5 : ¬ (j : Int) < (len1 : Int) := by omega
                    have Hjc := Lib.hid hjc2
                    clear hjc2
                    go_wp2_with fail
                    refine (hFd.out).mono ?_
                    rintro e w5 ⟨A5, m5, c5, x5, f5, rfl, rfl, hf5, o5, h5, k5, hst⟩
                    rw [HTs.out, List.take_length] at h5 hst
                    obtain ⟨A6, c6, w6, y1, hrun, y2, y3, y4, y5, y6, y7, y8, y9⟩ := Fin.out A5 c5 x5 f5 w5 hf5 o5 h5 k5 hst
                    have Hy4 := Lib.hid y4
                    clear hst y4 o5 h5 k5
                    go_wp2_with (at_builtin; refine wpList_append_run hrun rfl rfl rfl rfl rfl ?_)
                    go_roundw
                    case rel =>
                      refine ⟨b.length, j + 1, by have := Hjc.out; omega, by go_num, rfl, Nat.le_refl _, fun e => rfl, ?_⟩
                      simp only [List.take_length]
                      exact ⟨⟨A6, c6, _, Hy4.out, rfl, y5⟩, y6, y7, y8, y9⟩
                    case measure => have := Hjc.out; simp [intOf]; omega
          · obtain rfl : j = len1 + 1 := by omega
            obtain rfl := hlast.out rfl
            simp only [List.take_length] at hn ho hH hbx
            obtain rfl := hn.out
            obtain ⟨Ag, cg, hG, -⟩ := hH
            have Hho := Lib.hid ho
            have Hhg := Lib.hid hG
            clear ho hG
            have m4 : ¬ ((len1 : Int) + 1 ≤ (len1 : Int)) := by omega
            have hb1' := heap_kept hkw hb1 (by omega)
            have hb2' := heap_kept hkw hb2 (by omega)
            obtain ⟨y9, hV1⟩ : ∃ V : Int, V = (((stream b).2.1.length : Nat) : Int) := ⟨_, rfl⟩
            have hb2'' := heap_kept (S := fun x => x ≠ G + 1) ((Kept.refl _ wr).setCell (p := ⟨G + 1, 0, none⟩) (by simp) (.int .i64 y9)) hb2' (by omega)
            have hk2 : Kept (fun x => x ≠ G + 1 ∧ x ≠ G + 2) wr ((wr.setCell ⟨G + 1, 0, none⟩ (.int .i64 y9)).setCell ⟨G + 2, 0, none⟩ (.bool (stream b).2.2)) := ((Kept.refl _ wr).setCell (by simp) _).setCell (by simp) _
            have hG2 : GB (wr.setCell ⟨G + 1, 0, none⟩ (.int .i64 y9)) g _ _ := heap_kept (S := fun x => x ≠ G + 1) ((Kept.refl _ wr).setCell (by simp) (.int .i64 y9)) Hhg.out (by omega)
            have z1 : (wr.setCell ⟨G + 1, 0, none⟩ (.int .i64 y9)).heap[G + 1]? = some (.cells #[.int .i64 y9, .int .i64 x1] 50 (0, 0)) := heap_setCell_same wr (G + 1) 0 _ _ (.int .i64 y9) hb1'
            have z2 := heap_kept (S := fun x => x ≠ G + 2) ((Kept.refl _ (wr.setCell ⟨G + 1, 0, none⟩ (.int .i64 y9))).setCell (p := ⟨G + 2, 0, none⟩) (by simp) (.bool (stream b).2.2)) z1 (by omega)
            have z3 : ((wr.setCell ⟨G + 1, 0, none⟩ (.int .i64 y9)).setCell ⟨G + 2, 0, none⟩ (.bool (stream b).2.2)).heap[G + 2]? = some (.cells #[.bool (stream b).2.2, .bool r1] 51 (0, 0)) := heap_setCell_same _ (G + 2) 0 _ _ (.bool (stream b).2.2) hb2''
            have z0 := heap_kept hk2 hbx (by omega)
            have zf := (Hho.out.mono (base := G + 3) (S := fun j => G + 3 ≤ j) (by omega) (fun b hb => by omega)).rdF (fun b hb => hb)
            have zd := zf.turn hk2 (fun b _ hb => ⟨by omega, by omega⟩)
            have hka := (hkw.mono (S' := fun j => G + 3 ≤ j ∧ j < g) (fun k _ hk => .inl hk)).trans (hk2.mono (fun k _ hk => ⟨by omega, by omega⟩))
            have hbf := hbw3.trans ((hk2.mono (S' := fun j => j < w.heap.size) (fun k _ hk => ⟨by omega, by omega⟩)).below hbw3.size (fun k hk => hk))
            have hsf := hk2.size
            have s1 := blk_cell hb1' 0 rfl
            have s2 := blk_frozen hb1' 0
            have s3 := blk_cell hb2'' 0 rfl
            have s4 := blk_frozen hb2'' 0
            have Z0 := Lib.hid z0
            have Z1 := Lib.hid z2
            have Z2 := Lib.hid z3
            have Zd := Lib.hid zd
            have Zk := Lib.hid hka
            have Zb := Lib.hid hbf
            have Zs := Lib.hid hsf
            have HG2 := Lib.hid hG2
            have HV1 := Lib.hid hV1
            clear z0 z1 z2 z3 zd zf hka hbf hsf hG2 hV1 hk2 hb1' hb2' hb2'' hbx
            go_wp2_with fail
            refine (left_calls g Ag _ cg _ wr Hhg.out).mono ?_
            rintro e w' ⟨rfl, rfl⟩
            rw [← HV1.out]
            go_wp2_with fail
            refine (isBroken_calls g _ _ _ HG2.out).mono ?_
            rintro e w' ⟨rfl, rfl⟩
            go_wp2_with fail
            go_roundw
            case rel =>
              obtain rfl := HV1.out
              exact ⟨1, by omega, by go_num, _, _, _, _, _, _, Z0.out, Z1.out, Z2.out, fun _ => ⟨A, c, rfl, Zd.out, rfl, rfl⟩, fun h => by omega, fun h => by omega, fun _ => Hv1.out, Zb.out, Nat.le_trans (by omega) Zs.out⟩
            case measure => simp [intOf]
      · by_cases hk1 : k = 1
        · subst hk1
          obtain ⟨wo, rfl⟩ : ∃ wo : World, wo = wr := ⟨_, rfl⟩
          have hv := hn1.out (by omega)
          subst hv
          obtain ⟨g, hg⟩ : ∃ g, wo.heap.size = g := ⟨_, rfl⟩
          have hh := holdNew wo (fun _ => True)
          have hgb := bstep wo (.cells #[.slice none 0 0, .bool false] 41)
          obtain ⟨W9, hW9⟩ : ∃ W9, wo.alloc (.cells #[.slice none 0 0, .bool false] 41) = W9 := ⟨_, rfl⟩
          rw [hg] at hh
          rw [hW9] at hh hgb
          have hs9 : W9.heap.size = g + 1 := by rw [← hW9]; simp [hg]
          have kb0 := blk_below hb0 hgb
          have hbw9 : Below w.heap.size w W9 := hbw.trans (hgb.mono hbw.size)
          have hk9 : Kept (fun j => (G + 3 ≤ j ∧ j < g) ∨ j = G + 1 ∨ j = G + 2) wo W9 := hgb.keptS _
          have hGg : G + 3 ≤ g := by omega
          have hst0 : stream (b.take 0) = ([], [], false) := by rw [List.take_zero]; decide +kernel
          have Hg := Lib.hid hg
          go_wp2_with fail
          clear hW9 hgb hn0
          clear hn1
          go_loopw [14, 15] (fun a i w3 => ∃ at_ j : Nat, j ≤ len2 + 1 ∧ i = .int .i64 j ∧ a = .int .i64 at_ ∧ at_ ≤ b.length ∧ Hid (j = len2 + 1 → at_ = b.length) ∧ (∃ (A : Option Addr) (c n : Nat), w3.heap[G]? = some (.cells #[v0, .slice A n c] 49 (0, 0)) ∧ Hid (n = (stream (b.take at_)).1.length) ∧ OwF w3 (g + 1) (fun x => g < x) (.slice A n c) (stream (b.take at_)).1) ∧
              (∃ S, HoldEnd w3 S g (stream (b.take at_)).2.1 (stream (b.take at_)).2.2) ∧ Kept (fun j => (G + 3 ≤ j ∧ j < g) ∨ j = G + 1 ∨ j = G + 2) wo w3 ∧ Below w.heap.size w w3 ∧ g < w3.heap.size) (fun _ i _ => len2 + 1 - (intOf i).toNat)
          case atStart => exact ⟨0, 0, by omega, rfl, rfl, Nat.zero_le _, fun h => by omega, ⟨none, 0, 0, kb0, by show _ = _; rw [hst0]; rfl, by rw [hst0]; exact OwF.nil _ _ _⟩, ⟨_, by rw [hst0]; exact hh⟩, hk9, hbw9, by omega⟩
          case round =>
            obtain ⟨at_, j, hj, rfl, rfl, hat, hlast, ⟨A, c, n, hbx, hn, ho⟩, ⟨S, hH⟩, hkw, hbw3, hgs⟩ := hrel
            clear hh kb0 hk9 hbw9 hs9 hst0
            by_cases hjc : j ≤ len2
            · obtain ⟨T, hT⟩ : ∃ T : Nat, T = if j < len2 then min b.length (at_ + q2 j % 40) else b.length := ⟨_, rfl⟩
              have hT1 : at_ ≤ T := by rw [hT]; split <;> omega
              have hT2 : T ≤ b.length := by rw [hT]; split <;> omega
              have hT3 : j = len2 → T = b.length := fun e => by rw [hT, if_neg (by omega)]
              have HTs : Hid (b.take at_ ++ (b.drop at_).take (T - at_) = b.take T) := take_piece b at_ T hT1
              have hlenp : ((b.drop at_).take (T - at_)).length = T - at_ := by simp; omega
              have hlent : (b.take at_).length = at_ := by simp; omega
              have HT3 := Lib.hid hT3
              have Hlp := Lib.hid hlenp
              have Hlt := Lib.hid hlent
              have m1 : (at_ : Int) ≤ (T : Int) := by omega
              have m2 : (T : Int) ≤ (b.length : Int) := by omega
              have m3 : (b.length : Int) ≤ (cap0 : Int) := by omega
              have m4 : (j : Int) ≤ (len2 : Int) := by omega
              have HTe := Lib.hid hT
              have HHd := Lib.hid hH
              have HhR := Lib.hid hR
              have Hho := Lib.hid ho
              have hcx := blk_cell hbx 1 rfl
              clear hT3 hlenp hlent hT ho hH
              have fin : ∀ (A5 : Option Addr) (c5 : Nat) (x5 : Int) (f5 : List Fr) (w5 : World), f5.length ≤ 100000 → OwF w5 wr.heap.size (fun b => wr.heap.size ≤ b) (.slice A5 f5.length c5) f5 → HoldEnd w5 (fun b => wr.heap.size ≤ b) g (stream (b.take T)).2.1 (stream (b.take T)).2.2 → Kept (fun b => b ≠ g) wr w5 → (stream (b.take T)).1 = (stream (b.take at_)).1 ++ f5 →
                  ∃ (A6 : Option Addr) (c6 : Nat) (w6 : World), w5.cell? ⟨G, 1, none⟩ = some (.slice A n c) ∧ (Builtin.append_ #[26, 26] 26 #[.slice A n c, .slice A5 f5.length c5]).run Try.prog w5 = .ok (.slice A6 (stream (b.take T)).1.length c6) w6 ∧ w6.cell? ⟨G, 1, none⟩ = some (.slice A n c) ∧ w6.frozen? ⟨G, 1, none⟩ = false ∧
                    (w6.setCell ⟨G, 1, none⟩ (.slice A6 (stream (b.take T)).1.length c6)).heap[G]? = some (.cells #[v0, .slice A6 (stream (b.take T)).1.length c6] 49 (0, 0)) ∧ OwF (w6.setCell ⟨G, 1, none⟩ (.slice A6 (stream (b.take T)).1.length c6)) (g + 1) (fun x => g < x) (.slice A6 (stream (b.take T)).1.length c6) (stream (b.take T)).1 ∧
                    (∃ S, HoldEnd (w6.setCell ⟨G, 1, none⟩ (.slice A6 (stream (b.take T)).1.length c6)) S g (stream (b.take T)).2.1 (stream (b.take T)).2.2) ∧ Kept (fun j => (G + 3 ≤ j ∧ j < g) ∨ j = G + 1 ∨ j = G + 2) wo (w6.setCell ⟨G, 1, none⟩ (.slice A6 (stream (b.take T)).1.length c6)) ∧ Below w.heap.size w (w6.setCell ⟨G, 1, none⟩ (.slice A6 (stream (b.take T)).1.length c6)) ∧ g < (w6.setCell ⟨G, 1, none⟩ (.slice A6 (stream (b.take T)).1.length c6)).heap.size := by
                intro A5 c5 x5 f5 w5 hf5 o5 h5 k5 hst
                have hbx5 := heap_kept k5 hbx (by omega)
                have ho5 := Hho.out.keptX k5 (fun b hb => by omega) (fun b hb => by omega)
                obtain ⟨psr, hrw, -⟩ := Hho.out
                have q4 := (own_caps hrw).2.2.2
                have hrow : ∀ x, (Value.slice A n c).ownBlock = some x → g + 1 ≤ x ∧ x < wr.heap.size := fun x hx => by
                  cases A with
                  | none => simp [Value.ownBlock] at hx
                  | some a => obtain ⟨g', rfl, h1, h2⟩ := q4 a rfl; simp [Value.ownBlock] at hx; omega
                obtain ⟨qs, r5, p5⟩ := o5
                have hm := stream_many _ (b.take at_) (Nat.le_refl _)
                rw [Hlt.out] at hm
                obtain ⟨A6, c6, w6, hrun, o6, g6, r6, -⟩ := OwF.append ho5 (c := c5) (RdX.of_own r5 (S := fun _ => True) (fun _ _ => trivial)) (Pdus.mono p5 (fun x hx => ⟨by have := hx.1; omega, fun e => by have := hrow x e.symm; have := hx.1; omega⟩)) (own_caps r5).2.2.1 (by have := k5.size; omega) (by omega)
                rw [← hst] at hrun o6
                have hbx6 : w6.heap[G]? = some (.cells #[v0, .slice A n c] 49 (0, 0)) := (g6.block G (blk_lt hbx5) (fun e => by have := hrow G e.symm; omega)).trans hbx5
                have hk67 : ∀ S : Nat → Prop, ¬ S G → Kept S w6 (w6.setCell ⟨G, 1, none⟩ (.slice A6 (stream (b.take T)).1.length c6)) := fun S hS => (Kept.refl S w6).setCell hS _
                have hk57 : ∀ S : Nat → Prop, ¬ S G → (∀ x, g + 1 ≤ x → x < wr.heap.size → ¬ S x) → Kept S w5 (w6.setCell ⟨G, 1, none⟩ (.slice A6 (stream (b.take T)).1.length c6)) := fun S hS hS2 =>
                  ((Kept.refl S w5).grown g6 (fun x hx => .inr (hS2 x (hrow x hx).1 (hrow x hx).2))).trans (hk67 S hS)
                have hk37 : ∀ S : Nat → Prop, ¬ S G → ¬ S g → (∀ x, g + 1 ≤ x → x < wr.heap.size → ¬ S x) → Kept S wr (w6.setCell ⟨G, 1, none⟩ (.slice A6 (stream (b.take T)).1.length c6)) := fun S hS hSg hS2 =>
                  (k5.mono (fun x _ hx e => hSg (e ▸ hx))).trans (hk57 S hS hS2)
                refine ⟨A6, c6, w6, blk_cell hbx5 1 rfl, hrun, blk_cell hbx6 1 rfl, blk_frozen hbx6 1, heap_setCell_same w6 G 1 _ _ _ hbx6, o6.keptX (hk67 (fun x => x ≠ G) (by simp)) (fun b hb => by omega) (fun b hb => by omega), ?_, hkw.trans (hk37 _ (by omega) (by omega) (fun x h1 h2 => by omega)), ?_, ?_⟩
                · obtain ⟨Ag, cg, y1, y2, y3⟩ := h5
                  have hkA := hk57 (fun x => (wr.heap.size ≤ x) ∨ x = g) (by omega) (fun x h1 h2 => by omega)
                  exact ⟨_, Ag, cg, heap_kept hkA y1 (.inr rfl), RdX.kept y2 (hkA.mono fun x _ hx => .inl hx), y3⟩
                · have := (hk37 (fun x => x < w.heap.size) (by omega) (by omega) (fun x h1 h2 => by omega)).below hbw3.size (fun k hk => hk)
                  exact hbw3.trans this
                · have := (hk37 (fun _ => False) (by simp) (by simp) (fun x h1 h2 => by simp)).size
                  omega
              have Fin := Lib.hid fin
              clear fin hcx hbx
              have HzR := Lib.hid hz
              clear hz
              by_cases hca : cap0 = at_
              · subst hca
                have Hpr : RdB wr wr.heap.size (a0) ((b.drop cap0).take (T - cap0)) := .inl (by rw [Hlp.out]; omega)
                have hFd := Lib.hid (feed_step g (b.take cap0) ((b.drop cap0).take (T - cap0)) (a0) (T - cap0) (0) Hlp.out.symm (by rw [Hlt.out]; omega) wr HHd.out Hpr (fun h => by have := HzR.out h; omega))
                by_cases hjl : j < len2
                · obtain ⟨bc, oc, rfl, -, hcc⟩ := Rd.at_ (hS2.below hbw3) (k := j) hjl
                  have m5 : (j : Int) < (len2 : Int) := by omega
                  have m6 : min (b.length : Int) ((cap0 : Int) + (q2 j : Int) % 40) = (T : Int) := by rw [HTe.out, if_pos hjl]; omega
                  have m7 := hq2 j hjl
                  go_wp2_with fail
                  refine (feed_step g (b.take cap0) ((b.drop cap0).take (T - cap0)) _ _ _ (by rw [Hlp.out] <;> omega) (by rw [Hlt.out] <;> omega) wr HHd.out (.inl (by rw [Hlp.out] <;> omega)) (fun h => by omega)).mono ?_
                  rintro e w5 ⟨A5, m5, c5, x5, f5, rfl, rfl, hf5, o5, h5, k5, hst⟩
                  rw [HTs.out] at h5 hst
                  obtain ⟨A6, c6, w6, y1, hrun, y2, y3, y4, y5, y6, y7, y8, y9⟩ := Fin.out A5 c5 x5 f5 w5 hf5 o5 h5 k5 hst
                  have Hy4 := Lib.hid y4
                  clear hst y4 o5 h5 k5
                  go_wp2_with (at_builtin; refine wpList_append_run hrun rfl rfl rfl rfl rfl ?_)
                  go_roundw
                  case rel => exact ⟨T, j + 1, by omega, by go_num, rfl, by omega, fun e => HT3.out (by omega), ⟨A6, c6, _, Hy4.out, rfl, y5⟩, y6, y7, y8, y9⟩
                  case measure => simp [intOf]; omega
                · have hjc2 : j = len2 := by omega
                  have hTb := HT3.out hjc2
                  subst hTb
                  have Fin2 := Fin.out
                  simp only [List.take_length] at Fin2
                  have Fin := Lib.hid Fin2
                  clear Fin2
                  have m5 : ¬ (j : Int) < (len2 : Int) := by omega
                  have Hjc := Lib.hid hjc2
                  clear hjc2
                  go_wp2_with fail
                  refine (feed_step g (b.take cap0) ((b.drop cap0).take (b.length - cap0)) _ _ _ (by rw [Hlp.out] <;> omega) (by rw [Hlt.out] <;> omega) wr HHd.out (.inl (by rw [Hlp.out] <;> omega)) (fun h => by omega)).mono ?_
                  rintro e w5 ⟨A5, m5, c5, x5, f5, rfl, rfl, hf5, o5, h5, k5, hst⟩
                  rw [HTs.out, List.take_length] at h5 hst
                  obtain ⟨A6, c6, w6, y1, hrun, y2, y3, y4, y5, y6, y7, y8, y9⟩ := Fin.out A5 c5 x5 f5 w5 hf5 o5 h5 k5 hst
                  have Hy4 := Lib.hid y4
                  clear hst y4 o5 h5 k5
                  go_wp2_with (at_builtin; refine wpList_append_run hrun rfl rfl rfl rfl rfl ?_)
                  go_roundw
                  case rel =>
                    refine ⟨b.length, j + 1, by have := Hjc.out; omega, by go_num, rfl, Nat.le_refl _, fun e => rfl, ?_⟩
                    simp only [List.take_length]
                    exact ⟨⟨A6, c6, _, Hy4.out, rfl, y5⟩, y6, y7, y8, y9⟩
                  case measure => have := Hjc.out; simp [intOf]; omega
              · rcases a0 with _ | ⟨bb, off, sub⟩
                · exfalso; have := HzR.out rfl; omega
                · rcases hR with h0 | ⟨b', off', e', -⟩
                  · have hcb := hca
                    have hbn : b = [] := List.eq_nil_of_length_eq_zero h0
                    have ht : ∀ n, b.take n = [] := fun n => by rw [hbn]; exact List.take_nil
                    have Ht := Lib.hid ht
                    have H0 := Lib.hid h0
                    obtain rfl : at_ = 0 := by omega
                    obtain rfl : T = 0 := by omega
                    have Fin2 := Fin.out
                    have HH2 := HHd.out
                    simp only [ht] at Fin2 HH2
                    have Fin := Lib.hid Fin2
                    have hF := fun A n c (hn : n = ([] : List UInt8).length) => feed_step g [] [] A n c hn (by subst hn; simp) wr HH2 (.inl rfl) (fun _ => hn)
                    have HF := Lib.hid hF
                    clear Fin2 HH2 hF ht hbn
                    have n1 : (b.length : Int) = 0 := by omega
                    have n2 : ¬ (b.length : Int) < 0 := by omega
                    have m6b : min (b.length : Int) (0 + (q2 j : Int) % 40) = 0 := by omega
                    have N1 := Lib.hid n1
                    clear h0 n1
                    by_cases hjl : j < len2
                    · obtain ⟨bc, oc, rfl, -, hcc⟩ := Rd.at_ (hS2.below hbw3) (k := j) hjl
                      have m5 : (j : Int) < (len2 : Int) := by omega
                      have m6 : min (b.length : Int) ((q2 j : Int) % 40) = 0 := by omega
                      have m7 := hq2 j hjl
                      go_wp2_with fail
                      refine (HF.out _ _ _ (by have := H0.out; show _ = 0; omega)).mono ?_
                      rintro e w5 ⟨A5, m5, c5, x5, f5, rfl, rfl, hf5, o5, h5, k5, hst⟩
                      rw [List.append_nil] at h5 hst
                      obtain ⟨A6, c6, w6, y1, hrun, y2, y3, y4, y5, y6, y7, y8, y9⟩ := Fin.out A5 c5 x5 f5 w5 hf5 o5 h5 k5 hst
                      have Hy4 := Lib.hid y4
                      clear hst y4 o5 h5 k5
                      go_wp2_with (at_builtin; refine wpList_append_run hrun rfl rfl rfl rfl rfl ?_)
                      go_roundw
                      case rel =>
                        refine ⟨0, j + 1, by omega, by go_num, rfl, Nat.zero_le _, fun e => H0.out.symm, ?_⟩
                        simp only [Ht.out]
                        exact ⟨⟨A6, c6, _, Hy4.out, rfl, y5⟩, y6, y7, y8, y9⟩
                      case measure => simp [intOf]; omega
                    · have hjc2 : j = len2 := by omega
                      have m5 : ¬ (j : Int) < (len2 : Int) := by omega
                      have Hjc := Lib.hid hjc2
                      clear hjc2
                      go_wp2_with fail
                      refine (HF.out _ _ _ (by have := H0.out; show _ = 0; omega)).mono ?_
                      rintro e w5 ⟨A5, m5, c5, x5, f5, rfl, rfl, hf5, o5, h5, k5, hst⟩
                      rw [List.append_nil] at h5 hst
                      obtain ⟨A6, c6, w6, y1, hrun, y2, y3, y4, y5, y6, y7, y8, y9⟩ := Fin.out A5 c5 x5 f5 w5 hf5 o5 h5 k5 hst
                      have Hy4 := Lib.hid y4
                      clear hst y4 o5 h5 k5
                      go_wp2_with (at_builtin; refine wpList_append_run hrun rfl rfl rfl rfl rfl ?_)
                      go_roundw
                      case rel =>
                        refine ⟨b.length, j + 1, by have := Hjc.out; omega, by go_num, rfl, Nat.le_refl _, fun e => rfl, ?_⟩
                        simp only [Ht.out]
                        exact ⟨⟨A6, c6, _, Hy4.out, rfl, y5⟩, y6, y7, y8, y9⟩
                      case measure => have := Hjc.out; simp [intOf]; omega
                  · have hca2 := hca
                    cases e'
                    have Hpr : RdB wr wr.heap.size (some ⟨bb, off + at_, none⟩) ((b.drop at_).take (T - at_)) := by
                      have := piece_rd (to := T) (HhR.out.below hbw3) hbw3.size hat hm1
                      rwa [if_neg hca] at this
                    have hFd := Lib.hid (feed_step g (b.take at_) ((b.drop at_).take (T - at_)) (some ⟨bb, off + at_, none⟩) (T - at_) (cap0 - at_) Hlp.out.symm (by rw [Hlt.out]; omega) wr HHd.out Hpr (by simp))
                    by_cases hjl : j < len2
                    · obtain ⟨bc, oc, rfl, -, hcc⟩ := Rd.at_ (hS2.below hbw3) (k := j) hjl
                      have m5 : (j : Int) < (len2 : Int) := by omega
                      have m6 : min (b.length : Int) ((at_ : Int) + (q2 j : Int) % 40) = (T : Int) := by rw [HTe.out, if_pos hjl]; omega
                      have m7 := hq2 j hjl
                      go_wp2_with fail
                      refine (hFd.out).mono ?_
                      rintro e w5 ⟨A5, m5, c5, x5, f5, rfl, rfl, hf5, o5, h5, k5, hst⟩
                      rw [HTs.out] at h5 hst
                      obtain ⟨A6, c6, w6, y1, hrun, y2, y3, y4, y5, y6, y7, y8, y9⟩ := Fin.out A5 c5 x5 f5 w5 hf5 o5 h5 k5 hst
                      have Hy4 := Lib.hid y4
                      clear hst y4 o5 h5 k5
                      go_wp2_with (at_builtin; refine wpList_append_run hrun rfl rfl rfl rfl rfl ?_)
                      go_roundw
                      case rel => exact ⟨T, j + 1, by omega, by go_num, rfl, by omega, fun e => HT3.out (by omega), ⟨A6, c6, _, Hy4.out, rfl, y5⟩, y6, y7, y8, y9⟩
                      case measure => simp [intOf]; omega
                    · have hjc2 : j = len2 := by omega
                      have hTb := HT3.out hjc2
                      subst hTb
                      have Fin2 := Fin.out
                      simp only [List.take_length] at Fin2
                      have Fin := Lib.hid Fin2
                      clear Fin2
                      have m5 : ¬ (j : Int) < (len2 : Int) := by omega
                      have Hjc := Lib.hid hjc2
                      clear hjc2
                      go_wp2_with fail
                      refine (hFd.out).mono ?_
                      rintro e w5 ⟨A5, m5, c5, x5, f5, rfl, rfl, hf5, o5, h5, k5, hst⟩
                      rw [HTs.out, List.take_length] at h5 hst
                      obtain ⟨A6, c6, w6, y1, hrun, y2, y3, y4, y5, y6, y7, y8, y9⟩ := Fin.out A5 c5 x5 f5 w5 hf5 o5 h5 k5 hst
                      have Hy4 := Lib.hid y4
                      clear hst y4 o5 h5 k5
                      go_wp2_with (at_builtin; refine wpList_append_run hrun rfl rfl rfl rfl rfl ?_)
                      go_roundw
                      case rel =>
                        refine ⟨b.length, j + 1, by have := Hjc.out; omega, by go_num, rfl, Nat.le_refl _, fun e => rfl, ?_⟩
                        simp only [List.take_length]
                        exact ⟨⟨A6, c6, _, Hy4.out, rfl, y5⟩, y6, y7, y8, y9⟩
                      case measure => have := Hjc.out; simp [intOf]; omega
            · obtain rfl : j = len2 + 1 := by omega
              obtain rfl := hlast.out rfl
              simp only [List.take_length] at hn ho hH hbx
              obtain rfl := hn.out
              obtain ⟨Ag, cg, hG, -⟩ := hH
              have Hho := Lib.hid ho
              have Hhg := Lib.hid hG
              clear ho hG
              have m4 : ¬ ((len2 : Int) + 1 ≤ (len2 : Int)) := by omega
              have hb1' := heap_kept hkw hb1 (by omega)
              have hb2' := heap_kept hkw hb2 (by omega)
              obtain ⟨y9, hV1⟩ : ∃ V : Int, V = (((stream b).2.1.length : Nat) : Int) := ⟨_, rfl⟩
              have hb2'' := heap_kept (S := fun x => x ≠ G + 1) ((Kept.refl _ wr).setCell (p := ⟨G + 1, 1, none⟩) (by simp) (.int .i64 y9)) hb2' (by omega)
              have hk2 : Kept (fun x => x ≠ G + 1 ∧ x ≠ G + 2) wr ((wr.setCell ⟨G + 1, 1, none⟩ (.int .i64 y9)).setCell ⟨G + 2, 1, none⟩ (.bool (stream b).2.2)) := ((Kept.refl _ wr).setCell (by simp) _).setCell (by simp) _
              have hG2 : GB (wr.setCell ⟨G + 1, 1, none⟩ (.int .i64 y9)) g _ _ := heap_kept (S := fun x => x ≠ G + 1) ((Kept.refl _ wr).setCell (by simp) (.int .i64 y9)) Hhg.out (by omega)
              have z1 : (wr.setCell ⟨G + 1, 1, none⟩ (.int .i64 y9)).heap[G + 1]? = some (.cells #[.int .i64 x0, (.int .i64 y9)] 50 (0, 0)) := heap_setCell_same wr (G + 1) 1 _ _ (.int .i64 y9) hb1'
              have z2 := heap_kept (S := fun x => x ≠ G + 2) ((Kept.refl _ (wr.setCell ⟨G + 1, 1, none⟩ (.int .i64 y9))).setCell (p := ⟨G + 2, 1, none⟩) (by simp) (.bool (stream b).2.2)) z1 (by omega)
              have z3 : ((wr.setCell ⟨G + 1, 1, none⟩ (.int .i64 y9)).setCell ⟨G + 2, 1, none⟩ (.bool (stream b).2.2)).heap[G + 2]? = some (.cells #[.bool r0, .bool (stream b).2.2] 51 (0, 0)) := heap_setCell_same _ (G + 2) 1 _ _ (.bool (stream b).2.2) hb2''
              have z0 := heap_kept hk2 hbx (by omega)
              have zf := (Hho.out.mono (base := G + 3) (S := fun j => G + 3 ≤ j) (by omega) (fun b hb => by omega)).rdF (fun b hb => hb)
              have zd := zf.turn hk2 (fun b _ hb => ⟨by omega, by omega⟩)
              have hka := (hkw.mono (S' := fun j => G + 3 ≤ j ∧ j < g) (fun k _ hk => .inl hk)).trans (hk2.mono (fun k _ hk => ⟨by omega, by omega⟩))
              have hbf := hbw3.trans ((hk2.mono (S' := fun j => j < w.heap.size) (fun k _ hk => ⟨by omega, by omega⟩)).below hbw3.size (fun k hk => hk))
              have hsf := hk2.size
              have s1 := blk_cell hb1' 1 rfl
              have s2 := blk_frozen hb1' 1
              have s3 := blk_cell hb2'' 1 rfl
              have s4 := blk_frozen hb2'' 1
              have Z0 := Lib.hid z0
              have Z1 := Lib.hid z2
              have Z2 := Lib.hid z3
              have Zd := Lib.hid zd
              have Zk := Lib.hid hka
              have Zb := Lib.hid hbf
              have Zs := Lib.hid hsf
              have HG2 := Lib.hid hG2
              have HV1 := Lib.hid hV1
              clear z0 z1 z2 z3 zd zf hka hbf hsf hG2 hV1 hk2 hb1' hb2' hb2'' hbx
              go_wp2_with fail
              refine (left_calls g Ag _ cg _ wr Hhg.out).mono ?_
              rintro e w' ⟨rfl, rfl⟩
              rw [← HV1.out]
              go_wp2_with fail
              refine (isBroken_calls g _ _ _ HG2.out).mono ?_
              rintro e w' ⟨rfl, rfl⟩
              go_wp2_with fail
              go_roundw
              case rel =>
                obtain rfl := HV1.out
                exact ⟨2, by omega, by go_num, _, _, _, _, _, _, Z0.out, Z1.out, Z2.out, fun _ => (hd0.out (by omega)).turn (Zk.out.mono fun j _ hj => by rw [← Hg.out]; exact hj), fun _ => ⟨A, c, rfl, Zd.out, rfl, rfl⟩, fun h => by omega, fun h => by omega, Zb.out, Nat.le_trans (by omega) Zs.out⟩
              case measure => simp [intOf]
        · obtain rfl : k = 2 := by omega
          obtain ⟨A, c, rfl, f1, rfl, rfl⟩ := hd0.out (by omega)
          obtain ⟨B, d, rfl, f2, rfl, rfl⟩ := hd1.out (by omega)
          have hm := stream_many _ b (Nat.le_refl _)
          have H1 := Lib.hid f1
          have H2 := Lib.hid f2
          have HB0 := Lib.hid hb0
          have HB1 := Lib.hid hb1
          have HB2 := Lib.hid hb2
          clear hd0 hd1 hn0 hn1 f1 f2
          have s0 := blk_cell hb0 0 rfl
          have s1 := blk_cell hb0 1 rfl
          clear hb0 hb1 hb2
          go_wp2_with fail
          refine (refAll_same (stream b).1 A B _ _ c d rfl rfl wr (fun j => G + 3 ≤ j) H1.out H2.out (by omega)).mono ?_
          rintro e w' ⟨rfl, hb'⟩
          have u1 := blk_cell (blk_below HB1.out hb') 0 rfl
          have u2 := blk_cell (blk_below HB1.out hb') 1 rfl
          have u3 := blk_cell (blk_below HB2.out hb') 0 rfl
          have u4 := blk_cell (blk_below HB2.out hb') 1 rfl
          go_wp2_with fail
          go_ret
          exact ⟨rfl, hbw.trans (hb'.mono hbw.size)⟩
end Go.Proofs.Ytmfngkhpaadehaa
