/-
  Feed of package mbap, walked. Conditions: at most 1,000,000 bytes in all.
-/
import Derived.Test.YtmfngkhpaadehaaMbapIter
namespace Go.Proofs.Ytmfngkhpaadehaa
open Go Go.RowKit Go.Kw Go.Kw.Mb Go.Shelf
attribute [local go_sem] Oper.semAt_some
set_option linter.unusedVariables false
set_option linter.unusedSimpArgs false

def FeedPost (w w' : World) (e : Ending) (g : Nat) (l : List UInt8) : Prop :=
  ∃ A c, e = .returned (.tuple #[.slice A (stream l).1.length c, .int .i64 (if (stream l).2.2 then 210 else 0)]) ∧ OwF w' w.heap.size (fun b => w.heap.size ≤ b) (.slice A (stream l).1.length c) (stream l).1 ∧ HoldEnd w' (fun b => w.heap.size ≤ b) g (stream l).2.1 (stream l).2.2 ∧ Kept (fun b => b ≠ g) w w'

theorem feed_broken (g : Nat) (v : Value) (A : Option Addr) (n c : Nat) (w : World) (h : GB w g v true) :
    Calls Try.prog 16 #[.pointer (some ⟨g, 0, none⟩), .slice A n c] w fun e w' => e = .returned (.tuple #[.slice none 0 0, .int .i64 210]) ∧ w = w' := by
  have c1 := h.c1
  clear h
  go_enter Try.func16, Try.ntmps16
  go_wp2
  go_ret2
  exact ⟨rfl, rfl⟩
theorem feed_none (A : Option Addr) (n c : Nat) (w : World) :
    Calls Try.prog 16 #[.pointer none, .slice A n c] w fun e w' => e = .returned (.tuple #[.slice none 0 0, .int .i64 1]) ∧ w = w' := by
  go_enter Try.func16, Try.ntmps16
  go_wp2
  go_ret2
  exact ⟨rfl, rfl⟩

theorem stream_many : ∀ (n : Nat) (l : List UInt8), l.length ≤ n → 8 * (stream l).1.length ≤ l.length
  | 0, l, h => by
    have : l = [] := List.eq_nil_of_length_eq_zero (by omega)
    subst this; decide
  | n + 1, l, h => by
    cases hb : brk l with
    | true => rw [stream_broken hb]; simp
    | false =>
      cases hw : whl l with
      | false => rw [stream_short hb hw]; simp
      | true =>
        have hf := flen_ge hb hw
        have := stream_many n (l.drop (flen l)) (by rw [List.length_drop]; omega)
        rw [stream_whole hb hw]
        rw [List.length_drop] at this
        simp only [List.length_cons]; omega
theorem stream_left : ∀ (n : Nat) (l : List UInt8), l.length ≤ n → (stream l).2.1.length ≤ l.length
  | 0, l, h => by
    have : l = [] := List.eq_nil_of_length_eq_zero (by omega)
    subst this; decide
  | n + 1, l, h => by
    cases hb : brk l with
    | true => rw [stream_broken hb]; simp
    | false =>
      cases hw : whl l with
      | false => rw [stream_short hb hw]; simp
      | true =>
        have hf := flen_ge hb hw
        have := stream_left n (l.drop (flen l)) (by rw [List.length_drop]; omega)
        rw [stream_whole hb hw]
        rw [List.length_drop] at this
        show (stream (l.drop (flen l))).2.1.length ≤ l.length
        omega

theorem HoldEnd.own (B₀ : Nat) (S : Nat → Prop) (g : Nat) (l : List UInt8) (br : Bool) : OwnW B₀ (fun W => HoldEnd W S g l br) :=
  OwnW.ex fun _ => OwnW.ex fun _ => (GB.own B₀).and ((RdY.own B₀ _ _ _).and (OwnW.const _))
theorem Hold.own (B₀ : Nat) (S : Nat → Prop) (B g : Nat) (l : List UInt8) : OwnW B₀ (fun W => Hold W S B g l) :=
  (cell_own B₀ _ _).and (OwnW.ex fun _ => OwnW.ex fun _ => (GB.own B₀).and ((RdY.own B₀ _ _ _).and (OwnW.const _)))
theorem size_own (B₀ n : Nat) : OwnW B₀ (fun W => n ≤ W.heap.size) := fun _ _ _ h hg _ => Nat.le_trans h hg.size
/-- What the rounds of Feed keep: the result's box and row. -/
def FeedI (w : World) (M g : Nat) (fs : List Fr) (k : Nat) (W : World) : Prop :=
  (∃ A c, Boxed W M 26 (.slice A (fs.take k).length c) ∧ OwF W (M + 2) (fun b => w.heap.size ≤ b ∧ b ≠ M) (.slice A (fs.take k).length c) (fs.take k)) ∧ Kept (fun b => b ≠ g) w W ∧ M + 2 ≤ W.heap.size
theorem FeedI.own (w : World) (M g : Nat) (fs : List Fr) (hM : w.heap.size ≤ M) (k : Nat) : OwnW (M + 2) (FeedI w M g fs k) :=
  (OwnW.ex fun _ => OwnW.ex fun _ => (boxed_ownW _ _ _ _).and (OwF.own _)).and ((kept_own (by omega)).and (size_own _ _))
theorem FeedI.ab {w : World} {M g : Nat} {fs : List Fr} (hM : w.heap.size ≤ M) (hg : g < w.heap.size) {k : Nat} {X Y : World} (h : FeedI w M g fs k X) (hk : Kept (fun b => b ≠ g) X Y) : FeedI w M g fs k Y := by
  obtain ⟨⟨A, c, h1, h2⟩, h3, h4⟩ := h
  exact ⟨⟨A, c, heap_kept hk h1 (by omega), h2.keptX hk (fun b hb => by omega) (fun b hb => by have := hb.1; omega)⟩, h3.trans hk, Nat.le_trans h4 hk.size⟩
theorem own_rdY {W : World} {S : Nat → Prop} {base n c : Nat} {e : TypeId} {A : Option Addr} {l : List UInt8} (h : W.ownsRow base e 1 (.slice A n c) n (bv l)) (hs : ∀ b cur, base ≤ b → W.heap[b]? = some (.cells cur e (0, 0)) → S b) : RdY W S A l := by
  have hr := rdB_own h
  rcases h.2 with ⟨h', h0⟩ | ⟨g, cap, cur, h', hb, hg, -⟩
  · exact .inl (by omega)
  · injection h' with h1 _ _
    subst h1
    rcases hr.1 with h0 | ⟨b, off, e', hlt, hc⟩
    · exact .inl h0
    · injection e' with e'; injection e' with e1 e2; subst e1 e2
      exact .inr ⟨g, 0, rfl, hs g cur hb hg, hlt, hc⟩

set_option maxRecDepth 100000 in
set_option maxHeartbeats 4000000 in
theorem feed_calls (g : Nat) (rest : List UInt8) (A : Option Addr) (c : Nat) (b : List UInt8) (hl : rest.length + b.length ≤ 500000) (w : World) {S0 : Nat → Prop} (h : HoldEnd w S0 g rest false) (hR : RdB w w.heap.size A b) (hz : A = none → b.length = 0) :
    Calls Try.prog 16 #[.pointer (some ⟨g, 0, none⟩), .slice A b.length c] w fun e w' => FeedPost w w' e g (rest ++ b) := by
  obtain ⟨A0, c0, hG, hR0, hz0, hc0, hc0'⟩ := h
  have hgl := hG.lt
  have hF := wide_fn
  obtain ⟨l, hl'⟩ : ∃ l, rest ++ b = l := ⟨_, rfl⟩
  obtain ⟨fs, hfs⟩ : ∃ fs, (stream l).1 = fs := ⟨_, rfl⟩
  have hll : l.length ≤ 500000 := by rw [← hl', List.length_append]; exact hl
  have hlen : l.length = rest.length + b.length := by rw [← hl', List.length_append]
  have hmany := stream_many _ l (Nat.le_refl _)
  rw [hfs] at hmany
  rw [hl']
  obtain ⟨W1, hW1⟩ : ∃ W1, w.alloc (.cells #[.slice A0 rest.length c0, .slice A b.length c] 22) = W1 := ⟨_, rfl⟩
  have hb1 : Below w.heap.size w W1 := by rw [← hW1]; exact bstep w _
  have k1 := blk_new w #[.slice A0 rest.length c0, .slice A b.length c] 22
  rw [hW1] at k1
  have hs1 : W1.heap.size = w.heap.size + 1 := by rw [← hW1]; simp
  have hcc := concat_calls (some ⟨w.heap.size, 0, none⟩) 2 2 (fun i => if i = 0 then (A0, c0) else (A, c)) (fun i => if i = 0 then rest else b) (by omega)
    (by unfold allB; simp [List.range_succ]; omega) W1
    (.inr ⟨w.heap.size, 0, rfl, by omega, fun i hi => by match i, hi with | 0, _ => exact blk_cell k1 0 rfl | 1, _ => exact blk_cell k1 1 rfl⟩)
    (fun k hk => by
      match k, hk with
      | 0, _ => exact ⟨(RdY.go hR0 hb1).rd, hz0⟩
      | 1, _ => exact ⟨hR.go hb1, hz⟩)
  have hab : allB (fun i => if i = 0 then rest else b) 2 = l := by rw [← hl']; unfold allB; simp [List.range_succ]
  rw [hab] at hcc
  have Hcc := Lib.hid hcc
  have c0' := hG.c0
  have c1' := hG.c1
  have HB1 := Lib.hid hb1
  have HG1 := hG.below hb1
  have e0 := HG1.c0
  have HS1 := Lib.hid hs1
  have Hfs := Lib.hid hfs
  have Hl := Lib.hid hlen
  clear hcc hab hR0 hR hz hz0 hc0 hc0' hl' k1 hs1 hb1 hfs hlen
  refine calls_of_marks Try.func16 rfl ?_
  simp only [Try.ntmps16, List.size_toArray, List.length_cons, List.length_nil, Nat.reduceAdd, Nat.reduceSub, Array.replicate_succ, Array.replicate_zero, List.push_toArray, List.append_toArray, List.nil_append, List.cons_append]
  gi_wp2_with (first | (refine wpIn_scope ?_) | (refine wpIn_label ?_) | (gi_at_call 25; refine (callsIn_wide.2 Hcc.out).mono ?_; rintro e w2 ⟨A2, c2, rfl, o2, hb2⟩; have G2 := HG1.below hb2; have g0 := G2.c0; have g1 := G2.fr 0) | (gi_at_call 26; refine (callsIn_wide.2 (frames_calls _ _)).mono ?_; rintro e w' ⟨rfl, rfl⟩))
  obtain ⟨M, hM⟩ : ∃ M, w2.heap.size = M := ⟨_, rfl⟩
  have hM1 : w.heap.size + 1 ≤ M := by have := hb2.size; have := HS1.out; omega
  obtain ⟨W5, hW5⟩ : ∃ W5, ((w2.setCell ⟨g, 0, none⟩ (.slice A2 l.length c2)).alloc (.cells #[.slice none 0 0] 26)).alloc (.cells #[.pointer (some ⟨g, 0, none⟩)] 39) = W5 := ⟨_, rfl⟩
  have hsz5 : W5.heap.size = M + 2 := by rw [← hW5]; simp [hM]
  have bx5 : Boxed W5 M 26 (.slice none 0 0) := by
    have := (Boxed.new (w2.setCell ⟨g, 0, none⟩ (.slice A2 l.length c2)) 26 (.slice none 0 0)).alloc (.cells #[.pointer (some ⟨g, 0, none⟩)] 39)
    rw [hW5] at this; simpa [hM] using this
  have bB5 : W5.cell? ⟨M + 1, 0, none⟩ = some (.pointer (some ⟨g, 0, none⟩)) := by
    have := (Boxed.new ((w2.setCell ⟨g, 0, none⟩ (.slice A2 l.length c2)).alloc (.cells #[.slice none 0 0] 26)) 39 (.pointer (some ⟨g, 0, none⟩))).cell
    rw [hW5] at this; simpa [hM] using this
  have hk5 : ∀ S : Nat → Prop, ¬ S g → Kept S w2 W5 := fun S hS => by rw [← hW5]; exact (((Kept.refl S w2).setCell (p := ⟨g, 0, none⟩) hS _).alloc _).alloc _
  have G5 : GB W5 g (.slice A2 l.length c2) false := by
    rw [← hW5]; exact ((G2.set0 (.slice A2 l.length c2)).below (bstep _ _)).below (bstep _ _)
  have K5 : Kept (fun b => b ≠ g) w W5 := ((HB1.out.keptS _).trans (hb2.keptS _)).trans (hk5 _ (by simp))
  obtain ⟨-, -, -, q1, q2, q3, -⟩ := own_form o2
  have Hold5 : Hold W5 (fun b => w.heap.size ≤ b ∧ b < M) (M + 1) g l := by
    obtain ⟨A3, c3, e3, q1, q2, q3, -⟩ := own_form o2
    injection e3 with e3 _ e4
    subst e3 e4
    refine ⟨bB5, A2, c2, G5, ?_, fun h => (q3 h).1, q1, by unfold maxLen at q2; omega⟩
    refine RdX.kept ?_ (hk5 _ (by simp; omega))
    have h0 : RdY w2 (fun b => W1.heap.size ≤ b) A2 l := RdY.of_own o2 (fun b hb => hb)
    exact RdX.mono' h0 (fun b hb hh => ⟨by have := HS1.out; omega, by omega⟩)
  rw [hW5]
  rw [hM] at *
  clear hW5 hk5 G5 bB5 o2 hb2 G2 g0 g1 c0' c1' HG1 e0 hM
  refine wpIn_rangeV rfl (by decide) (gf := 29) (lb := #[.pointer (some ⟨M + 1, 0, none⟩)]) rfl trivial (enters_of Try.func29 (by kernel_rfl) rfl)
    (frames_seq (fun b => w.heap.size ≤ b ∧ b < M) (M + 1) g w.heap.size (fun b hb => by have := hb.1; omega) l (by omega) (by omega) hgl) (fun X Y h => h.2) (fun k v W hv => by obtain ⟨A5, c5, rfl, -⟩ := hv; rfl)
    ((Hold.own _ _ _ _ _).and (size_own _ _)) (fun k => (Hold.own _ _ _ _ _).and (size_own _ _)) (HoldEnd.own _ _ _ _ _) (fun _ => OwnW.const _) ⟨Hold5, by omega⟩
    (FeedI w M g fs) (fun _ _ _ => False) (fun k => by rw [hsz5]; exact FeedI.own w M g fs (by omega) k) (fun _ _ => OwnW.const _) (fun k X Y h hab => h.ab (by omega) hgl hab.1) (fun _ _ _ _ h _ => h)
    ⟨⟨none, 0, by simpa using bx5, OwF.nil _ _ _⟩, K5, by omega⟩ ?round ?done ?stop
  case round =>
    rintro lo k x W hkN hV hI hG
    obtain ⟨A5, c5, rfl, o5⟩ := hV
    obtain ⟨f, hf⟩ : ∃ f, fr (restAt l k) = f := ⟨_, rfl⟩
    rw [hf] at o5 ⊢
    have Hf := Lib.hid hf
    unfold fv
    have oI := (FeedI.own w M g fs (by omega) k).alloc (.cells #[.int .i64 f.1, .int .i64 f.2.1, .slice A5 f.2.2.length c5] 24) hI
    have oG := (((Hold.own (M + 2) (fun b => w.heap.size ≤ b ∧ b < M) (M + 1) g (restAt l (k + 1))).and (size_own (M + 2) w.heap.size))).alloc (.cells #[.int .i64 f.1, .int .i64 f.2.1, .slice A5 f.2.2.length c5] 24) hG
    have b7 := blk_new W #[.int .i64 f.1, .int .i64 f.2.1, .slice A5 f.2.2.length c5] 24
    have o7 := o5.alloc (.cells #[.int .i64 f.1, .int .i64 f.2.1, .slice A5 f.2.2.length c5] 24)
    have HI := Lib.hid hI
    have HG := Lib.hid hG
    clear hf hI hG o5 bx5 K5 Hold5
    gi_wp2
    refine ⟨KeepsOthers.alloc _ _, oI, oG, fun X => X.heap[W.heap.size]? = some (.cells #[.int .i64 f.1, .int .i64 f.2.1, .slice A5 f.2.2.length c5] 24 (0, 0)) ∧ X.ownsRow w.heap.size 5 1 (.slice A5 f.2.2.length c5) f.2.2.length (bv f.2.2), block_ownW.and own_ownW, ⟨b7, o7⟩, ?_⟩
    rintro X ⟨hx7, hy7⟩ hI1 hG1 hszX
    obtain ⟨⟨A6, c6, hbx, ho⟩, hkX, hMX⟩ := hI1
    have hlk : (fs.take k).length = k := by simp; rw [Hfs.out] at hkN; omega
    have hklt : k < fs.length := by rw [Hfs.out] at hkN; exact hkN
    rw [hlk] at hbx
    have hpd : RdY X (fun b => (w.heap.size ≤ b ∧ b ≠ M) ∧ some b ≠ (Value.slice A6 (fs.take k).length c6).ownBlock) A5 f.2.2 := by
      refine own_rdY hy7 fun b cur hb hcur => ⟨⟨hb, ?_⟩, ?_⟩
      · rintro rfl
        rw [show X.heap[b]? = _ from hbx] at hcur
        injection hcur with hcur; injection hcur with _ h2 _
        exact absurd h2 (by decide)
      · obtain ⟨ps, hrow, -⟩ := ho
        rcases hrow.2 with ⟨h', -⟩ | ⟨g2, cap2, cur2, h', -, hg2, -⟩
        · rw [h']; simp [Value.ownBlock]
        · rw [h']
          simp only [Value.ownBlock, ne_eq, Option.some.injEq]
          rintro rfl
          rw [hg2] at hcur
          injection hcur with hcur; injection hcur with _ h2 _
          exact absurd h2 (by decide)
    obtain ⟨A7, c7, e7, r1, r2, r3, -⟩ := own_form hy7
    injection e7 with e7 _ e8
    subst e7 e8
    obtain ⟨A8, c8, w8, hrun, ho8, hg8, hr8, -⟩ := OwF.push ho f (c := c5) hpd (fun h => (r3 h).1) r1 (by unfold maxLen at r2; omega) hMX (by rw [hlk]; omega)
    rw [hlk] at hrun ho8
    have hbx8 : Boxed w8 M 26 (.slice A6 k c6) := by
      obtain ⟨ps, hrow, -⟩ := ho
      exact (hbx.alloc _).kept hg8 (hbx.not_row (by decide) hrow)
    have hbx9 := hbx8.set (.slice A8 (k + 1) c8)
    have ho9 := ho8.keptX (S1 := fun b => b ≠ M) ((Kept.refl _ w8).setCell (p := ⟨M, 0, none⟩) (by simp) (.slice A8 (k + 1) c8)) (fun b hb => by omega) (fun b hb => hb.2)
    have hk9 : ∀ S : Nat → Prop, (∀ b, S b → b < M + 2 ∧ b ≠ M) → Kept S X (w8.setCell ⟨M, 0, none⟩ (.slice A8 (k + 1) c8)) := fun S hS =>
      ((((Kept.refl S X).alloc _).grown hg8 (fun j hj => .inr (fun h => by have := hr8 j hj; have := hS j h; omega))).setCell (p := ⟨M, 0, none⟩) (fun h => (hS _ h).2 rfl) _)
    have hkg : Kept (fun b => b ≠ g) w (w8.setCell ⟨M, 0, none⟩ (.slice A8 (k + 1) c8)) :=
      ((hkX.alloc _).grown hg8 (fun j hj => .inl (by have := hr8 j hj; omega))).setNew (by simp; omega) _
    have hko : KeepsOthers X (w8.setCell ⟨M, 0, none⟩ (.slice A8 (k + 1) c8)) := by
      refine ((KeepsOthers.alloc X _).trans (KeepsOthers.of_grownBy hg8 fun j o ej hj => ?_)).trans (KeepsOthers.setCell _ _ _)
      obtain ⟨ps, hrow, -⟩ := ho
      rcases hrow.2 with ⟨h', -⟩ | ⟨g2, cap2, cur2, h', -, hg2, -⟩
      · rw [h'] at ej; simp [Value.ownBlock] at ej
      · rw [h'] at ej
        obtain rfl : g2 = j := by simpa [Value.ownBlock] using ej
        rw [Below.heap_alloc _ _ _ (Array.getElem?_eq_some_iff.1 hg2).1, hg2] at hj
        cases hj; rfl
    have d0 := hbx.cell
    have x0 := blk_cell hx7 0 rfl
    have x1 := blk_cell hx7 1 rfl
    have x2 := blk_cell hx7 2 rfl
    have d8 := hbx8.cell
    have f8 := hbx8.frozen
    have Hlk := Lib.hid hlk
    have Hho := Lib.hid ho
    have Hho9 := Lib.hid ho9
    have HhG := Lib.hid hG1
    have Hbx9 := Lib.hid hbx9
    have Hk9 := Lib.hid hk9
    clear hlk ho ho9 ho8 hG1 hbx9 hk9 hpd hy7 hbx hbx8 r1 r2 r3 oI oG b7 o7
    gi_wp2_with (gi_at_builtin; refine wpListIn_append_run hrun rfl rfl rfl rfl rfl ?_)
    refine ⟨hko, ⟨?_, ?_⟩, ⟨A8, c8, ?_, ?_⟩, hkg, ?_⟩
    · obtain ⟨⟨y1, A4, c4, y2, y3, y4⟩, y5⟩ := HhG.out
      have hk := Hk9.out (fun b => b < M + 2 ∧ b ≠ M) (fun b hb => hb)
      exact ⟨(World.cell?_of_block (a := ⟨M + 1, 0, none⟩) (hk.block (M + 1) (block_lt y1) ⟨by omega, by omega⟩)).trans y1, A4, c4, heap_kept hk y2 ⟨by omega, by omega⟩, y3.kept (hk.mono fun b _ hb => ⟨by omega, by omega⟩), y4⟩
    · exact Nat.le_trans HhG.out.2 hko.size
    · have e : (fs.take (k + 1)).length = k + 1 := by simp; omega
      rw [e]; exact Hbx9.out
    · have e : (fs.take (k + 1)).length = k + 1 := by simp; omega
      rw [e, List.take_succ_eq_append_getElem hklt]
      have e2 : fs[k] = f := by
        obtain ⟨-, -, e3⟩ := restAt_lt l k (by rw [Hfs.out]; exact hklt)
        rw [Hfs.out, List.getElem?_eq_getElem hklt, Hf.out] at e3
        injection e3
      rw [e2]; exact Hho9.out
    · exact Nat.le_trans hMX hko.size
  case done =>
    rintro D W hD hI hE hK
    obtain ⟨⟨A6, c6, hbx, ho⟩, hkX, hMX⟩ := hI
    rw [Hfs.out] at hbx ho
    rw [List.take_length] at hbx ho
    have hG9 := hE
    obtain ⟨A9, c9, G9, -⟩ := hG9
    have d0 := hbx.cell
    have d1 := G9.c1
    have hdD : w.heap.size ≤ D := by omega
    have post : ∀ (o : Obj) (x : Int), x = (if (stream l).2.2 then 210 else 0) → FeedPost w (W.putObj D o) (.returned (.tuple #[.slice A6 fs.length c6, .int .i64 x])) g l := fun o x hx => by
      subst hx
      refine ⟨A6, c6, by rw [Hfs.out], ?_, ?_, hkX.putObj hdD _⟩
      · rw [Hfs.out]
        exact ((OwF.own (M + 2)).putObj _ ho (by omega) hK rfl).mono (by omega) (fun b hb => hb.1)
      · have := (HoldEnd.own (M + 2) _ _ _ _).putObj o hE (by omega) hK rfl
        obtain ⟨a1, a2, a3, a4, a5⟩ := this
        exact ⟨a1, a2, a3, RdX.mono a4 (fun b hb => hb.1), a5⟩
    have Post := Lib.hid post
    obtain ⟨br, hbr⟩ : ∃ br, (stream l).2.2 = br := ⟨_, rfl⟩
    rw [hbr] at Post d1
    clear post ho hE G9 hbx hbr
    cases br with
    | true =>
      gi_wp2
      refine ⟨by simp, .inl ⟨_, _, rfl, run_takeDeferred hK, ?_⟩⟩
      exact ⟨_, results_tmp2 rfl _ _ _, Post.out _ 210 rfl⟩
    | false =>
      gi_wp2
      refine ⟨by simp, .inl ⟨_, _, rfl, run_takeDeferred hK, ?_⟩⟩
      exact ⟨_, results_tmp2 rfl _ _ _, Post.out _ 0 rfl⟩
  case stop =>
    rintro D c k W _ _ h _ _
    exact h.elim
end Go.Proofs.Ytmfngkhpaadehaa
