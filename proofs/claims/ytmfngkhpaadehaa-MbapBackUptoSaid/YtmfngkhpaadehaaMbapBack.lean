/-
  The walk of MbapBack. Conditions: the bulk of what is read is bounded (the second form of the statement).
-/
import Derived.Test.YtmfngkhpaadehaaMbapOpen2
import Derived.Test.YtmfngkhpaadehaaMbapGathers
namespace Go.Proofs.Ytmfngkhpaadehaa
open Go Go.RowKit Go.Kw Go.Kw.Mb
set_option linter.unusedVariables false
set_option linter.unusedSimpArgs false

def goods (fs : List Fr) (k : Nat) : List Fr := (fs.take k).filter mayF
def goodB (fs : List Fr) (k : Nat) : List UInt8 := (goods fs k).flatMap bytesOf
theorem goods_succ (fs : List Fr) (k : Nat) (h : k < fs.length) : goods fs (k + 1) = if mayF (frd fs k) then goods fs k ++ [frd fs k] else goods fs k := by
  unfold goods
  have := frd_get h
  rw [List.getElem?_eq_getElem h] at this
  injection this with this
  rw [List.take_succ_eq_append_getElem h, List.filter_append, this]
  cases hm : mayF (frd fs k) with
  | true => rw [List.filter_cons_of_pos hm, List.filter_nil]; rfl
  | false => rw [List.filter_cons_of_neg (by simp [hm]), List.filter_nil, List.append_nil]; rfl
theorem goodB_succ (fs : List Fr) (k : Nat) (h : k < fs.length) (hm : mayF (frd fs k) = true) : goodB fs (k + 1) = goodB fs k ++ bytesOf (frd fs k) := by
  unfold goodB; rw [goods_succ fs k h, if_pos hm, List.flatMap_append]; simp
theorem goodB_skip (fs : List Fr) (k : Nat) (h : k < fs.length) (hm : mayF (frd fs k) = false) : goodB fs (k + 1) = goodB fs k := by
  unfold goodB; rw [goods_succ fs k h, if_neg (by simp [hm])]
theorem goodB_len (fs : List Fr) : ∀ k, (goodB fs k).length ≤ great fs k := fun k => by
  unfold goodB goods great
  generalize fs.take k = l
  induction l with
  | nil => simp
  | cons x l ih =>
    simp only [List.map_cons, List.sum_cons]
    cases hx : mayF x with
    | true => rw [List.filter_cons_of_pos hx, List.flatMap_cons, List.length_append, bytesOf_length]; omega
    | false => rw [List.filter_cons_of_neg (by simp [hx])]; omega
theorem goods_len (fs : List Fr) (k : Nat) : (goods fs k).length ≤ k := by
  unfold goods
  exact Nat.le_trans (List.length_filter_le _ _) (by simp; omega)
theorem great_many (fs : List Fr) (k : Nat) (h : k ≤ fs.length) : 7 * k ≤ great fs k := by
  induction k with
  | zero => simp
  | succ k ih => rw [great_succ fs k (by omega)]; have := ih (by omega); omega
theorem stream_goods (fs : List Fr) (k : Nat) : stream (goodB fs k) = (goods fs k, [], false) := stream_bytes _ (fun f hf => (List.mem_filter.1 hf).2)
theorem stream_prefix (l : List UInt8) (n : Nat) (h : (stream l).2.2 = false) : (stream (l.take n)).2.2 = false := by
  have := stream_append _ (l.take n) (l.drop n) (Nat.le_refl _)
  rw [List.take_append_drop] at this
  cases hb : (stream (l.take n)).2.2 with
  | false => rfl
  | true => rw [hb, if_pos rfl] at this; rw [this] at h; exact h

theorem own_keptB {w w' : World} {S : Nat → Prop} {base : Nat} {e : TypeId} {size : Nat} {v : Value} {n : Nat} {xs : List Value} (h : w.ownsRow base e size v n xs) (hk : Kept S w w') (hs : ∀ g, v.ownBlock = some g → S g) : w'.ownsRow base e size v n xs := by
  refine ⟨h.1, ?_⟩
  rcases h.2 with h | ⟨g, cap, cur, hv, hg, hh, r⟩
  · exact .inl h
  · exact .inr ⟨g, cap, cur, hv, hg, (hk.block g (Array.getElem?_eq_some_iff.1 hh).1 (hs g (by rw [hv]; rfl))).trans hh, r⟩
theorem RdF.cellsY {w : World} {S : Nat → Prop} {A : Option Addr} {fs : List Fr} (h : RdF w S A fs) {k : Nat} (hk : k < fs.length) :
    ∃ b off B c, A = some ⟨b, off, none⟩ ∧ b < w.heap.size ∧ w.cell? ⟨b, off + k * 3, none⟩ = some (.int .i64 (frd fs k).1) ∧ w.cell? ⟨b, off + k * 3 + 1, none⟩ = some (.int .i64 (frd fs k).2.1) ∧ w.cell? ⟨b, off + k * 3 + 2, none⟩ = some (.slice B (frd fs k).2.2.length c) ∧
      RdY w S B (frd fs k).2.2 ∧ (B = none → (frd fs k).2.2.length = 0) ∧ (frd fs k).2.2.length ≤ c ∧ c ≤ 9223372036854775807 := by
  obtain ⟨ps, h1, h2⟩ := h
  rcases h1 with h1 | ⟨b, off, rfl, hs, hb, hc⟩
  · omega
  · refine ⟨b, off, (ps k).1, (ps k).2, rfl, hb, ?_, ?_, ?_, (h2 k hk).1, (h2 k hk).2⟩
    · rw [hc (k * 3) (by omega), fcell0]
    · rw [Nat.add_assoc, hc (k * 3 + 1) (by omega), fcell1]
    · rw [Nat.add_assoc, hc (k * 3 + 2) (by omega), fcell2]
theorem grown_kept {w w' : World} {row : Option Nat} (h : w.grownBy w' row) : Kept (fun b => some b ≠ row) w w' := ⟨h.os, h.tape, h.output, h.size, fun k hk hs => h.block k hk hs⟩
/-- A row of bytes and a row of frames, both the call's own: one grows, the other stays. -/
theorem OwF.grown {w w' : World} {base base2 : Nat} {S : Nat → Prop} {v v2 : Value} {fs : List Fr} {n : Nat} {xs : List Value} (h : OwF w base S v fs) (h2 : w.ownsRow base2 5 1 v2 n xs) (hg : w.grownBy w' v2.ownBlock) (hS : ∀ b, S b → some b ≠ v2.ownBlock) : OwF w' base S v fs := by
  obtain ⟨ps, h1, hp⟩ := h
  exact ⟨ps, own_keptB h1 (grown_kept hg) (fun g => own_apart h1 h2 (by decide)), hp.kept ((grown_kept hg).mono fun b _ hb => hS b hb.1)⟩

set_option maxRecDepth 100000 in
set_option maxHeartbeats 4000000 in
theorem mbapBack_walk (v : Value) (fs : List Fr) (a1 : Int) (w : World) (w0 : FRows w v fs ∧ great fs fs.length ≤ 10000000 ∧ fs.length ≤ 1048576) (w1 : (Lit.int .u8 a1).wf = true) :
    Calls Try.prog 6 #[v, .int .u8 a1] w fun e w' => e = .returned (.bool true) ∧ Below w.heap.size w w' := by
  obtain ⟨⟨A, c, rfl, hlc, hcm, hzA, hF⟩, hg, hl⟩ := w0
  obtain ⟨p, rfl, hp⟩ : ∃ p : Nat, a1 = (p : Int) ∧ p ≤ 255 := by
    obtain ⟨b0, b1⟩ := Go.bounds_u8 w1
    exact ⟨a1.toNat, by omega, by omega⟩
  clear w1
  unfold maxLen at hcm
  by_cases hgr : 3000 < great fs fs.length
  · have HG := Lib.hid hgr
    go_enter Try.func6, Try.ntmps6
    go_wp2_with fail
    refine (alive_calls _).mono ?_
    rintro e wa ⟨rfl, hba⟩
    go_wp2_with fail
    refine (refGreat_calls fs A c fs.length rfl wa _ (hF.go hba) (by omega) (by omega)).mono ?_
    rintro e w' ⟨rfl, rfl⟩
    rw [if_pos HG.out]
    go_wp2_with fail
    go_ret; exact ⟨rfl, hba⟩
  · obtain ⟨N, hN⟩ : ∃ N, fs.length = N := ⟨_, rfl⟩
    have hmany := great_many fs N (by omega)
    have k2 : N ≤ 428 := by rw [hN] at hgr; omega
    have k1 : (goodB fs N).length ≤ 3000 := by have := goodB_len fs N; rw [hN] at hgr; omega
    have hle : ∀ k, k ≤ N → (goodB fs k).length ≤ 3000 := fun k hk => by
      have h1 := goodB_len fs k
      have h2 := great_le fs k
      omega
    have Hgr := Lib.hid hgr
    rw [hN] at hlc hzA hl
    have HN := Lib.hid hN
    have Hle := Lib.hid hle
    have HzA := Lib.hid hzA
    have HF := Lib.hid hF
    rw [show fs.length = N from hN]
    clear hgr hmany hN hle hzA hF hg hl
    go_enter Try.func6, Try.ntmps6
    go_wp2_with fail
    refine (alive_calls _).mono ?_
    rintro e wa ⟨rfl, hba⟩
    go_wp2_with fail
    refine (refGreat_calls fs A c N HN.out.symm wa _ (HF.out.go hba) (by have := Hgr.out; omega) (by rw [HN.out]; omega)).mono ?_
    rintro e w' ⟨rfl, rfl⟩
    rw [if_neg Hgr.out]
    go_wp2_with fail
    go_loopw [6, 7, 8] (fun a v i wr => ∃ k : Nat, k ≤ N ∧ i = .int .i64 k ∧ (∃ A1 c1 n, a = .slice A1 n c1 ∧ Hid (n = (goodB fs k).length) ∧ wr.ownsRow w.heap.size 5 1 (.slice A1 n c1) n (bv (goodB fs k))) ∧
      (∃ A2 c2 n, v = .slice A2 n c2 ∧ Hid (n = (goods fs k).length) ∧ OwF wr w.heap.size (fun b => b < w.heap.size) (.slice A2 n c2) (goods fs k)) ∧ Below w.heap.size w wr) (fun _ _ i _ => N - (intOf i).toNat)
    case atStart => exact ⟨0, Nat.zero_le _, rfl, ⟨none, 0, 0, rfl, rfl, World.ownsRow_nil _ _ _ _⟩, ⟨none, 0, 0, rfl, rfl, OwF.nil _ _ _⟩, hba⟩
    case round =>
      obtain ⟨k, hk, rfl, ⟨A1, c1, n1, rfl, hn1, how⟩, ⟨A2, c2, n2, rfl, hn2, ho⟩, hb⟩ := hrel
      have Hhow := Lib.hid how
      have Hho := Lib.hid ho
      clear how ho
      by_cases hlt : k < N
      · obtain ⟨b1, o1, B1, C1, rfl, hb1, y0, y1, y2, y3, x4, x5, x6⟩ := HF.out.cellsY (k := k) (by rw [HN.out]; exact hlt)
        have x0 := (hb.cell (p := ⟨b1, o1 + k * 3, none⟩) hb1).trans y0
        have x1 := (hb.cell (p := ⟨b1, o1 + k * 3 + 1, none⟩) hb1).trans y1
        have x2 := (hb.cell (p := ⟨b1, o1 + k * 3 + 2, none⟩) hb1).trans y2
        have x3 := RdY.kept y3 hb.keptB
        have hkI : (k : Int) < (N : Int) := by omega
        obtain ⟨f, hf⟩ : ∃ f, frd fs k = f := ⟨_, rfl⟩
        rw [hf] at x0 x1 x2 x3 x4 x5 y0 y1 y2 y3
        have hgs := goods_succ fs k (by rw [HN.out]; exact hlt)
        rw [hf] at hgs
        have HB := Lib.hid (mbapBytes_calls f B1 C1 (by omega) wr x3.rd x4)
        cases hm : mayF f with
        | true =>
          have hbs := goodB_succ fs k (by rw [HN.out]; exact hlt) (by rw [hf]; exact hm)
          rw [hf] at hbs
          rw [hm] at HB
          obtain ⟨tx, un, l⟩ := f
          obtain ⟨bs, hbsq⟩ : ∃ bs, bytesOf (tx, un, l) = bs := ⟨_, rfl⟩
          have hbl : bs.length = l.length + 7 := by rw [← hbsq]; exact bytesOf_length _
          have hl253 : l.length ≤ 253 := ((mayF_iff _).1 hm).2.2.2.2.2
          have hle1 := Hle.out (k + 1) (by omega)
          rw [hbsq] at HB hbs
          rw [if_pos hm] at hgs
          rw [hbs, List.length_append] at hle1
          obtain ⟨m, hbm⟩ : ∃ m, bs.length = m := ⟨_, rfl⟩
          rw [hbm] at hbl hle1
          have Hbl := Lib.hid hbl
          clear hbsq hm hbl
          go_wp2_with fail
          refine HB.out.mono ?_
          rintro e w1 ⟨⟨A4, c4, rfl, o4, z4⟩, hb4⟩
          rw [hbm] at o4 z4
          have how1 := own_below Hhow.out hb4
          have ho1 := Hho.out.go hb4
          obtain ⟨A5, c5, w2, hrun, o5, hb5, g5, -, -⟩ := append_bytes (P := Try.prog) eb w1 w.heap.size how1 m c4 (rdB_own o4).1 hbm.symm (by have := hn1.out; omega) (by have := hb.size; have := hb4.size; omega) (fun h => by rw [hbm]; exact z4 h)
          rw [← hbs] at hrun o5
          have hbw1 : Below w.heap.size w w1 := hb.trans (hb4.mono hb.size)
          have hbw2 : Below w.heap.size w w2 := hbw1.trans hb5
          have v0 := (hbw2.cell (p := ⟨b1, o1 + k * 3, none⟩) hb1).trans y0
          have v1 := (hbw2.cell (p := ⟨b1, o1 + k * 3 + 1, none⟩) hb1).trans y1
          have v2 := (hbw2.cell (p := ⟨b1, o1 + k * 3 + 2, none⟩) hb1).trans y2
          have v3 := RdY.kept y3 hbw2.keptB
          have hrow : ∀ x, (Value.slice A1 n1 c1).ownBlock = some x → w.heap.size ≤ x := fun x hx => by
            cases A1 with
            | none => simp [Value.ownBlock] at hx
            | some a => obtain ⟨g', rfl, h1, h2⟩ := (own_caps how1).2.2.2 a rfl; simp [Value.ownBlock] at hx; omega
          have ho2 : OwF w2 w.heap.size (fun b => b < w.heap.size) (.slice A2 n2 c2) (goods fs k) := ho1.grown how1 g5 (fun b hb2 e => by have := hrow b e.symm; omega)
          have hrow2 : ∀ x, (Value.slice A2 n2 c2).ownBlock = some x → w.heap.size ≤ x := fun x hx => by
            obtain ⟨ps, q1, -⟩ := ho2
            cases A2 with
            | none => simp [Value.ownBlock] at hx
            | some a => obtain ⟨g', rfl, h1, h2⟩ := (own_caps q1).2.2.2 a rfl; simp [Value.ownBlock] at hx; omega
          have hgl := goods_len fs k
          obtain ⟨A6, c6, w3, hrun2, o6, g6, -, -⟩ := OwF.push ho2 (tx, un, l) (A := B1) (c := C1) (RdX.mono v3 (fun b hb2 => ⟨hb2, fun e => by have := hrow2 b e.symm; omega⟩)) x4 x5 x6 (by have := hbw2.size; omega) (by omega)
          rw [← hgs] at o6
          have hw2a := bstep w2 (.cells #[.int .i64 tx, .int .i64 un, .slice B1 l.length C1] 24)
          have o5a := own_below o5 hw2a
          have o53 := own_keptB o5a (grown_kept g6) (fun g => by
            obtain ⟨ps, q1, -⟩ := ho2
            exact own_apart o5a (own_below q1 hw2a) (by decide))
          have hbw3 : Below w.heap.size w w3 := (hbw2.trans (hw2a.mono hbw2.size)).trans ((grown_kept g6).below (by rw [World.size_alloc]; have := hbw2.size; omega) (fun x hx e => by have := hrow2 x e.symm; omega))
          have H53 := Lib.hid o53
          have H6 := Lib.hid o6
          have Hgs := Lib.hid hgs
          clear o53 o6 o5a o5 hw2a ho2 how1 ho1 o4 z4 hb4 hb5 g5 g6 y0 y1 y2 y3 x0 x1 x2 x3 hgs hbs hrow hrow2 hle1 v3
          go_wp2_with (first | (at_builtin; refine wpList_append_run hrun rfl rfl rfl rfl rfl ?_) | (at_builtin; refine wpList_append_run hrun2 rfl rfl rfl rfl rfl ?_))
          exact ⟨⟨k + 1, by omega, rfl, ⟨A5, c5, _, rfl, rfl, H53.out⟩, ⟨A6, c6, _, rfl, (by show _ = _; rw [Hgs.out, List.length_append]; rfl), H6.out⟩, hbw3⟩, by simp [intOf]; omega⟩
        | false =>
          have hbs := goodB_skip fs k (by rw [HN.out]; exact hlt) (by rw [hf]; exact hm)
          rw [hm] at HB
          rw [if_neg (by rw [hm]; decide)] at hgs
          obtain ⟨tx, un, l⟩ := f
          have Hgs := Lib.hid hgs
          have Hbs := Lib.hid hbs
          clear hm hgs hbs y0 y1 y2 y3 x3
          go_wp2_with fail
          refine HB.out.mono ?_
          rintro e w1 ⟨rfl, hb4⟩
          go_wp2_with fail
          exact ⟨⟨k + 1, by omega, rfl, ⟨A1, c1, n1, rfl, by show _ = _; rw [Hbs.out]; exact hn1.out, by rw [Hbs.out]; exact own_below Hhow.out hb4⟩, ⟨A2, c2, n2, rfl, by show _ = _; rw [Hgs.out]; exact hn2.out, by rw [Hgs.out]; exact Hho.out.go hb4⟩, hb.trans (hb4.mono hb.size)⟩, by simp [intOf]; omega⟩
      · obtain rfl : N = k := by omega
        obtain ⟨wo, rfl⟩ : ∃ wo : World, wo = wr := ⟨_, rfl⟩
        have hsg := stream_goods fs N
        obtain ⟨F, hF⟩ : ∃ F, goodB fs N = F := ⟨_, rfl⟩
        obtain ⟨gs, hgs⟩ : ∃ gs, goods fs N = gs := ⟨_, rfl⟩
        rw [hF] at hsg k1 hn1 Hhow
        rw [hgs] at hsg hn2 Hho
        have hpre : ∀ n, (stream (F.take n)).2.2 = false := fun n => stream_prefix F n (by rw [hsg])
        have Hpre := Lib.hid hpre
        have Hsg := Lib.hid hsg
        have hcaps := own_caps Hhow.out
        have hgl : gs.length ≤ 428 := by rw [← hgs]; exact Nat.le_trans (goods_len fs N) k2
        clear hsg hpre hF hgs
        go_wp2_with fail
        go_loopw [12, 13] (fun v a w3 => ∃ at_ : Nat, a = .int .i64 at_ ∧ at_ ≤ 4000 ∧ (∃ (A : Option Addr) (c n : Nat), v = .slice A n c ∧ Hid (n = (stream (F.take at_)).1.length) ∧ OwF w3 (wo.heap.size + 1) (fun x => wo.heap.size < x) (.slice A n c) (stream (F.take at_)).1) ∧
            (∃ S, HoldEnd w3 S wo.heap.size (stream (F.take at_)).2.1 (stream (F.take at_)).2.2) ∧ Below wo.heap.size wo w3 ∧ wo.heap.size < w3.heap.size) (fun _ a _ => F.length - (intOf a).toNat)
        case atStart =>
          have hst0 : stream (F.take 0) = ([], [], false) := by rw [List.take_zero]; decide +kernel
          exact ⟨0, rfl, by omega, ⟨none, 0, 0, rfl, by show _ = _; rw [hst0]; rfl, by rw [hst0]; exact OwF.nil _ _ _⟩, ⟨_, by rw [hst0]; exact holdNew wo (fun _ => True)⟩, bstep _ _, by simp⟩
        case round =>
          obtain ⟨at_, rfl, hat, ⟨A3, c3, n3, rfl, hn3, ho3⟩, ⟨S3, hH3⟩, hb3, hg3⟩ := hrel
          have hbw3 : Below w.heap.size w wr := hb.trans (hb3.mono hb.size)
          have Hho3 := Lib.hid ho3
          have HH3 := Lib.hid hH3
          clear ho3 hH3
          by_cases hlt : at_ < F.length
          · obtain ⟨T, hT⟩ : ∃ T : Nat, T = min F.length (at_ + 1 + p) := ⟨_, rfl⟩
            have hT1 : at_ ≤ T := by omega
            have hT2 : T ≤ F.length := by omega
            have htk : F.take (at_ + 1 + p) = F.take T := by
              rcases Nat.le_total (at_ + 1 + p) F.length with h | h
              · rw [show T = at_ + 1 + p by omega]
              · rw [show T = F.length by omega, List.take_length, List.take_of_length_le h]
            have hts := take_piece F at_ T hT1
            have hlp : ((F.drop at_).take (T - at_)).length = T - at_ := by simp; omega
            have hlt2 : (F.take at_).length = at_ := by simp; omega
            have hn1F := hn1.out
            rcases A1 with _ | a1'
            · exfalso; have := hcaps.2.2.1 rfl; omega
            obtain ⟨g1, rfl, hg1a, hg1b⟩ := hcaps.2.2.2 a1' rfl
            have hR : RdB wr wr.heap.size (some ⟨g1, at_, none⟩) ((F.drop at_).take (T - at_)) := by
              have := piece_rd (at_ := at_) (to := T) (c := at_ + F.length) (((rdB_own Hhow.out).1.below hb3)) hb3.size (by omega) (by omega)
              rw [if_neg (by omega)] at this
              simpa using this
            have m1 : (at_ : Int) ≤ (T : Int) := by omega
            have m2 : (T : Int) ≤ (c1 : Int) := by have := hcaps.1; omega
            have m3 : (at_ : Int) < (n1 : Int) := by omega
            have m4 : min (n1 : Int) ((at_ : Int) + 1 + (p : Int)) = (T : Int) := by omega
            have m5 : ¬ c1 = at_ := by have := hcaps.1; omega
            have Htk := Lib.hid htk
            have Hts := Lib.hid hts
            have Hlp := Lib.hid hlp
            have Hlt2 := Lib.hid hlt2
            have HR := Lib.hid hR
            have HT := Lib.hid hT
            clear htk hts hlp hlt2 hR hT hn1F
            go_wp2_with fail
            refine (feed_stepx wo.heap.size (F.take at_) ((F.drop at_).take (T - at_)) (some ⟨g1, at_, none⟩) (T - at_) (c1 - at_) Hlp.out.symm (by rw [Hlt2.out]; omega) wr HH3.out HR.out (by simp)).mono ?_
            rintro e w5 ⟨A5, m5', c5, x5, f5, rfl, rfl, hf5, o5, h5, k5, hst, hx5, hbf⟩
            rw [Hts.out] at h5 hst hx5
            rw [Hpre.out T] at hx5
            have hx : x5 = 0 := hx5
            subst hx
            have hlens := stream_lens (F.take T)
            rw [List.length_take] at hlens
            obtain ⟨A6, c6, w6, hrun, o6, k6⟩ := got_append (hn3.out) Hho3.out o5 k5 hg3 (by rw [← List.length_append, ← hst]; omega)
            rw [← hst] at hrun o6
            have hb5 := k5.below (B := wo.heap.size) (by omega) (fun x hx => by omega)
            have hb6 : Below wo.heap.size w5 w6 := (k6 (fun x => x < wo.heap.size) (fun x h1 h2 => by omega)).below (by have := hb5.size; have := k5.size; omega) (fun x hx => hx)
            have h6 := h5.kept (k6 (fun x => x = wo.heap.size ∨ wr.heap.size ≤ x) (fun x h1 h2 => by omega)) (.inl rfl) (fun b hb => .inr hb)
            have hb36 := (hb3.trans hb5).trans hb6
            have hs6 : wo.heap.size < w6.heap.size := by have := k5.size; have := (k6 (fun _ => False) (fun _ _ _ h => h)).size; omega
            have H6 := Lib.hid h6
            have O6 := Lib.hid o6
            have Hst := Lib.hid hst
            clear h6 o6 o5 h5 k5 k6 hx5 hbf hst hlens hb5 hb6 Hho3 HH3 HR hf5
            go_wp2_with (at_builtin; refine wpList_append_run hrun rfl rfl rfl rfl rfl ?_)
            refine ⟨⟨at_ + 1 + p, by push_cast; rfl, by omega, ⟨A6, c6, _, rfl, by show _ = _; rw [Htk.out], by rw [Htk.out]; exact O6.out⟩, ⟨_, by rw [Htk.out]; exact H6.out⟩, hb36, hs6⟩, ?_⟩
            simp [intOf]; omega
          · have hFt : F.take at_ = F := List.take_of_length_le (by omega)
            rw [hFt, Hsg.out] at Hho3 HH3 hn3
            have hw2 : RdF wr (fun _ => True) A2 gs := RdF.turn (OwF.rdF (by have := OwF.mono (S := fun _ => True) Hho.out (Nat.le_refl _) (fun _ _ => trivial); exact this) (fun _ _ => trivial)) (hb3.keptB) (fun b hb _ => hb)
            have hg2 : RdF wr (fun _ => True) A3 gs := OwF.rdF (by have := OwF.mono (S := fun _ => True) Hho3.out (Nat.le_refl _) (fun _ _ => trivial); exact this) (fun _ _ => trivial)
            have HAll := Lib.hid (refAll_same gs A3 A2 n3 n2 c3 c2 hn3.out hn2.out wr (fun _ => True) hg2 hw2 (by omega))
            obtain ⟨A4, c4, hG4⟩ := HH3.out.gb
            have hlF : ¬ at_ < n1 := by have := hn1.out; omega
            clear hw2 hg2 HH3 Hho Hho3 hFt
            go_wp2_with fail
            refine HAll.out.mono ?_
            rintro e w9 ⟨rfl, hb9⟩
            have hG9 := hG4.below hb9
            have hbw9 := bnext hbw3 hb9
            clear HAll hG4
            go_wp2_with fail
            refine (left_calls _ _ _ _ _ w9 hG9).mono ?_
            rintro e w' ⟨rfl, rfl⟩
            go_wp2_with fail
            refine (isBroken_calls _ _ _ w9 hG9).mono ?_
            rintro e w' ⟨rfl, rfl⟩
            go_wp2_with fail
            go_ret
            exact ⟨by simp, hbw9⟩
end Go.Proofs.Ytmfngkhpaadehaa
