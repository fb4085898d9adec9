/-
  The walk of MbapGathers. Conditions: the bulk of what is read is bounded (the second form of the statement).
-/
import Derived.Test.YtmfngkhpaadehaaMbapOpen
import Derived.Test.YtmfngkhpaadehaaMbapPieces
import Derived.Test.YtmfngkhpaadehaaMbapStream
namespace Go.Proofs.Ytmfngkhpaadehaa
open Go Go.RowKit Go.Kw Go.Kw.Mb
set_option linter.unusedVariables false
set_option linter.unusedSimpArgs false

def cat (ls : List (List UInt8)) (k : Nat) : List UInt8 := (ls.take k).flatten
theorem cat_succ (ls : List (List UInt8)) (k : Nat) (h : k < ls.length) : cat ls (k + 1) = cat ls k ++ ls.getD k [] := by
  unfold cat
  rw [List.take_succ_eq_append_getElem h, List.flatten_append, List.getD_eq_getElem?_getD, List.getElem?_eq_getElem h]
  simp
theorem cat_all (ls : List (List UInt8)) : cat ls ls.length = ls.flatten := by unfold cat; rw [List.take_length]
theorem cat_zero (ls : List (List UInt8)) : cat ls 0 = [] := rfl
theorem cat_le (ls : List (List UInt8)) (k : Nat) : (cat ls k).length ≤ ls.flatten.length := by
  unfold cat
  conv => rhs; rw [← List.take_append_drop k ls, List.flatten_append, List.length_append]
  omega
theorem cat_take (ls : List (List UInt8)) (k : Nat) : ls.flatten.take (cat ls k).length = cat ls k := by
  unfold cat
  conv => lhs; rw [← List.take_append_drop k ls]
  rw [List.take_append_drop, ← List.take_append_drop k ls, List.flatten_append]
  simp

/-- Feed as a step, with what it says. -/
theorem feed_stepx (g : Nat) (l p : List UInt8) (A : Option Addr) (n c : Nat) (hn : n = p.length) (hl : l.length + n ≤ 500000) (w : World) {S0 : Nat → Prop} (h : HoldEnd w S0 g (stream l).2.1 (stream l).2.2) (hR : RdB w w.heap.size A p) (hz : A = none → n = 0) :
    Calls Try.prog 16 #[.pointer (some ⟨g, 0, none⟩), .slice A n c] w fun e w' => ∃ (A' : Option Addr) (m c' : Nat) (x : Int) (f : List Fr), e = .returned (.tuple #[.slice A' m c', .int .i64 x]) ∧ m = f.length ∧ f.length ≤ 100000 ∧
      OwF w' w.heap.size (fun b => w.heap.size ≤ b) (.slice A' m c') f ∧ HoldEnd w' (fun b => w.heap.size ≤ b) g (stream (l ++ p)).2.1 (stream (l ++ p)).2.2 ∧ Kept (fun b => b ≠ g) w w' ∧ (stream (l ++ p)).1 = (stream l).1 ++ f ∧ x = (if (stream (l ++ p)).2.2 then 210 else 0) ∧
      ((stream l).2.2 = true → f = [] ∧ (stream (l ++ p)).2.2 = true) := by
  subst hn
  have hsa := stream_append _ l p (Nat.le_refl _)
  have hlen := stream_left _ l (Nat.le_refl _)
  cases hb : (stream l).2.2 with
  | true =>
    have hbl := stream_brokenLeft _ l (Nat.le_refl _) hb
    rw [hb, if_pos rfl] at hsa
    rw [hb, hbl] at h
    obtain ⟨A0, c0, hG, -, -, -, hc'⟩ := h
    refine (feed_broken g _ A p.length c w hG).mono ?_
    rintro e w' ⟨rfl, rfl⟩
    rw [hsa]
    exact ⟨none, 0, 0, 210, [], rfl, rfl, by simp, OwF.nil _ _ _, ⟨A0, c0, hG, RdY.nil _ _ _, fun _ => rfl, Nat.zero_le _, hc'⟩, Kept.refl _ _, by simp, rfl, fun _ => ⟨rfl, rfl⟩⟩
  | false =>
    rw [hb, if_neg (by simp)] at hsa
    rw [hb] at h
    refine (feed_calls g _ A c p (by omega) w h hR hz).mono ?_
    rintro e w' ⟨A', c', rfl, h1, h2, h3⟩
    rw [hsa]
    have hm := stream_many _ ((stream l).2.1 ++ p) (Nat.le_refl _)
    rw [List.length_append] at hm
    exact ⟨A', _, c', _, _, rfl, rfl, by omega, h1, h2, h3, rfl, rfl, fun h => by cases h⟩

/-- 'got = append(got, f...)': f is what Feed gave. -/
theorem got_append {g : Nat} {w3 w5 : World} {A A5 : Option Addr} {c n c5 : Nat} {fs f5 : List Fr} (hn : n = fs.length) (ho : OwF w3 (g + 1) (fun x => g < x) (.slice A n c) fs) (o5 : OwF w5 w3.heap.size (fun b => w3.heap.size ≤ b) (.slice A5 f5.length c5) f5) (k5 : Kept (fun b => b ≠ g) w3 w5) (hg : g < w3.heap.size) (hl : fs.length + f5.length ≤ 1000000) :
    ∃ (A6 : Option Addr) (c6 : Nat) (w6 : World), (Builtin.append_ #[26, 26] 26 #[.slice A n c, .slice A5 f5.length c5]).run Try.prog w5 = .ok (.slice A6 (fs ++ f5).length c6) w6 ∧ OwF w6 (g + 1) (fun x => g < x) (.slice A6 (fs ++ f5).length c6) (fs ++ f5) ∧
      (∀ S : Nat → Prop, (∀ x, g < x → x < w3.heap.size → ¬ S x) → Kept S w5 w6) := by
  have ho5 := ho.keptX k5 (fun b hb => by omega) (fun b hb => by omega)
  obtain ⟨psr, hrw, -⟩ := ho
  have q4 := (own_caps hrw).2.2.2
  have hrow : ∀ x, (Value.slice A n c).ownBlock = some x → g + 1 ≤ x ∧ x < w3.heap.size := fun x hx => by
    cases A with
    | none => simp [Value.ownBlock] at hx
    | some a => obtain ⟨g', rfl, h1, h2⟩ := q4 a rfl; simp [Value.ownBlock] at hx; omega
  obtain ⟨qs, r5, p5⟩ := o5
  obtain ⟨A6, c6, w6, hrun, o6, g6, r6, -⟩ := OwF.append ho5 (c := c5) (RdX.of_own r5 (S := fun _ => True) (fun _ _ => trivial)) (Pdus.mono p5 (fun x hx => ⟨by have := hx.1; omega, fun e => by have := hrow x e.symm; have := hx.1; omega⟩)) (own_caps r5).2.2.1 (by have := k5.size; omega) (by omega)
  exact ⟨A6, c6, w6, hrun, o6, fun S hS => (Kept.refl S w5).grown g6 (fun x hx => .inr (hS x (by have := (hrow x hx).1; omega) (hrow x hx).2))⟩
theorem HoldEnd.kept {W W' : World} {S S' : Nat → Prop} {g : Nat} {l : List UInt8} {br : Bool} (h : HoldEnd W S g l br) (hk : Kept S' W W') (hg : S' g) (hs : ∀ b, S b → S' b) : HoldEnd W' S g l br := by
  obtain ⟨A, c, y1, y2, y3⟩ := h
  exact ⟨A, c, heap_kept hk y1 hg, RdX.kept y2 (hk.mono fun x _ hx => hs x hx), y3⟩

theorem sum_wrap {a b T : Nat} (h : a + b = T) (hT : T ≤ 2000000) : wrap64 ((a : Int) + (b : Int)) = (T : Int) := by
  unfold wrap64; omega
theorem sum_cap {a b T F n c : Nat} (h : a + b = T) (h1 : a + b ≤ F) (h2 : n = F) (h3 : n ≤ c) : (T : Int) ≤ (c : Int) := by omega
/-- Stream, its answer named. -/
theorem refStream_at {l : List UInt8} {fs : List Fr} {rest : List UInt8} {br : Bool} (hs : stream l = (fs, rest, br)) (A : Option Addr) (n c m : Nat) (x : Int) (hn : n = l.length) (hm : fs.length = m) (hx : x = if br then 210 else 0) (hl : l.length ≤ 10000) (w : World) (hR : RdB w w.heap.size A l) (hc : n ≤ c) (hc2 : c ≤ 9223372036854775807) :
    Calls Try.prog 13 #[.slice A n c] w fun e w' => ∃ A' c', e = .returned (.tuple #[.slice A' m c', .int .i64 (rest.length : Nat), .int .i64 x]) ∧ OwF w' w.heap.size (fun b => b < w.heap.size) (.slice A' m c') fs ∧ Below w.heap.size w w' := by
  subst hn hm hx
  refine (refStream_calls A c l hl w hR hc hc2).mono ?_
  rintro e w' ⟨⟨A', c', rfl, ho⟩, hb⟩
  rw [hs] at ho ⊢
  exact ⟨A', c', rfl, ho, hb⟩

set_option maxRecDepth 100000 in
set_option maxHeartbeats 4000000 in
theorem mbapGathers_walk (v : Value) (ls : List (List UInt8)) (w : World) (h : BRows w v ls ∧ (ls.map List.length).sum + ls.length ≤ 1048576) :
    Calls Try.prog 4 #[v] w fun e w' => e = .returned (.bool true) ∧ Below w.heap.size w w' := by
  obtain ⟨⟨A, c, R, C, rfl, hlc, hcm, hzA, hrd, hrow⟩, hsum⟩ := h
  have htot : ls.flatten.length + ls.length ≤ 1048576 := by rw [List.length_flatten]; exact hsum
  unfold maxLen at hcm
  clear hsum
  obtain ⟨N, hN⟩ : ∃ N, ls.length = N := ⟨_, rfl⟩
  obtain ⟨F, hF⟩ : ∃ F, ls.flatten = F := ⟨_, rfl⟩
  have hall : cat ls N = F := by rw [← hN, cat_all, hF]
  have hcle : ∀ k, (cat ls k).length ≤ F.length := fun k => by rw [← hF]; exact cat_le ls k
  have hcs : ∀ k, k < N → cat ls (k + 1) = cat ls k ++ ls.getD k [] := fun k hk => cat_succ ls k (by omega)
  have htk : ∀ k, F.take (cat ls k).length = cat ls k := fun k => by rw [← hF]; exact cat_take ls k
  rw [hN] at hlc hzA hrd hrow htot
  rw [hF] at htot
  clear hF
  have HN := Lib.hid hN
  have Hall := Lib.hid hall
  have Hcle := Lib.hid hcle
  have Hcs := Lib.hid hcs
  have Htk := Lib.hid htk
  have Hrow := Lib.hid hrow
  have Hrd := Lib.hid hrd
  have HzA := Lib.hid hzA
  rw [show ls.length = N from hN]
  clear hN hall hcle hcs htk hrow hrd hzA
  go_enter Try.func4, Try.ntmps4
  go_wp2_with fail
  go_loopw [3, 4] (fun a i wr => ∃ k : Nat, k ≤ N ∧ i = .int .i64 k ∧ (∃ A1 c1 n, a = .slice A1 n c1 ∧ Hid (n = (cat ls k).length) ∧ wr.ownsRow w.heap.size 5 1 (.slice A1 n c1) n (bv (cat ls k))) ∧ Below w.heap.size w wr) (fun _ i _ => N - (intOf i).toNat)
  case atStart => exact ⟨0, Nat.zero_le _, rfl, ⟨none, 0, 0, rfl, rfl, World.ownsRow_nil _ _ _ _⟩, Below.refl _ _⟩
  case round =>
    obtain ⟨k, hk, rfl, ⟨A1, c1, n, rfl, hn, how⟩, hb⟩ := hrel
    by_cases hlt : k < N
    · obtain ⟨b1, o1, rfl, hb1, hcell⟩ := Rd.at_ (Hrd.out.below hb) hlt
      have hkI : (k : Int) < (N : Int) := by omega
      obtain ⟨q1, q2, q3, q4⟩ := Hrow.out k hlt
      have hs := Hcs.out k hlt
      have hl2 := Hcle.out (k + 1)
      rw [hs, List.length_append] at hl2
      obtain ⟨rw_, hrw⟩ : ∃ r, ls.getD k [] = r := ⟨_, rfl⟩
      rw [hrw] at q1 q2 q4 hs hl2
      obtain ⟨m, hm⟩ : ∃ m, rw_.length = m := ⟨_, rfl⟩
      have hcell2 : wr.cell? ⟨b1, o1 + k, none⟩ = some (.slice (R k) m (C k)) := by rw [hcell]; show some (Value.slice (R k) (ls.getD k []).length (C k)) = _; rw [hrw, hm]
      rw [hm] at q2 q4 hl2
      have hmI : (m : Int) ≤ (C k : Int) := by omega
      obtain ⟨A2, c2, w2, hrun, o2, hb2, -, -, -⟩ := append_bytes (P := Try.prog) eb wr w.heap.size how m (C k) (q1.below hb) hm.symm (by have := hn.out; omega) hb.size (fun h => by rw [hm]; exact q4 h)
      rw [← hs] at hrun o2
      have Hs := Lib.hid hs
      clear hcell q1 q2 q3 q4 hs hl2 how hrw hm
      go_wp2_with (at_builtin; refine wpList_append_run hrun rfl rfl rfl rfl rfl ?_)
      go_roundw
      case rel => exact ⟨k + 1, by omega, by go_num, ⟨A2, c2, _, rfl, rfl, o2⟩, hb.trans hb2⟩
      case measure => simp [intOf]; omega
    · obtain rfl : N = k := by omega
      have Hhow := Lib.hid how
      clear how
      rw [Hall.out] at hn Hhow
      go_wp2_with fail
      rotate_left
      rotate_left
      · go_ret; exact ⟨rfl, hb⟩
      · go_ret; exact ⟨rfl, hb⟩
      · have k1 : F.length ≤ 3000 := by have := hn.out; omega
        have k2 : N ≤ 300 := by omega
        obtain ⟨wo, rfl⟩ : ∃ wo : World, wo = wr := ⟨_, rfl⟩
        have hco := (own_caps Hhow.out).1
        go_loopw [6, 7, 8, 9] (fun v nn wa i w3 => ∃ k : Nat, k ≤ N ∧ i = .int .i64 k ∧ nn = .int .i64 (cat ls k).length ∧ wa = .bool (stream (cat ls k)).2.2 ∧ (∃ (A : Option Addr) (c n : Nat), v = .slice A n c ∧ Hid (n = (stream (cat ls k)).1.length) ∧ OwF w3 (wo.heap.size + 1) (fun x => wo.heap.size < x) (.slice A n c) (stream (cat ls k)).1) ∧
            (∃ S, HoldEnd w3 S wo.heap.size (stream (cat ls k)).2.1 (stream (cat ls k)).2.2) ∧ Below wo.heap.size wo w3 ∧ wo.heap.size < w3.heap.size) (fun _ _ _ i _ => N - (intOf i).toNat)
        case atStart =>
          have hst0 : stream (cat ls 0) = ([], [], false) := by rw [cat_zero]; decide +kernel
          refine ⟨0, Nat.zero_le _, rfl, rfl, by rw [hst0], ⟨none, 0, 0, rfl, by show _ = _; rw [hst0]; rfl, by rw [hst0]; exact OwF.nil _ _ _⟩, ⟨_, by rw [hst0]; exact holdNew wo (fun _ => True)⟩, bstep _ _, by simp⟩
        case round =>
          obtain ⟨k, hk, rfl, rfl, rfl, ⟨A3, c3, n3, rfl, hn3, ho3⟩, ⟨S3, hH3⟩, hb3, hg3⟩ := hrel
          have hbw3 : Below w.heap.size w wr := hb.trans (hb3.mono hb.size)
          have Hho3 := Lib.hid ho3
          have HH3 := Lib.hid hH3
          clear ho3 hH3
          by_cases hlt : k < N
          · obtain ⟨b1, o1, rfl, hb1, hcell⟩ := Rd.at_ (Hrd.out.below hbw3) hlt
            have hkI : (k : Int) < (N : Int) := by omega
            obtain ⟨q1, q2, q3, q4⟩ := Hrow.out k hlt
            have hs := Hcs.out k hlt
            have hl2 := Hcle.out (k + 1)
            have ht2 := Htk.out (k + 1)
            rw [hs] at hl2 ht2
            obtain ⟨rw_, hrw⟩ : ∃ r, ls.getD k [] = r := ⟨_, rfl⟩
            rw [hrw] at q1 q2 q4 hs hl2 ht2
            obtain ⟨m, hm⟩ : ∃ m, rw_.length = m := ⟨_, rfl⟩
            have hcell2 : wr.cell? ⟨b1, o1 + k, none⟩ = some (.slice (R k) m (C k)) := by rw [hcell]; show some (Value.slice (R k) (ls.getD k []).length (C k)) = _; rw [hrw, hm]
            obtain ⟨t, htt⟩ : ∃ t, cat ls k = t := ⟨_, rfl⟩
            rw [htt] at Hho3 HH3 hs hl2 ht2 hn3
            rw [List.length_append] at hl2
            rw [hm] at q2 q4 hl2
            have hmI : (m : Int) ≤ (C k : Int) := by omega
            have HFd := Lib.hid (feed_stepx wo.heap.size t rw_ (R k) m (C k) hm.symm (by omega) wr HH3.out ((q1.below hbw3).more hbw3.size) (fun h => q4 h))
            obtain ⟨br, hbr⟩ : ∃ br, (stream t).2.2 = br := ⟨_, rfl⟩
            rw [htt, hbr]
            have Hbr := Lib.hid hbr
            have Hs := Lib.hid hs
            have Ht2 := Lib.hid ht2
            have Hm := Lib.hid hm
            clear hcell q1 q2 q3 q4 hs hrw hbr ht2 hm
            clear htt
            go_wp2_with fail
            refine HFd.out.mono ?_
            rintro e w5 ⟨A5, m5, c5, x5, f5, rfl, rfl, hf5, o5, h5, k5, hst, hx5, hbf⟩
            clear HFd HH3
            obtain ⟨⟨fs, rest, br2⟩, hsq⟩ : ∃ q, stream (t ++ rw_) = q := ⟨_, rfl⟩
            rw [hsq] at hst hx5 hbf h5
            have hlens := stream_lens (t ++ rw_)
            rw [hsq, List.length_append, Hm.out] at hlens
            simp only at hst hx5 hbf h5 hlens
            obtain ⟨A6, c6, w6, hrun, o6, k6⟩ := got_append (hn3.out) Hho3.out o5 k5 hg3 (by rw [← List.length_append, ← hst]; omega)
            rw [← hst] at hrun o6
            have hb5 := k5.below (B := wo.heap.size) (by omega) (fun x hx => by omega)
            have hb6 : Below wo.heap.size w5 w6 := (k6 (fun x => x < wo.heap.size) (fun x h1 h2 => by omega)).below (by have := hb5.size; have := k5.size; omega) (fun x hx => hx)
            have h6 := h5.kept (k6 (fun x => x = wo.heap.size ∨ wr.heap.size ≤ x) (fun x h1 h2 => by omega)) (.inl rfl) (fun b hb => .inr hb)
            have hbw5 : Below w.heap.size w w5 := hbw3.trans (k5.below hbw3.size (fun x hx => by have := hb.size; omega))
            have hb36 := (hb3.trans hb5).trans hb6
            have hbw6 : Below w.heap.size w w6 := hb.trans (hb36.mono hb.size)
            have hcell6 : w6.cell? ⟨b1, o1 + k, none⟩ = some (.slice (R k) m (C k)) := (hbw6.cell (p := ⟨b1, o1 + k, none⟩) hb1).trans ((hbw3.cell (p := ⟨b1, o1 + k, none⟩) hb1).symm.trans hcell2)
            have hrd6 : RdB w6 w6.heap.size A1 (t ++ rw_) := by
              rw [← Ht2.out]
              exact (RdY.take (RdX.of (Rd.below (RdX.rd (RdX.of_own (N := F.length) (f := fun i => .int .u8 (bAt F i)) (by have := Hhow.out; rwa [← vals_bytes, Nat.mul_one] at this) (S := fun _ => True) (fun _ _ => trivial))) hb36 |>.more hb36.size) (fun _ _ => trivial)) _).rd
            obtain ⟨T, hT⟩ : ∃ T : Nat, t.length + m = T := ⟨_, rfl⟩
            have hTw : wrap64 ((t.length : Int) + (m : Int)) = (T : Int) := sum_wrap hT (by rw [← hT]; exact Nat.le_trans hl2 (Nat.le_trans k1 (by decide)))
            have nI : (T : Int) ≤ (c1 : Int) := sum_cap hT hl2 hn.out hco
            have HT := Lib.hid hT
            clear hT
            have Hh6 := Lib.hid h6
            have Ho6 := Lib.hid o6
            have Hst := Lib.hid hst
            have Hx5 := Lib.hid hx5
            have Hhb5 := Lib.hid hbf
            have Hl := Lib.hid hlens
            have Hf5 := Lib.hid hf5
            have Hl2 := Lib.hid hl2
            have Hsq := Lib.hid hsq
            clear o5 h5 k5 hst hx5 hbf o6 k6 h6 hlens hf5 hl2 hcell2 hbw5 hb5 hb6 hsq Hho3
            have HSt := Lib.hid (refStream_at Hsq.out A1 T c1 fs.length x5 (by rw [List.length_append, Hm.out]; exact HT.out.symm) rfl Hx5.out (by rw [List.length_append, Hm.out]; exact Nat.le_trans Hl2.out (Nat.le_trans k1 (by decide))) w6 hrd6 (by exact_mod_cast nI) (own_caps Hhow.out).2.1)
            have Hhb6 := Lib.hid hb36
            obtain ⟨A8, c8, hG6⟩ := Hh6.out.gb
            clear hrd6 hb36 hb3
            go_wp2_with (at_builtin; refine wpList_append_run hrun rfl rfl rfl rfl rfl ?_)
            refine HSt.out.mono ?_
            rintro e w7 ⟨A7, c7, rfl, o7, hb7⟩
            have hG7 := hG6.below hb7
            have h7 := Lib.hid (Hh6.out.kept (hb7.keptS (fun _ => True)) trivial (fun _ _ => trivial))
            have o6' := Ho6.out.keptX (hb7.keptS (fun _ => True)) (fun b hb => trivial) (fun b hb => trivial)
            have HAll := Lib.hid (refAll_same fs A6 A7 fs.length fs.length c6 c7 rfl rfl w7 (fun _ => True) ((o6'.rdF (fun b hb => by omega)).mono (fun _ _ => trivial)) ((OwF.mono (S := fun _ => True) o7 (Nat.le_refl _) (fun _ _ => trivial)).rdF (fun _ _ => trivial)) (by have := Hl.out; have := Hl2.out; omega))
            have Ho7 := Lib.hid o6'
            have Hb7 := Lib.hid (Hhb6.out.trans (hb7.mono (by have := Hhb6.out.size; omega)))
            have Hg7 : Hid (wo.heap.size < w7.heap.size) := by have := hG7.lt; exact this
            clear HSt hG6 hb7 o6' Ho6 Hh6 o7 hrun hcell6 Hhb6
            have hnl : ((rest.length : Int) != (rest.length : Int)) = false := bne_self_eq_false _
            have hck : cat ls (k + 1) = t ++ rw_ := Hs.out
            have Fin : Hid (∀ w9 : World, Below w7.heap.size w7 w9 → ∃ k_1 : Nat, k_1 ≤ N ∧ Value.int .i64 ((k : Int) + 1) = Value.int .i64 (k_1 : Int) ∧ Value.int .i64 (T : Int) = Value.int .i64 ((cat ls k_1).length : Int) ∧ Value.bool br2 = Value.bool (stream (cat ls k_1)).2.2 ∧
                (∃ (A : Option Addr) (c n : Nat), Value.slice A6 fs.length c6 = Value.slice A n c ∧ Hid (n = (stream (cat ls k_1)).1.length) ∧ OwF w9 (wo.heap.size + 1) (fun x => wo.heap.size < x) (.slice A n c) (stream (cat ls k_1)).1) ∧
                (∃ S, HoldEnd w9 S wo.heap.size (stream (cat ls k_1)).2.1 (stream (cat ls k_1)).2.2) ∧ Below wo.heap.size wo w9 ∧ wo.heap.size < w9.heap.size) := fun w9 hb9 => by
              have hle := Hb7.out.trans (hb9.mono Hb7.out.size)
              refine ⟨k + 1, by omega, rfl, ?_, ?_, ⟨A6, c6, _, rfl, ?_, ?_⟩, ⟨fun b => wr.heap.size ≤ b, ?_⟩, hle, ?_⟩
              · rw [hck, List.length_append, Hm.out, HT.out]
              · rw [hck, Hsq.out]
              · show _ = _; rw [hck, Hsq.out]
              · rw [hck, Hsq.out]; exact Ho7.out.keptX (hb9.keptS (fun _ => True)) (fun b hb => trivial) (fun b hb => trivial)
              · rw [hck, Hsq.out]; exact h7.out.kept (hb9.keptS (fun _ => True)) trivial (fun _ _ => trivial)
              · have := Hg7.out; have := hb9.size; omega
            clear hck
            cases br with
            | true =>
              obtain ⟨hf0, hb2⟩ := Hhb5.out Hbr.out
              subst hb2
              have hx : x5 = 210 := Hx5.out
              subst hx
              have hfl : f5.length = 0 := by rw [hf0]; rfl
              clear hf0
              go_wp2_with fail
              refine (isBroken_calls _ _ _ w7 hG7).mono ?_
              rintro e w' ⟨rfl, rfl⟩
              go_wp2_with fail
              refine (left_calls _ _ _ _ _ w7 hG7).mono ?_
              rintro e w' ⟨rfl, rfl⟩
              go_wp2_with fail
              refine HAll.out.mono ?_
              rintro e w9 ⟨rfl, hb9⟩
              have H9 := Fin.out w9 hb9
              clear hfl
              go_wp2_with fail
              exact ⟨H9, by simp [intOf]; omega⟩
            | false =>
              cases br2 with
              | true =>
                have hx : x5 = 210 := Hx5.out
                subst hx
                go_wp2_with fail
                refine (isBroken_calls _ _ _ w7 hG7).mono ?_
                rintro e w' ⟨rfl, rfl⟩
                go_wp2_with fail
                refine (left_calls _ _ _ _ _ w7 hG7).mono ?_
                rintro e w' ⟨rfl, rfl⟩
                go_wp2_with fail
                refine HAll.out.mono ?_
                rintro e w9 ⟨rfl, hb9⟩
                have H9 := Fin.out w9 hb9
                go_wp2_with fail
                exact ⟨H9, by simp [intOf]; omega⟩
              | false =>
                have hx : x5 = 0 := Hx5.out
                subst hx
                go_wp2_with fail
                refine (isBroken_calls _ _ _ w7 hG7).mono ?_
                rintro e w' ⟨rfl, rfl⟩
                go_wp2_with fail
                refine (left_calls _ _ _ _ _ w7 hG7).mono ?_
                rintro e w' ⟨rfl, rfl⟩
                go_wp2_with fail
                refine HAll.out.mono ?_
                rintro e w9 ⟨rfl, hb9⟩
                have H9 := Fin.out w9 hb9
                go_wp2_with fail
                exact ⟨H9, by simp [intOf]; omega⟩
          · obtain rfl : N = k := by omega
            obtain ⟨A4, c4, hG4⟩ := HH3.out.gb
            have hs0 : stream (([] : List UInt8) ++ []) = ([], [], false) := by decide +kernel
            go_wp2_with fail
            refine (reset_calls _ _ _ wr hG4).mono ?_
            rintro e w6 ⟨⟨u, rfl⟩, hG6, k6⟩
            have hbw6 : Below w.heap.size w w6 := hbw3.trans (k6.below hbw3.size (fun x hx => by have := hb.size; omega))
            have h6 : HoldEnd w6 (fun b => b ≠ wo.heap.size) wo.heap.size [] false := ⟨none, 0, hG6, RdY.nil _ _ _, fun _ => rfl, Nat.le_refl _, by omega⟩
            have HF := Lib.hid (feed_n wo.heap.size [] none 0 0 [] rfl (by decide) w6 h6 (.inl rfl) (fun _ => rfl))
            go_wp2_with fail
            refine HF.out.mono ?_
            rintro e w8 hx
            obtain ⟨A8, c8, rfl, o8, h8, k8⟩ := hx.at_ hs0 0 rfl 0 rfl
            obtain ⟨A9, c9, hG9⟩ := h8.gb
            have hbw8 : Below w.heap.size w w8 := hbw6.trans (k8.below hbw6.size (fun x hx => by have := hb.size; omega))
            clear HF hx o8 h8 k8
            go_wp2_with fail
            refine (left_calls _ _ _ _ _ w8 hG9).mono ?_
            rintro e w' ⟨rfl, rfl⟩
            go_wp2_with fail
            refine (isBroken_calls _ _ _ w8 hG9).mono ?_
            rintro e w' ⟨rfl, rfl⟩
            go_wp2_with fail
            go_ret
            exact ⟨by simp, hbw8⟩
end Go.Proofs.Ytmfngkhpaadehaa
