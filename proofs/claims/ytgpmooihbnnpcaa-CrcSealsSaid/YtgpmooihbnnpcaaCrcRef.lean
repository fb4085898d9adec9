/-
  The document's Seal and Open, walked; the walk of CrcSeals. Conditions: none beyond the given row.
-/
import Derived.Test.YtgpmooihbnnpcaaCrcLaws4
import Derived.Deep.RegionWith
import Derived.Deep.DeepCutAuto
namespace Go.Proofs.Ytgpmooihbnnpcaa
open Go Go.RowKit Go.Kw Go.Kw.Crc
set_option linter.unusedVariables false
set_option linter.unusedSimpArgs false

set_option maxHeartbeats 1000000 in
theorem refSeal16_calls (A : Option Addr) (c n : Nat) (l : List UInt8) (hn : l.length = n) (hl : n ≤ 900000) (w : World) (hR : RdB w w.heap.size A l) (hz : A = none → n = 0) :
    Calls Try.prog 19 #[.slice A n c, .int .i64 16] w fun e w' => OwnB w' w.heap.size e (seal16 l) ∧ Below w.heap.size w w' := by
  subst hn
  have hs := sum16_lt 65535 (by decide) l
  obtain ⟨A1, c1, w1, hrun, o1, hb1, g1, k1, z1⟩ := append_bytes (P := Try.prog) eb w w.heap.size (l := []) (World.ownsRow_nil w w.heap.size 5 1) l.length c hR rfl (by rw [List.length_nil]; omega) (Nat.le_refl _) hz
  simp only [List.nil_append] at hrun o1 z1
  have hcs : (#[Value.int .u8 ((sum16 65535 l : Int) % 256), .int .u8 ((sum16 65535 l : Int) / 256)] : Array Value).toList = bv [UInt8.ofNat (sum16 65535 l % 256), UInt8.ofNat (sum16 65535 l / 256)] := by
    simp only [bv, List.map_cons, List.map_nil]
    rw [ofNat_byte _ (by omega), ofNat_byte _ (by omega)]
    have h1 : ((sum16 65535 l % 256 : Nat) : Int) = (sum16 65535 l : Int) % 256 := by omega
    have h2 : ((sum16 65535 l / 256 : Nat) : Int) = (sum16 65535 l : Int) / 256 := by omega
    rw [h1, h2]
  obtain ⟨A3, c3, w3, hrun3, o3, hb3, -, -, z3⟩ := append_lit (P := Try.prog) eb w1 w.heap.size o1 _ 2 _ hcs rfl (by simp; omega) hb1.size
  clear hcs
  go_enter Try.func19, Try.ntmps19
  go_wp2_with (at_builtin; refine wpList_append_run hrun rfl rfl rfl rfl rfl ?_)
  refine (ref16_any A c l (by omega) w1 (hR.go hb1) 65535 (by omega)).mono ?_
  rintro e w' ⟨rfl, rfl⟩
  go_wp2_with (at_builtin; refine wpList_append_run hrun3 rfl rfl rfl rfl rfl ?_)
  go_ret
  exact ⟨⟨A3, c3, by rw [seal16_length]; rfl, o3, z3⟩, hb1.trans hb3⟩

set_option maxHeartbeats 1000000 in
theorem refSeal32_calls (A : Option Addr) (c n : Nat) (l : List UInt8) (hn : l.length = n) (hl : n ≤ 900000) (w : World) (hR : RdB w w.heap.size A l) (hz : A = none → n = 0) :
    Calls Try.prog 19 #[.slice A n c, .int .i64 32] w fun e w' => OwnB w' w.heap.size e (seal32 l) ∧ Below w.heap.size w w' := by
  subst hn
  have hs := sum32_lt 0 (by decide) l
  obtain ⟨A1, c1, w1, hrun, o1, hb1, g1, k1, z1⟩ := append_bytes (P := Try.prog) eb w w.heap.size (l := []) (World.ownsRow_nil w w.heap.size 5 1) l.length c hR rfl (by rw [List.length_nil]; omega) (Nat.le_refl _) hz
  simp only [List.nil_append] at hrun o1 z1
  have hcs : (#[Value.int .u8 ((sum32 0 l : Int) / 16777216), .int .u8 (IntKind.u8.wrap ((sum32 0 l : Int) / 65536)), .int .u8 (IntKind.u8.wrap ((sum32 0 l : Int) / 256)), .int .u8 (IntKind.u8.wrap (sum32 0 l : Int))] : Array Value).toList
      = bv [UInt8.ofNat (sum32 0 l / 16777216), UInt8.ofNat (sum32 0 l / 65536 % 256), UInt8.ofNat (sum32 0 l / 256 % 256), UInt8.ofNat (sum32 0 l % 256)] := by
    simp only [bv, List.map_cons, List.map_nil]
    rw [ofNat_byte _ (by omega), ofNat_byte _ (by omega), ofNat_byte _ (by omega), ofNat_byte _ (by omega), IntKind.wrap_u8, IntKind.wrap_u8, IntKind.wrap_u8]
    have h1 : ((sum32 0 l % 256 : Nat) : Int) = (sum32 0 l : Int) % 256 := by omega
    have h2 : ((sum32 0 l / 256 % 256 : Nat) : Int) = (sum32 0 l : Int) / 256 % 256 := by omega
    have h3 : ((sum32 0 l / 65536 % 256 : Nat) : Int) = (sum32 0 l : Int) / 65536 % 256 := by omega
    have h4 : ((sum32 0 l / 16777216 : Nat) : Int) = (sum32 0 l : Int) / 16777216 := by omega
    rw [h1, h2, h3, h4]
  obtain ⟨A3, c3, w3, hrun3, o3, hb3, -, -, z3⟩ := append_lit (P := Try.prog) eb w1 w.heap.size o1 _ 4 _ hcs rfl (by simp; omega) hb1.size
  clear hcs
  go_enter Try.func19, Try.ntmps19
  go_wp2_with (at_builtin; refine wpList_append_run hrun rfl rfl rfl rfl rfl ?_)
  refine (ref32_any A c l (by omega) w1 (hR.go hb1) 0 (by omega)).mono ?_
  rintro e w' ⟨rfl, rfl⟩
  go_wp2_with (at_builtin; refine wpList_append_run hrun3 rfl rfl rfl rfl rfl ?_)
  go_ret
  exact ⟨⟨A3, c3, by rw [seal32_length]; rfl, o3, z3⟩, hb1.trans hb3⟩

/-- What the document's opening answers: a part of what came in. -/
def RefPost (A : Option Addr) (c : Nat) (e : Ending) : Option (List UInt8) → Prop
  | none => e = .returned (.tuple #[.slice none 0 0, .int .i64 30])
  | some r => e = .returned (.tuple #[.slice A r.length c, .int .i64 0])

set_option maxHeartbeats 1000000 in
theorem refOpen16_calls (A : Option Addr) (c : Nat) (l : List UInt8) (hl : l.length ≤ 900000) (w : World) (hR : RdB w w.heap.size A l) (hz : A = none → l.length = 0) (hc : l.length ≤ c) (hc2 : c ≤ 9223372036854775807) :
    Calls Try.prog 21 #[.slice A l.length c, .int .i64 16] w fun e w' => RefPost A c e (openOf seal16 2 l) ∧ Below w.heap.size w w' := by
  by_cases h : l.length < 2
  · have h' : (l.length : Int) - 2 < 0 := by omega
    have ho : openOf seal16 2 l = none := by unfold openOf; rw [if_neg (by omega)]
    rw [ho]
    go_enter Try.func21, Try.ntmps21
    go_wp2
    go_ret2
    exact ⟨rfl, Below.refl _ _⟩
  · have h' : (2 : Int) ≤ (l.length : Int) := by omega
    have q1 : 0 ≤ (l.length : Int) - 2 := by omega
    have q2 : ((l.length : Int) - 2).toNat = l.length - 2 := by omega
    have q3 : (l.length : Int) - 2 ≤ (c : Int) := by omega
    have q4 : l.length - 2 ≤ c := by omega
    have ll : Hid ((l.take (l.length - 2)).length = l.length - 2) := by show _ = _; simp
    have hR1 := rdB_take hR (l.length - 2) (by omega)
    have hz1 : A = none → l.length - 2 = 0 := fun h => by have := hz h; omega
    have Hst := Lib.hid (fun (w : World) (A : Option Addr) (c : Nat) (r : List UInt8) (h : RdB w w.heap.size A r) (hn : A = none → r.length = 0) => run_string (P := Try.prog) (src := 22) (dst := 9) h c hn Try.underlying22 Try.underlying5 Try.underlying9)
    by_cases he : seal16 (l.take (l.length - 2)) = l
    · have ho : openOf seal16 2 l = some (l.take (l.length - 2)) := by unfold openOf; rw [if_pos ⟨by omega, he⟩]
      rw [ho]
      clear ho
      have He := Lib.hid he
      clear he
      go_enter Try.func21, Try.ntmps21
      go_wp2_with fail
      refine (refSeal16_calls A c _ _ ll.out (by omega) w hR1 hz1).mono ?_
      rintro e w1 ⟨⟨A1, c1, rfl, o1, z1⟩, hb1⟩
      have s1 := Hst.out w1 A1 c1 _ (rdB_own o1).1 z1
      have s2 := Hst.out w1 A c _ (hR.go hb1) hz
      rw [He.out] at s1 ⊢
      clear o1 z1 hz hz1
      go_wp2
      go_ret2
      exact ⟨by show _ = Ending.returned (.tuple #[.slice A (l.take (l.length - 2)).length c, .int .i64 0]); rw [ll.out]; rfl, hb1⟩
    · have ho : openOf seal16 2 l = none := by unfold openOf; rw [if_neg (by intro h; exact he h.2)]
      have hd : (seal16 (l.take (l.length - 2)) == l) = false := by simpa using he
      rw [ho]
      clear ho he
      go_enter Try.func21, Try.ntmps21
      go_wp2_with fail
      refine (refSeal16_calls A c _ _ ll.out (by omega) w hR1 hz1).mono ?_
      rintro e w1 ⟨⟨A1, c1, rfl, o1, z1⟩, hb1⟩
      have s1 := Hst.out w1 A1 c1 _ (rdB_own o1).1 z1
      have s2 := Hst.out w1 A c _ (hR.go hb1) hz
      clear o1 z1 hz hz1
      go_wp2
      go_ret2
      exact ⟨rfl, hb1⟩
set_option maxHeartbeats 1000000 in
theorem refOpen32_calls (A : Option Addr) (c : Nat) (l : List UInt8) (hl : l.length ≤ 900000) (w : World) (hR : RdB w w.heap.size A l) (hz : A = none → l.length = 0) (hc : l.length ≤ c) (hc2 : c ≤ 9223372036854775807) :
    Calls Try.prog 21 #[.slice A l.length c, .int .i64 32] w fun e w' => RefPost A c e (openOf seal32 4 l) ∧ Below w.heap.size w w' := by
  by_cases h : l.length < 4
  · have h' : (l.length : Int) - 4 < 0 := by omega
    have ho : openOf seal32 4 l = none := by unfold openOf; rw [if_neg (by omega)]
    rw [ho]
    go_enter Try.func21, Try.ntmps21
    go_wp2
    go_ret2
    exact ⟨rfl, Below.refl _ _⟩
  · have h' : (4 : Int) ≤ (l.length : Int) := by omega
    have q1 : 0 ≤ (l.length : Int) - 4 := by omega
    have q2 : ((l.length : Int) - 4).toNat = l.length - 4 := by omega
    have q3 : (l.length : Int) - 4 ≤ (c : Int) := by omega
    have q4 : l.length - 4 ≤ c := by omega
    have ll : Hid ((l.take (l.length - 4)).length = l.length - 4) := by show _ = _; simp
    have hR1 := rdB_take hR (l.length - 4) (by omega)
    have hz1 : A = none → l.length - 4 = 0 := fun h => by have := hz h; omega
    have Hst := Lib.hid (fun (w : World) (A : Option Addr) (c : Nat) (r : List UInt8) (h : RdB w w.heap.size A r) (hn : A = none → r.length = 0) => run_string (P := Try.prog) (src := 22) (dst := 9) h c hn Try.underlying22 Try.underlying5 Try.underlying9)
    by_cases he : seal32 (l.take (l.length - 4)) = l
    · have ho : openOf seal32 4 l = some (l.take (l.length - 4)) := by unfold openOf; rw [if_pos ⟨by omega, he⟩]
      rw [ho]
      clear ho
      have He := Lib.hid he
      clear he
      go_enter Try.func21, Try.ntmps21
      go_wp2_with fail
      refine (refSeal32_calls A c _ _ ll.out (by omega) w hR1 hz1).mono ?_
      rintro e w1 ⟨⟨A1, c1, rfl, o1, z1⟩, hb1⟩
      have s1 := Hst.out w1 A1 c1 _ (rdB_own o1).1 z1
      have s2 := Hst.out w1 A c _ (hR.go hb1) hz
      rw [He.out] at s1 ⊢
      clear o1 z1 hz hz1
      go_wp2
      go_ret2
      exact ⟨by show _ = Ending.returned (.tuple #[.slice A (l.take (l.length - 4)).length c, .int .i64 0]); rw [ll.out]; rfl, hb1⟩
    · have ho : openOf seal32 4 l = none := by unfold openOf; rw [if_neg (by intro h; exact he h.2)]
      have hd : (seal32 (l.take (l.length - 4)) == l) = false := by simpa using he
      rw [ho]
      clear ho he
      go_enter Try.func21, Try.ntmps21
      go_wp2_with fail
      refine (refSeal32_calls A c _ _ ll.out (by omega) w hR1 hz1).mono ?_
      rintro e w1 ⟨⟨A1, c1, rfl, o1, z1⟩, hb1⟩
      have s1 := Hst.out w1 A1 c1 _ (rdB_own o1).1 z1
      have s2 := Hst.out w1 A c _ (hR.go hb1) hz
      clear o1 z1 hz hz1
      go_wp2
      go_ret2
      exact ⟨rfl, hb1⟩

theorem own_some {w : World} {base : Nat} {e : TypeId} {A : Option Addr} {n c : Nat} {xs : List Value} (h : w.ownsRow base e 1 (.slice A n c) n xs) (hn : 0 < n) : ∃ g, A = some ⟨g, 0, none⟩ := by
  rcases h.2 with ⟨h, h0⟩ | ⟨g, cap, cur, h, _⟩
  · omega
  · injection h with h; exact ⟨g, h⟩
theorem bv_step (r : List UInt8) (k : Nat) : (bv r).set k (.int .u8 (IntKind.u8.wrap (bAt r k + 1))) = bv (r.set k (r.getD k 0 + 1)) := by
  have h : IntKind.u8.wrap (bAt r k + 1) = ((r.getD k 0 + 1).toNat : Int) := by
    rw [IntKind.wrap_u8, UInt8.toNat_add]; unfold bAt; simp
  rw [h]
  unfold bv
  rw [List.map_set]
theorem ref_kept {l r : List UInt8} {k : Nat} {sl : List UInt8 → List UInt8} (h : openOf sl k l = some r) : r = l.take (l.length - k) := by
  unfold openOf at h
  split at h
  · injection h with h; exact h.symm
  · cases h

set_option maxRecDepth 100000 in
set_option maxHeartbeats 2000000 in
theorem crcSeals_walk (a0 : Option Addr) (len0 cap0 : Nat) (z0 : List Int) (w : World) (w0 : IsRow .u8 w a0 len0 cap0 z0) :
    Calls Try.prog 6 #[.slice a0 len0 cap0] w fun e w' => e = .returned (.bool true) ∧ Below w.heap.size w w' := by
  obtain ⟨hm1, hm2, hz0⟩ := w0.caps
  unfold maxLen at hm2
  obtain ⟨l, rfl, hR⟩ := w0.bytes
  clear w0
  have hz : a0 = none → l.length = 0 := fun h => (hz0 h).1
  clear hz0
  have Hst := Lib.hid (fun (w : World) (A : Option Addr) (c : Nat) (r : List UInt8) (h : RdB w w.heap.size A r) (hn : A = none → r.length = 0) => run_string (P := Try.prog) (src := 22) (dst := 9) h c hn Try.underlying22 Try.underlying5 Try.underlying9)
  by_cases h : 4000 < l.length
  · have h' : (4000 : Int) < (l.length : Int) := by omega
    go_enter Try.func6, Try.ntmps6
    go_wp2
    go_ret
    exact ⟨rfl, Below.refl _ _⟩
  · have h' : (l.length : Int) ≤ 4000 := by omega
    have s0 := Hst.out w a0 cap0 l hR hz
    go_enter Try.func6, Try.ntmps6
    go_wp2_with fail
    refine (seal16_calls a0 cap0 l (by omega) w hR hz).mono ?_
    rintro e w1 ⟨⟨A1, c1, rfl, o1, z1⟩, hb1⟩
    go_wp2_with fail
    refine (seal32_calls a0 cap0 l (by omega) w1 (hR.go hb1) hz).mono ?_
    rintro e w2 ⟨⟨A2, c2, rfl, o2, z2⟩, hb⟩
    replace o1 := own_below o1 hb
    have hb2 := bnext hb1 hb
    clear hb hb1
    have o1d : w2.drew.ownsRow w.heap.size 5 1 (.slice A1 (seal16 l).length c1) (seal16 l).length (bv (seal16 l)) := o1
    have o2d : w2.drew.ownsRow w1.heap.size 5 1 (.slice A2 (seal32 l).length c2) (seal32 l).length (bv (seal32 l)) := o2
    have s1 := Hst.out w2.drew A1 c1 _ (rdB_own o1d).1 z1
    have s1b := Hst.out w2.drew A2 c2 _ (rdB_own o2d).1 z2
    have hb2d := hb2.drew
    go_upto_region 6 with fail
    go_cut [37] (fun s37 wx => s37 = .bool false ∧ wx.ownsRow w.heap.size 5 1 (.slice A1 (seal16 l).length c1) (seal16 l).length (bv (seal16 l)) ∧ Below w.heap.size w wx)
    case first =>
      go_region_with (first
      | (go_at_call_of 19 (Value.int IntKind.i64 16); refine (refSeal16_calls a0 cap0 _ l rfl (by omega) w2.drew (hR.go hb2d) hz).mono ?_; rintro e w3 ⟨⟨A3, c3, rfl, o3, z3⟩, hb3⟩; have s2 := Hst.out w3 A3 c3 _ (rdB_own o3).1 z3; have s3 := Hst.out w3 A1 c1 _ (rdB_own (own_below o1d hb3)).1 z1; have s4 := Hst.out w3 A2 c2 _ (rdB_own (own_below o2d hb3)).1 z2)
      | (go_at_call_of 19 (Value.int IntKind.i64 32); refine (refSeal32_calls a0 cap0 _ l rfl (by omega) w3 (hR.go (bnext hb2d hb3)) hz).mono ?_; rintro e w4 ⟨⟨A4, c4, rfl, o4, z4⟩, hb4⟩; have s5 := Hst.out w4 A4 c4 _ (rdB_own o4).1 z4; have s6 := Hst.out w4 A2 c2 _ (rdB_own (own_below (own_below o2d hb3) hb4)).1 z2))
      all_goals (go_wp2_with fail; go_meet; exact ⟨rfl, own_below (own_below o1d hb3) hb4, bnext (bnext hb2d hb3) hb4⟩)
    case rest =>
      obtain ⟨rfl, oc, hbc⟩ := hcut
      clear s0 o1 o2 o1d o2d s1 s1b hb2d hb2 z2
      obtain ⟨g, rfl⟩ := own_some oc (by rw [seal16_length]; omega)
      obtain ⟨N, hN⟩ : ∃ N, (seal16 l).length = N := ⟨_, rfl⟩
      have hN1 : N ≤ 5000 := by rw [← hN, seal16_length]; omega
      rw [hN] at oc
      obtain ⟨r0, hr0, hl0⟩ : ∃ r0, r0 = seal16 l ∧ r0.length = N := ⟨_, rfl, hN⟩
      rw [← hr0] at oc
      have HN := Lib.hid hN
      have Hl0 := Lib.hid hl0
      clear hN hr0 hl0
      go_wp2_with fail
      rw [HN.out]
      go_loopw [6, 40] (fun _ i wr => ∃ (k : Nat) (r : List UInt8), k ≤ N ∧ i = .int .i64 k ∧ r.length = N ∧ wr.ownsRow w.heap.size 5 1 (.slice (some ⟨g, 0, none⟩) N c1) N (bv r) ∧ Below w.heap.size w wr) (fun _ i _ => N - (intOf i).toNat)
      case atStart => exact ⟨0, r0, by omega, rfl, Hl0.out, oc, hbc⟩
      case round =>
        obtain ⟨k, r, hk, rfl, hrl, or, hbr⟩ := hrel
        have Hrl := Lib.hid hrl
        clear hrl
        by_cases hkn : k < N
        · have hx0 := or.cellAt k (by omega)
          have hx : wr.cell? ⟨g, k, none⟩ = some (.int .u8 (bAt r k)) := by
            rw [hx0]; unfold bv; rw [List.getElem?_map, List.getElem?_eq_getElem (by rw [Hrl.out]; exact hkn)]; simp [bAt, List.getD, Hrl.out, hkn]
          have hf := or.frozenAt k
          have hkn' : (k : Int) < (N : Int) := by omega
          have hlo := bAt_lo r k
          have hhi := bAt_hi r k
          clear hx0
          go_wp2_with fail
          go_roundw
          case rel =>
            obtain ⟨o3, g3⟩ := or.stored k (.int .u8 (IntKind.u8.wrap (bAt r k + 1)))
            rw [bv_step] at o3
            exact ⟨k + 1, _, by omega, by go_num, by rw [List.length_set]; exact Hrl.out, o3, hbr.setCell (or.lt g rfl).1 _⟩
          case measure => simp [intOf]; omega
        · obtain rfl : k = N := by omega
          clear oc hbc or
          have hl9 : l.length ≤ 900000 := by omega
          have hl10 : l.length ≤ 9223372036854775807 := by omega
          have hcc : cap0 ≤ 9223372036854775807 := by omega
          go_wp2_with fail
          refine (opened16_calls a0 cap0 l hl9 wr (hR.go hbr) hz hm1 hcc).mono ?_
          rintro e x1 ⟨p1, hx⟩
          have hx1 := bnext hbr hx
          clear hx hbr
          cases e16 : openOf seal16 2 l with
          | none =>
            rw [e16] at p1
            obtain rfl := p1
            have E16 := Lib.hid e16
            clear e16
            go_wp2_with fail
            refine (refOpen16_calls a0 cap0 l hl9 x1 (hR.go hx1) hz hm1 hcc).mono ?_
            rintro e x2 ⟨p2, hx⟩
            rw [E16.out] at p2
            obtain rfl := p2
            have hx2 := bnext hx1 hx
            clear hx hx1
            go_wp2_with fail
            refine (opened32_calls a0 cap0 l hl9 x2 (hR.go hx2) hz hm1 hcc).mono ?_
            rintro e x3 ⟨p3, hx⟩
            have hx3 := bnext hx2 hx
            clear hx hx2
            cases e32 : openOf seal32 4 l with
            | none =>
              rw [e32] at p3
              obtain rfl := p3
              have E32 := Lib.hid e32
              clear e32
              go_wp2_with fail
              refine (refOpen32_calls a0 cap0 l hl9 x3 (hR.go hx3) hz hm1 hcc).mono ?_
              rintro e x4 ⟨p4, hx⟩
              rw [E32.out] at p4
              obtain rfl := p4
              have hx4 := bnext hx3 hx
              have t0 := Hst.out x4 a0 cap0 l (hR.go hx4) hz
              have t5 := Hst.out x4 none 0 [] (rdB_nil _ _ _) (by simp)
              simp only [List.length_nil] at t5
              clear hx hx3
              go_wp2_with fail
              go_ret
              exact ⟨rfl, hx4⟩
            | some r2 =>
              rw [e32] at p3
              have hRr2 : RdB w w.heap.size a0 r2 := by rw [ref_kept e32]; exact rdB_take hR _ (by omega)
              have hzr2 : a0 = none → r2.length = 0 := fun h => by have := hz h; rw [ref_kept e32]; simp; omega
              obtain ⟨A8, c8, rfl, o8, z8⟩ := p3
              have E32 := Lib.hid e32
              clear e32
              go_wp2_with fail
              refine (refOpen32_calls a0 cap0 l hl9 x3 (hR.go hx3) hz hm1 hcc).mono ?_
              rintro e x4 ⟨p4, hx⟩
              rw [E32.out] at p4
              obtain rfl := p4
              have hx4 := bnext hx3 hx
              have t0 := Hst.out x4 a0 cap0 l (hR.go hx4) hz
              have t3 := Hst.out x4 A8 c8 r2 (rdB_own (own_below o8 hx)).1 z8
              have t4 := Hst.out x4 a0 cap0 r2 (hRr2.go hx4) hzr2
              have t5 := Hst.out x4 none 0 [] (rdB_nil _ _ _) (by simp)
              simp only [List.length_nil] at t5
              clear hx hx3 o8 z8 hRr2 hzr2
              go_wp2_with fail
              go_ret
              exact ⟨rfl, hx4⟩
          | some r1 =>
            rw [e16] at p1
            have hRr1 : RdB w w.heap.size a0 r1 := by rw [ref_kept e16]; exact rdB_take hR _ (by omega)
            have hzr1 : a0 = none → r1.length = 0 := fun h => by have := hz h; rw [ref_kept e16]; simp; omega
            obtain ⟨A7, c7, rfl, o7, z7⟩ := p1
            have E16 := Lib.hid e16
            clear e16
            go_wp2_with fail
            refine (refOpen16_calls a0 cap0 l hl9 x1 (hR.go hx1) hz hm1 hcc).mono ?_
            rintro e x2 ⟨p2, hx⟩
            rw [E16.out] at p2
            obtain rfl := p2
            replace o7 := own_below o7 hx
            have hx2 := bnext hx1 hx
            clear hx hx1
            go_wp2_with fail
            refine (opened32_calls a0 cap0 l hl9 x2 (hR.go hx2) hz hm1 hcc).mono ?_
            rintro e x3 ⟨p3, hx⟩
            replace o7 := own_below o7 hx
            have hx3 := bnext hx2 hx
            clear hx hx2
            cases e32 : openOf seal32 4 l with
            | none =>
              rw [e32] at p3
              obtain rfl := p3
              have E32 := Lib.hid e32
              clear e32
              go_wp2_with fail
              refine (refOpen32_calls a0 cap0 l hl9 x3 (hR.go hx3) hz hm1 hcc).mono ?_
              rintro e x4 ⟨p4, hx⟩
              rw [E32.out] at p4
              obtain rfl := p4
              have hx4 := bnext hx3 hx
              have t0 := Hst.out x4 a0 cap0 l (hR.go hx4) hz
              have t1 := Hst.out x4 A7 c7 r1 (rdB_own (own_below o7 hx)).1 z7
              have t2 := Hst.out x4 a0 cap0 r1 (hRr1.go hx4) hzr1
              have t5 := Hst.out x4 none 0 [] (rdB_nil _ _ _) (by simp)
              simp only [List.length_nil] at t5
              clear hx hx3 o7 z7 hRr1 hzr1
              go_wp2_with fail
              go_ret
              exact ⟨rfl, hx4⟩
            | some r2 =>
              rw [e32] at p3
              have hRr2 : RdB w w.heap.size a0 r2 := by rw [ref_kept e32]; exact rdB_take hR _ (by omega)
              have hzr2 : a0 = none → r2.length = 0 := fun h => by have := hz h; rw [ref_kept e32]; simp; omega
              obtain ⟨A8, c8, rfl, o8, z8⟩ := p3
              have E32 := Lib.hid e32
              clear e32
              go_wp2_with fail
              refine (refOpen32_calls a0 cap0 l hl9 x3 (hR.go hx3) hz hm1 hcc).mono ?_
              rintro e x4 ⟨p4, hx⟩
              rw [E32.out] at p4
              obtain rfl := p4
              have hx4 := bnext hx3 hx
              have t0 := Hst.out x4 a0 cap0 l (hR.go hx4) hz
              have t1 := Hst.out x4 A7 c7 r1 (rdB_own (own_below o7 hx)).1 z7
              have t2 := Hst.out x4 a0 cap0 r1 (hRr1.go hx4) hzr1
              have t3 := Hst.out x4 A8 c8 r2 (rdB_own (own_below o8 hx)).1 z8
              have t4 := Hst.out x4 a0 cap0 r2 (hRr2.go hx4) hzr2
              clear hx hx3 o7 z7 hRr1 hzr1 o8 z8 hRr2 hzr2
              go_wp2_with fail
              go_ret
              exact ⟨rfl, hx4⟩
end Go.Proofs.Ytgpmooihbnnpcaa
