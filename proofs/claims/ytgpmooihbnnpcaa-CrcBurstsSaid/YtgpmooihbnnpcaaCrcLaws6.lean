/-
  The walk of CrcBursts. Conditions: none beyond the given rows.
-/
import Derived.Test.YtgpmooihbnnpcaaCrcLaws5
import Derived.BigRegion
namespace Go.Proofs.Ytgpmooihbnnpcaa
open Go Go.RowKit Go.Kw Go.Kw.Crc
set_option linter.unusedVariables false
set_option linter.unusedSimpArgs false

def TurnPost2 (w' : World) (base : Nat) (e : Ending) (l : List UInt8) (a m : Nat) : Prop :=
  ∃ A' n' c' b, e = .returned (.tuple #[.slice A' n' c', .bool b]) ∧ (b = true → Fits l a m 64 ∧ 0 < count m 64 ∧ n' = l.length ∧ w'.ownsRow base 5 1 (.slice A' l.length c') l.length (bv (turnedTo a m l 64)))
theorem turned2 (A : Option Addr) (c N : Nat) (l : List UInt8) (hN : N = l.length) (n m : Nat) (M : Int) (hM : M = (m : Int)) (hl : l.length ≤ 2000) (hl2 : 2 ≤ l.length) (hn : n < 4294967296) (hm : m < 18446744073709551616) (w : World) (hR : RdB w w.heap.size A l) (hz : A = none → l.length = 0) :
    Calls Try.prog 23 #[.slice A N c, .int .u32 n, .int .u64 M] w fun e w' => TurnPost2 w' w.heap.size e l (n % (8 * l.length)) m ∧ Below w.heap.size w w' := by
  subst hN hM
  refine (turned_calls A c l n m _ rfl hl hl2 hn hm w hR hz).mono ?_
  rintro e w' ⟨h | ⟨hF, A', c', h, o⟩, hb⟩
  · exact ⟨⟨none, 0, 0, false, h, by simp⟩, hb⟩
  · refine ⟨⟨A', l.length, c', decide (0 < count m 64), h, fun hd => ⟨hF, by simpa using hd, rfl, o⟩⟩, hb⟩

theorem own_swap {w : World} {base g c N : Nat} {e : TypeId} (n : Nat) {d : List UInt8} (o : w.ownsRow base e 1 (.slice (some ⟨g, 0, none⟩) N c) N (bv d)) (hd : d.length = n + 4) :
    ((((w.setCell ⟨g, n, none⟩ (.int .u8 (bAt d (n + 3)))).setCell ⟨g, n + 1, none⟩ (.int .u8 (bAt d (n + 2)))).setCell ⟨g, n + 2, none⟩ (.int .u8 (bAt d (n + 1)))).setCell ⟨g, n + 3, none⟩ (.int .u8 (bAt d n))).drew.ownsRow base e 1 (.slice (some ⟨g, 0, none⟩) N c) N (bv (swapE n d)) := by
  have h := ((((o.stored n (.int .u8 (bAt d (n + 3)))).1.stored (n + 1) (.int .u8 (bAt d (n + 2)))).1.stored (n + 2) (.int .u8 (bAt d (n + 1)))).1.stored (n + 3) (.int .u8 (bAt d n))).1
  rw [swap_set n d hd] at h
  exact h
theorem below_swap {B : Nat} {w0 w : World} {g : Nat} (h : Below B w0 w) (hg : B ≤ g) (n : Nat) (a b c d : Value) :
    Below B w0 ((((w.setCell ⟨g, n, none⟩ a).setCell ⟨g, n + 1, none⟩ b).setCell ⟨g, n + 2, none⟩ c).setCell ⟨g, n + 3, none⟩ d).drew :=
  ((((h.setCell (p := ⟨g, n, none⟩) hg a).setCell (p := ⟨g, n + 1, none⟩) hg b).setCell (p := ⟨g, n + 2, none⟩) hg c).setCell (p := ⟨g, n + 3, none⟩) hg d).drew
theorem cell_at {w : World} {base g c N : Nat} {e : TypeId} {d : List UInt8} (o : w.ownsRow base e 1 (.slice (some ⟨g, 0, none⟩) N c) N (bv d)) (k : Nat) (hN : N = d.length) (hk : k < N) : w.cell? ⟨g, k, none⟩ = some (.int .u8 (bAt d k)) := by
  subst hN
  rw [o.cellAt k (by omega)]; unfold bv
  rw [List.getElem?_map, List.getElem?_eq_getElem hk]; simp [bAt, List.getD, hk]
theorem opened32_n (A : Option Addr) (c N : Nat) (l : List UInt8) (hN : N = l.length) (hl : l.length ≤ 900000) (w : World) (hR : RdB w w.heap.size A l) (hz : A = none → l.length = 0) (hc : l.length ≤ c) (hc2 : c ≤ 9223372036854775807) :
    Calls Try.prog 22 #[.slice A N c] w fun e w' => OpenPost w' w.heap.size e (openOf seal32 4 l) ∧ Below w.heap.size w w' := by
  subst hN; exact opened32_calls A c l hl w hR hz hc hc2
theorem opened16_n (A : Option Addr) (c N : Nat) (l : List UInt8) (hN : N = l.length) (hl : l.length ≤ 900000) (w : World) (hR : RdB w w.heap.size A l) (hz : A = none → l.length = 0) (hc : l.length ≤ c) (hc2 : c ≤ 9223372036854775807) :
    Calls Try.prog 20 #[.slice A N c] w fun e w' => OpenPost w' w.heap.size e (openOf seal16 2 l) ∧ Below w.heap.size w w' := by
  subst hN; exact opened16_calls A c l hl w hR hz hc hc2

set_option maxRecDepth 100000 in
set_option maxHeartbeats 2000000 in
theorem crcBursts_walk (a0 : Option Addr) (len0 cap0 : Nat) (z0 : List Int) (a1 : Int) (a2 : Int) (w : World) (w0 : IsRow .u8 w a0 len0 cap0 z0) (w1 : (Lit.int .u32 a1).wf = true) (w2 : (Lit.int .u32 a2).wf = true) :
    Calls Try.prog 9 #[.slice a0 len0 cap0, .int .u32 a1, .int .u32 a2] w fun e w' => e = .returned (.bool true) ∧ Below w.heap.size w w' := by
  obtain ⟨hm1, hm2, hz0⟩ := w0.caps
  unfold maxLen at hm2
  obtain ⟨l, rfl, hR⟩ := w0.bytes
  clear w0
  have hz : a0 = none → l.length = 0 := fun h => (hz0 h).1
  clear hz0
  obtain ⟨n, hn, rfl⟩ : ∃ n : Nat, n < 4294967296 ∧ a1 = (n : Int) := by
    obtain ⟨b0, b1⟩ := Go.bounds_u32 w1
    exact ⟨a1.toNat, by omega, by omega⟩
  obtain ⟨m, hm, rfl⟩ : ∃ m : Nat, m < 4294967296 ∧ a2 = (m : Int) := by
    obtain ⟨b0, b1⟩ := Go.bounds_u32 w2
    exact ⟨a2.toNat, by omega, by omega⟩
  clear w1 w2
  by_cases h : 1000 < l.length
  · have h' : (1000 : Int) < (l.length : Int) := by omega
    go_enter Try.func9, Try.ntmps9
    go_wp2_with (go_at_call 16; refine (alive_calls _).mono ?_; rintro e w1 ⟨rfl, hb1⟩)
    go_ret
    exact ⟨rfl, hb1⟩
  · have h' : (l.length : Int) ≤ 1000 := by omega
    have Hlen := Lib.hid (seal16_length l)
    have hm6 : m % 65536 < 65536 := Nat.mod_lt _ (by omega)
    have hmw : Hid ((m : Int) % 65536 = ((m % 65536 : Nat) : Int)) := by show _ = _; omega
    go_enter Try.func9, Try.ntmps9
    go_wp2_with fail
    refine (alive_calls _).mono ?_
    rintro e w1 ⟨rfl, hb1⟩
    go_wp2_with fail
    refine (seal16_calls a0 cap0 l (by omega) w1 (hR.go hb1) hz).mono ?_
    rintro e w2 ⟨⟨A2, c2, rfl, o2, z2⟩, hb2⟩
    replace hb2 := bnext hb1 hb2
    clear hb1
    go_wp2_with fail
    refine (turned2 A2 c2 _ (seal16 l) rfl n (m % 65536) _ hmw.out (by have := Hlen.out; omega) (by have := Hlen.out; omega) hn (by omega) w2 (rdB_own o2).1 z2).mono ?_
    rintro e w3 ⟨⟨A3, n3, c3, b3, rfl, h3⟩, hb3⟩
    replace hb3 := bnext hb2 hb3
    clear hb2 o2 z2
    cases b3 with
    | true =>
      obtain ⟨hF, hc, rfl, o3⟩ := h3 rfl
      clear h3
      have ho := burst16 _ _ l hm6 hF (Nat.le_of_lt (Nat.mod_lt _ (by have := Hlen.out; omega))) hc
      have HT : Hid ((turnedTo (n % (8 * (seal16 l).length)) (m % 65536) (seal16 l) 64).length = (seal16 l).length) := turnedTo_length _ _ _ _
      clear hF hc
      generalize turnedTo (n % (8 * (seal16 l).length)) (m % 65536) (seal16 l) 64 = d16 at o3 ho HT
      have Ho := Lib.hid ho
      have hcap3 := own_caps o3
      clear ho
      go_wp2_with fail
      refine (opened16_n A3 c3 _ d16 HT.out.symm (by have := HT.out; have := Hlen.out; omega) w3 (rdB_own o3).1 (fun e => by have h1 := own_none o3 e; have := HT.out; omega) (by have := HT.out; omega) hcap3.2).mono ?_
      rintro e w9 ⟨hx, hb9⟩
      rw [Ho.out] at hx
      obtain rfl := hx
      replace hb9 := bnext hb3 hb9
      clear o3 hb3 hcap3
      go_wp2_with fail
      refine (seal32_calls a0 cap0 l (by omega) w9 (hR.go hb9) hz).mono ?_
      rintro e w4 ⟨⟨A4, c4, rfl, o4, z4⟩, hb4⟩
      have hb3s := hb9.size
      replace hb4 := bnext hb9 hb4
      clear hb9
      go_wp2_with fail
      have HN4 : Hid ((seal32 l).length = l.length + 4) := seal32_length l
      have HD4 : Hid ((seal32 l).length = l.length + 4) := seal32_length l
      obtain ⟨g, rfl⟩ := own_some o4 (by have := HN4.out; omega)
      have hge : w.heap.size ≤ g := Nat.le_trans hb3s (own_ge o4)
      have x04 : w4.cell? ⟨g, l.length, none⟩ = some (.int .u8 (bAt (seal32 l) l.length)) := cell_at o4 l.length (HD4.out.symm ▸ HN4.out) (by have := HN4.out; omega)
      have x14 : w4.cell? ⟨g, l.length + 1, none⟩ = some (.int .u8 (bAt (seal32 l) (l.length + 1))) := cell_at o4 _ (HD4.out.symm ▸ HN4.out) (by have := HN4.out; omega)
      have x24 : w4.cell? ⟨g, l.length + 2, none⟩ = some (.int .u8 (bAt (seal32 l) (l.length + 2))) := cell_at o4 _ (HD4.out.symm ▸ HN4.out) (by have := HN4.out; omega)
      have x34 : w4.cell? ⟨g, l.length + 3, none⟩ = some (.int .u8 (bAt (seal32 l) (l.length + 3))) := cell_at o4 _ (HD4.out.symm ▸ HN4.out) (by have := HN4.out; omega)
      have f04 := o4.frozenAt l.length
      have f14 := o4.frozenAt (l.length + 1)
      have f24 := o4.frozenAt (l.length + 2)
      have f34 := o4.frozenAt (l.length + 3)
      have p04 : (l.length : Int) < ((seal32 l).length : Int) := by have := HN4.out; omega
      have p14 : (l.length : Int) + 1 < ((seal32 l).length : Int) := by have := HN4.out; omega
      have p24 : (l.length : Int) + 2 < ((seal32 l).length : Int) := by have := HN4.out; omega
      have p34 : (l.length : Int) + 3 < ((seal32 l).length : Int) := by have := HN4.out; omega
      have q1 : 0 ≤ (l.length : Int) + 1 := by omega
      have q2 : 0 ≤ (l.length : Int) + 2 := by omega
      have q3 : 0 ≤ (l.length : Int) + 3 := by omega
      have e1 : ((l.length : Int) + 1).toNat = l.length + 1 := by omega
      have e2 : ((l.length : Int) + 2).toNat = l.length + 2 := by omega
      have e3 : ((l.length : Int) + 3).toNat = l.length + 3 := by omega
      have i1 : IntKind.i64.wrap ((l.length : Int) + 1) = (l.length : Int) + 1 := IntWalk.i64_in _ (by omega)
      have i2 : IntKind.i64.wrap ((l.length : Int) + 2) = (l.length : Int) + 2 := IntWalk.i64_in _ (by omega)
      have i3 : IntKind.i64.wrap ((l.length : Int) + 3) = (l.length : Int) + 3 := IntWalk.i64_in _ (by omega)
      go_region
      have o5 := own_swap l.length o4 HD4.out
      have hb5 := below_swap hb4 hge l.length (.int .u8 (bAt (seal32 l) (l.length + 3))) (.int .u8 (bAt (seal32 l) (l.length + 2))) (.int .u8 (bAt (seal32 l) (l.length + 1))) (.int .u8 (bAt (seal32 l) l.length))
      clear x04 x14 x24 x34 f04 f14 f24 f34 o4 z4 hb4 p04 p14 p24 p34
      generalize ((((w4.setCell ⟨g, l.length, none⟩ (.int .u8 (bAt (seal32 l) (l.length + 3)))).setCell ⟨g, l.length + 1, none⟩ (.int .u8 (bAt (seal32 l) (l.length + 2)))).setCell ⟨g, l.length + 2, none⟩ (.int .u8 (bAt (seal32 l) (l.length + 1)))).setCell ⟨g, l.length + 3, none⟩ (.int .u8 (bAt (seal32 l) l.length))).drew = w5 at o5 hb5 ⊢
      have HS : Hid ((swapE l.length (seal32 l)).length = l.length + 4) := (swapE_length _ _).trans (seal32_length l)
      go_wp2_with fail
      refine (turned2 _ c4 _ (swapE l.length (seal32 l)) (by have := HS.out; have := HN4.out; omega) n m _ rfl (by have := HS.out; omega) (by have := HS.out; omega) hn (by omega) w5 (rdB_own o5).1 (by simp)).mono ?_
      rintro e w6 ⟨⟨A6, n6, c6, b6, rfl, h6⟩, hb6⟩
      have hb5s := hb5.size
      replace hb6 := bnext hb5 hb6
      clear hb5 o5
      cases b6 with
      | false =>
        clear h6
        go_wp2_with fail
        go_ret
        exact ⟨rfl, hb6⟩
      | true =>
        obtain ⟨hF6, hc6, rfl, o6⟩ := h6 rfl
        clear h6
        have ho6 := burst32 _ _ l hm hF6 (Nat.le_of_lt (Nat.mod_lt _ (by have := HS.out; omega))) hc6
        have HD6 : Hid ((turnedTo (n % (8 * (swapE l.length (seal32 l)).length)) m (swapE l.length (seal32 l)) 64).length = l.length + 4) := (turnedTo_length _ _ _ _).trans HS.out
        clear hF6 hc6
        generalize turnedTo (n % (8 * (swapE l.length (seal32 l)).length)) m (swapE l.length (seal32 l)) 64 = d at o6 ho6 HD6
        have Ho6 := Lib.hid ho6
        clear ho6
        obtain ⟨h, rfl⟩ := own_some o6 (by have := HS.out; omega)
        have hge6 : w.heap.size ≤ h := Nat.le_trans hb5s (own_ge o6)
        have HN6 := HS
        have x06 : w6.cell? ⟨h, l.length, none⟩ = some (.int .u8 (bAt d l.length)) := cell_at o6 l.length (HD6.out.symm ▸ HN6.out) (by have := HN6.out; omega)
        have x16 : w6.cell? ⟨h, l.length + 1, none⟩ = some (.int .u8 (bAt d (l.length + 1))) := cell_at o6 _ (HD6.out.symm ▸ HN6.out) (by have := HN6.out; omega)
        have x26 : w6.cell? ⟨h, l.length + 2, none⟩ = some (.int .u8 (bAt d (l.length + 2))) := cell_at o6 _ (HD6.out.symm ▸ HN6.out) (by have := HN6.out; omega)
        have x36 : w6.cell? ⟨h, l.length + 3, none⟩ = some (.int .u8 (bAt d (l.length + 3))) := cell_at o6 _ (HD6.out.symm ▸ HN6.out) (by have := HN6.out; omega)
        have f06 := o6.frozenAt l.length
        have f16 := o6.frozenAt (l.length + 1)
        have f26 := o6.frozenAt (l.length + 2)
        have f36 := o6.frozenAt (l.length + 3)
        have p06 : (l.length : Int) < ((swapE l.length (seal32 l)).length : Int) := by have := HN6.out; omega
        have p16 : (l.length : Int) + 1 < ((swapE l.length (seal32 l)).length : Int) := by have := HN6.out; omega
        have p26 : (l.length : Int) + 2 < ((swapE l.length (seal32 l)).length : Int) := by have := HN6.out; omega
        have p36 : (l.length : Int) + 3 < ((swapE l.length (seal32 l)).length : Int) := by have := HN6.out; omega
        go_wp2_with fail
        go_region
        have o7 := own_swap l.length o6 HD6.out
        have hb7 := below_swap hb6 hge6 l.length (.int .u8 (bAt d (l.length + 3))) (.int .u8 (bAt d (l.length + 2))) (.int .u8 (bAt d (l.length + 1))) (.int .u8 (bAt d l.length))
        clear x06 x16 x26 x36 f06 f16 f26 f36 o6 hb6 p06 p16 p26 p36
        generalize ((((w6.setCell ⟨h, l.length, none⟩ (.int .u8 (bAt d (l.length + 3)))).setCell ⟨h, l.length + 1, none⟩ (.int .u8 (bAt d (l.length + 2)))).setCell ⟨h, l.length + 2, none⟩ (.int .u8 (bAt d (l.length + 1)))).setCell ⟨h, l.length + 3, none⟩ (.int .u8 (bAt d l.length))).drew = w7 at o7 hb7 ⊢
        have HL7 : Hid ((swapE l.length d).length = l.length + 4) := (swapE_length _ _).trans HD6.out
        have hcap := own_caps o7
        go_wp2_with fail
        refine (opened32_n _ c6 _ (swapE l.length d) (by have := HS.out; have := HL7.out; omega) (by have := HL7.out; omega) w7 (rdB_own o7).1 (by simp) (by have := HS.out; have := HL7.out; omega) hcap.2).mono ?_
        rintro e w8 ⟨ho, hb8⟩
        rw [Ho6.out] at ho
        obtain rfl := ho
        replace hb8 := bnext hb7 hb8
        go_wp2_with fail
        go_ret
        exact ⟨rfl, hb8⟩
    | false =>
      clear h3
      go_wp2_with fail
      refine (seal32_calls a0 cap0 l (by omega) w3 (hR.go hb3) hz).mono ?_
      rintro e w4 ⟨⟨A4, c4, rfl, o4, z4⟩, hb4⟩
      have hb3s := hb3.size
      replace hb4 := bnext hb3 hb4
      clear hb3
      go_wp2_with fail
      have HN4 : Hid ((seal32 l).length = l.length + 4) := seal32_length l
      have HD4 : Hid ((seal32 l).length = l.length + 4) := seal32_length l
      obtain ⟨g, rfl⟩ := own_some o4 (by have := HN4.out; omega)
      have hge : w.heap.size ≤ g := Nat.le_trans hb3s (own_ge o4)
      have x04 : w4.cell? ⟨g, l.length, none⟩ = some (.int .u8 (bAt (seal32 l) l.length)) := cell_at o4 l.length (HD4.out.symm ▸ HN4.out) (by have := HN4.out; omega)
      have x14 : w4.cell? ⟨g, l.length + 1, none⟩ = some (.int .u8 (bAt (seal32 l) (l.length + 1))) := cell_at o4 _ (HD4.out.symm ▸ HN4.out) (by have := HN4.out; omega)
      have x24 : w4.cell? ⟨g, l.length + 2, none⟩ = some (.int .u8 (bAt (seal32 l) (l.length + 2))) := cell_at o4 _ (HD4.out.symm ▸ HN4.out) (by have := HN4.out; omega)
      have x34 : w4.cell? ⟨g, l.length + 3, none⟩ = some (.int .u8 (bAt (seal32 l) (l.length + 3))) := cell_at o4 _ (HD4.out.symm ▸ HN4.out) (by have := HN4.out; omega)
      have f04 := o4.frozenAt l.length
      have f14 := o4.frozenAt (l.length + 1)
      have f24 := o4.frozenAt (l.length + 2)
      have f34 := o4.frozenAt (l.length + 3)
      have p04 : (l.length : Int) < ((seal32 l).length : Int) := by have := HN4.out; omega
      have p14 : (l.length : Int) + 1 < ((seal32 l).length : Int) := by have := HN4.out; omega
      have p24 : (l.length : Int) + 2 < ((seal32 l).length : Int) := by have := HN4.out; omega
      have p34 : (l.length : Int) + 3 < ((seal32 l).length : Int) := by have := HN4.out; omega
      have q1 : 0 ≤ (l.length : Int) + 1 := by omega
      have q2 : 0 ≤ (l.length : Int) + 2 := by omega
      have q3 : 0 ≤ (l.length : Int) + 3 := by omega
      have e1 : ((l.length : Int) + 1).toNat = l.length + 1 := by omega
      have e2 : ((l.length : Int) + 2).toNat = l.length + 2 := by omega
      have e3 : ((l.length : Int) + 3).toNat = l.length + 3 := by omega
      have i1 : IntKind.i64.wrap ((l.length : Int) + 1) = (l.length : Int) + 1 := IntWalk.i64_in _ (by omega)
      have i2 : IntKind.i64.wrap ((l.length : Int) + 2) = (l.length : Int) + 2 := IntWalk.i64_in _ (by omega)
      have i3 : IntKind.i64.wrap ((l.length : Int) + 3) = (l.length : Int) + 3 := IntWalk.i64_in _ (by omega)
      go_region
      have o5 := own_swap l.length o4 HD4.out
      have hb5 := below_swap hb4 hge l.length (.int .u8 (bAt (seal32 l) (l.length + 3))) (.int .u8 (bAt (seal32 l) (l.length + 2))) (.int .u8 (bAt (seal32 l) (l.length + 1))) (.int .u8 (bAt (seal32 l) l.length))
      clear x04 x14 x24 x34 f04 f14 f24 f34 o4 z4 hb4 p04 p14 p24 p34
      generalize ((((w4.setCell ⟨g, l.length, none⟩ (.int .u8 (bAt (seal32 l) (l.length + 3)))).setCell ⟨g, l.length + 1, none⟩ (.int .u8 (bAt (seal32 l) (l.length + 2)))).setCell ⟨g, l.length + 2, none⟩ (.int .u8 (bAt (seal32 l) (l.length + 1)))).setCell ⟨g, l.length + 3, none⟩ (.int .u8 (bAt (seal32 l) l.length))).drew = w5 at o5 hb5 ⊢
      have HS : Hid ((swapE l.length (seal32 l)).length = l.length + 4) := (swapE_length _ _).trans (seal32_length l)
      go_wp2_with fail
      refine (turned2 _ c4 _ (swapE l.length (seal32 l)) (by have := HS.out; have := HN4.out; omega) n m _ rfl (by have := HS.out; omega) (by have := HS.out; omega) hn (by omega) w5 (rdB_own o5).1 (by simp)).mono ?_
      rintro e w6 ⟨⟨A6, n6, c6, b6, rfl, h6⟩, hb6⟩
      have hb5s := hb5.size
      replace hb6 := bnext hb5 hb6
      clear hb5 o5
      cases b6 with
      | false =>
        clear h6
        go_wp2_with fail
        go_ret
        exact ⟨rfl, hb6⟩
      | true =>
        obtain ⟨hF6, hc6, rfl, o6⟩ := h6 rfl
        clear h6
        have ho6 := burst32 _ _ l hm hF6 (Nat.le_of_lt (Nat.mod_lt _ (by have := HS.out; omega))) hc6
        have HD6 : Hid ((turnedTo (n % (8 * (swapE l.length (seal32 l)).length)) m (swapE l.length (seal32 l)) 64).length = l.length + 4) := (turnedTo_length _ _ _ _).trans HS.out
        clear hF6 hc6
        generalize turnedTo (n % (8 * (swapE l.length (seal32 l)).length)) m (swapE l.length (seal32 l)) 64 = d at o6 ho6 HD6
        have Ho6 := Lib.hid ho6
        clear ho6
        obtain ⟨h, rfl⟩ := own_some o6 (by have := HS.out; omega)
        have hge6 : w.heap.size ≤ h := Nat.le_trans hb5s (own_ge o6)
        have HN6 := HS
        have x06 : w6.cell? ⟨h, l.length, none⟩ = some (.int .u8 (bAt d l.length)) := cell_at o6 l.length (HD6.out.symm ▸ HN6.out) (by have := HN6.out; omega)
        have x16 : w6.cell? ⟨h, l.length + 1, none⟩ = some (.int .u8 (bAt d (l.length + 1))) := cell_at o6 _ (HD6.out.symm ▸ HN6.out) (by have := HN6.out; omega)
        have x26 : w6.cell? ⟨h, l.length + 2, none⟩ = some (.int .u8 (bAt d (l.length + 2))) := cell_at o6 _ (HD6.out.symm ▸ HN6.out) (by have := HN6.out; omega)
        have x36 : w6.cell? ⟨h, l.length + 3, none⟩ = some (.int .u8 (bAt d (l.length + 3))) := cell_at o6 _ (HD6.out.symm ▸ HN6.out) (by have := HN6.out; omega)
        have f06 := o6.frozenAt l.length
        have f16 := o6.frozenAt (l.length + 1)
        have f26 := o6.frozenAt (l.length + 2)
        have f36 := o6.frozenAt (l.length + 3)
        have p06 : (l.length : Int) < ((swapE l.length (seal32 l)).length : Int) := by have := HN6.out; omega
        have p16 : (l.length : Int) + 1 < ((swapE l.length (seal32 l)).length : Int) := by have := HN6.out; omega
        have p26 : (l.length : Int) + 2 < ((swapE l.length (seal32 l)).length : Int) := by have := HN6.out; omega
        have p36 : (l.length : Int) + 3 < ((swapE l.length (seal32 l)).length : Int) := by have := HN6.out; omega
        go_wp2_with fail
        go_region
        have o7 := own_swap l.length o6 HD6.out
        have hb7 := below_swap hb6 hge6 l.length (.int .u8 (bAt d (l.length + 3))) (.int .u8 (bAt d (l.length + 2))) (.int .u8 (bAt d (l.length + 1))) (.int .u8 (bAt d l.length))
        clear x06 x16 x26 x36 f06 f16 f26 f36 o6 hb6 p06 p16 p26 p36
        generalize ((((w6.setCell ⟨h, l.length, none⟩ (.int .u8 (bAt d (l.length + 3)))).setCell ⟨h, l.length + 1, none⟩ (.int .u8 (bAt d (l.length + 2)))).setCell ⟨h, l.length + 2, none⟩ (.int .u8 (bAt d (l.length + 1)))).setCell ⟨h, l.length + 3, none⟩ (.int .u8 (bAt d l.length))).drew = w7 at o7 hb7 ⊢
        have HL7 : Hid ((swapE l.length d).length = l.length + 4) := (swapE_length _ _).trans HD6.out
        have hcap := own_caps o7
        go_wp2_with fail
        refine (opened32_n _ c6 _ (swapE l.length d) (by have := HS.out; have := HL7.out; omega) (by have := HL7.out; omega) w7 (rdB_own o7).1 (by simp) (by have := HS.out; have := HL7.out; omega) hcap.2).mono ?_
        rintro e w8 ⟨ho, hb8⟩
        rw [Ho6.out] at ho
        obtain rfl := ho
        replace hb8 := bnext hb7 hb8
        go_wp2_with fail
        go_ret
        exact ⟨rfl, hb8⟩
end Go.Proofs.Ytgpmooihbnnpcaa
