/-
  The law's own 'turned', walked. Conditions: from 2 to 2000 bytes.
-/
import Derived.Test.YtgpmooihbnnpcaaCrcLaws4
import Derived.Test.YtgpmooihbnnpcaaCrcBurstPlain
import Derived.Laws.ShiftsVar
namespace Go.Proofs.Ytgpmooihbnnpcaa
open Go Go.RowKit Go.Kw Go.Kw.Crc
set_option linter.unusedVariables false
set_option linter.unusedSimpArgs false

/-- All bits of the mask lie ahead of the end. -/
def Fits (l : List UInt8) (a m i : Nat) : Prop := ∀ j, j < i → m.testBit j = true → a + j < 8 * l.length
def TurnPost (w' : World) (base : Nat) (e : Ending) (l : List UInt8) (a m : Nat) : Prop :=
  e = .returned (.tuple #[.slice none 0 0, .bool false]) ∨
  (Fits l a m 64 ∧ ∃ A' c', e = .returned (.tuple #[.slice A' l.length c', .bool (decide (0 < count m 64))]) ∧ w'.ownsRow base 5 1 (.slice A' l.length c') l.length (bv (turnedTo a m l 64)))

theorem fits_skip {l : List UInt8} {a m k : Nat} (h : Fits l a m k) (hb : m.testBit k = false) : Fits l a m (k + 1) := by
  intro j hj hj2
  by_cases e : j = k
  · subst e; rw [hb] at hj2; cases hj2
  · exact h j (by omega) hj2
theorem fits_more {l : List UInt8} {a m k : Nat} (h : Fits l a m k) (hb : a + k < 8 * l.length) : Fits l a m (k + 1) := by
  intro j hj hj2
  by_cases e : j = k
  · subst e; exact hb
  · exact h j (by omega) hj2
theorem bit_u64 (m k : Nat) (hm : m < 18446744073709551616) : bits .and .u64 ((m : Int) / 2 ^ k) 1 = ((b2n (m.testBit k) : Nat) : Int) := by
  have h1 : (m : Int) / 2 ^ k = ((m / 2 ^ k : Nat) : Int) := by push_cast; rfl
  have h2 : m / 2 ^ k ≤ m := Nat.div_le_self _ _
  have := u64_and_nat (m / 2 ^ k) 1 (by omega) (by omega)
  rw [nat_mask1, testBit_div] at this
  rw [h1]; exact this

theorem own_ge {w : World} {base e size g n cap : Nat} {xs : List Value} (h : w.ownsRow base e size (.slice (some ⟨g, 0, none⟩) n cap) n xs) : base ≤ g := by
  rcases h.2 with ⟨h', _⟩ | ⟨g', cap', cur, h', hb, _⟩
  · simp at h'
  · simp only [Value.slice.injEq, Option.some.injEq, Addr.mk.injEq, and_true, true_and] at h'
    obtain ⟨rfl, rfl⟩ := h'
    exact hb
theorem bv_turn (l : List UInt8) (q t : Nat) (ht : t < 8) (hq : q < l.length) :
    (bv l).set q (.int .u8 (bits .xor .u8 (bAt l q) (2 ^ t % 256))) = bv (l.set q (l.getD q 0 ^^^ UInt8.ofNat (2 ^ t))) := by
  have h8 : (2 : Nat) ^ t < 256 := by
    have : (2 : Nat) ^ t < 2 ^ 8 := Nat.pow_lt_pow_right (by omega) ht
    omega
  have e1 : ((2 : Int) ^ t % 256) = (((UInt8.ofNat (2 ^ t)).toNat : Nat) : Int) := by
    rw [UInt8.toNat_ofNat', show (2 : Int) ^ t = ((2 ^ t : Nat) : Int) from by push_cast; rfl]
    generalize 2 ^ t = z at h8 ⊢
    omega
  have e2 : bits .xor .u8 (bAt l q) (2 ^ t % 256) = (((l.getD q 0 ^^^ UInt8.ofNat (2 ^ t)).toNat : Nat) : Int) := by
    rw [e1, UInt8.toNat_xor]; unfold bAt
    exact u8_xor_nat _ _ (UInt8.toNat_lt _) (UInt8.toNat_lt _)
  rw [e2]; unfold bv; rw [List.map_set]

set_option maxRecDepth 100000 in
set_option maxHeartbeats 1000000 in
theorem turned_calls (A : Option Addr) (c : Nat) (l : List UInt8) (n m a : Nat) (ha : n % (8 * l.length) = a) (hl : l.length ≤ 2000) (hl2 : 2 ≤ l.length) (hn : n < 4294967296) (hm : m < 18446744073709551616) (w : World) (hR : RdB w w.heap.size A l) (hz : A = none → l.length = 0) :
    Calls Try.prog 23 #[.slice A l.length c, .int .u32 n, .int .u64 m] w fun e w' => TurnPost w' w.heap.size e l a m ∧ Below w.heap.size w w' := by
  obtain ⟨A1, c1, w1, hrun, o1, hb1, -, -, z1⟩ := append_bytes (P := Try.prog) eb (w.alloc (.cells #[] 5)) w.heap.size (l := []) (World.ownsRow_made (size := 1) w #[] 0 (Nat.le_refl _) (by decide) rfl) l.length c (hR.alloc (Nat.le_refl _) _) rfl (by rw [List.length_nil]; omega) (by simp) hz
  simp only [List.nil_append] at hrun o1 z1
  obtain ⟨g, rfl⟩ := own_some o1 (by omega)
  have hb2 := (balloc (Below.refl w.heap.size w) (.cells #[] 5)).trans hb1
  have hlt : a < 8 * l.length := by rw [← ha]; exact Nat.mod_lt _ (by omega)
  have Ha := Lib.hid ha
  have hw : wrap64 ((n : Int) % (8 * (l.length : Int))) = (a : Int) := by
    have : (n : Int) % (8 * (l.length : Int)) = (a : Int) := by rw [← ha]; push_cast; rfl
    rw [this]; unfold wrap64; omega
  clear ha z1
  have hpos : (2 : Int) ≤ (l.length : Int) := by omega
  go_enter Try.func23, Try.ntmps23
  go_wp2_with (at_builtin; refine wpList_append_run hrun rfl rfl rfl rfl rfl ?_)
  rw [hw]
  have hb3 : Below w.heap.size w w1 := hb2
  clear hrun hb1 hb2
  go_loopw [10, 11] (fun cn i wr => ∃ k : Nat, k ≤ 64 ∧ i = .int .i64 k ∧ cn = .int .i64 (count m k : Nat) ∧ Fits l a m k ∧ wr.ownsRow w.heap.size 5 1 (.slice (some ⟨g, 0, none⟩) l.length c1) l.length (bv (turnedTo a m l k)) ∧ Below w.heap.size w wr)
    (fun _ i _ => 64 - (intOf i).toNat)
  case atStart => exact ⟨0, by omega, rfl, rfl, fun j hj => by omega, o1, hb3⟩
  case round =>
    obtain ⟨k, hk, rfl, rfl, hF, ok, hbk⟩ := hrel
    clear o1 hb3 hw
    have hcl := count_le m k
    by_cases hk64 : k < 64
    · cases hbit : m.testBit k with
      | false =>
        have ht : (bits .and .u64 ((m : Int) / 2 ^ k) 1 == 0) = true := by rw [bit_u64 _ _ hm]; simp [hbit, b2n]
        have Hbit := Lib.hid hbit
        clear hbit
        go_wp2_with fail
        go_roundw
        case rel => exact ⟨k + 1, by omega, by go_num, by simp [count, Hbit.out, b2n], fits_skip hF Hbit.out, by rw [turnedTo, if_neg (by simp [Hbit.out])]; exact ok, hbk⟩
        case measure => simp [intOf]; omega
      | true =>
        have ht : (bits .and .u64 ((m : Int) / 2 ^ k) 1 == 0) = false := by rw [bit_u64 _ _ hm]; simp [hbit, b2n]
        have Hbit := Lib.hid hbit
        clear hbit
        by_cases hend : 8 * l.length ≤ a + k
        · have hend' : 8 * (l.length : Int) ≤ (a : Int) + (k : Int) := by omega
          go_wp2_with fail
          go_ret2
          exact ⟨.inl rfl, hbk⟩
        · have hend' : (a : Int) + (k : Int) < 8 * (l.length : Int) := by omega
          have hq : (a + k) / 8 < l.length := by omega
          have hq1 : ((a : Int) + (k : Int)) / 8 < (l.length : Int) := by omega
          have hq2 : 0 ≤ ((a : Int) + (k : Int)) / 8 := by omega
          have hx0 := ok.cellAt ((a + k) / 8) (by omega)
          have hx : wr.cell? ⟨g, (a + k) / 8, none⟩ = some (.int .u8 (bAt (turnedTo a m l k) ((a + k) / 8))) := by
            rw [hx0]; unfold bv; rw [List.getElem?_map, List.getElem?_eq_getElem (by rw [turnedTo_length]; exact hq)]; simp [bAt, List.getD, turnedTo_length, hq]
          have hf := ok.frozenAt ((a + k) / 8)
          clear hx0
          have e1 : IntKind.i64.wrap ((a : Int) + (k : Int)) = (a : Int) + (k : Int) := IntWalk.i64_in _ (by omega)
          have e2 : IntKind.i64.wrap (((a : Int) + (k : Int)).tdiv 8) = ((a : Int) + (k : Int)) / 8 := IntWalk.i64_quo _ _ (by omega)
          have e3 : (((a : Int) + (k : Int)) / 8).toNat = (a + k) / 8 := by omega
          have e4 : ((a : Int) + (k : Int)).tmod 8 = ((a : Int) + (k : Int)) % 8 := IntWalk.rem_in _ _ (by omega)
          go_wp2_with fail
          go_still_tail 19, (by kernel_rfl)
          change wpList _ _ _ _ _ wr.drew
          go_wp2_with fail
          obtain ⟨o3, g3⟩ := ok.stored ((a + k) / 8) (.int .u8 (bits .xor .u8 (bAt (turnedTo a m l k) ((a + k) / 8)) (2 ^ ((a + k) % 8) % 256)))
          rw [bv_turn _ _ _ (Nat.mod_lt _ (by omega)) (by rw [turnedTo_length]; exact hq)] at o3
          have hge : w.heap.size ≤ g := own_ge ok
          have o4 : turnedTo a m l (k + 1) = (turnedTo a m l k).set ((a + k) / 8) ((turnedTo a m l k).getD ((a + k) / 8) 0 ^^^ UInt8.ofNat (2 ^ ((a + k) % 8))) := by rw [turnedTo, if_pos Hbit.out]
          rw [← o4] at o3
          refine ⟨⟨k + 1, by omega, by go_num, by simp [count, Hbit.out, b2n], fits_more hF (by omega), o3, (hbk.setCell hge _).drew⟩, ?_⟩
          simp [intOf]; omega
    · obtain rfl : k = 64 := by omega
      go_wp2_with fail
      go_ret2
      exact ⟨.inr ⟨hF, _, _, rfl, ok⟩, hbk⟩
end Go.Proofs.Ytgpmooihbnnpcaa
