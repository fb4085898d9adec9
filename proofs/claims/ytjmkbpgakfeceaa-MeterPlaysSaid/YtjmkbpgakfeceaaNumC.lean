/-
  Numbers of 200 bits: back to uint64 and int64; the sum of a list; walked. Conditions stand at each theorem.
-/
import Derived.Test.YtjmkbpgakfeceaaNumB
namespace Go.Proofs.Ytjmkbpgakfeceaa
open Go Go.RowKit Go.Kw Go.Kw.Nm
set_option linter.unusedVariables false
set_option linter.unusedSimpArgs false

/-- A number as uint64, and whether it is one. -/
def uintV (na : Bool) (A : Nat) : Value := .tuple #[.int .u64 ((if A < 18446744073709551616 then A else 0 : Nat) : Int), .bool (decide (A < 18446744073709551616) && !na)]
theorem uintV_yes (na : Bool) (A : Nat) (h : A < 18446744073709551616) : uintV na A = .tuple #[.int .u64 (A : Int), .bool (!na)] := by unfold uintV; rw [if_pos h, decide_eq_true h]; rfl
theorem uintV_no (na : Bool) (A : Nat) (h : ¬ A < 18446744073709551616) : uintV na A = .tuple #[.int .u64 0, .bool false] := by unfold uintV; rw [if_neg h, decide_eq_false h]; rfl
theorem uint_big (A k : Nat) (hk : 63 < k) (h : bitF A k = 1) : ¬ A < 18446744073709551616 := by
  intro hA
  rw [bitF_big A k 64 hA (by omega)] at h
  cases h
theorem or_val (n k : Nat) (hn : n < 2 ^ k) (hk : k ≤ 63) : bits .or .u64 (n : Int) (IntKind.u64.wrap (2 ^ k)) = ((n + 2 ^ k : Nat) : Int) ∧ n + 2 ^ k < 18446744073709551616 := by
  have h1 : 2 ^ k ≤ 2 ^ 63 := Nat.pow_le_pow_right (by omega) hk
  have h2 : (2 : Int) ^ k = ((2 ^ k : Nat) : Int) := by push_cast; rfl
  have h3 : IntKind.u64.wrap ((2 ^ k : Nat) : Int) = ((2 ^ k : Nat) : Int) := by rw [IntKind.wrap_u64]; omega
  have h4 := Nat.two_pow_add_eq_or_of_lt hn 1
  rw [Nat.mul_one] at h4
  refine ⟨?_, by omega⟩
  rw [h2, h3, bits_or_u64_nat _ _ (by omega) (by omega), Nat.or_comm, ← h4, Nat.add_comm]
set_option maxRecDepth 100000 in
set_option maxHeartbeats 2000000 in
theorem num_uint (na : Bool) (A : Nat) (hA : A < 2 ^ 200) (w : World) : Calls Try.prog 46 #[.agg (numC na (bitF A))] w fun e w' => e = .returned (uintV na A) ∧ Below w.heap.size w w' := by
  have n0 := NB.new w na (bitF A)
  have hb := stepN w (.cells (numC na (bitF A)) 90)
  obtain ⟨W, hW⟩ : ∃ W, w.alloc (.cells (numC na (bitF A)) 90) = W := ⟨_, rfl⟩
  rw [hW] at n0 hb
  go_enter Try.func46, Try.ntmps46
  go_wp2_with fail
  try rw [hW]
  obtain ⟨b0, hb0⟩ : ∃ b0, w.heap.size = b0 := ⟨_, rfl⟩
  rw [hb0] at n0 hb ⊢
  have Hb0 := Lib.hid hb0
  have HA := Lib.hid hA
  clear hW hb0 hA
  go_loopw [4, 5] (fun n i wr => ∃ k : Nat, k ≤ 200 ∧ i = .int .i64 k ∧ n = .int .u64 ((A % 2 ^ k : Nat) : Int) ∧ Hid (A % 2 ^ k < 18446744073709551616) ∧ NB wr b0 na (bitF A) ∧ Below b0 w wr) (fun _ i _ => 200 - (intOf i).toNat)
  case atStart => exact ⟨0, by omega, rfl, by rw [Nat.pow_zero, Nat.mod_one]; rfl, by show _ < _; rw [Nat.pow_zero, Nat.mod_one]; omega, n0, hb⟩
  case round =>
    obtain ⟨k, hk, rfl, rfl, hlow, m0, hb'⟩ := hrel
    by_cases hlt : k < 200
    · have c0 := m0.atA k hlt
      have hI : (k : Int) < 200 := by omega
      have hI0 : (0 : Int) ≤ (k : Int) := by omega
      have hx := bitF_lt A k
      have hms := mod_succ A k
      have w7 : IntKind.i64.wrap ((k : Int) + 1) = (k : Int) + 1 := IntWalk.i64_in _ (by omega)
      obtain ⟨x, hX⟩ : ∃ x, bitF A k = x := ⟨_, rfl⟩
      rw [hX] at c0 hx hms
      rcases (show x = 0 ∨ x = 1 by omega) with hx0 | hx0
      · subst hx0
        have Hms : Hid (A % 2 ^ (k + 1) = A % 2 ^ k) := by show _ = _; rw [hms]; simp
        clear hms hX hx
        go_wp2_with fail
        refine ⟨⟨k + 1, by omega, by push_cast; rfl, by rw [Hms.out], by rw [Hms.out]; exact hlow, m0, hb'⟩, by simp [intOf]; omega⟩
      · subst hx0
        by_cases hbig : 63 < k
        · have kb : decide ((k : Int) > 63) = true := by simp; omega
          have Hn := Lib.hid (uint_big A k hbig hX)
          clear hms hX hx hbig
          go_wp2_with fail
          go_ret2
          exact ⟨by rw [uintV_no na A Hn.out]; rfl, by rw [Hb0.out]; exact hb'⟩
        · have kb : decide ((k : Int) > 63) = false := by simp; omega
          have Hms : Hid (A % 2 ^ (k + 1) = A % 2 ^ k + 2 ^ k) := by show _ = _; rw [hms]; simp
          have hk63 : k ≤ 63 := by omega
          obtain ⟨n, hn⟩ : ∃ n, A % 2 ^ k = n := ⟨_, rfl⟩
          have hnlt : n < 2 ^ k := by rw [← hn]; exact Nat.mod_lt _ (p2 k)
          rw [hn]
          have HN := Lib.hid hn
          have Hlt := Lib.hid hnlt
          clear hms hX hx hbig hn hnlt hlow
          obtain ⟨ho, hlt2⟩ := or_val n k Hlt.out hk63
          have Hlt2 := Lib.hid hlt2
          clear hlt2
          go_wp2_with fail
          refine ⟨⟨k + 1, by omega, by push_cast; rfl, by rw [Hms.out, HN.out]; push_cast; rfl, by show _ < _; rw [Hms.out, HN.out]; exact Hlt2.out, m0, hb'⟩, by simp [intOf]; omega⟩
    · obtain rfl : k = 200 := by omega
      rw [Nat.mod_eq_of_lt HA.out] at hlow ⊢
      have hlow2 := hlow.out
      have H1 := Lib.hid (uintV_yes na A hlow2)
      have c0 := m0.c0
      clear hlow2 hk hlt HA hlow
      go_wp2_with fail
      go_quiet (fail)
      go_wp2_with fail
      go_ret2
      exact ⟨by rw [H1.out]; rfl, by rw [Hb0.out]; exact below_dN hb' _⟩
theorem alloc_put2 (w : World) (n : Bool) (f : Nat → Nat) : ∃ V, (w.alloc (.cells (numC false fun _ => 0) 90)).setRow w.heap.size (numC n f) = V ∧ NB V w.heap.size n f ∧ (∀ b n g, NB w b n g → NB V b n g) ∧ ∀ B a, Below B a w → B ≤ w.heap.size → Below B a V := by
  rw [World.setRow_alloc_new]
  have st : Below w.heap.size w (w.alloc (.cells (numC n f) 90)) := (Below.refl _ w).alloc (Nat.le_refl _) _
  exact ⟨_, rfl, NB.new w n f, fun b n g h => h.next st, fun B a h hB => h.trans (st.mono hB)⟩
def inZ (z : Int) : Prop := -9223372036854775808 ≤ z ∧ z < 9223372036854775808
instance (z : Int) : Decidable (inZ z) := inferInstanceAs (Decidable (_ ∧ _))
def intV (z : Int) : Value := .tuple #[.int .i64 (if inZ z then z else 0), .bool (decide (inZ z))]
theorem intV_yes (z : Int) (h : inZ z) : intV z = .tuple #[.int .i64 z, .bool true] := by unfold intV; rw [if_pos h, decide_eq_true h]
theorem intV_no (z : Int) (h : ¬ inZ z) : intV z = .tuple #[.int .i64 0, .bool false] := by unfold intV; rw [if_neg h, decide_eq_false h]

def toldV (z : Int) : Value := .tuple #[.int .i64 (if inZ z then z else 0), .int .i64 (if inZ z then 0 else 10)]
theorem toldV_yes (z : Int) (h : inZ z) : toldV z = .tuple #[.int .i64 z, .int .i64 0] := by unfold toldV; rw [if_pos h, if_pos h]
theorem toldV_no (z : Int) (h : ¬ inZ z) : toldV z = .tuple #[.int .i64 0, .int .i64 10] := by unfold toldV; rw [if_neg h, if_neg h]
end Go.Proofs.Ytjmkbpgakfeceaa
