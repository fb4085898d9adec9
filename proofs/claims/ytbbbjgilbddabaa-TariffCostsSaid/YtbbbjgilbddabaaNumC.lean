/-
  Numbers of 200 bits: back to uint64 and int64; the sum of a list; walked. Conditions stand at each theorem.
-/
import Derived.Test.YtbbbjgilbddabaaNumB
namespace Go.Proofs.Ytbbbjgilbddabaa
open Go Go.RowKit Go.Kw Go.Kw.Nm
set_option linter.unusedVariables false
set_option linter.unusedSimpArgs false

/-- A number as uint64, and whether it is one. -/
def uintV (na : Bool) (A : Nat) : Value := .tuple #[.int .u64 ((if A < 18446744073709551616 then A else 0 : Nat) : Int), .bool (decide (A < 18446744073709551616) && !na)]
theorem uintV_yes (na : Bool) (A : Nat) (h : A < 18446744073709551616) : uintV na A = .tuple #[.int .u64 (A : Int), .bool (!na)] := by unfold uintV; rw [if_pos h, decide_eq_true h]; rfl
theorem uintV_no (na : Bool) (A : Nat) (h : ¬ A < 18446744073709551616) : uintV na A = .tuple #[.int .u64 0, .bool false] := by unfold uintV; rw [if_neg h, decide_eq_false h]; rfl
theorem uint_big (A k : Nat) (hk : 63 < k) (h : bitF A k = 1) : ¬ A < 18446744073709551616 := by
  intro hA
  rw [bitF_big A k 64 hA (by omega)] at h
  cases h
theorem or_val (n k : Nat) (hn : n < 2 ^ k) (hk : k ≤ 63) : bits .or .u64 (n : Int) (IntKind.u64.wrap (2 ^ k)) = ((n + 2 ^ k : Nat) : Int) ∧ n + 2 ^ k < 18446744073709551616 := by
  have h1 : 2 ^ k ≤ 2 ^ 63 := Nat.pow_le_pow_right (by omega) hk
  have h2 : (2 : Int) ^ k = ((2 ^ k : Nat) : Int) := by push_cast; rfl
  have h3 : IntKind.u64.wrap ((2 ^ k : Nat) : Int) = ((2 ^ k : Nat) : Int) := by rw [IntKind.wrap_u64]; omega
  have h4 := Nat.two_pow_add_eq_or_of_lt hn 1
  rw [Nat.mul_one] at h4
  refine ⟨?_, by omega⟩
  rw [h2, h3, bits_or_u64_nat _ _ (by omega) (by omega), Nat.or_comm, ← h4, Nat.add_comm]
set_option maxRecDepth 100000 in
set_option maxHeartbeats 2000000 in
theorem num_uint (na : Bool) (A : Nat) (hA : A < 2 ^ 200) (w : World) : Calls Try.prog 49 #[.agg (numC na (bitF A))] w fun e w' => e = .returned (uintV na A) ∧ Below w.heap.size w w' := by
  have n0 := NB.new w na (bitF A)
  have hb := stepN w (.cells (numC na (bitF A)) 68)
  obtain ⟨W, hW⟩ : ∃ W, w.alloc (.cells (numC na (bitF A)) 68) = W := ⟨_, rfl⟩
  rw [hW] at n0 hb
  go_enter Try.func49, Try.ntmps49
  go_wp2_with fail
  try rw [hW]
  obtain ⟨b0, hb0⟩ : ∃ b0, w.heap.size = b0 := ⟨_, rfl⟩
  rw [hb0] at n0 hb ⊢
  have Hb0 := Lib.hid hb0
  have HA := Lib.hid hA
  clear hW hb0 hA
  go_loopw [4, 5] (fun n i wr => ∃ k : Nat, k ≤ 200 ∧ i = .int .i64 k ∧ n = .int .u64 ((A % 2 ^ k : Nat) : Int) ∧ Hid (A % 2 ^ k < 18446744073709551616) ∧ NB wr b0 na (bitF A) ∧ Below b0 w wr) (fun _ i _ => 200 - (intOf i).toNat)
  case atStart => exact ⟨0, by omega, rfl, by rw [Nat.pow_zero, Nat.mod_one]; rfl, by show _ < _; rw [Nat.pow_zero, Nat.mod_one]; omega, n0, hb⟩
  case round =>
    obtain ⟨k, hk, rfl, rfl, hlow, m0, hb'⟩ := hrel
    by_cases hlt : k < 200
    · have c0 := m0.atA k hlt
      have hI : (k : Int) < 200 := by omega
      have hI0 : (0 : Int) ≤ (k : Int) := by omega
      have hx := bitF_lt A k
      have hms := mod_succ A k
      have w7 : IntKind.i64.wrap ((k : Int) + 1) = (k : Int) + 1 := IntWalk.i64_in _ (by omega)
      obtain ⟨x, hX⟩ : ∃ x, bitF A k = x := ⟨_, rfl⟩
      rw [hX] at c0 hx hms
      rcases (show x = 0 ∨ x = 1 by omega) with hx0 | hx0
      · subst hx0
        have Hms : Hid (A % 2 ^ (k + 1) = A % 2 ^ k) := by show _ = _; rw [hms]; simp
        clear hms hX hx
        go_wp2_with fail
        refine ⟨⟨k + 1, by omega, by push_cast; rfl, by rw [Hms.out], by rw [Hms.out]; exact hlow, m0, hb'⟩, by simp [intOf]; omega⟩
      · subst hx0
        by_cases hbig : 63 < k
        · have kb : decide ((k : Int) > 63) = true := by simp; omega
          have Hn := Lib.hid (uint_big A k hbig hX)
          clear hms hX hx hbig
          go_wp2_with fail
          go_ret2
          exact ⟨by rw [uintV_no na A Hn.out]; rfl, by rw [Hb0.out]; exact hb'⟩
        · have kb : decide ((k : Int) > 63) = false := by simp; omega
          have Hms : Hid (A % 2 ^ (k + 1) = A % 2 ^ k + 2 ^ k) := by show _ = _; rw [hms]; simp
          have hk63 : k ≤ 63 := by omega
          obtain ⟨n, hn⟩ : ∃ n, A % 2 ^ k = n := ⟨_, rfl⟩
          have hnlt : n < 2 ^ k := by rw [← hn]; exact Nat.mod_lt _ (p2 k)
          rw [hn]
          have HN := Lib.hid hn
          have Hlt := Lib.hid hnlt
          clear hms hX hx hbig hn hnlt hlow
          obtain ⟨ho, hlt2⟩ := or_val n k Hlt.out hk63
          have Hlt2 := Lib.hid hlt2
          clear hlt2
          go_wp2_with fail
          refine ⟨⟨k + 1, by omega, by push_cast; rfl, by rw [Hms.out, HN.out]; push_cast; rfl, by show _ < _; rw [Hms.out, HN.out]; exact Hlt2.out, m0, hb'⟩, by simp [intOf]; omega⟩
    · obtain rfl : k = 200 := by omega
      rw [Nat.mod_eq_of_lt HA.out] at hlow ⊢
      have hlow2 := hlow.out
      have H1 := Lib.hid (uintV_yes na A hlow2)
      have c0 := m0.c0
      clear hlow2 hk hlt HA hlow
      go_wp2_with fail
      go_quiet (fail)
      go_wp2_with fail
      go_ret2
      exact ⟨by rw [H1.out]; rfl, by rw [Hb0.out]; exact below_dN hb' _⟩
theorem alloc_put2 (w : World) (n : Bool) (f : Nat → Nat) : ∃ V, (w.alloc (.cells (numC false fun _ => 0) 68)).setRow w.heap.size (numC n f) = V ∧ NB V w.heap.size n f ∧ (∀ b n g, NB w b n g → NB V b n g) ∧ ∀ B a, Below B a w → B ≤ w.heap.size → Below B a V := by
  rw [World.setRow_alloc_new]
  have st : Below w.heap.size w (w.alloc (.cells (numC n f) 68)) := (Below.refl _ w).alloc (Nat.le_refl _) _
  exact ⟨_, rfl, NB.new w n f, fun b n g h => h.next st, fun B a h hB => h.trans (st.mono hB)⟩
def inZ (z : Int) : Prop := -9223372036854775808 ≤ z ∧ z < 9223372036854775808
instance (z : Int) : Decidable (inZ z) := inferInstanceAs (Decidable (_ ∧ _))
def intV (z : Int) : Value := .tuple #[.int .i64 (if inZ z then z else 0), .bool (decide (inZ z))]
theorem intV_yes (z : Int) (h : inZ z) : intV z = .tuple #[.int .i64 z, .bool true] := by unfold intV; rw [if_pos h, decide_eq_true h]
theorem intV_no (z : Int) (h : ¬ inZ z) : intV z = .tuple #[.int .i64 0, .bool false] := by unfold intV; rw [if_neg h, decide_eq_false h]

set_option maxRecDepth 100000 in
set_option maxHeartbeats 2000000 in
theorem num_int (z : Int) (hA : z.natAbs < 2 ^ 200) (w : World) : Calls Try.prog 38 #[numZ z] w fun e w' => e = .returned (intV z) ∧ Below w.heap.size w w' := by
  have hz := num_zero
  unfold numZ
  obtain ⟨A, hAz⟩ : ∃ A, z.natAbs = A := ⟨_, rfl⟩
  obtain ⟨sg, hsg⟩ : ∃ sg, decide (z < 0) = sg := ⟨_, rfl⟩
  rw [hAz] at hA
  rw [hAz, hsg]
  have n0 := NB.new w sg (bitF A)
  have hb := stepN w (.cells (numC sg (bitF A)) 68)
  obtain ⟨W, hW⟩ : ∃ W, w.alloc (.cells (numC sg (bitF A)) 68) = W := ⟨_, rfl⟩
  rw [hW] at n0 hb
  have m4 := NB.new W false (fun _ => 0)
  obtain ⟨V, hV, x4, hx, hBx⟩ := alloc_put2 W sg (bitF A)
  have f4 := x4.fr 0
  have c4 := x4.c0
  have y4 := x4.setN false
  have y0 := (hx _ _ _ n0).far (p := ⟨W.heap.size, 0, none⟩) (by have := n0.lt; simp; omega) (.bool false)
  have hB := below_setC (hBx _ _ hb (Nat.le_of_lt n0.lt)) (p := ⟨W.heap.size, 0, none⟩) (Nat.le_of_lt n0.lt) (.bool false)
  have HU := Lib.hid (num_uint false A hA)
  have HA := Lib.hid hAz
  have HS := Lib.hid hsg
  clear hA hAz hsg hb hx hBx x4
  go_enter Try.func38, Try.ntmps38
  go_wp2_with (first | (refine ld_num n0 rfl _ rfl rfl ?_) | (refine st_num m4 rfl _ _ rfl rfl _ _ rfl ?_) | (refine ld_num y4 rfl _ rfl rfl ?_))
  refine (HU.out _).mono ?_
  rintro e wu ⟨rfl, hbu⟩
  have c0 := (y0.next hbu).c0
  have hBu := belowN hB y0 (Nat.le_refl _) hbu
  clear hW hV n0 m4 y4 y0 hB hbu f4 c4 hz HU
  by_cases hbig : A < 18446744073709551616
  · rw [uintV_yes false A hbig]
    by_cases h1 : 9223372036854775808 < A
    · have k1 : decide ((A : Int) > 9223372036854775808) = true := by simp; omega
      have hno : ¬ inZ z := by have := HA.out; unfold inZ; omega
      have Hv := Lib.hid (intV_no z hno)
      clear h1 hbig hno
      go_wp2_with fail
      go_ret2
      exact ⟨by rw [Hv.out]; rfl, hBu⟩
    · have k1 : decide ((A : Int) > 9223372036854775808) = false := by simp; omega
      have w1 : IntKind.i64.wrap ((A : Int) - 1) = (A : Int) - 1 := IntWalk.i64_in _ (by omega)
      have w3 : IntKind.i64.wrap (-((A : Int) - 1)) = -((A : Int) - 1) := IntWalk.i64_in _ (by omega)
      have w4 : IntKind.i64.wrap (-((A : Int) - 1) - 1) = -((A : Int) - 1) - 1 := IntWalk.i64_in _ (by omega)
      cases sg with
      | true =>
        have hneg : z < 0 := of_decide_eq_true HS.out
        have hA1 : 1 ≤ A := by have := HA.out; omega
        have hyes : inZ z := by have := HA.out; unfold inZ; omega
        have Hv := Lib.hid (intV_yes z hyes)
        have w2 : IntKind.u64.wrap ((A : Int) - 1) = (A : Int) - 1 := by rw [IntKind.wrap_u64]; omega
        have k3 : ((A : Int) == 0) = false := by simp; omega
        have k4 : (A == 0) = false := by simp; omega
        have k5 : A ≠ 0 := by omega
        have Hz : Hid (-((A : Int) - 1) - 1 = z) := by have := HA.out; show _ = _; omega
        by_cases h2 : 9223372036854775807 < A
        · have k2 : decide ((A : Int) > 9223372036854775807) = true := by simp; omega
          clear hneg hyes h1 h2 hbig hA1
          go_wp2_with fail
          go_ret2
          exact ⟨by rw [Hv.out, ← Hz.out]; rfl, hBu⟩
        · have k2 : decide ((A : Int) > 9223372036854775807) = false := by simp; omega
          clear hneg hyes h1 h2 hbig hA1
          go_wp2_with fail
          go_ret2
          exact ⟨by rw [Hv.out, ← Hz.out]; rfl, hBu⟩
      | false =>
        have hneg : ¬ z < 0 := of_decide_eq_false HS.out
        by_cases h2 : 9223372036854775807 < A
        · have k2 : decide ((A : Int) > 9223372036854775807) = true := by simp; omega
          have hno : ¬ inZ z := by have := HA.out; unfold inZ; omega
          have Hv := Lib.hid (intV_no z hno)
          clear hneg hno h1 h2 hbig
          go_wp2_with fail
          go_ret2
          exact ⟨by rw [Hv.out]; rfl, hBu⟩
        · have k2 : decide ((A : Int) > 9223372036854775807) = false := by simp; omega
          have w5 : IntKind.i64.wrap (A : Int) = (A : Int) := IntWalk.i64_in _ (by omega)
          have hyes : inZ z := by have := HA.out; unfold inZ; omega
          have Hv := Lib.hid (intV_yes z hyes)
          have Hz : Hid ((A : Int) = z) := by have := HA.out; show _ = _; omega
          clear hneg hyes h1 h2 hbig
          go_wp2_with fail
          go_ret2
          exact ⟨by rw [Hv.out, ← Hz.out]; rfl, hBu⟩
  · rw [uintV_no false A hbig]
    have hno : ¬ inZ z := by have := HA.out; unfold inZ; omega
    have Hv := Lib.hid (intV_no z hno)
    clear hbig hno
    go_wp2_with fail
    go_ret2
    exact ⟨by rw [Hv.out]; rfl, hBu⟩
def toldV (z : Int) : Value := .tuple #[.int .i64 (if inZ z then z else 0), .int .i64 (if inZ z then 0 else 10)]
theorem toldV_yes (z : Int) (h : inZ z) : toldV z = .tuple #[.int .i64 z, .int .i64 0] := by unfold toldV; rw [if_pos h, if_pos h]
theorem toldV_no (z : Int) (h : ¬ inZ z) : toldV z = .tuple #[.int .i64 0, .int .i64 10] := by unfold toldV; rw [if_neg h, if_neg h]
set_option maxHeartbeats 2000000 in
theorem num_told (z : Int) (hA : z.natAbs < 2 ^ 200) (w : World) : Calls Try.prog 28 #[numZ z] w fun e w' => e = .returned (toldV z) ∧ Below w.heap.size w w' := by
  have n0 := NB.new w (decide (z < 0)) (bitF z.natAbs)
  have hb := stepN w (.cells (numC (decide (z < 0)) (bitF z.natAbs)) 68)
  obtain ⟨W, hW⟩ : ∃ W, w.alloc (.cells (numC (decide (z < 0)) (bitF z.natAbs)) 68) = W := ⟨_, rfl⟩
  rw [hW] at n0 hb
  have HI := Lib.hid (num_int z hA)
  unfold numZ at HI ⊢
  clear hA
  go_enter Try.func28, Try.ntmps28
  go_wp2_with (first | (refine ld_num n0 rfl _ rfl rfl ?_))
  refine (HI.out _).mono ?_
  rintro e wu ⟨rfl, hbu⟩
  have hBu := belowN hb n0 (Nat.le_refl _) hbu
  clear n0 hb hbu hW HI
  by_cases h : inZ z
  · rw [intV_yes z h]
    have Hv := Lib.hid (toldV_yes z h)
    clear h
    go_wp2_with fail
    go_ret2
    exact ⟨by rw [Hv.out]; rfl, hBu⟩
  · rw [intV_no z h]
    have Hv := Lib.hid (toldV_no z h)
    clear h
    go_wp2_with fail
    go_ret2
    exact ⟨by rw [Hv.out]; rfl, hBu⟩
end Go.Proofs.Ytbbbjgilbddabaa
