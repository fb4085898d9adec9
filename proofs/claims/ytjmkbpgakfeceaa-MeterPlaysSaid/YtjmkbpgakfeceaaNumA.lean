/-
  Sums and differences of numbers of 200 bits, walked. Conditions stand at each theorem.
-/
import Derived.Test.YtjmkbpgakfeceaaNum
import Derived.Deep.QuietTactic
import Derived.BigQuiet
namespace Go.Proofs.Ytjmkbpgakfeceaa
open Go Go.RowKit Go.Kw Go.Kw.Nm
set_option linter.unusedVariables false
set_option linter.unusedSimpArgs false

/-- The first k bits of a number. -/
def lowF (N k : Nat) : Nat → Nat := fun j => if j < k then bitF N j else 0
theorem lowF_zero (N : Nat) : lowF N 0 = fun _ => 0 := rfl
theorem lowF_step (N k : Nat) : upd (lowF N k) k (bitF N k) = lowF N (k + 1) := by
  funext j
  unfold upd lowF
  by_cases h : j = k
  · subst h; rw [if_pos rfl, if_pos (by omega)]
  · rw [if_neg h]
    by_cases h2 : j < k
    · rw [if_pos h2, if_pos (by omega)]
    · rw [if_neg h2, if_neg (by omega)]
theorem lowF_end (N : Nat) (i : Nat) (h : i < 200) : lowF N 200 i = bitF N i := by unfold lowF; rw [if_pos h]

set_option maxRecDepth 100000 in
set_option maxHeartbeats 2000000 in
theorem num_plus (na nb : Bool) (A B : Nat) (w : World) : Calls Try.prog 42 #[.agg (numC na (bitF A)), .agg (numC nb (bitF B))] w fun e w' => e = .returned (.agg (numC false (bitF (A + B)))) ∧ Below w.heap.size w w' := by
  have hz := num_zero
  obtain ⟨W, hW, n0, n1, n2, n3, hb⟩ := nb4 w na nb false false (bitF A) (bitF B) (fun _ => 0) (fun _ => 0)
  go_enter Try.func42, Try.ntmps42
  go_wp2_with fail
  try rw [hW]
  obtain ⟨b0, hb0⟩ : ∃ b0, w.heap.size = b0 := ⟨_, rfl⟩
  rw [hb0] at n0 n1 n2 n3 hb ⊢
  have Hb0 := Lib.hid hb0
  clear hW hz hb0
  go_loopw [6, 7] (fun c i wr => ∃ k : Nat, k ≤ 200 ∧ i = .int .i64 k ∧ c = .int .i64 (carryOf A B k) ∧ NB wr b0 na (bitF A) ∧ NB wr (b0 + 1) nb (bitF B) ∧ NB wr (b0 + 1 + 1) false (fun _ => 0) ∧ NB wr (b0 + 1 + 1 + 1) false (lowF (A + B) k) ∧ Below b0 w wr) (fun _ i _ => 200 - (intOf i).toNat)
  case atStart => exact ⟨0, by omega, rfl, by rw [carry_zero]; rfl, n0, n1, n2, n3, hb⟩
  case round =>
    obtain ⟨k, hk, rfl, rfl, m0, m1, m2, m3, hb'⟩ := hrel
    by_cases hlt : k < 200
    · have c0 := m0.atA k hlt
      have c1 := m1.atA k hlt
      have f3 := m3.fr (1 + k)
      have c3 := m3.atA k hlt
      have hI : (k : Int) < 200 := by omega
      have hI0 : (0 : Int) ≤ (k : Int) := by omega
      have hx := bitF_lt A k
      have hy := bitF_lt B k
      have hc := carry_le A B k
      have hr := plus_bit A B k
      have hq := plus_carry A B k
      obtain ⟨x, hX⟩ : ∃ x, bitF A k = x := ⟨_, rfl⟩
      obtain ⟨y, hY⟩ : ∃ y, bitF B k = y := ⟨_, rfl⟩
      obtain ⟨c, hC⟩ : ∃ c, carryOf A B k = c := ⟨_, rfl⟩
      obtain ⟨n, hN⟩ : ∃ n, x + y + c = n := ⟨_, rfl⟩
      rw [hX, hY, hC, hN] at hr hq
      rw [hX] at c0 hx
      rw [hY] at c1 hy
      rw [hC] at hc ⊢
      have w1 : IntKind.i64.wrap ((x : Int) + (y : Int)) = (x : Int) + (y : Int) := IntWalk.i64_in _ (by omega)
      have w2 : IntKind.i64.wrap ((x : Int) + (y : Int) + (c : Int)) = (n : Int) := by rw [IntWalk.i64_in _ (by omega)]; omega
      have w3 : IntKind.i64.wrap ((n : Int).tmod 2) = ((bitF (A + B) k : Nat) : Int) := by rw [Int.tmod_eq_emod_of_nonneg (by omega), IntWalk.i64_in _ (by omega)]; omega
      have w4 : (n : Int).tmod 2 = ((bitF (A + B) k : Nat) : Int) := by rw [Int.tmod_eq_emod_of_nonneg (by omega)]; omega
      have w5 : (n : Int).tdiv 2 = ((carryOf A B (k + 1) : Nat) : Int) := by rw [Int.tdiv_eq_ediv_of_nonneg (by omega)]; omega
      have w6 : IntKind.i64.wrap ((carryOf A B (k + 1) : Nat) : Int) = ((carryOf A B (k + 1) : Nat) : Int) := IntWalk.i64_in _ (by have := carry_le A B (k + 1); omega)
      have w7 : IntKind.i64.wrap ((k : Int) + 1) = (k : Int) + 1 := IntWalk.i64_in _ (by omega)
      clear hX hY hC hN hr hq
      go_wp2_with fail
      go_quiet (fail)
      go_wp2_with fail
      refine ⟨⟨k + 1, by omega, by push_cast; rfl, rfl, (m0.drewN nq).far (by simp; omega) _, (m1.drewN nq).far (by simp) _, (m2.drewN nq).far (by simp) _, ?_, (below_dN hb' nq).setCell (by simp; omega) _⟩, by simp [intOf]; omega⟩
      have := (m3.drewN nq).setA k (bitF (A + B) k) hlt
      rw [lowF_step] at this; exact this
    · obtain rfl : k = 200 := by omega
      have m4 := m3.congr (lowF_end (A + B))
      clear m3
      clear hk hlt
      go_wp2_with (first | (refine ld_num m4 rfl _ rfl rfl ?_) | (refine st_num m2 rfl _ _ rfl rfl _ _ rfl ?_))
      refine bodyPost_ret (v := .agg (numC false (bitF (A + B)))) (res_num rfl _ _ (b0 + 1 + 1) (m2.put _ _) rfl) rfl ⟨rfl, by rw [Hb0.out]; exact below_row hb' (by omega) _⟩

set_option maxRecDepth 100000 in
set_option maxHeartbeats 2000000 in
theorem num_minus (na nb : Bool) (A B : Nat) (hBA : B ≤ A) (w : World) : Calls Try.prog 55 #[.agg (numC na (bitF A)), .agg (numC nb (bitF B))] w fun e w' => e = .returned (.agg (numC false (bitF (A - B)))) ∧ Below w.heap.size w w' := by
  have hz := num_zero
  obtain ⟨W, hW, n0, n1, n2, n3, hb⟩ := nb4 w na nb false false (bitF A) (bitF B) (fun _ => 0) (fun _ => 0)
  go_enter Try.func55, Try.ntmps55
  go_wp2_with fail
  try rw [hW]
  obtain ⟨b0, hb0⟩ : ∃ b0, w.heap.size = b0 := ⟨_, rfl⟩
  rw [hb0] at n0 n1 n2 n3 hb ⊢
  have Hb0 := Lib.hid hb0
  have HBA := Lib.hid hBA
  clear hW hz hb0 hBA
  go_loopw [6, 7] (fun c i wr => ∃ k : Nat, k ≤ 200 ∧ i = .int .i64 k ∧ c = .int .i64 (borrowOf A B k) ∧ NB wr b0 na (bitF A) ∧ NB wr (b0 + 1) nb (bitF B) ∧ NB wr (b0 + 1 + 1) false (fun _ => 0) ∧ NB wr (b0 + 1 + 1 + 1) false (lowF (A - B) k) ∧ Below b0 w wr) (fun _ i _ => 200 - (intOf i).toNat)
  case atStart => exact ⟨0, by omega, rfl, by rw [borrow_zero]; rfl, n0, n1, n2, n3, hb⟩
  case round =>
    obtain ⟨k, hk, rfl, rfl, m0, m1, m2, m3, hb'⟩ := hrel
    by_cases hlt : k < 200
    · have c0 := m0.atA k hlt
      have c1 := m1.atA k hlt
      have f3 := m3.fr (1 + k)
      have c3 := m3.atA k hlt
      have hI : (k : Int) < 200 := by omega
      have hI0 : (0 : Int) ≤ (k : Int) := by omega
      have hx := bitF_lt A k
      have hy := bitF_lt B k
      have hc := borrow_le A B k
      have hst := minus_step A B k HBA.out
      obtain ⟨x, hX⟩ : ∃ x, bitF A k = x := ⟨_, rfl⟩
      obtain ⟨y, hY⟩ : ∃ y, bitF B k = y := ⟨_, rfl⟩
      obtain ⟨c, hC⟩ : ∃ c, borrowOf A B k = c := ⟨_, rfl⟩
      rw [hX, hY, hC] at hst
      rw [hX] at c0 hx
      rw [hY] at c1 hy
      rw [hC] at hc ⊢
      have w1 : IntKind.i64.wrap ((x : Int) - (y : Int)) = (x : Int) - (y : Int) := IntWalk.i64_in _ (by omega)
      have w7 : IntKind.i64.wrap ((k : Int) + 1) = (k : Int) + 1 := IntWalk.i64_in _ (by omega)
      obtain ⟨d, hd⟩ : ∃ d : Int, (x : Int) - (y : Int) - (c : Int) = d := ⟨_, rfl⟩
      rw [hd] at hst
      have w2 : IntKind.i64.wrap ((x : Int) - (y : Int) - (c : Int)) = d := by rw [IntWalk.i64_in _ (by omega)]; exact hd
      by_cases hneg : d < 0
      · obtain ⟨h1, h2⟩ := hst.1 hneg
        have kd : decide (d < 0) = true := by simp; exact hneg
        have w3 : IntKind.i64.wrap (d + 2) = ((bitF (A - B) k : Nat) : Int) := by rw [IntWalk.i64_in _ (by omega)]; exact h1
        have H2 := Lib.hid h2
        clear hX hY hC hd hst hneg h1 h2
        go_wp2_with fail
        go_quiet (fail)
        go_wp2_with fail
        refine ⟨⟨k + 1, by omega, by push_cast; rfl, by rw [H2.out]; rfl, (m0.drewN nq).far (by simp; omega) _, (m1.drewN nq).far (by simp) _, (m2.drewN nq).far (by simp) _, ?_, (below_dN hb' nq).setCell (by simp; omega) _⟩, by simp [intOf]; omega⟩
        have := (m3.drewN nq).setA k (bitF (A - B) k) hlt
        rw [lowF_step] at this; exact this
      · obtain ⟨h1, h2⟩ := hst.2 (by omega)
        rw [h1] at w2 hneg
        have kd : decide (((bitF (A - B) k : Nat) : Int) < 0) = false := by simp
        have H2 := Lib.hid h2
        clear hX hY hC hd hst hneg h1 h2
        go_wp2_with fail
        go_quiet (fail)
        go_wp2_with fail
        refine ⟨⟨k + 1, by omega, by push_cast; rfl, by rw [H2.out]; rfl, (m0.drewN nq).far (by simp; omega) _, (m1.drewN nq).far (by simp) _, (m2.drewN nq).far (by simp) _, ?_, (below_dN hb' nq).setCell (by simp; omega) _⟩, by simp [intOf]; omega⟩
        have := (m3.drewN nq).setA k (bitF (A - B) k) hlt
        rw [lowF_step] at this; exact this
    · obtain rfl : k = 200 := by omega
      have m4 := m3.congr (lowF_end (A - B))
      clear m3
      clear hk hlt
      go_wp2_with (first | (refine ld_num m4 rfl _ rfl rfl ?_) | (refine st_num m2 rfl _ _ rfl rfl _ _ rfl ?_))
      refine bodyPost_ret (v := .agg (numC false (bitF (A - B)))) (res_num rfl _ _ (b0 + 1 + 1) (m2.put _ _) rfl) rfl ⟨rfl, by rw [Hb0.out]; exact below_row hb' (by omega) _⟩

theorem nb2 (w : World) (na nb : Bool) (fa fb : Nat → Nat) : ∃ W, ((w.alloc (.cells (numC na fa) 90)).alloc (.cells (numC nb fb) 90)) = W ∧
    NB W w.heap.size na fa ∧ NB W (w.heap.size + 1) nb fb ∧ Below w.heap.size w W := by
  have st : ∀ (w : World) (o : Obj), Below w.heap.size w (w.alloc o) := fun w o => (Below.refl _ w).alloc (Nat.le_refl _) o
  refine ⟨_, rfl, (NB.new w na fa).next (st _ _), ?_, (st w _).trans ((st _ _).mono (by simp only [World.size_alloc]; omega))⟩
  have := NB.new (w.alloc (.cells (numC na fa) 90)) nb fb
  rw [World.size_alloc] at this; exact this

set_option maxRecDepth 100000 in
set_option maxHeartbeats 2000000 in
theorem num_bare (na nb : Bool) (A B : Nat) (hA : A < 2 ^ 200) (hB : B < 2 ^ 200) (w : World) : Calls Try.prog 54 #[.agg (numC na (bitF A)), .agg (numC nb (bitF B))] w fun e w' => e = .returned (.int .i64 (cmpN A B)) ∧ Below w.heap.size w w' := by
  obtain ⟨W, hW, n0, n1, hb⟩ := nb2 w na nb (bitF A) (bitF B)
  have Hst : Hid (A / 2 ^ 200 = B / 2 ^ 200) := by show _ = _; rw [Nat.div_eq_of_lt hA, Nat.div_eq_of_lt hB]
  clear hA hB
  go_enter Try.func54, Try.ntmps54
  go_wp2_with fail
  try rw [hW]
  obtain ⟨b0, hb0⟩ : ∃ b0, w.heap.size = b0 := ⟨_, rfl⟩
  rw [hb0] at n0 n1 hb ⊢
  have Hb0 := Lib.hid hb0
  clear hW hb0
  go_loopw [5] (fun i wr => ∃ k : Nat, k ≤ 200 ∧ i = .int .i64 ((k : Int) - 1) ∧ Hid (A / 2 ^ k = B / 2 ^ k) ∧ NB wr b0 na (bitF A) ∧ NB wr (b0 + 1) nb (bitF B) ∧ Below b0 w wr) (fun i _ => (intOf i + 1).toNat)
  case atStart => exact ⟨200, by omega, rfl, Hst, n0, n1, hb⟩
  case round =>
    obtain ⟨k, hk, rfl, hq, m0, m1, hb'⟩ := hrel
    rcases k with _ | j
    · have e : (((0 : Nat) : Int) - 1) = -1 := rfl
      rw [e]
      have hc0 := cmp_end A B hq.out
      have Hc0 := Lib.hid hc0
      clear hc0
      go_wp2_with fail
      go_ret
      exact ⟨by rw [Hc0.out]; rfl, by rw [Hb0.out]; exact hb'⟩
    · have e : (((j + 1 : Nat) : Int) - 1) = (j : Int) := by omega
      rw [e]
      have hj : j < 200 := by omega
      have c0 := m0.atA j hj
      have c1 := m1.atA j hj
      have hI : (j : Int) < 200 := by omega
      have hI0 : (0 : Int) ≤ (j : Int) := by omega
      have hx := bitF_lt A j
      have hy := bitF_lt B j
      have w7 : IntKind.i64.wrap ((j : Int) - 1) = (j : Int) - 1 := IntWalk.i64_in _ (by omega)
      have kI : decide ((j : Int) ≥ 0) = true := by simp
      by_cases hxy : bitF A j = bitF B j
      · have hs := cmp_same A B j hq.out hxy
        have Hs := Lib.hid hs
        rw [← hxy] at c1
        obtain ⟨x, hX⟩ : ∃ x, bitF A j = x := ⟨_, rfl⟩
        rw [hX] at c0 c1
        clear hX hxy hs hy
        go_wp2_with fail
        go_quiet (fail)
        go_wp2_with fail
        exact ⟨⟨j, by omega, rfl, Hs, m0.drewN nq, m1.drewN nq, below_dN hb' nq⟩, by simp [intOf]⟩
      · have hs := cmp_bit A B j hq.out hxy
        obtain ⟨x, hX⟩ : ∃ x, bitF A j = x := ⟨_, rfl⟩
        obtain ⟨y, hY⟩ : ∃ y, bitF B j = y := ⟨_, rfl⟩
        rw [hX, hY] at hs hxy
        rw [hX] at c0 hx
        rw [hY] at c1 hy
        have kxy : ((x : Int) != (y : Int)) = true := by simp <;> omega
        have kxy2 : ((x : Int) == (y : Int)) = false := by simp <;> omega
        have kxy3 : ¬ (x : Int) = (y : Int) := by omega
        have w8 : IntKind.i64.wrap ((x : Int) - (y : Int)) = cmpN A B := by rw [IntWalk.i64_in _ (by omega)]; exact hs
        clear hX hY hs
        go_wp2_with fail
        go_quiet (fail)
        go_wp2_with fail
        go_quiet (fail)
        go_wp2_with fail
        go_ret
        exact ⟨rfl, by rw [Hb0.out]; exact below_dN (below_dN hb' _) _⟩

theorem of_val (n k : Nat) (hn : n < 18446744073709551616) : wrap64 (bits .and .u64 ((n : Int) / 2 ^ k) 1) = ((bitF n k : Nat) : Int) := by
  have e : (n : Int) / 2 ^ k = ((n / 2 ^ k : Nat) : Int) := by push_cast; rfl
  have hle : n / 2 ^ k ≤ n := Nat.div_le_self _ _
  rw [e, show (1 : Int) = ((1 : Nat) : Int) from rfl, bits_and_u64_nat _ _ (by omega) (by omega), Nat.and_one_is_mod]
  have := Nat.mod_lt (n / 2 ^ k) (show 0 < 2 by omega)
  unfold bitF wrap64
  omega
theorem low64 (n : Nat) (hn : n < 18446744073709551616) (i : Nat) (h : i < 200) : lowF n 64 i = bitF n i := by
  unfold lowF
  split
  · rfl
  · rw [bitF_big n i 64 hn (by omega)]

set_option maxRecDepth 100000 in
set_option maxHeartbeats 2000000 in
theorem num_of (n : Nat) (hn : n < 18446744073709551616) (w : World) : Calls Try.prog 44 #[.int .u64 n] w fun e w' => e = .returned (.agg (numC false (bitF n))) ∧ Below w.heap.size w w' := by
  have hz := num_zero
  obtain ⟨W, hW, n0, n1, hb⟩ := nb2 w false false (fun _ => 0) (fun _ => 0)
  go_enter Try.func44, Try.ntmps44
  go_wp2_with fail
  try rw [hW]
  obtain ⟨b0, hb0⟩ : ∃ b0, w.heap.size = b0 := ⟨_, rfl⟩
  rw [hb0] at n0 n1 hb ⊢
  have Hb0 := Lib.hid hb0
  have Hn := Lib.hid hn
  clear hW hz hb0 hn
  go_loopw [4] (fun i wr => ∃ k : Nat, k ≤ 64 ∧ i = .int .i64 k ∧ NB wr b0 false (fun _ => 0) ∧ NB wr (b0 + 1) false (lowF n k) ∧ Below b0 w wr) (fun i _ => 64 - (intOf i).toNat)
  case atStart => exact ⟨0, by omega, rfl, n0, n1, hb⟩
  case round =>
    obtain ⟨k, hk, rfl, m0, m1, hb'⟩ := hrel
    by_cases hlt : k < 64
    · have c1 := m1.atA k (by omega)
      have f1 := m1.fr (1 + k)
      have hI : (k : Int) < 64 := by omega
      have hI2 : (k : Int) < 200 := by omega
      have hI0 : (0 : Int) ≤ (k : Int) := by omega
      have w7 : IntKind.i64.wrap ((k : Int) + 1) = (k : Int) + 1 := IntWalk.i64_in _ (by omega)
      go_wp2_with fail
      rw [of_val n k Hn.out]
      refine ⟨⟨k + 1, by omega, by push_cast; rfl, m0.far (by simp) _, ?_, hb'.setCell (by simp) _⟩, by simp [intOf]; omega⟩
      have := m1.setA k (bitF n k) (by omega)
      rw [lowF_step] at this; exact this
    · obtain rfl : k = 64 := by omega
      have m4 := m1.congr (low64 n Hn.out)
      clear m1 hk hlt
      go_wp2_with (first | (refine ld_num m4 rfl _ rfl rfl ?_) | (refine st_num m0 rfl _ _ rfl rfl _ _ rfl ?_))
      refine bodyPost_ret (v := .agg (numC false (bitF n))) (res_num rfl _ _ b0 (m0.put _ _) rfl) rfl ⟨rfl, by rw [Hb0.out]; exact below_row hb' (Nat.le_refl _) _⟩
end Go.Proofs.Ytjmkbpgakfeceaa
