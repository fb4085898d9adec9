/-
  Products of numbers of 200 bits, walked. Conditions stand at each theorem.
-/
import Derived.Test.YtjmkbpgakfeceaaNumC
namespace Go.Proofs.Ytjmkbpgakfeceaa
open Go Go.RowKit Go.Kw Go.Kw.Nm
set_option linter.unusedVariables false
set_option linter.unusedSimpArgs false

theorem num_built : Try.prog.built 90 [] = some (numC false fun _ => 0) := by kernel_rfl
theorem num_build (w : World) : (Instr.build 90 #[]).run Try.prog w = .ok (.agg (numC false fun _ => 0)) w := run_build w _ #[] _ num_built
/-- j bits of A, k places higher. -/
def shF (A k j : Nat) : Nat → Nat := fun t => if k ≤ t ∧ t < k + j then bitF A (t - k) else 0
theorem shF_zero (A k : Nat) : shF A k 0 = fun _ => 0 := funext fun t => by unfold shF; rw [if_neg (by omega)]
theorem shF_step (A k j : Nat) : upd (shF A k j) (j + k) (bitF A j) = shF A k (j + 1) := by
  funext t
  unfold upd shF
  by_cases h : t = j + k
  · subst h; rw [if_pos rfl, if_pos (by omega)]; congr 1; omega
  · rw [if_neg h]
    by_cases h2 : k ≤ t ∧ t < k + j
    · rw [if_pos h2, if_pos (by omega)]
    · rw [if_neg h2, if_neg (by omega)]
theorem shF_end (A k j : Nat) (hj : j + k = 200) (i : Nat) (h : i < 200) : shF A k j i = bitF (A * 2 ^ k) i := by
  rw [shl_bit]
  unfold shF
  by_cases h2 : i < k
  · rw [if_neg (by omega), if_pos h2]
  · rw [if_pos (by omega), if_neg h2]

set_option maxRecDepth 100000 in
set_option maxHeartbeats 4000000 in
theorem num_times (na nb : Bool) (A B : Nat) (hB : B < 2 ^ 200) (hAB : A * B < 2 ^ 200) (w : World) : Calls Try.prog 43 #[.agg (numC na (bitF A)), .agg (numC nb (bitF B))] w fun e w' => e = .returned (.agg (numC ((na != nb) && decide (0 < A * B)) (bitF (A * B)))) ∧ Below w.heap.size w w' := by
  have hz := num_zero
  have hbd := num_build
  obtain ⟨W, hW, n0, n1, n2, n3, hb⟩ := nb4 w na nb false false (bitF A) (bitF B) (fun _ => 0) (fun _ => 0)
  obtain ⟨v, hv⟩ : ∃ v, ((na != nb) && decide (0 < A * B)) = v := ⟨_, rfl⟩
  rw [hv]
  have Hv := Lib.hid hv
  go_enter Try.func43, Try.ntmps43
  go_wp2_with fail
  try rw [hW]
  obtain ⟨b0, hb0⟩ : ∃ b0, w.heap.size = b0 := ⟨_, rfl⟩
  rw [hb0] at n0 n1 n2 n3 hb ⊢
  have Hb0 := Lib.hid hb0
  have HB := Lib.hid hB
  have HAB := Lib.hid hAB
  clear hW hb0 hB hAB hv
  go_loopw [6] (fun i wr => ∃ k : Nat, k ≤ 200 ∧ i = .int .i64 k ∧ NB wr b0 na (bitF A) ∧ NB wr (b0 + 1) nb (bitF B) ∧ NB wr (b0 + 1 + 1) false (fun _ => 0) ∧ NB wr (b0 + 1 + 1 + 1) false (bitF (A * (B % 2 ^ k))) ∧ Below b0 w wr) (fun i _ => 200 - (intOf i).toNat)
  case atStart => exact ⟨0, by omega, rfl, n0, n1, n2, by rw [Nat.pow_zero, Nat.mod_one, Nat.mul_zero, bitF_z]; exact n3, hb⟩
  case round =>
    obtain ⟨k, hk, rfl, m0, m1, m2, m3, hb'⟩ := hrel
    by_cases hlt : k < 200
    · have c1 := m1.atA k hlt
      have hI : (k : Int) < 200 := by omega
      have hI0 : (0 : Int) ≤ (k : Int) := by omega
      have w7 : IntKind.i64.wrap ((k : Int) + 1) = (k : Int) + 1 := IntWalk.i64_in _ (by omega)
      by_cases hbit : bitF B k = 0
      · have Hs := Lib.hid (times_skip A B k hbit)
        rw [hbit] at c1
        clear hbit
        go_wp2_with fail
        refine ⟨⟨k + 1, by omega, by push_cast; rfl, m0, m1, m2, ?_, hb'⟩, by simp [intOf]; omega⟩
        rw [Hs.out]; exact m3
      · have Hs := Lib.hid (times_add A B k hbit)
        obtain ⟨x, hx⟩ : ∃ x, bitF B k = x := ⟨_, rfl⟩
        rw [hx] at c1 hbit
        have kx : ((x : Int) == 0) = false := by simp; omega
        have kx2 : (x == 0) = false := by simp; omega
        obtain ⟨wo, rfl⟩ : ∃ wo : World, wo = wr := ⟨_, rfl⟩
        obtain ⟨b7, hb7⟩ : ∃ b7, wo.heap.size = b7 := ⟨_, rfl⟩
        have y7 := NB.new wo false (fun _ => 0)
        have st := stepN wo (.cells (numC false fun _ => 0) 90)
        have y0 := m0.next st
        have y1 := m1.next st
        have y2 := m2.next st
        have y3 := m3.next st
        have hB1 := belowN hb' m0 (Nat.le_refl _) st
        have hb7l : b0 + 1 + 1 + 1 < b7 := by rw [← hb7]; exact m3.lt
        rw [hb7] at y7
        obtain ⟨V, hV⟩ : ∃ V, wo.alloc (.cells (numC false fun _ => 0) 90) = V := ⟨_, rfl⟩
        rw [hV] at y0 y1 y2 y3 y7 hB1
        clear hx hbit m0 m1 m2 m3 hb' st
        go_wp2_with fail
        try rw [hb7]
        try rw [hV]
        clear hV hb7
        go_loopw [8] (fun kk w3 => ∃ j : Nat, j + k ≤ 200 ∧ kk = .int .i64 j ∧ NB w3 b0 na (bitF A) ∧ NB w3 (b0 + 1) nb (bitF B) ∧ NB w3 (b0 + 1 + 1) false (fun _ => 0) ∧ NB w3 (b0 + 1 + 1 + 1) false (bitF (A * (B % 2 ^ k))) ∧ NB w3 b7 false (shF A k j) ∧ Below b0 w w3) (fun kk _ => 200 - (intOf kk).toNat)
        case atStart => exact ⟨0, by omega, rfl, y0, y1, y2, y3, by rw [shF_zero]; exact y7, hB1⟩
        case round =>
          obtain ⟨j, hj, rfl, z0, z1, z2, z3, z7, hbz⟩ := hrel
          have wj : IntKind.i64.wrap ((j : Int) + (k : Int)) = (j : Int) + (k : Int) := IntWalk.i64_in _ (by omega)
          by_cases hjk : j + k < 200
          · have c0 := z0.atA j (by omega)
            have c7 := z7.atA (j + k) hjk
            have f7 := z7.fr (1 + (j + k))
            have hJ : (j : Int) + (k : Int) < 200 := by omega
            have hJ2 : (j : Int) < 200 := by omega
            have hJ0 : (0 : Int) ≤ (j : Int) := by omega
            have hJ1 : (0 : Int) ≤ (j : Int) + (k : Int) := by omega
            have hJt : ((j : Int) + (k : Int)).toNat = j + k := by omega
            have w8 : IntKind.i64.wrap ((j : Int) + 1) = (j : Int) + 1 := IntWalk.i64_in _ (by omega)
            go_wp2_with fail
            refine ⟨⟨j + 1, by omega, by push_cast; rfl, z0.far (by simp; omega) _, z1.far (by simp; omega) _, z2.far (by simp; omega) _, z3.far (by simp; omega) _, ?_, below_setC hbz (by simp; omega) _⟩, by simp [intOf]; omega⟩
            have := z7.setA (j + k) (bitF A j) hjk
            rw [shF_step] at this; exact this
          · have kJ : decide ((j : Int) + (k : Int) < 200) = false := by simp; omega
            have q7 := z7.congr (shF_end A k j (by omega))
            clear z7 hjk hj
            go_wp2_with (first | (refine ld_num z3 rfl _ rfl rfl ?_) | (refine ld_num q7 rfl _ rfl rfl ?_))
            refine (num_plus false false (A * (B % 2 ^ k)) (A * 2 ^ k) _).mono ?_
            rintro e wp ⟨rfl, hbp⟩
            have t0 := z0.next hbp
            have t1 := z1.next hbp
            have t2 := z2.next hbp
            have t3 := z3.next hbp
            have hBt := belowN hbz z0 (Nat.le_refl _) hbp
            have T0 := Lib.hid t0
            have T1 := Lib.hid t1
            have T2 := Lib.hid t2
            clear z0 z1 z2 z3 q7 hbz hbp t0 t1 t2
            rw [← Hs.out]
            go_wp2_with (first | (refine st_num t3 rfl _ _ rfl rfl _ _ rfl ?_))
            refine ⟨⟨k + 1, by omega, by push_cast; rfl, T0.out.row _ (by omega) _, T1.out.row _ (by omega) _, T2.out.row _ (by omega) _, t3.put _ _, below_row hBt (by omega) _⟩, by simp [intOf]; omega⟩
    · obtain rfl : k = 200 := by omega
      rw [Nat.mod_eq_of_lt HB.out] at m3
      obtain ⟨X, hX⟩ : ∃ X, A * B = X := ⟨_, rfl⟩
      rw [hX] at m3
      obtain ⟨V, hV, x9, hx, hBx⟩ := alloc_put wr (fun _ => 0)
      have m9 := NB.new wr false (fun _ => 0)
      have x0 := hx _ _ _ m0
      have x1 := hx _ _ _ m1
      have x2 := hx _ _ _ m2
      have x3 := hx _ _ _ m3
      have hB9 := hBx _ _ hb' (Nat.le_of_lt m0.lt)
      clear hx hBx hlt hk
      subst hV
      have HBare := Lib.hid (num_bare false false X 0 (by rw [← hX]; exact HAB.out) (by decide) ((wr.alloc (.cells (numC false fun _ => 0) 90)).setRow wr.heap.size (numC false fun _ => 0)))
      rw [bitF_z] at HBare
      obtain ⟨cc, hcc⟩ : ∃ cc : Int, cmpN X 0 = cc := ⟨_, rfl⟩
      rw [hcc] at HBare
      have kc : decide (cc > 0) = decide (0 < X) := by
        rw [← hcc]; unfold cmpN; rw [if_neg (by omega)]
        by_cases he : X = 0
        · rw [if_pos he, he]; simp
        · rw [if_neg he]; simp; omega
      have kc2 : decide (0 < cc) = decide (0 < X) := kc
      have Hvv : Hid (((na != nb) && decide (0 < X)) = v) := by have := Hv.out; rw [hX] at this; exact this
      have HX := Lib.hid hX
      clear hcc hX m0 m1 m2 m3
      go_wp2_with (first | (refine st_num m9 rfl _ _ rfl rfl _ _ rfl ?_) | (refine ld_num x3 rfl _ rfl rfl ?_) | (refine ld_num x9 rfl _ rfl rfl ?_))
      refine HBare.out.mono ?_
      rintro e wq ⟨rfl, hbq⟩
      have q0 := x0.next hbq
      have q1 := x1.next hbq
      have q2 := x2.next hbq
      have q3 := x3.next hbq
      have hBq := belowN hB9 x0 (Nat.le_refl _) hbq
      obtain ⟨d, hd⟩ : ∃ d, decide (0 < X) = d := ⟨_, rfl⟩
      rw [hd] at kc kc2
      have Hdv : Hid (((na != nb) && d) = v) := by rw [← hd]; exact Hvv.out
      have c0 := q0.c0
      have c1 := q1.c0
      have c3 := q3.c0
      have f3 := q3.fr 0
      have y3 := q3.setN v
      have y2 := q2.far (p := ⟨b0 + 1 + 1 + 1, 0, none⟩) (by simp) (.bool v)
      have hBy := below_setC hBq (p := ⟨b0 + 1 + 1 + 1, 0, none⟩) (by simp; omega) (.bool v)
      clear x0 x1 x2 x3 x9 hbq q0 q1 q2 q3 hB9 HBare m9 hd Hvv hz hbd n0 n1 n2 n3 hb hb'
      cases na <;> cases nb
      all_goals
        have hdv := Hdv.out
        simp only [Bool.false_and, Bool.true_and, bne_self_eq_false, Bool.false_bne, Bool.true_bne, Bool.not_false, Bool.not_true, Bool.bne_true, Bool.bne_false] at hdv
        subst hdv
        go_wp2_with (first | (refine ld_num y3 rfl _ rfl rfl ?_) | (refine st_num y2 rfl _ _ rfl rfl _ _ rfl ?_))
        refine bodyPost_ret (v := .agg (numC _ (bitF X))) (res_num rfl _ _ (b0 + 1 + 1) (y2.put _ _) rfl) rfl ⟨by rw [HX.out], by rw [Hb0.out]; exact below_row hBy (by omega) _⟩
end Go.Proofs.Ytjmkbpgakfeceaa
