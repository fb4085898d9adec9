/-
  Quotients of numbers of 200 bits, walked. Conditions stand at each theorem.
-/
import Derived.Test.YtjmkbpgakfeceaaNumD
namespace Go.Proofs.Ytjmkbpgakfeceaa
open Go Go.RowKit Go.Kw Go.Kw.Nm
set_option linter.unusedVariables false
set_option linter.unusedSimpArgs false

theorem nb6 (w : World) (na nb : Bool) (fa fb : Nat → Nat) : ∃ W, ((((((w.alloc (.cells (numC na fa) 90)).alloc (.cells (numC nb fb) 90)).alloc (.cells (numC false fun _ => 0) 90)).alloc (.cells (numC false fun _ => 0) 90)).alloc (.cells (numC false fun _ => 0) 90)).alloc (.cells (numC false fun _ => 0) 90)) = W ∧
    NB W w.heap.size na fa ∧ NB W (w.heap.size + 1) nb fb ∧ NB W (w.heap.size + 1 + 1) false (fun _ => 0) ∧ NB W (w.heap.size + 1 + 1 + 1) false (fun _ => 0) ∧ NB W (w.heap.size + 1 + 1 + 1 + 1) false (fun _ => 0) ∧ NB W (w.heap.size + 1 + 1 + 1 + 1 + 1) false (fun _ => 0) ∧ Below w.heap.size w W := by
  obtain ⟨V, hV, n0, n1, n2, n3, hb⟩ := nb4 w na nb false false fa fb (fun _ => 0) (fun _ => 0)
  have hs : V.heap.size = w.heap.size + 1 + 1 + 1 + 1 := by rw [← hV]; simp only [World.size_alloc]
  obtain ⟨W, hW, m4, m5, hb2⟩ := nb2 V false false (fun _ => 0) (fun _ => 0)
  rw [hs] at m4 m5
  refine ⟨W, by rw [hV]; exact hW, n0.next hb2, n1.next hb2, n2.next hb2, n3.next hb2, m4, m5, hb.trans (hb2.mono (by omega))⟩
theorem NB.put' {W : World} {b c : Nat} {n n' : Bool} {f f' : Nat → Nat} {nc : Bool} {fc : Nat → Nat} (h : NB W b n f) (hc : NB W c nc fc) (hbc : b ≠ c) {m : Bool} {g : Nat → Nat} : NB ((W.setRow c (numC m g)).setRow b (numC n' f')) b n' f' := (h.row c hbc _).put n' f'
theorem results_two2 {fn : Func} {p q : Tmp} (h : fn.results = #[.cell p 90, .cell q 90]) {tmps : Array Value} {w : World} {g g' : Nat} {n n' : Bool} {f f' : Nat → Nat} (hg : NB w g n f) (hg' : NB w g' n' f') (hp : tmps.getD p undef = .pointer (some ⟨g, 0, none⟩)) (hq : tmps.getD q undef = .pointer (some ⟨g', 0, none⟩)) :
    (results fn tmps).run Try.prog w = .ok (.tuple #[.agg (numC n f), .agg (numC n' f')]) w := by
  have hp' : tmps[p]?.getD undef = .pointer (some ⟨g, 0, none⟩) := by simpa using hp
  have hq' : tmps[q]?.getD undef = .pointer (some ⟨g', 0, none⟩) := by simpa using hq
  simp [results, h, hp', hq', asAddr, run_loadVar_row w g 90 90 _ (0, 0) _ hg Try.underlying90 rfl (num_sizeC _ _), run_loadVar_row w g' 90 90 _ (0, 0) _ hg' Try.underlying90 rfl (num_sizeC _ _)]
/-- The upper bits of a number, from k on. -/
def topF (N k : Nat) : Nat → Nat := fun j => if k ≤ j then bitF N j else 0
theorem topF_set (N i : Nat) (h : bitF N i = 1) : upd (topF N (i + 1)) i 1 = topF N i := by
  funext j
  unfold upd topF
  by_cases hj : j = i
  · subst hj; rw [if_pos rfl, if_pos (Nat.le_refl _), h]
  · rw [if_neg hj]
    by_cases h2 : i + 1 ≤ j
    · rw [if_pos h2, if_pos (by omega)]
    · rw [if_neg h2, if_neg (by omega)]
theorem topF_skip (N i : Nat) (h : bitF N i = 0) : topF N (i + 1) = topF N i := by
  funext j
  unfold topF
  by_cases hj : j = i
  · subst hj; rw [if_neg (by omega), if_pos (Nat.le_refl _), h]
  · by_cases h2 : i + 1 ≤ j
    · rw [if_pos h2, if_pos (by omega)]
    · rw [if_neg h2, if_neg (by omega)]
/-- R, of which all above m has been moved up by one. -/
def mvF (R m : Nat) : Nat → Nat := fun t => if m < t then bitF R (t - 1) else bitF R t
theorem mvF_start (R i : Nat) (h : i < 200) : bitF R i = mvF R 199 i := by unfold mvF; rw [if_neg (by omega)]
theorem mvF_step (R m : Nat) : upd (mvF R (m + 1)) (m + 1) (mvF R (m + 1) m) = mvF R m := by
  funext t
  unfold upd mvF
  by_cases h : t = m + 1
  · subst h; rw [if_pos rfl, if_neg (by omega), if_pos (by omega)]; rfl
  · rw [if_neg h]
    by_cases h2 : m + 1 < t
    · rw [if_pos h2, if_pos (by omega)]
    · rw [if_neg h2, if_neg (by omega)]
theorem mvF_end (A i R : Nat) : upd (mvF R 0) 0 (bitF A i) = bitF (2 * R + bitF A i) := by
  funext t
  rw [parts_bit]
  unfold upd mvF
  by_cases h : t = 0
  · rw [if_pos h, if_pos h]
  · rw [if_neg h, if_neg h, if_pos (by omega)]

set_option maxRecDepth 100000 in
set_option maxHeartbeats 4000000 in
theorem num_parts (na nb : Bool) (A B : Nat) (hA : A < 2 ^ 200) (hB : B < 2 ^ 199) (hB0 : 0 < B) (w : World) : Calls Try.prog 45 #[.agg (numC na (bitF A)), .agg (numC nb (bitF B))] w fun e w' => e = .returned (.tuple #[.agg (numC false (bitF (A / B))), .agg (numC false (bitF (A % B)))]) ∧ Below w.heap.size w w' := by
  have hz := num_zero
  obtain ⟨W, hW, n0, n1, n4, n5, n6, n7, hb⟩ := nb6 w na nb (bitF A) (bitF B)
  go_enter Try.func45, Try.ntmps45
  go_wp2_with fail
  try rw [hW]
  obtain ⟨b0, hb0⟩ : ∃ b0, w.heap.size = b0 := ⟨_, rfl⟩
  rw [hb0] at n0 n1 n4 n5 n6 n7 hb ⊢
  have Hb0 := Lib.hid hb0
  have HA := Lib.hid hA
  have HB := Lib.hid hB
  have HB0 := Lib.hid hB0
  clear hW hb0 hA hB hB0 hz
  go_loopw [8] (fun i wr => ∃ k : Nat, k ≤ 200 ∧ i = .int .i64 ((k : Int) - 1) ∧ NB wr b0 na (bitF A) ∧ NB wr (b0 + 1) nb (bitF B) ∧ NB wr (b0 + 1 + 1) false (fun _ => 0) ∧ NB wr (b0 + 1 + 1 + 1) false (fun _ => 0) ∧ NB wr (b0 + 1 + 1 + 1 + 1) false (topF (A / B) k) ∧ NB wr (b0 + 1 + 1 + 1 + 1 + 1) false (bitF (A / 2 ^ k % B)) ∧ Below b0 w wr) (fun i _ => (intOf i + 1).toNat)
  case atStart =>
    refine ⟨200, by omega, rfl, n0, n1, n4, n5, n6.congr (fun i hi => by unfold topF; rw [if_neg (by omega)]), ?_, hb⟩
    rw [Nat.div_eq_of_lt HA.out, Nat.zero_mod, bitF_z]; exact n7
  case round =>
    obtain ⟨k, hk, rfl, m0, m1, m4, m5, m6, m7, hb'⟩ := hrel
    rcases k with _ | i
    · have e : (((0 : Nat) : Int) - 1) = -1 := rfl
      rw [e]
      have q6 : NB wr (b0 + 1 + 1 + 1 + 1) false (bitF (A / B)) := m6.congr (fun i hi => by unfold topF; rw [if_pos (by omega)])
      have q7 : NB wr (b0 + 1 + 1 + 1 + 1 + 1) false (bitF (A % B)) := by rw [Nat.pow_zero, Nat.div_one] at m7; exact m7
      clear m6 m7 hk e
      go_wp2_with fail
      refine wp_region_any (by kernel_rfl) ?_
      have z4 : NB { wr with drawn := wr.drawn + 1 } (b0 + 1 + 1) false (fun _ => 0) := m4
      have z5 : NB { wr with drawn := wr.drawn + 1 } (b0 + 1 + 1 + 1) false (fun _ => 0) := m5
      have z6 : NB { wr with drawn := wr.drawn + 1 } (b0 + 1 + 1 + 1 + 1) false (bitF (A / B)) := q6
      have z7 : NB { wr with drawn := wr.drawn + 1 } (b0 + 1 + 1 + 1 + 1 + 1) false (bitF (A % B)) := q7
      have hB : Below b0 w { wr with drawn := wr.drawn + 1 } := hb'.drew
      clear m0 m1 m4 m5 q6 q7 hb'
      generalize ({ wr with drawn := wr.drawn + 1 } : World) = W1 at *
      refine wpAny_ready (rs := [0, 1]) (by kernel_rfl) (by simp) ?_
      refine AllReady.cons rfl (fun K0 hK0 => ?_) (AllReady.cons rfl (fun K0 hK0 => ?_) (AllReady.nil))
      · refine step_ldN z6 rfl (.tmp 6) rfl rfl ?_
        refine hK0 _ _ ?_
        simp only [Act.put, List.getElem_toArray, List.getElem_cons_succ, List.getElem_cons_zero, List.setIfInBounds_toArray, List.set_cons_zero, List.set_cons_succ]
        refine wpAny_ready (rs := [1, 2]) (by kernel_rfl) (by simp) ?_
        refine AllReady.cons rfl (fun K1 hK1 => ?_) (AllReady.cons rfl (fun K1 hK1 => ?_) (AllReady.nil))
        · refine step_ldN z7 rfl (.tmp 7) rfl rfl ?_
          refine hK1 _ _ ?_
          simp only [Act.put, List.getElem_toArray, List.getElem_cons_succ, List.getElem_cons_zero, List.setIfInBounds_toArray, List.set_cons_zero, List.set_cons_succ]
          refine wpAny_ready (rs := [2]) (by kernel_rfl) (by simp) ?_
          refine AllReady.cons rfl (fun K2 hK2 => ?_) (AllReady.nil)
          refine step_stN z4 rfl (.tmp 4) (.tmp 44) rfl rfl _ _ rfl ?_
          have z5 := z5.row (b0 + 1 + 1) (by omega) (numC false (bitF (A / B)))
          have z6 := z6.row (b0 + 1 + 1) (by omega) (numC false (bitF (A / B)))
          have z7 := z7.row (b0 + 1 + 1) (by omega) (numC false (bitF (A / B)))
          have z4 := z4.put false (bitF (A / B))
          have hB := below_row hB (g := b0 + 1 + 1) (by omega) (numC false (bitF (A / B)))
          refine hK2 _ _ ?_
          simp only [Act.put, List.getElem_toArray, List.getElem_cons_succ, List.getElem_cons_zero, List.setIfInBounds_toArray, List.set_cons_zero, List.set_cons_succ]
          refine wpAny_ready (rs := [3]) (by kernel_rfl) (by simp) ?_
          refine AllReady.cons rfl (fun K3 hK3 => ?_) (AllReady.nil)
          refine step_stN z5 rfl (.tmp 5) (.tmp 45) rfl rfl _ _ rfl ?_
          have z4 := z4.row (b0 + 1 + 1 + 1) (by omega) (numC false (bitF (A % B)))
          have z5 := z5.put false (bitF (A % B))
          have hB := below_row hB (g := b0 + 1 + 1 + 1) (by omega) (numC false (bitF (A % B)))
          refine hK3 _ _ ?_
          simp only [Act.put, List.getElem_toArray, List.getElem_cons_succ, List.getElem_cons_zero, List.setIfInBounds_toArray, List.set_cons_zero, List.set_cons_succ]
          refine wpAny_done (by kernel_rfl) ?_ _
          go_wp2_with fail
          refine bodyPost_ret (results_two2 rfl z4 z5 rfl rfl) rfl ⟨rfl, by rw [Hb0.out]; exact hB⟩
        · refine step_stN z4 rfl (.tmp 4) (.tmp 44) rfl rfl _ _ rfl ?_
          have z5 := z5.row (b0 + 1 + 1) (by omega) (numC false (bitF (A / B)))
          have z6 := z6.row (b0 + 1 + 1) (by omega) (numC false (bitF (A / B)))
          have z7 := z7.row (b0 + 1 + 1) (by omega) (numC false (bitF (A / B)))
          have z4 := z4.put false (bitF (A / B))
          have hB := below_row hB (g := b0 + 1 + 1) (by omega) (numC false (bitF (A / B)))
          refine hK1 _ _ ?_
          simp only [Act.put, List.getElem_toArray, List.getElem_cons_succ, List.getElem_cons_zero, List.setIfInBounds_toArray, List.set_cons_zero, List.set_cons_succ]
          refine wpAny_ready (rs := [1]) (by kernel_rfl) (by simp) ?_
          refine AllReady.cons rfl (fun K2 hK2 => ?_) (AllReady.nil)
          refine step_ldN z7 rfl (.tmp 7) rfl rfl ?_
          refine hK2 _ _ ?_
          simp only [Act.put, List.getElem_toArray, List.getElem_cons_succ, List.getElem_cons_zero, List.setIfInBounds_toArray, List.set_cons_zero, List.set_cons_succ]
          refine wpAny_ready (rs := [3]) (by kernel_rfl) (by simp) ?_
          refine AllReady.cons rfl (fun K3 hK3 => ?_) (AllReady.nil)
          refine step_stN z5 rfl (.tmp 5) (.tmp 45) rfl rfl _ _ rfl ?_
          have z4 := z4.row (b0 + 1 + 1 + 1) (by omega) (numC false (bitF (A % B)))
          have z5 := z5.put false (bitF (A % B))
          have hB := below_row hB (g := b0 + 1 + 1 + 1) (by omega) (numC false (bitF (A % B)))
          refine hK3 _ _ ?_
          simp only [Act.put, List.getElem_toArray, List.getElem_cons_succ, List.getElem_cons_zero, List.setIfInBounds_toArray, List.set_cons_zero, List.set_cons_succ]
          refine wpAny_done (by kernel_rfl) ?_ _
          go_wp2_with fail
          refine bodyPost_ret (results_two2 rfl z4 z5 rfl rfl) rfl ⟨rfl, by rw [Hb0.out]; exact hB⟩
      · refine step_ldN z7 rfl (.tmp 7) rfl rfl ?_
        refine hK0 _ _ ?_
        simp only [Act.put, List.getElem_toArray, List.getElem_cons_succ, List.getElem_cons_zero, List.setIfInBounds_toArray, List.set_cons_zero, List.set_cons_succ]
        refine wpAny_ready (rs := [0]) (by kernel_rfl) (by simp) ?_
        refine AllReady.cons rfl (fun K1 hK1 => ?_) (AllReady.nil)
        refine step_ldN z6 rfl (.tmp 6) rfl rfl ?_
        refine hK1 _ _ ?_
        simp only [Act.put, List.getElem_toArray, List.getElem_cons_succ, List.getElem_cons_zero, List.setIfInBounds_toArray, List.set_cons_zero, List.set_cons_succ]
        refine wpAny_ready (rs := [2]) (by kernel_rfl) (by simp) ?_
        refine AllReady.cons rfl (fun K2 hK2 => ?_) (AllReady.nil)
        refine step_stN z4 rfl (.tmp 4) (.tmp 44) rfl rfl _ _ rfl ?_
        have z5 := z5.row (b0 + 1 + 1) (by omega) (numC false (bitF (A / B)))
        have z6 := z6.row (b0 + 1 + 1) (by omega) (numC false (bitF (A / B)))
        have z7 := z7.row (b0 + 1 + 1) (by omega) (numC false (bitF (A / B)))
        have z4 := z4.put false (bitF (A / B))
        have hB := below_row hB (g := b0 + 1 + 1) (by omega) (numC false (bitF (A / B)))
        refine hK2 _ _ ?_
        simp only [Act.put, List.getElem_toArray, List.getElem_cons_succ, List.getElem_cons_zero, List.setIfInBounds_toArray, List.set_cons_zero, List.set_cons_succ]
        refine wpAny_ready (rs := [3]) (by kernel_rfl) (by simp) ?_
        refine AllReady.cons rfl (fun K3 hK3 => ?_) (AllReady.nil)
        refine step_stN z5 rfl (.tmp 5) (.tmp 45) rfl rfl _ _ rfl ?_
        have z4 := z4.row (b0 + 1 + 1 + 1) (by omega) (numC false (bitF (A % B)))
        have z5 := z5.put false (bitF (A % B))
        have hB := below_row hB (g := b0 + 1 + 1 + 1) (by omega) (numC false (bitF (A % B)))
        refine hK3 _ _ ?_
        simp only [Act.put, List.getElem_toArray, List.getElem_cons_succ, List.getElem_cons_zero, List.setIfInBounds_toArray, List.set_cons_zero, List.set_cons_succ]
        refine wpAny_done (by kernel_rfl) ?_ _
        go_wp2_with fail
        refine bodyPost_ret (results_two2 rfl z4 z5 rfl rfl) rfl ⟨rfl, by rw [Hb0.out]; exact hB⟩
    · have e : (((i + 1 : Nat) : Int) - 1) = (i : Int) := by omega
      rw [e]
      have hi : i < 200 := by omega
      obtain ⟨R, hR⟩ : ∃ R, R = A / 2 ^ (i + 1) % B := ⟨_, rfl⟩
      rw [← hR] at m7
      have hst := parts_step A B i R HB0.out hR
      have hRB : R < B := by rw [hR]; exact Nat.mod_lt _ HB0.out
      have hbt := bitF_lt A i
      have hI : (i : Int) < 200 := by omega
      have hI0 : (0 : Int) ≤ (i : Int) := by omega
      have kI : decide ((i : Int) ≥ 0) = true := by simp
      have w7 : IntKind.i64.wrap ((i : Int) - 1) = (i : Int) - 1 := IntWalk.i64_in _ (by omega)
      obtain ⟨wo, rfl⟩ : ∃ wo : World, wo = wr := ⟨_, rfl⟩
      have HRB := Lib.hid hRB
      have HR := Lib.hid hR
      have Hst := Lib.hid hst
      clear hR hst e hRB hk
      go_wp2_with fail
      go_loopw [9] (fun kk w3 => ∃ m : Nat, m ≤ 199 ∧ kk = .int .i64 m ∧ NB w3 b0 na (bitF A) ∧ NB w3 (b0 + 1) nb (bitF B) ∧ NB w3 (b0 + 1 + 1) false (fun _ => 0) ∧ NB w3 (b0 + 1 + 1 + 1) false (fun _ => 0) ∧ NB w3 (b0 + 1 + 1 + 1 + 1) false (topF (A / B) (i + 1)) ∧ NB w3 (b0 + 1 + 1 + 1 + 1 + 1) false (mvF R m) ∧ Below b0 w w3) (fun kk _ => (intOf kk).toNat)
      case atStart => exact ⟨199, by omega, rfl, m0, m1, m4, m5, m6, m7.congr (mvF_start R), hb'⟩
      case round =>
        obtain ⟨m, hm, rfl, z0, z1, z4, z5, z6, z7, hbz⟩ := hrel
        rcases Nat.eq_zero_or_pos m with hm0 | hm0
        · subst hm0
          have k0 : decide (((0 : Nat) : Int) > 0) = false := by simp
          have c0 := z0.atA i hi
          have f7 := z7.fr 1
          have c7 := z7.at_ 0 (by omega)
          obtain ⟨R2, hR2⟩ : ∃ R2, 2 * R + bitF A i = R2 := ⟨_, rfl⟩
          have y7 := z7.set 0 (bitF A i) (by omega)
          rw [mvF_end, hR2] at y7
          have y0 := z0.far (p := ⟨b0 + 1 + 1 + 1 + 1 + 1, 0 + 1, none⟩) (by simp; omega) (.int .i64 (bitF A i : Nat))
          have y1 := z1.far (p := ⟨b0 + 1 + 1 + 1 + 1 + 1, 0 + 1, none⟩) (by simp) (.int .i64 (bitF A i : Nat))
          have y4 := z4.far (p := ⟨b0 + 1 + 1 + 1 + 1 + 1, 0 + 1, none⟩) (by simp) (.int .i64 (bitF A i : Nat))
          have y5 := z5.far (p := ⟨b0 + 1 + 1 + 1 + 1 + 1, 0 + 1, none⟩) (by simp) (.int .i64 (bitF A i : Nat))
          have y6 := z6.far (p := ⟨b0 + 1 + 1 + 1 + 1 + 1, 0 + 1, none⟩) (by simp) (.int .i64 (bitF A i : Nat))
          have hBy := below_setC hbz (p := ⟨b0 + 1 + 1 + 1 + 1 + 1, 0 + 1, none⟩) (by simp; omega) (.int .i64 (bitF A i : Nat))
          simp only [Nat.zero_add] at y0 y1 y4 y5 y6 y7 hBy c7
          have hR200 : R2 < 2 ^ 200 := by have := HRB.out; have := HB.out; omega
          have hst := Hst.out
          rw [hR2] at hst
          have HBare := Lib.hid (fun W => num_bare false nb R2 B hR200 (by have := HB.out; omega) W)
          by_cases hle : B ≤ R2
          · obtain ⟨s1, s2⟩ := hst.1 hle
            obtain ⟨cc, hcc⟩ : ∃ cc : Int, cmpN R2 B = cc := ⟨_, rfl⟩
            have kc : decide (cc ≥ 0) = true := by
              have : 0 ≤ cc := by rw [← hcc]; unfold cmpN; rw [if_neg (by omega)]; split <;> omega
              simp; exact this
            rw [hcc] at HBare
            have HM := Lib.hid (num_minus false nb R2 B hle)
            rw [s1] at HM
            have Hs2 := Lib.hid s2
            clear hcc s1 s2 hle hst z0 z1 z4 z5 z6 z7 hbz hR2 hR200 m0 m1 m4 m5 m6 m7 hb'
            go_wp2_with (first | (refine ld_num y7 rfl _ rfl rfl ?_) | (refine ld_num y1 rfl _ rfl rfl ?_))
            refine (HBare.out _).mono ?_
            rintro e wp ⟨rfl, hbp⟩
            have t0 := y0.next hbp
            have t1 := y1.next hbp
            have t4 := y4.next hbp
            have t5 := y5.next hbp
            have t6 := y6.next hbp
            have t7 := y7.next hbp
            have hBt := belowN hBy y0 (Nat.le_refl _) hbp
            clear y0 y1 y4 y5 y6 y7 hBy hbp HBare c0 c7 f7
            go_wp2_with (first | (refine ld_num t7 rfl _ rfl rfl ?_) | (refine ld_num t1 rfl _ rfl rfl ?_))
            refine (HM.out _).mono ?_
            rintro e wq ⟨rfl, hbq⟩
            have u0 := t0.next hbq
            have u1 := t1.next hbq
            have u4 := t4.next hbq
            have u5 := t5.next hbq
            have u6 := t6.next hbq
            have u7 := t7.next hbq
            have hBu := belowN hBt t0 (Nat.le_refl _) hbq
            have v0 := u0.row (b0 + 1 + 1 + 1 + 1 + 1) (by omega) (numC false (bitF (A / 2 ^ i % B)))
            have v1 := u1.row (b0 + 1 + 1 + 1 + 1 + 1) (by omega) (numC false (bitF (A / 2 ^ i % B)))
            have v4 := u4.row (b0 + 1 + 1 + 1 + 1 + 1) (by omega) (numC false (bitF (A / 2 ^ i % B)))
            have v5 := u5.row (b0 + 1 + 1 + 1 + 1 + 1) (by omega) (numC false (bitF (A / 2 ^ i % B)))
            have v6 := u6.row (b0 + 1 + 1 + 1 + 1 + 1) (by omega) (numC false (bitF (A / 2 ^ i % B)))
            have v7 := u7.put false (bitF (A / 2 ^ i % B))
            have hBv := below_row hBu (g := b0 + 1 + 1 + 1 + 1 + 1) (by omega) (numC false (bitF (A / 2 ^ i % B)))
            have c6 := v6.atA i hi
            have f6 := v6.fr (1 + i)
            have V0 := Lib.hid v0
            have V1 := Lib.hid v1
            have V4 := Lib.hid v4
            have V5 := Lib.hid v5
            have V6 := Lib.hid v6
            have V7 := Lib.hid v7
            have HBv := Lib.hid hBv
            clear t0 t1 t4 t5 t6 t7 hBt hbq HM u0 u1 u4 u5 u6 hBu v0 v1 v4 v5 v6 v7 hBv
            go_wp2_with (first | (refine st_num u7 rfl _ _ rfl rfl _ _ rfl ?_))
            refine ⟨⟨i, by omega, rfl, V0.out.far (by simp; omega) _, V1.out.far (by simp) _, V4.out.far (by simp) _, V5.out.far (by simp) _, ?_, V7.out.far (by simp) _, below_setC HBv.out (by simp; omega) _⟩, by simp [intOf] <;> omega⟩
            have := V6.out.setA i 1 hi
            rw [topF_set _ _ Hs2.out] at this; exact this
          · obtain ⟨s1, s2⟩ := hst.2 (by omega)
            obtain ⟨cc, hcc⟩ : ∃ cc : Int, cmpN R2 B = cc := ⟨_, rfl⟩
            have kc : decide (cc ≥ 0) = false := by
              have : cc < 0 := by rw [← hcc]; unfold cmpN; rw [if_pos (by omega)]; omega
              simp; exact this
            rw [hcc] at HBare
            have Hs1 := Lib.hid s1
            have Hs2 := Lib.hid s2
            clear hcc s1 s2 hle hst z0 z1 z4 z5 z6 z7 hbz hR2 hR200 m0 m1 m4 m5 m6 m7 hb'
            go_wp2_with (first | (refine ld_num y7 rfl _ rfl rfl ?_) | (refine ld_num y1 rfl _ rfl rfl ?_))
            refine (HBare.out _).mono ?_
            rintro e wp ⟨rfl, hbp⟩
            have T0 := Lib.hid (y0.next hbp)
            have T1 := Lib.hid (y1.next hbp)
            have T4 := Lib.hid (y4.next hbp)
            have T5 := Lib.hid (y5.next hbp)
            have T6 := Lib.hid (y6.next hbp)
            have T7 := Lib.hid (y7.next hbp)
            have HBt := Lib.hid (belowN hBy y0 (Nat.le_refl _) hbp)
            clear y0 y1 y4 y5 y6 y7 hBy hbp HBare c0 c7 f7
            go_wp2_with fail
            exact ⟨⟨i, by omega, rfl, T0.out, T1.out, T4.out, T5.out, by rw [← topF_skip _ _ Hs2.out]; exact T6.out, by rw [← Hs1.out]; exact T7.out, HBt.out⟩, by simp [intOf] <;> omega⟩
        · obtain ⟨m', hm'⟩ : ∃ m', m = m' + 1 := ⟨m - 1, by omega⟩
          have k0 : decide ((m : Int) > 0) = true := by simp; omega
          have w8 : IntKind.i64.wrap ((m : Int) - 1) = (m' : Int) := by rw [IntWalk.i64_in _ (by omega)]; omega
          have c7 := z7.atA m' (by omega)
          have c8 := z7.atA m (by omega)
          have f7 := z7.fr (1 + m)
          have hJ : (m : Int) < 200 := by omega
          have hJ0 : (0 : Int) ≤ (m : Int) := by omega
          have hJ1 : (m' : Int) < 200 := by omega
          have hJ2 : (0 : Int) ≤ (m' : Int) := by omega
          have Hm := Lib.hid hm'
          obtain ⟨x, hx⟩ : ∃ x, mvF R m m' = x := ⟨_, rfl⟩
          rw [hx] at c7
          have Hx := Lib.hid hx
          clear hm' hx
          go_wp2_with fail
          refine ⟨⟨m', by have := Hm.out; omega, rfl, z0.far (by simp; omega) _, z1.far (by simp) _, z4.far (by simp) _, z5.far (by simp) _, z6.far (by simp) _, ?_, below_setC hbz (by simp; omega) _⟩, by have := Hm.out; simp [intOf]; omega⟩
          have h9 := z7.setA m x (by omega)
          rw [← Hx.out] at h9 ⊢
          rw [Hm.out, mvF_step, ← Hm.out] at h9; exact h9
end Go.Proofs.Ytjmkbpgakfeceaa
