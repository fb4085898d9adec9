/-
  Carry of the document, in numbers of 200 bits, walked. Conditions stand at each theorem.
-/
import Derived.Test.YtjmkbpgakfeceaaNumE
namespace Go.Proofs.Ytjmkbpgakfeceaa
open Go Go.RowKit Go.Kw Go.Kw.Nm
set_option linter.unusedVariables false
set_option linter.unusedSimpArgs false

theorem step_allocN {ops : Array Oper} {o : Oper} {a : Act} {w : World} {K : Act → World → Prop} {Q : Exit → Act → World → Prop} {E : Prop}
    (hz : ∀ w, (zeroValue 90).run Try.prog w = .ok (.agg (numC false fun _ => 0)) w) (hgd : o.guard = none) (ho : o.op = .alloc 90)
    (hK : ∀ (g : Nat) (W' : World), NB W' g false (fun _ => 0) → (∀ b n f, NB w b n f → NB W' b n f) → (∀ B a, Below B a w → B ≤ w.heap.size → Below B a W') → (∀ b n f, NB w b n f → b < g) → K (a.put o.dst (.pointer (some ⟨g, 0, none⟩))) W') :
    if Region.wanted o (yielded ops a.tmps) = true then Oper.wp Try.prog o a w K Q else E := by
  have hw : Region.wanted o (yielded ops a.tmps) = true := by simp [Region.wanted, hgd]
  rw [if_pos hw]
  have st : Below w.heap.size w (w.alloc (.cells (numC false fun _ => 0) 90)) := stepN w _
  have h := hK w.heap.size _ (NB.new w false fun _ => 0) (fun b n f h => h.next st) (fun B a h hB => h.trans (st.mono hB)) (fun b n f h => h.lt)
  unfold Oper.wp
  obtain ⟨dst, op, ty, ps, af, gd⟩ := o
  subst ho
  go_simp
  exact h
/-- What the document's Carry answers. -/
def carryV (n num den rest : Nat) : Value :=
  if den = 0 then .tuple #[.int .u64 0, .int .u64 0, .int .i64 11] else if den ≤ rest then .tuple #[.int .u64 0, .int .u64 0, .int .i64 2] else
    if (n * num + rest) / den < 18446744073709551616 then .tuple #[.int .u64 (((n * num + rest) / den : Nat) : Int), .int .u64 (((n * num + rest) % den : Nat) : Int), .int .i64 0] else .tuple #[.int .u64 0, .int .u64 0, .int .i64 10]
theorem mul_lt (n num rest : Nat) (hn : n < 18446744073709551616) (hnum : num < 18446744073709551616) (hr : rest < 18446744073709551616) : n * num < 2 ^ 130 ∧ n * num + rest < 2 ^ 130 := by
  have h : n * num ≤ 18446744073709551615 * 18446744073709551615 := Nat.mul_le_mul (by omega) (by omega)
  constructor
  · exact Nat.lt_of_le_of_lt h (by decide)
  · exact Nat.lt_of_le_of_lt (Nat.add_le_add h (Nat.le_of_lt hr)) (by decide)
theorem pow130 {X : Nat} (h : X < 2 ^ 130) : X < 2 ^ 200 := Nat.lt_trans h (by decide)

set_option maxRecDepth 100000 in
set_option maxHeartbeats 16000000 in
theorem num_carry (n num den rest : Nat) (hn : n < 18446744073709551616) (hnum : num < 18446744073709551616) (hden : den < 18446744073709551616) (hrest : rest < 18446744073709551616) (hd0 : den ≠ 0) (hr : rest < den) (w : World) :
    Calls Try.prog 30 #[.int .u64 n, .int .u64 num, .int .u64 den, .int .u64 rest] w fun e w' => e = .returned (carryV n num den rest) ∧ Below w.heap.size w w' := by
  have hz := num_zero
  obtain ⟨hm1, hm2⟩ := mul_lt n num rest hn hnum hrest
  obtain ⟨X, hX⟩ : ∃ X, n * num + rest = X := ⟨_, rfl⟩
  rw [hX] at hm2
  have h0 : 0 < den := by omega
  have HP := Lib.hid (num_parts false false X den (pow130 hm2) (Nat.lt_trans hden (by decide)) h0)
  have HU1 := Lib.hid (num_uint false (X / den) (Nat.lt_of_le_of_lt (Nat.div_le_self _ _) (pow130 hm2)))
  have hrl : X % den < 18446744073709551616 := Nat.lt_trans (Nat.mod_lt _ h0) hden
  have HU2 := Lib.hid (num_uint false (X % den) (Nat.lt_trans hrl (by decide)))
  rw [uintV_yes false _ hrl] at HU2
  obtain ⟨qa, is, hqi⟩ : ∃ (qa : Int) (is : Bool), uintV false (X / den) = .tuple #[.int .u64 qa, .bool is] := ⟨_, _, rfl⟩
  rw [hqi] at HU1
  have HV : Hid (carryV n num den rest = if is then .tuple #[.int .u64 qa, .int .u64 ((X % den : Nat) : Int), .int .i64 0] else .tuple #[.int .u64 0, .int .u64 0, .int .i64 10]) := by
    show _ = _
    unfold carryV
    rw [if_neg hd0, if_neg (by omega), hX]
    by_cases hq : X / den < 18446744073709551616
    · rw [uintV_yes false _ hq] at hqi
      injection hqi with hqi
      simp at hqi
      obtain ⟨e1, e2⟩ := hqi
      subst e2
      rw [if_pos hq, if_pos rfl, ← e1]
      rfl
    · rw [uintV_no false _ hq] at hqi
      injection hqi with hqi
      simp at hqi
      obtain ⟨e1, e2⟩ := hqi
      subst e2
      rw [if_neg hq]; rfl
  have k1 : ((den : Int) == 0) = false := by simp; exact hd0
  have k1' : (den == 0) = false := by simp; exact hd0
  have k2 : decide (den ≤ rest) = false := by simp; omega
  have HT := Lib.hid (num_times false false n num (Nat.lt_trans hnum (by decide)) (pow130 hm1))
  have HS : Hid (∀ W, Calls Try.prog 42 #[.agg (numC false (bitF (n * num))), .agg (numC false (bitF rest))] W fun e w' => e = .returned (.agg (numC false (bitF X))) ∧ Below W.heap.size W w') := fun W => by
    have := num_plus false false (n * num) rest W
    rw [hX] at this; exact this
  obtain ⟨b0, hb0⟩ : ∃ b0, w.heap.size = b0 := ⟨_, rfl⟩
  have Hb0 := Lib.hid hb0
  have hB0 := Below.refl b0 w
  have hs0 : b0 ≤ w.heap.size := by omega
  clear hm1 hm2 hrl hqi hX h0 hd0 hr hb0
  go_enter Try.func30, Try.ntmps30
  go_wp2_with fail
  refine (num_of n hn w).mono ?_
  rintro e w1 ⟨rfl, hb1⟩
  have hB1 := hB0.trans (hb1.mono hs0)
  have hs1 := Nat.le_trans hs0 hb1.size
  clear hB0 hb1 hs0
  go_wp2_with fail
  refine (num_of num hnum w1).mono ?_
  rintro e w2 ⟨rfl, hb2⟩
  have hB2 := hB1.trans (hb2.mono hs1)
  have hs2 := Nat.le_trans hs1 hb2.size
  clear hB1 hb2 hs1
  go_wp2_with fail
  refine (HT.out w2).mono ?_
  rintro e w3 ⟨rfl, hb3⟩
  rw [show ((false != false) && decide (0 < n * num)) = false from rfl]
  have hB3 := hB2.trans (hb3.mono hs2)
  have hs3 := Nat.le_trans hs2 hb3.size
  clear hB2 hb3 hs2
  go_wp2_with fail
  refine (num_of rest hrest w3).mono ?_
  rintro e w4 ⟨rfl, hb4⟩
  have hB4 := hB3.trans (hb4.mono hs3)
  have hs4 := Nat.le_trans hs3 hb4.size
  clear hB3 hb4 hs3
  go_wp2_with fail
  refine (HS.out w4).mono ?_
  rintro e w5 ⟨rfl, hb5⟩
  have hB5 := hB4.trans (hb5.mono hs4)
  have hs5 := Nat.le_trans hs4 hb5.size
  clear hB4 hb5 hs4 HT HS
  have m11 := NB.new w5 false (fun _ => 0)
  obtain ⟨W, hW, x11, -, hbx⟩ := alloc_put w5 (bitF X)
  have hB := hbx _ _ hB5 hs5
  have hle : b0 ≤ w5.heap.size := hs5
  go_wp2_with (first | (refine st_num m11 rfl _ _ rfl rfl _ _ rfl ?_))
  try rw [hW]
  clear hW hbx hB5 hs5 m11
  generalize w5.heap.size = b11 at *
  refine wp_region_any (by kernel_rfl) ?_
  have x11 : NB { W with drawn := W.drawn + 1 } b11 false (bitF X) := x11
  have hB : Below b0 w { W with drawn := W.drawn + 1 } := hB.drew
  generalize ({ W with drawn := W.drawn + 1 } : World) = W1 at *
  refine wpAny_take (i := 1) (v := ?_) rfl (by kernel_rfl) (by kernel_rfl) (by kernel_rfl) (fun _ _ _ h => h) (Or.inl ⟨by kernel_rfl, ?_⟩) ?_
  rotate_left
  · intro w'; go_simp; try with_reducible rfl
  simp only [Act.put, List.getElem_toArray, List.getElem_cons_succ, List.getElem_cons_zero, List.setIfInBounds_toArray, List.set_cons_zero, List.set_cons_succ]
  refine wpAny_ready (rs := [0, 2, 7, 8]) (by kernel_rfl) (by simp) ?_
  refine AllReady.cons rfl (fun K0 hK0 => ?_) (AllReady.cons rfl (fun K0 hK0 => ?_) (AllReady.cons rfl (fun K0 hK0 => ?_) (AllReady.cons rfl (fun K0 hK0 => ?_) (AllReady.nil))))
  · refine step_ldN x11 rfl (.tmp 11) rfl rfl ?_
    refine hK0 _ _ ?_
    simp only [Act.put, List.getElem_toArray, List.getElem_cons_succ, List.getElem_cons_zero, List.setIfInBounds_toArray, List.set_cons_zero, List.set_cons_succ]
    refine wpAny_ready (rs := [2, 7, 8]) (by kernel_rfl) (by simp) ?_
    refine AllReady.cons rfl (fun K1 hK1 => ?_) (AllReady.cons rfl (fun K1 hK1 => ?_) (AllReady.cons rfl (fun K1 hK1 => ?_) (AllReady.nil)))
    · refine step_callN rfl 44 #[.tmp 33] _ rfl #[.int .u64 (den : Int)] (by simp [Act.eval, Act.put]) (enters_of Try.func44 (by kernel_rfl) rfl) (num_of den hden _) ?_
      rintro e wd ⟨rfl, hbd⟩
      refine ⟨_, rfl, ?_⟩
      have hB := belowN hB x11 hle hbd
      have x11 := x11.next hbd
      try have n12 := n12.next hbd
      try have n13 := n13.next hbd
      refine hK1 _ _ ?_
      simp only [Act.put, List.getElem_toArray, List.getElem_cons_succ, List.getElem_cons_zero, List.setIfInBounds_toArray, List.set_cons_zero, List.set_cons_succ]
      refine wpAny_ready (rs := [3, 7, 8]) (by kernel_rfl) (by simp) ?_
      refine AllReady.cons rfl (fun K2 hK2 => ?_) (AllReady.cons rfl (fun K2 hK2 => ?_) (AllReady.cons rfl (fun K2 hK2 => ?_) (AllReady.nil)))
      · refine step_callN rfl 45 #[.tmp 32, .tmp 34] _ rfl #[.agg (numC false (bitF X)), .agg (numC false (bitF den))] (by simp [Act.eval, Act.put]) (enters_of Try.func45 (by kernel_rfl) rfl) (HP.out _) ?_
        rintro e we ⟨rfl, hbe⟩
        refine ⟨_, rfl, ?_⟩
        have hB := belowN hB x11 hle hbe
        have x11 := x11.next hbe
        try have n12 := n12.next hbe
        try have n13 := n13.next hbe
        refine hK2 _ _ ?_
        simp only [Act.put, List.getElem_toArray, List.getElem_cons_succ, List.getElem_cons_zero, List.setIfInBounds_toArray, List.set_cons_zero, List.set_cons_succ]
        refine wpAny_take (i := 4) (v := ?_) rfl (by kernel_rfl) (by kernel_rfl) (by kernel_rfl) (fun _ _ _ h => h) (Or.inl ⟨by kernel_rfl, ?_⟩) ?_
        rotate_left
        · intro w'; go_simp; try with_reducible rfl
        simp only [Act.put, List.getElem_toArray, List.getElem_cons_succ, List.getElem_cons_zero, List.setIfInBounds_toArray, List.set_cons_zero, List.set_cons_succ]
        refine wpAny_take (i := 5) (v := ?_) rfl (by kernel_rfl) (by kernel_rfl) (by kernel_rfl) (fun _ _ _ h => h) (Or.inl ⟨by kernel_rfl, ?_⟩) ?_
        rotate_left
        · intro w'; go_simp; try with_reducible rfl
        simp only [Act.put, List.getElem_toArray, List.getElem_cons_succ, List.getElem_cons_zero, List.setIfInBounds_toArray, List.set_cons_zero, List.set_cons_succ]
        refine wpAny_take (i := 6) (v := ?_) rfl (by kernel_rfl) (by kernel_rfl) (by kernel_rfl) (fun _ _ _ h => h) (Or.inl ⟨by kernel_rfl, ?_⟩) ?_
        rotate_left
        · intro w'; go_simp; try with_reducible rfl
        simp only [Act.put, List.getElem_toArray, List.getElem_cons_succ, List.getElem_cons_zero, List.setIfInBounds_toArray, List.set_cons_zero, List.set_cons_succ]
        refine wpAny_ready (rs := [7, 8]) (by kernel_rfl) (by simp) ?_
        refine AllReady.cons rfl (fun K3 hK3 => ?_) (AllReady.cons rfl (fun K3 hK3 => ?_) (AllReady.nil))
        · refine step_allocN hz rfl rfl ?_
          intro g12 W' n12 hnx hbx hnn
          try have hne : g12 ≠ g13 := Nat.ne_of_gt (hnn _ _ _ n13)
          try have n13 := hnx _ _ _ n13
          have hB := hbx _ _ hB (by have := x11.lt; omega)
          have hl12 : b0 ≤ g12 := by have h1 := hnn _ _ _ x11; omega
          have x11 := hnx _ _ _ x11
          clear hnx hbx hnn
          refine hK3 _ _ ?_
          simp only [Act.put, List.getElem_toArray, List.getElem_cons_succ, List.getElem_cons_zero, List.setIfInBounds_toArray, List.set_cons_zero, List.set_cons_succ]
          refine wpAny_ready (rs := [8]) (by kernel_rfl) (by simp) ?_
          refine AllReady.cons rfl (fun K4 hK4 => ?_) (AllReady.nil)
          refine step_allocN hz rfl rfl ?_
          intro g13 W' n13 hnx hbx hnn
          try have hne : g12 ≠ g13 := Nat.ne_of_lt (hnn _ _ _ n12)
          try have n12 := hnx _ _ _ n12
          have hB := hbx _ _ hB (by have := x11.lt; omega)
          have hl13 : b0 ≤ g13 := by have h1 := hnn _ _ _ x11; omega
          have x11 := hnx _ _ _ x11
          clear hnx hbx hnn
          refine hK4 _ _ ?_
          simp only [Act.put, List.getElem_toArray, List.getElem_cons_succ, List.getElem_cons_zero, List.setIfInBounds_toArray, List.set_cons_zero, List.set_cons_succ]
          refine wpAny_ready (rs := [9]) (by kernel_rfl) (by simp) ?_
          refine AllReady.cons rfl (fun K5 hK5 => ?_) (AllReady.nil)
          refine step_stN n12 rfl (.tmp 12) (.tmp 36) rfl rfl _ _ rfl ?_
          have n13 := n13.row g12 (Ne.symm hne) (numC false (bitF (X / den)))
          have n12 := n12.put false (bitF (X / den))
          have hB := below_row hB (g := g12) hl12 (numC false (bitF (X / den)))
          refine hK5 _ _ ?_
          simp only [Act.put, List.getElem_toArray, List.getElem_cons_succ, List.getElem_cons_zero, List.setIfInBounds_toArray, List.set_cons_zero, List.set_cons_succ]
          refine wpAny_ready (rs := [10]) (by kernel_rfl) (by simp) ?_
          refine AllReady.cons rfl (fun K6 hK6 => ?_) (AllReady.nil)
          refine step_stN n13 rfl (.tmp 13) (.tmp 37) rfl rfl _ _ rfl ?_
          have n12 := n12.row g13 hne (numC false (bitF (X % den)))
          have n13 := n13.put false (bitF (X % den))
          have hB := below_row hB (g := g13) hl13 (numC false (bitF (X % den)))
          refine hK6 _ _ ?_
          simp only [Act.put, List.getElem_toArray, List.getElem_cons_succ, List.getElem_cons_zero, List.setIfInBounds_toArray, List.set_cons_zero, List.set_cons_succ]
          refine wpAny_done (by kernel_rfl) ?_ _
          clear x11
          go_wp2_with (first | (refine ld_num n12 rfl _ rfl rfl ?_))
          refine (HU1.out _).mono ?_
          rintro e wu ⟨rfl, hbu⟩
          have hB := belowN hB n12 hl12 hbu
          have n13 := n13.next hbu
          clear n12 hbu
          go_wp2_with (first | (refine ld_num n13 rfl _ rfl rfl ?_))
          refine (HU2.out _).mono ?_
          rintro e wv ⟨rfl, hbv⟩
          have hB := belowN hB n13 hl13 hbv
          clear n13 hbv
          cases is with
          | false =>
            go_wp2_with fail
            go_ret3
            exact ⟨by rw [HV.out]; rfl, by rw [Hb0.out]; exact hB⟩
          | true =>
            go_wp2_with fail
            go_ret3
            exact ⟨by rw [HV.out]; rfl, by rw [Hb0.out]; exact hB⟩
        · refine step_allocN hz rfl rfl ?_
          intro g13 W' n13 hnx hbx hnn
          try have hne : g12 ≠ g13 := Nat.ne_of_lt (hnn _ _ _ n12)
          try have n12 := hnx _ _ _ n12
          have hB := hbx _ _ hB (by have := x11.lt; omega)
          have hl13 : b0 ≤ g13 := by have h1 := hnn _ _ _ x11; omega
          have x11 := hnx _ _ _ x11
          clear hnx hbx hnn
          refine hK3 _ _ ?_
          simp only [Act.put, List.getElem_toArray, List.getElem_cons_succ, List.getElem_cons_zero, List.setIfInBounds_toArray, List.set_cons_zero, List.set_cons_succ]
          refine wpAny_ready (rs := [7]) (by kernel_rfl) (by simp) ?_
          refine AllReady.cons rfl (fun K4 hK4 => ?_) (AllReady.nil)
          refine step_allocN hz rfl rfl ?_
          intro g12 W' n12 hnx hbx hnn
          try have hne : g12 ≠ g13 := Nat.ne_of_gt (hnn _ _ _ n13)
          try have n13 := hnx _ _ _ n13
          have hB := hbx _ _ hB (by have := x11.lt; omega)
          have hl12 : b0 ≤ g12 := by have h1 := hnn _ _ _ x11; omega
          have x11 := hnx _ _ _ x11
          clear hnx hbx hnn
          refine hK4 _ _ ?_
          simp only [Act.put, List.getElem_toArray, List.getElem_cons_succ, List.getElem_cons_zero, List.setIfInBounds_toArray, List.set_cons_zero, List.set_cons_succ]
          refine wpAny_ready (rs := [9]) (by kernel_rfl) (by simp) ?_
          refine AllReady.cons rfl (fun K5 hK5 => ?_) (AllReady.nil)
          refine step_stN n12 rfl (.tmp 12) (.tmp 36) rfl rfl _ _ rfl ?_
          have n13 := n13.row g12 (Ne.symm hne) (numC false (bitF (X / den)))
          have n12 := n12.put false (bitF (X / den))
          have hB := below_row hB (g := g12) hl12 (numC false (bitF (X / den)))
          refine hK5 _ _ ?_
          simp only [Act.put, List.getElem_toArray, List.getElem_cons_succ, List.getElem_cons_zero, List.setIfInBounds_toArray, List.set_cons_zero, List.set_cons_succ]
          refine wpAny_ready (rs := [10]) (by kernel_rfl) (by simp) ?_
          refine AllReady.cons rfl (fun K6 hK6 => ?_) (AllReady.nil)
          refine step_stN n13 rfl (.tmp 13) (.tmp 37) rfl rfl _ _ rfl ?_
          have n12 := n12.row g13 hne (numC false (bitF (X % den)))
          have n13 := n13.put false (bitF (X % den))
          have hB := below_row hB (g := g13) hl13 (numC false (bitF (X % den)))
          refine hK6 _ _ ?_
          simp only [Act.put, List.getElem_toArray, List.getElem_cons_succ, List.getElem_cons_zero, List.setIfInBounds_toArray, List.set_cons_zero, List.set_cons_succ]
          refine wpAny_done (by kernel_rfl) ?_ _
          clear x11
          go_wp2_with (first | (refine ld_num n12 rfl _ rfl rfl ?_))
          refine (HU1.out _).mono ?_
          rintro e wu ⟨rfl, hbu⟩
          have hB := belowN hB n12 hl12 hbu
          have n13 := n13.next hbu
          clear n12 hbu
          go_wp2_with (first | (refine ld_num n13 rfl _ rfl rfl ?_))
          refine (HU2.out _).mono ?_
          rintro e wv ⟨rfl, hbv⟩
          have hB := belowN hB n13 hl13 hbv
          clear n13 hbv
          cases is with
          | false =>
            go_wp2_with fail
            go_ret3
            exact ⟨by rw [HV.out]; rfl, by rw [Hb0.out]; exact hB⟩
          | true =>
            go_wp2_with fail
            go_ret3
            exact ⟨by rw [HV.out]; rfl, by rw [Hb0.out]; exact hB⟩
      · refine step_allocN hz rfl rfl ?_
        intro g12 W' n12 hnx hbx hnn
        try have hne : g12 ≠ g13 := Nat.ne_of_gt (hnn _ _ _ n13)
        try have n13 := hnx _ _ _ n13
        have hB := hbx _ _ hB (by have := x11.lt; omega)
        have hl12 : b0 ≤ g12 := by have h1 := hnn _ _ _ x11; omega
        have x11 := hnx _ _ _ x11
        clear hnx hbx hnn
        refine hK2 _ _ ?_
        simp only [Act.put, List.getElem_toArray, List.getElem_cons_succ, List.getElem_cons_zero, List.setIfInBounds_toArray, List.set_cons_zero, List.set_cons_succ]
        refine wpAny_ready (rs := [3, 8]) (by kernel_rfl) (by simp) ?_
        refine AllReady.cons rfl (fun K3 hK3 => ?_) (AllReady.cons rfl (fun K3 hK3 => ?_) (AllReady.nil))
        · refine step_callN rfl 45 #[.tmp 32, .tmp 34] _ rfl #[.agg (numC false (bitF X)), .agg (numC false (bitF den))] (by simp [Act.eval, Act.put]) (enters_of Try.func45 (by kernel_rfl) rfl) (HP.out _) ?_
          rintro e we ⟨rfl, hbe⟩
          refine ⟨_, rfl, ?_⟩
          have hB := belowN hB x11 hle hbe
          have x11 := x11.next hbe
          try have n12 := n12.next hbe
          try have n13 := n13.next hbe
          refine hK3 _ _ ?_
          simp only [Act.put, List.getElem_toArray, List.getElem_cons_succ, List.getElem_cons_zero, List.setIfInBounds_toArray, List.set_cons_zero, List.set_cons_succ]
          refine wpAny_take (i := 4) (v := ?_) rfl (by kernel_rfl) (by kernel_rfl) (by kernel_rfl) (fun _ _ _ h => h) (Or.inl ⟨by kernel_rfl, ?_⟩) ?_
          rotate_left
          · intro w'; go_simp; try with_reducible rfl
          simp only [Act.put, List.getElem_toArray, List.getElem_cons_succ, List.getElem_cons_zero, List.setIfInBounds_toArray, List.set_cons_zero, List.set_cons_succ]
          refine wpAny_take (i := 5) (v := ?_) rfl (by kernel_rfl) (by kernel_rfl) (by kernel_rfl) (fun _ _ _ h => h) (Or.inl ⟨by kernel_rfl, ?_⟩) ?_
          rotate_left
          · intro w'; go_simp; try with_reducible rfl
          simp only [Act.put, List.getElem_toArray, List.getElem_cons_succ, List.getElem_cons_zero, List.setIfInBounds_toArray, List.set_cons_zero, List.set_cons_succ]
          refine wpAny_take (i := 6) (v := ?_) rfl (by kernel_rfl) (by kernel_rfl) (by kernel_rfl) (fun _ _ _ h => h) (Or.inl ⟨by kernel_rfl, ?_⟩) ?_
          rotate_left
          · intro w'; go_simp; try with_reducible rfl
          simp only [Act.put, List.getElem_toArray, List.getElem_cons_succ, List.getElem_cons_zero, List.setIfInBounds_toArray, List.set_cons_zero, List.set_cons_succ]
          refine wpAny_ready (rs := [8]) (by kernel_rfl) (by simp) ?_
          refine AllReady.cons rfl (fun K4 hK4 => ?_) (AllReady.nil)
          refine step_allocN hz rfl rfl ?_
          intro g13 W' n13 hnx hbx hnn
          try have hne : g12 ≠ g13 := Nat.ne_of_lt (hnn _ _ _ n12)
          try have n12 := hnx _ _ _ n12
          have hB := hbx _ _ hB (by have := x11.lt; omega)
          have hl13 : b0 ≤ g13 := by have h1 := hnn _ _ _ x11; omega
          have x11 := hnx _ _ _ x11
          clear hnx hbx hnn
          refine hK4 _ _ ?_
          simp only [Act.put, List.getElem_toArray, List.getElem_cons_succ, List.getElem_cons_zero, List.setIfInBounds_toArray, List.set_cons_zero, List.set_cons_succ]
          refine wpAny_ready (rs := [9]) (by kernel_rfl) (by simp) ?_
          refine AllReady.cons rfl (fun K5 hK5 => ?_) (AllReady.nil)
          refine step_stN n12 rfl (.tmp 12) (.tmp 36) rfl rfl _ _ rfl ?_
          have n13 := n13.row g12 (Ne.symm hne) (numC false (bitF (X / den)))
          have n12 := n12.put false (bitF (X / den))
          have hB := below_row hB (g := g12) hl12 (numC false (bitF (X / den)))
          refine hK5 _ _ ?_
          simp only [Act.put, List.getElem_toArray, List.getElem_cons_succ, List.getElem_cons_zero, List.setIfInBounds_toArray, List.set_cons_zero, List.set_cons_succ]
          refine wpAny_ready (rs := [10]) (by kernel_rfl) (by simp) ?_
          refine AllReady.cons rfl (fun K6 hK6 => ?_) (AllReady.nil)
          refine step_stN n13 rfl (.tmp 13) (.tmp 37) rfl rfl _ _ rfl ?_
          have n12 := n12.row g13 hne (numC false (bitF (X % den)))
          have n13 := n13.put false (bitF (X % den))
          have hB := below_row hB (g := g13) hl13 (numC false (bitF (X % den)))
          refine hK6 _ _ ?_
          simp only [Act.put, List.getElem_toArray, List.getElem_cons_succ, List.getElem_cons_zero, List.setIfInBounds_toArray, List.set_cons_zero, List.set_cons_succ]
          refine wpAny_done (by kernel_rfl) ?_ _
          clear x11
          go_wp2_with (first | (refine ld_num n12 rfl _ rfl rfl ?_))
          refine (HU1.out _).mono ?_
          rintro e wu ⟨rfl, hbu⟩
          have hB := belowN hB n12 hl12 hbu
          have n13 := n13.next hbu
          clear n12 hbu
          go_wp2_with (first | (refine ld_num n13 rfl _ rfl rfl ?_))
          refine (HU2.out _).mono ?_
          rintro e wv ⟨rfl, hbv⟩
          have hB := belowN hB n13 hl13 hbv
          clear n13 hbv
          cases is with
          | false =>
            go_wp2_with fail
            go_ret3
            exact ⟨by rw [HV.out]; rfl, by rw [Hb0.out]; exact hB⟩
          | true =>
            go_wp2_with fail
            go_ret3
            exact ⟨by rw [HV.out]; rfl, by rw [Hb0.out]; exact hB⟩
        · refine step_allocN hz rfl rfl ?_
          intro g13 W' n13 hnx hbx hnn
          try have hne : g12 ≠ g13 := Nat.ne_of_lt (hnn _ _ _ n12)
          try have n12 := hnx _ _ _ n12
          have hB := hbx _ _ hB (by have := x11.lt; omega)
          have hl13 : b0 ≤ g13 := by have h1 := hnn _ _ _ x11; omega
          have x11 := hnx _ _ _ x11
          clear hnx hbx hnn
          refine hK3 _ _ ?_
          simp only [Act.put, List.getElem_toArray, List.getElem_cons_succ, List.getElem_cons_zero, List.setIfInBounds_toArray, List.set_cons_zero, List.set_cons_succ]
          refine wpAny_ready (rs := [3]) (by kernel_rfl) (by simp) ?_
          refine AllReady.cons rfl (fun K4 hK4 => ?_) (AllReady.nil)
          refine step_callN rfl 45 #[.tmp 32, .tmp 34] _ rfl #[.agg (numC false (bitF X)), .agg (numC false (bitF den))] (by simp [Act.eval, Act.put]) (enters_of Try.func45 (by kernel_rfl) rfl) (HP.out _) ?_
          rintro e we ⟨rfl, hbe⟩
          refine ⟨_, rfl, ?_⟩
          have hB := belowN hB x11 hle hbe
          have x11 := x11.next hbe
          try have n12 := n12.next hbe
          try have n13 := n13.next hbe
          refine hK4 _ _ ?_
          simp only [Act.put, List.getElem_toArray, List.getElem_cons_succ, List.getElem_cons_zero, List.setIfInBounds_toArray, List.set_cons_zero, List.set_cons_succ]
          refine wpAny_take (i := 4) (v := ?_) rfl (by kernel_rfl) (by kernel_rfl) (by kernel_rfl) (fun _ _ _ h => h) (Or.inl ⟨by kernel_rfl, ?_⟩) ?_
          rotate_left
          · intro w'; go_simp; try with_reducible rfl
          simp only [Act.put, List.getElem_toArray, List.getElem_cons_succ, List.getElem_cons_zero, List.setIfInBounds_toArray, List.set_cons_zero, List.set_cons_succ]
          refine wpAny_take (i := 5) (v := ?_) rfl (by kernel_rfl) (by kernel_rfl) (by kernel_rfl) (fun _ _ _ h => h) (Or.inl ⟨by kernel_rfl, ?_⟩) ?_
          rotate_left
          · intro w'; go_simp; try with_reducible rfl
          simp only [Act.put, List.getElem_toArray, List.getElem_cons_succ, List.getElem_cons_zero, List.setIfInBounds_toArray, List.set_cons_zero, List.set_cons_succ]
          refine wpAny_take (i := 6) (v := ?_) rfl (by kernel_rfl) (by kernel_rfl) (by kernel_rfl) (fun _ _ _ h => h) (Or.inl ⟨by kernel_rfl, ?_⟩) ?_
          rotate_left
          · intro w'; go_simp; try with_reducible rfl
          simp only [Act.put, List.getElem_toArray, List.getElem_cons_succ, List.getElem_cons_zero, List.setIfInBounds_toArray, List.set_cons_zero, List.set_cons_succ]
          refine wpAny_ready (rs := [9]) (by kernel_rfl) (by simp) ?_
          refine AllReady.cons rfl (fun K5 hK5 => ?_) (AllReady.nil)
          refine step_stN n12 rfl (.tmp 12) (.tmp 36) rfl rfl _ _ rfl ?_
          have n13 := n13.row g12 (Ne.symm hne) (numC false (bitF (X / den)))
          have n12 := n12.put false (bitF (X / den))
          have hB := below_row hB (g := g12) hl12 (numC false (bitF (X / den)))
          refine hK5 _ _ ?_
          simp only [Act.put, List.getElem_toArray, List.getElem_cons_succ, List.getElem_cons_zero, List.setIfInBounds_toArray, List.set_cons_zero, List.set_cons_succ]
          refine wpAny_ready (rs := [10]) (by kernel_rfl) (by simp) ?_
          refine AllReady.cons rfl (fun K6 hK6 => ?_) (AllReady.nil)
          refine step_stN n13 rfl (.tmp 13) (.tmp 37) rfl rfl _ _ rfl ?_
          have n12 := n12.row g13 hne (numC false (bitF (X % den)))
          have n13 := n13.put false (bitF (X % den))
          have hB := below_row hB (g := g13) hl13 (numC false (bitF (X % den)))
          refine hK6 _ _ ?_
          simp only [Act.put, List.getElem_toArray, List.getElem_cons_succ, List.getElem_cons_zero, List.setIfInBounds_toArray, List.set_cons_zero, List.set_cons_succ]
          refine wpAny_done (by kernel_rfl) ?_ _
          clear x11
          go_wp2_with (first | (refine ld_num n12 rfl _ rfl rfl ?_))
          refine (HU1.out _).mono ?_
          rintro e wu ⟨rfl, hbu⟩
          have hB := belowN hB n12 hl12 hbu
          have n13 := n13.next hbu
          clear n12 hbu
          go_wp2_with (first | (refine ld_num n13 rfl _ rfl rfl ?_))
          refine (HU2.out _).mono ?_
          rintro e wv ⟨rfl, hbv⟩
          have hB := belowN hB n13 hl13 hbv
          clear n13 hbv
          cases is with
          | false =>
            go_wp2_with fail
            go_ret3
            exact ⟨by rw [HV.out]; rfl, by rw [Hb0.out]; exact hB⟩
          | true =>
            go_wp2_with fail
            go_ret3
            exact ⟨by rw [HV.out]; rfl, by rw [Hb0.out]; exact hB⟩
      · refine step_allocN hz rfl rfl ?_
        intro g13 W' n13 hnx hbx hnn
        try have hne : g12 ≠ g13 := Nat.ne_of_lt (hnn _ _ _ n12)
        try have n12 := hnx _ _ _ n12
        have hB := hbx _ _ hB (by have := x11.lt; omega)
        have hl13 : b0 ≤ g13 := by have h1 := hnn _ _ _ x11; omega
        have x11 := hnx _ _ _ x11
        clear hnx hbx hnn
        refine hK2 _ _ ?_
        simp only [Act.put, List.getElem_toArray, List.getElem_cons_succ, List.getElem_cons_zero, List.setIfInBounds_toArray, List.set_cons_zero, List.set_cons_succ]
        refine wpAny_ready (rs := [3, 7]) (by kernel_rfl) (by simp) ?_
        refine AllReady.cons rfl (fun K3 hK3 => ?_) (AllReady.cons rfl (fun K3 hK3 => ?_) (AllReady.nil))
        · refine step_callN rfl 45 #[.tmp 32, .tmp 34] _ rfl #[.agg (numC false (bitF X)), .agg (numC false (bitF den))] (by simp [Act.eval, Act.put]) (enters_of Try.func45 (by kernel_rfl) rfl) (HP.out _) ?_
          rintro e we ⟨rfl, hbe⟩
          refine ⟨_, rfl, ?_⟩
          have hB := belowN hB x11 hle hbe
          have x11 := x11.next hbe
          try have n12 := n12.next hbe
          try have n13 := n13.next hbe
          refine hK3 _ _ ?_
          simp only [Act.put, List.getElem_toArray, List.getElem_cons_succ, List.getElem_cons_zero, List.setIfInBounds_toArray, List.set_cons_zero, List.set_cons_succ]
          refine wpAny_take (i := 4) (v := ?_) rfl (by kernel_rfl) (by kernel_rfl) (by kernel_rfl) (fun _ _ _ h => h) (Or.inl ⟨by kernel_rfl, ?_⟩) ?_
          rotate_left
          · intro w'; go_simp; try with_reducible rfl
          simp only [Act.put, List.getElem_toArray, List.getElem_cons_succ, List.getElem_cons_zero, List.setIfInBounds_toArray, List.set_cons_zero, List.set_cons_succ]
          refine wpAny_take (i := 5) (v := ?_) rfl (by kernel_rfl) (by kernel_rfl) (by kernel_rfl) (fun _ _ _ h => h) (Or.inl ⟨by kernel_rfl, ?_⟩) ?_
          rotate_left
          · intro w'; go_simp; try with_reducible rfl
          simp only [Act.put, List.getElem_toArray, List.getElem_cons_succ, List.getElem_cons_zero, List.setIfInBounds_toArray, List.set_cons_zero, List.set_cons_succ]
          refine wpAny_take (i := 6) (v := ?_) rfl (by kernel_rfl) (by kernel_rfl) (by kernel_rfl) (fun _ _ _ h => h) (Or.inl ⟨by kernel_rfl, ?_⟩) ?_
          rotate_left
          · intro w'; go_simp; try with_reducible rfl
          simp only [Act.put, List.getElem_toArray, List.getElem_cons_succ, List.getElem_cons_zero, List.setIfInBounds_toArray, List.set_cons_zero, List.set_cons_succ]
          refine wpAny_ready (rs := [7]) (by kernel_rfl) (by simp) ?_
          refine AllReady.cons rfl (fun K4 hK4 => ?_) (AllReady.nil)
          refine step_allocN hz rfl rfl ?_
          intro g12 W' n12 hnx hbx hnn
          try have hne : g12 ≠ g13 := Nat.ne_of_gt (hnn _ _ _ n13)
          try have n13 := hnx _ _ _ n13
          have hB := hbx _ _ hB (by have := x11.lt; omega)
          have hl12 : b0 ≤ g12 := by have h1 := hnn _ _ _ x11; omega
          have x11 := hnx _ _ _ x11
          clear hnx hbx hnn
          refine hK4 _ _ ?_
          simp only [Act.put, List.getElem_toArray, List.getElem_cons_succ, List.getElem_cons_zero, List.setIfInBounds_toArray, List.set_cons_zero, List.set_cons_succ]
          refine wpAny_ready (rs := [9]) (by kernel_rfl) (by simp) ?_
          refine AllReady.cons rfl (fun K5 hK5 => ?_) (AllReady.nil)
          refine step_stN n12 rfl (.tmp 12) (.tmp 36) rfl rfl _ _ rfl ?_
          have n13 := n13.row g12 (Ne.symm hne) (numC false (bitF (X / den)))
          have n12 := n12.put false (bitF (X / den))
          have hB := below_row hB (g := g12) hl12 (numC false (bitF (X / den)))
          refine hK5 _ _ ?_
          simp only [Act.put, List.getElem_toArray, List.getElem_cons_succ, List.getElem_cons_zero, List.setIfInBounds_toArray, List.set_cons_zero, List.set_cons_succ]
          refine wpAny_ready (rs := [10]) (by kernel_rfl) (by simp) ?_
          refine AllReady.cons rfl (fun K6 hK6 => ?_) (AllReady.nil)
          refine step_stN n13 rfl (.tmp 13) (.tmp 37) rfl rfl _ _ rfl ?_
          have n12 := n12.row g13 hne (numC false (bitF (X % den)))
          have n13 := n13.put false (bitF (X % den))
          have hB := below_row hB (g := g13) hl13 (numC false (bitF (X % den)))
          refine hK6 _ _ ?_
          simp only [Act.put, List.getElem_toArray, List.getElem_cons_succ, List.getElem_cons_zero, List.setIfInBounds_toArray, List.set_cons_zero, List.set_cons_succ]
          refine wpAny_done (by kernel_rfl) ?_ _
          clear x11
          go_wp2_with (first | (refine ld_num n12 rfl _ rfl rfl ?_))
          refine (HU1.out _).mono ?_
          rintro e wu ⟨rfl, hbu⟩
          have hB := belowN hB n12 hl12 hbu
          have n13 := n13.next hbu
          clear n12 hbu
          go_wp2_with (first | (refine ld_num n13 rfl _ rfl rfl ?_))
          refine (HU2.out _).mono ?_
          rintro e wv ⟨rfl, hbv⟩
          have hB := belowN hB n13 hl13 hbv
          clear n13 hbv
          cases is with
          | false =>
            go_wp2_with fail
            go_ret3
            exact ⟨by rw [HV.out]; rfl, by rw [Hb0.out]; exact hB⟩
          | true =>
            go_wp2_with fail
            go_ret3
            exact ⟨by rw [HV.out]; rfl, by rw [Hb0.out]; exact hB⟩
        · refine step_allocN hz rfl rfl ?_
          intro g12 W' n12 hnx hbx hnn
          try have hne : g12 ≠ g13 := Nat.ne_of_gt (hnn _ _ _ n13)
          try have n13 := hnx _ _ _ n13
          have hB := hbx _ _ hB (by have := x11.lt; omega)
          have hl12 : b0 ≤ g12 := by have h1 := hnn _ _ _ x11; omega
          have x11 := hnx _ _ _ x11
          clear hnx hbx hnn
          refine hK3 _ _ ?_
          simp only [Act.put, List.getElem_toArray, List.getElem_cons_succ, List.getElem_cons_zero, List.setIfInBounds_toArray, List.set_cons_zero, List.set_cons_succ]
          refine wpAny_ready (rs := [3]) (by kernel_rfl) (by simp) ?_
          refine AllReady.cons rfl (fun K4 hK4 => ?_) (AllReady.nil)
          refine step_callN rfl 45 #[.tmp 32, .tmp 34] _ rfl #[.agg (numC false (bitF X)), .agg (numC false (bitF den))] (by simp [Act.eval, Act.put]) (enters_of Try.func45 (by kernel_rfl) rfl) (HP.out _) ?_
          rintro e we ⟨rfl, hbe⟩
          refine ⟨_, rfl, ?_⟩
          have hB := belowN hB x11 hle hbe
          have x11 := x11.next hbe
          try have n12 := n12.next hbe
          try have n13 := n13.next hbe
          refine hK4 _ _ ?_
          simp only [Act.put, List.getElem_toArray, List.getElem_cons_succ, List.getElem_cons_zero, List.setIfInBounds_toArray, List.set_cons_zero, List.set_cons_succ]
          refine wpAny_take (i := 4) (v := ?_) rfl (by kernel_rfl) (by kernel_rfl) (by kernel_rfl) (fun _ _ _ h => h) (Or.inl ⟨by kernel_rfl, ?_⟩) ?_
          rotate_left
          · intro w'; go_simp; try with_reducible rfl
          simp only [Act.put, List.getElem_toArray, List.getElem_cons_succ, List.getElem_cons_zero, List.setIfInBounds_toArray, List.set_cons_zero, List.set_cons_succ]
          refine wpAny_take (i := 5) (v := ?_) rfl (by kernel_rfl) (by kernel_rfl) (by kernel_rfl) (fun _ _ _ h => h) (Or.inl ⟨by kernel_rfl, ?_⟩) ?_
          rotate_left
          · intro w'; go_simp; try with_reducible rfl
          simp only [Act.put, List.getElem_toArray, List.getElem_cons_succ, List.getElem_cons_zero, List.setIfInBounds_toArray, List.set_cons_zero, List.set_cons_succ]
          refine wpAny_take (i := 6) (v := ?_) rfl (by kernel_rfl) (by kernel_rfl) (by kernel_rfl) (fun _ _ _ h => h) (Or.inl ⟨by kernel_rfl, ?_⟩) ?_
          rotate_left
          · intro w'; go_simp; try with_reducible rfl
          simp only [Act.put, List.getElem_toArray, List.getElem_cons_succ, List.getElem_cons_zero, List.setIfInBounds_toArray, List.set_cons_zero, List.set_cons_succ]
          refine wpAny_ready (rs := [9]) (by kernel_rfl) (by simp) ?_
          refine AllReady.cons rfl (fun K5 hK5 => ?_) (AllReady.nil)
          refine step_stN n12 rfl (.tmp 12) (.tmp 36) rfl rfl _ _ rfl ?_
          have n13 := n13.row g12 (Ne.symm hne) (numC false (bitF (X / den)))
          have n12 := n12.put false (bitF (X / den))
          have hB := below_row hB (g := g12) hl12 (numC false (bitF (X / den)))
          refine hK5 _ _ ?_
          simp only [Act.put, List.getElem_toArray, List.getElem_cons_succ, List.getElem_cons_zero, List.setIfInBounds_toArray, List.set_cons_zero, List.set_cons_succ]
          refine wpAny_ready (rs := [10]) (by kernel_rfl) (by simp) ?_
          refine AllReady.cons rfl (fun K6 hK6 => ?_) (AllReady.nil)
          refine step_stN n13 rfl (.tmp 13) (.tmp 37) rfl rfl _ _ rfl ?_
          have n12 := n12.row g13 hne (numC false (bitF (X % den)))
          have n13 := n13.put false (bitF (X % den))
          have hB := below_row hB (g := g13) hl13 (numC false (bitF (X % den)))
          refine hK6 _ _ ?_
          simp only [Act.put, List.getElem_toArray, List.getElem_cons_succ, List.getElem_cons_zero, List.setIfInBounds_toArray, List.set_cons_zero, List.set_cons_succ]
          refine wpAny_done (by kernel_rfl) ?_ _
          clear x11
          go_wp2_with (first | (refine ld_num n12 rfl _ rfl rfl ?_))
          refine (HU1.out _).mono ?_
          rintro e wu ⟨rfl, hbu⟩
          have hB := belowN hB n12 hl12 hbu
          have n13 := n13.next hbu
          clear n12 hbu
          go_wp2_with (first | (refine ld_num n13 rfl _ rfl rfl ?_))
          refine (HU2.out _).mono ?_
          rintro e wv ⟨rfl, hbv⟩
          have hB := belowN hB n13 hl13 hbv
          clear n13 hbv
          cases is with
          | false =>
            go_wp2_with fail
            go_ret3
            exact ⟨by rw [HV.out]; rfl, by rw [Hb0.out]; exact hB⟩
          | true =>
            go_wp2_with fail
            go_ret3
            exact ⟨by rw [HV.out]; rfl, by rw [Hb0.out]; exact hB⟩
    · refine step_allocN hz rfl rfl ?_
      intro g12 W' n12 hnx hbx hnn
      try have hne : g12 ≠ g13 := Nat.ne_of_gt (hnn _ _ _ n13)
      try have n13 := hnx _ _ _ n13
      have hB := hbx _ _ hB (by have := x11.lt; omega)
      have hl12 : b0 ≤ g12 := by have h1 := hnn _ _ _ x11; omega
      have x11 := hnx _ _ _ x11
      clear hnx hbx hnn
      refine hK1 _ _ ?_
      simp only [Act.put, List.getElem_toArray, List.getElem_cons_succ, List.getElem_cons_zero, List.setIfInBounds_toArray, List.set_cons_zero, List.set_cons_succ]
      refine wpAny_ready (rs := [2, 8]) (by kernel_rfl) (by simp) ?_
      refine AllReady.cons rfl (fun K2 hK2 => ?_) (AllReady.cons rfl (fun K2 hK2 => ?_) (AllReady.nil))
      · refine step_callN rfl 44 #[.tmp 33] _ rfl #[.int .u64 (den : Int)] (by simp [Act.eval, Act.put]) (enters_of Try.func44 (by kernel_rfl) rfl) (num_of den hden _) ?_
        rintro e wd ⟨rfl, hbd⟩
        refine ⟨_, rfl, ?_⟩
        have hB := belowN hB x11 hle hbd
        have x11 := x11.next hbd
        try have n12 := n12.next hbd
        try have n13 := n13.next hbd
        refine hK2 _ _ ?_
        simp only [Act.put, List.getElem_toArray, List.getElem_cons_succ, List.getElem_cons_zero, List.setIfInBounds_toArray, List.set_cons_zero, List.set_cons_succ]
        refine wpAny_ready (rs := [3, 8]) (by kernel_rfl) (by simp) ?_
        refine AllReady.cons rfl (fun K3 hK3 => ?_) (AllReady.cons rfl (fun K3 hK3 => ?_) (AllReady.nil))
        · refine step_callN rfl 45 #[.tmp 32, .tmp 34] _ rfl #[.agg (numC false (bitF X)), .agg (numC false (bitF den))] (by simp [Act.eval, Act.put]) (enters_of Try.func45 (by kernel_rfl) rfl) (HP.out _) ?_
          rintro e we ⟨rfl, hbe⟩
          refine ⟨_, rfl, ?_⟩
          have hB := belowN hB x11 hle hbe
          have x11 := x11.next hbe
          try have n12 := n12.next hbe
          try have n13 := n13.next hbe
          refine hK3 _ _ ?_
          simp only [Act.put, List.getElem_toArray, List.getElem_cons_succ, List.getElem_cons_zero, List.setIfInBounds_toArray, List.set_cons_zero, List.set_cons_succ]
          refine wpAny_take (i := 4) (v := ?_) rfl (by kernel_rfl) (by kernel_rfl) (by kernel_rfl) (fun _ _ _ h => h) (Or.inl ⟨by kernel_rfl, ?_⟩) ?_
          rotate_left
          · intro w'; go_simp; try with_reducible rfl
          simp only [Act.put, List.getElem_toArray, List.getElem_cons_succ, List.getElem_cons_zero, List.setIfInBounds_toArray, List.set_cons_zero, List.set_cons_succ]
          refine wpAny_take (i := 5) (v := ?_) rfl (by kernel_rfl) (by kernel_rfl) (by kernel_rfl) (fun _ _ _ h => h) (Or.inl ⟨by kernel_rfl, ?_⟩) ?_
          rotate_left
          · intro w'; go_simp; try with_reducible rfl
          simp only [Act.put, List.getElem_toArray, List.getElem_cons_succ, List.getElem_cons_zero, List.setIfInBounds_toArray, List.set_cons_zero, List.set_cons_succ]
          refine wpAny_take (i := 6) (v := ?_) rfl (by kernel_rfl) (by kernel_rfl) (by kernel_rfl) (fun _ _ _ h => h) (Or.inl ⟨by kernel_rfl, ?_⟩) ?_
          rotate_left
          · intro w'; go_simp; try with_reducible rfl
          simp only [Act.put, List.getElem_toArray, List.getElem_cons_succ, List.getElem_cons_zero, List.setIfInBounds_toArray, List.set_cons_zero, List.set_cons_succ]
          refine wpAny_ready (rs := [8]) (by kernel_rfl) (by simp) ?_
          refine AllReady.cons rfl (fun K4 hK4 => ?_) (AllReady.nil)
          refine step_allocN hz rfl rfl ?_
          intro g13 W' n13 hnx hbx hnn
          try have hne : g12 ≠ g13 := Nat.ne_of_lt (hnn _ _ _ n12)
          try have n12 := hnx _ _ _ n12
          have hB := hbx _ _ hB (by have := x11.lt; omega)
          have hl13 : b0 ≤ g13 := by have h1 := hnn _ _ _ x11; omega
          have x11 := hnx _ _ _ x11
          clear hnx hbx hnn
          refine hK4 _ _ ?_
          simp only [Act.put, List.getElem_toArray, List.getElem_cons_succ, List.getElem_cons_zero, List.setIfInBounds_toArray, List.set_cons_zero, List.set_cons_succ]
          refine wpAny_ready (rs := [9]) (by kernel_rfl) (by simp) ?_
          refine AllReady.cons rfl (fun K5 hK5 => ?_) (AllReady.nil)
          refine step_stN n12 rfl (.tmp 12) (.tmp 36) rfl rfl _ _ rfl ?_
          have n13 := n13.row g12 (Ne.symm hne) (numC false (bitF (X / den)))
          have n12 := n12.put false (bitF (X / den))
          have hB := below_row hB (g := g12) hl12 (numC false (bitF (X / den)))
          refine hK5 _ _ ?_
          simp only [Act.put, List.getElem_toArray, List.getElem_cons_succ, List.getElem_cons_zero, List.setIfInBounds_toArray, List.set_cons_zero, List.set_cons_succ]
          refine wpAny_ready (rs := [10]) (by kernel_rfl) (by simp) ?_
          refine AllReady.cons rfl (fun K6 hK6 => ?_) (AllReady.nil)
          refine step_stN n13 rfl (.tmp 13) (.tmp 37) rfl rfl _ _ rfl ?_
          have n12 := n12.row g13 hne (numC false (bitF (X % den)))
          have n13 := n13.put false (bitF (X % den))
          have hB := below_row hB (g := g13) hl13 (numC false (bitF (X % den)))
          refine hK6 _ _ ?_
          simp only [Act.put, List.getElem_toArray, List.getElem_cons_succ, List.getElem_cons_zero, List.setIfInBounds_toArray, List.set_cons_zero, List.set_cons_succ]
          refine wpAny_done (by kernel_rfl) ?_ _
          clear x11
          go_wp2_with (first | (refine ld_num n12 rfl _ rfl rfl ?_))
          refine (HU1.out _).mono ?_
          rintro e wu ⟨rfl, hbu⟩
          have hB := belowN hB n12 hl12 hbu
          have n13 := n13.next hbu
          clear n12 hbu
          go_wp2_with (first | (refine ld_num n13 rfl _ rfl rfl ?_))
          refine (HU2.out _).mono ?_
          rintro e wv ⟨rfl, hbv⟩
          have hB := belowN hB n13 hl13 hbv
          clear n13 hbv
          cases is with
          | false =>
            go_wp2_with fail
            go_ret3
            exact ⟨by rw [HV.out]; rfl, by rw [Hb0.out]; exact hB⟩
          | true =>
            go_wp2_with fail
            go_ret3
            exact ⟨by rw [HV.out]; rfl, by rw [Hb0.out]; exact hB⟩
        · refine step_allocN hz rfl rfl ?_
          intro g13 W' n13 hnx hbx hnn
          try have hne : g12 ≠ g13 := Nat.ne_of_lt (hnn _ _ _ n12)
          try have n12 := hnx _ _ _ n12
          have hB := hbx _ _ hB (by have := x11.lt; omega)
          have hl13 : b0 ≤ g13 := by have h1 := hnn _ _ _ x11; omega
          have x11 := hnx _ _ _ x11
          clear hnx hbx hnn
          refine hK3 _ _ ?_
          simp only [Act.put, List.getElem_toArray, List.getElem_cons_succ, List.getElem_cons_zero, List.setIfInBounds_toArray, List.set_cons_zero, List.set_cons_succ]
          refine wpAny_ready (rs := [3]) (by kernel_rfl) (by simp) ?_
          refine AllReady.cons rfl (fun K4 hK4 => ?_) (AllReady.nil)
          refine step_callN rfl 45 #[.tmp 32, .tmp 34] _ rfl #[.agg (numC false (bitF X)), .agg (numC false (bitF den))] (by simp [Act.eval, Act.put]) (enters_of Try.func45 (by kernel_rfl) rfl) (HP.out _) ?_
          rintro e we ⟨rfl, hbe⟩
          refine ⟨_, rfl, ?_⟩
          have hB := belowN hB x11 hle hbe
          have x11 := x11.next hbe
          try have n12 := n12.next hbe
          try have n13 := n13.next hbe
          refine hK4 _ _ ?_
          simp only [Act.put, List.getElem_toArray, List.getElem_cons_succ, List.getElem_cons_zero, List.setIfInBounds_toArray, List.set_cons_zero, List.set_cons_succ]
          refine wpAny_take (i := 4) (v := ?_) rfl (by kernel_rfl) (by kernel_rfl) (by kernel_rfl) (fun _ _ _ h => h) (Or.inl ⟨by kernel_rfl, ?_⟩) ?_
          rotate_left
          · intro w'; go_simp; try with_reducible rfl
          simp only [Act.put, List.getElem_toArray, List.getElem_cons_succ, List.getElem_cons_zero, List.setIfInBounds_toArray, List.set_cons_zero, List.set_cons_succ]
          refine wpAny_take (i := 5) (v := ?_) rfl (by kernel_rfl) (by kernel_rfl) (by kernel_rfl) (fun _ _ _ h => h) (Or.inl ⟨by kernel_rfl, ?_⟩) ?_
          rotate_left
          · intro w'; go_simp; try with_reducible rfl
          simp only [Act.put, List.getElem_toArray, List.getElem_cons_succ, List.getElem_cons_zero, List.setIfInBounds_toArray, List.set_cons_zero, List.set_cons_succ]
          refine wpAny_take (i := 6) (v := ?_) rfl (by kernel_rfl) (by kernel_rfl) (by kernel_rfl) (fun _ _ _ h => h) (Or.inl ⟨by kernel_rfl, ?_⟩) ?_
          rotate_left
          · intro w'; go_simp; try with_reducible rfl
          simp only [Act.put, List.getElem_toArray, List.getElem_cons_succ, List.getElem_cons_zero, List.setIfInBounds_toArray, List.set_cons_zero, List.set_cons_succ]
          refine wpAny_ready (rs := [9]) (by kernel_rfl) (by simp) ?_
          refine AllReady.cons rfl (fun K5 hK5 => ?_) (AllReady.nil)
          refine step_stN n12 rfl (.tmp 12) (.tmp 36) rfl rfl _ _ rfl ?_
          have n13 := n13.row g12 (Ne.symm hne) (numC false (bitF (X / den)))
          have n12 := n12.put false (bitF (X / den))
          have hB := below_row hB (g := g12) hl12 (numC false (bitF (X / den)))
          refine hK5 _ _ ?_
          simp only [Act.put, List.getElem_toArray, List.getElem_cons_succ, List.getElem_cons_zero, List.setIfInBounds_toArray, List.set_cons_zero, List.set_cons_succ]
          refine wpAny_ready (rs := [10]) (by kernel_rfl) (by simp) ?_
          refine AllReady.cons rfl (fun K6 hK6 => ?_) (AllReady.nil)
          refine step_stN n13 rfl (.tmp 13) (.tmp 37) rfl rfl _ _ rfl ?_
          have n12 := n12.row g13 hne (numC false (bitF (X % den)))
          have n13 := n13.put false (bitF (X % den))
          have hB := below_row hB (g := g13) hl13 (numC false (bitF (X % den)))
          refine hK6 _ _ ?_
          simp only [Act.put, List.getElem_toArray, List.getElem_cons_succ, List.getElem_cons_zero, List.setIfInBounds_toArray, List.set_cons_zero, List.set_cons_succ]
          refine wpAny_done (by kernel_rfl) ?_ _
          clear x11
          go_wp2_with (first | (refine ld_num n12 rfl _ rfl rfl ?_))
          refine (HU1.out _).mono ?_
          rintro e wu ⟨rfl, hbu⟩
          have hB := belowN hB n12 hl12 hbu
          have n13 := n13.next hbu
          clear n12 hbu
          go_wp2_with (first | (refine ld_num n13 rfl _ rfl rfl ?_))
          refine (HU2.out _).mono ?_
          rintro e wv ⟨rfl, hbv⟩
          have hB := belowN hB n13 hl13 hbv
          clear n13 hbv
          cases is with
          | false =>
            go_wp2_with fail
            go_ret3
            exact ⟨by rw [HV.out]; rfl, by rw [Hb0.out]; exact hB⟩
          | true =>
            go_wp2_with fail
            go_ret3
            exact ⟨by rw [HV.out]; rfl, by rw [Hb0.out]; exact hB⟩
      · refine step_allocN hz rfl rfl ?_
        intro g13 W' n13 hnx hbx hnn
        try have hne : g12 ≠ g13 := Nat.ne_of_lt (hnn _ _ _ n12)
        try have n12 := hnx _ _ _ n12
        have hB := hbx _ _ hB (by have := x11.lt; omega)
        have hl13 : b0 ≤ g13 := by have h1 := hnn _ _ _ x11; omega
        have x11 := hnx _ _ _ x11
        clear hnx hbx hnn
        refine hK2 _ _ ?_
        simp only [Act.put, List.getElem_toArray, List.getElem_cons_succ, List.getElem_cons_zero, List.setIfInBounds_toArray, List.set_cons_zero, List.set_cons_succ]
        refine wpAny_ready (rs := [2]) (by kernel_rfl) (by simp) ?_
        refine AllReady.cons rfl (fun K3 hK3 => ?_) (AllReady.nil)
        refine step_callN rfl 44 #[.tmp 33] _ rfl #[.int .u64 (den : Int)] (by simp [Act.eval, Act.put]) (enters_of Try.func44 (by kernel_rfl) rfl) (num_of den hden _) ?_
        rintro e wd ⟨rfl, hbd⟩
        refine ⟨_, rfl, ?_⟩
        have hB := belowN hB x11 hle hbd
        have x11 := x11.next hbd
        try have n12 := n12.next hbd
        try have n13 := n13.next hbd
        refine hK3 _ _ ?_
        simp only [Act.put, List.getElem_toArray, List.getElem_cons_succ, List.getElem_cons_zero, List.setIfInBounds_toArray, List.set_cons_zero, List.set_cons_succ]
        refine wpAny_ready (rs := [3]) (by kernel_rfl) (by simp) ?_
        refine AllReady.cons rfl (fun K4 hK4 => ?_) (AllReady.nil)
        refine step_callN rfl 45 #[.tmp 32, .tmp 34] _ rfl #[.agg (numC false (bitF X)), .agg (numC false (bitF den))] (by simp [Act.eval, Act.put]) (enters_of Try.func45 (by kernel_rfl) rfl) (HP.out _) ?_
        rintro e we ⟨rfl, hbe⟩
        refine ⟨_, rfl, ?_⟩
        have hB := belowN hB x11 hle hbe
        have x11 := x11.next hbe
        try have n12 := n12.next hbe
        try have n13 := n13.next hbe
        refine hK4 _ _ ?_
        simp only [Act.put, List.getElem_toArray, List.getElem_cons_succ, List.getElem_cons_zero, List.setIfInBounds_toArray, List.set_cons_zero, List.set_cons_succ]
        refine wpAny_take (i := 4) (v := ?_) rfl (by kernel_rfl) (by kernel_rfl) (by kernel_rfl) (fun _ _ _ h => h) (Or.inl ⟨by kernel_rfl, ?_⟩) ?_
        rotate_left
        · intro w'; go_simp; try with_reducible rfl
        simp only [Act.put, List.getElem_toArray, List.getElem_cons_succ, List.getElem_cons_zero, List.setIfInBounds_toArray, List.set_cons_zero, List.set_cons_succ]
        refine wpAny_take (i := 5) (v := ?_) rfl (by kernel_rfl) (by kernel_rfl) (by kernel_rfl) (fun _ _ _ h => h) (Or.inl ⟨by kernel_rfl, ?_⟩) ?_
        rotate_left
        · intro w'; go_simp; try with_reducible rfl
        simp only [Act.put, List.getElem_toArray, List.getElem_cons_succ, List.getElem_cons_zero, List.setIfInBounds_toArray, List.set_cons_zero, List.set_cons_succ]
        refine wpAny_take (i := 6) (v := ?_) rfl (by kernel_rfl) (by kernel_rfl) (by kernel_rfl) (fun _ _ _ h => h) (Or.inl ⟨by kernel_rfl, ?_⟩) ?_
        rotate_left
        · intro w'; go_simp; try with_reducible rfl
        simp only [Act.put, List.getElem_toArray, List.getElem_cons_succ, List.getElem_cons_zero, List.setIfInBounds_toArray, List.set_cons_zero, List.set_cons_succ]
        refine wpAny_ready (rs := [9]) (by kernel_rfl) (by simp) ?_
        refine AllReady.cons rfl (fun K5 hK5 => ?_) (AllReady.nil)
        refine step_stN n12 rfl (.tmp 12) (.tmp 36) rfl rfl _ _ rfl ?_
        have n13 := n13.row g12 (Ne.symm hne) (numC false (bitF (X / den)))
        have n12 := n12.put false (bitF (X / den))
        have hB := below_row hB (g := g12) hl12 (numC false (bitF (X / den)))
        refine hK5 _ _ ?_
        simp only [Act.put, List.getElem_toArray, List.getElem_cons_succ, List.getElem_cons_zero, List.setIfInBounds_toArray, List.set_cons_zero, List.set_cons_succ]
        refine wpAny_ready (rs := [10]) (by kernel_rfl) (by simp) ?_
        refine AllReady.cons rfl (fun K6 hK6 => ?_) (AllReady.nil)
        refine step_stN n13 rfl (.tmp 13) (.tmp 37) rfl rfl _ _ rfl ?_
        have n12 := n12.row g13 hne (numC false (bitF (X % den)))
        have n13 := n13.put false (bitF (X % den))
        have hB := below_row hB (g := g13) hl13 (numC false (bitF (X % den)))
        refine hK6 _ _ ?_
        simp only [Act.put, List.getElem_toArray, List.getElem_cons_succ, List.getElem_cons_zero, List.setIfInBounds_toArray, List.set_cons_zero, List.set_cons_succ]
        refine wpAny_done (by kernel_rfl) ?_ _
        clear x11
        go_wp2_with (first | (refine ld_num n12 rfl _ rfl rfl ?_))
        refine (HU1.out _).mono ?_
        rintro e wu ⟨rfl, hbu⟩
        have hB := belowN hB n12 hl12 hbu
        have n13 := n13.next hbu
        clear n12 hbu
        go_wp2_with (first | (refine ld_num n13 rfl _ rfl rfl ?_))
        refine (HU2.out _).mono ?_
        rintro e wv ⟨rfl, hbv⟩
        have hB := belowN hB n13 hl13 hbv
        clear n13 hbv
        cases is with
        | false =>
          go_wp2_with fail
          go_ret3
          exact ⟨by rw [HV.out]; rfl, by rw [Hb0.out]; exact hB⟩
        | true =>
          go_wp2_with fail
          go_ret3
          exact ⟨by rw [HV.out]; rfl, by rw [Hb0.out]; exact hB⟩
    · refine step_allocN hz rfl rfl ?_
      intro g13 W' n13 hnx hbx hnn
      try have hne : g12 ≠ g13 := Nat.ne_of_lt (hnn _ _ _ n12)
      try have n12 := hnx _ _ _ n12
      have hB := hbx _ _ hB (by have := x11.lt; omega)
      have hl13 : b0 ≤ g13 := by have h1 := hnn _ _ _ x11; omega
      have x11 := hnx _ _ _ x11
      clear hnx hbx hnn
      refine hK1 _ _ ?_
      simp only [Act.put, List.getElem_toArray, List.getElem_cons_succ, List.getElem_cons_zero, List.setIfInBounds_toArray, List.set_cons_zero, List.set_cons_succ]
      refine wpAny_ready (rs := [2, 7]) (by kernel_rfl) (by simp) ?_
      refine AllReady.cons rfl (fun K2 hK2 => ?_) (AllReady.cons rfl (fun K2 hK2 => ?_) (AllReady.nil))
      · refine step_callN rfl 44 #[.tmp 33] _ rfl #[.int .u64 (den : Int)] (by simp [Act.eval, Act.put]) (enters_of Try.func44 (by kernel_rfl) rfl) (num_of den hden _) ?_
        rintro e wd ⟨rfl, hbd⟩
        refine ⟨_, rfl, ?_⟩
        have hB := belowN hB x11 hle hbd
        have x11 := x11.next hbd
        try have n12 := n12.next hbd
        try have n13 := n13.next hbd
        refine hK2 _ _ ?_
        simp only [Act.put, List.getElem_toArray, List.getElem_cons_succ, List.getElem_cons_zero, List.setIfInBounds_toArray, List.set_cons_zero, List.set_cons_succ]
        refine wpAny_ready (rs := [3, 7]) (by kernel_rfl) (by simp) ?_
        refine AllReady.cons rfl (fun K3 hK3 => ?_) (AllReady.cons rfl (fun K3 hK3 => ?_) (AllReady.nil))
        · refine step_callN rfl 45 #[.tmp 32, .tmp 34] _ rfl #[.agg (numC false (bitF X)), .agg (numC false (bitF den))] (by simp [Act.eval, Act.put]) (enters_of Try.func45 (by kernel_rfl) rfl) (HP.out _) ?_
          rintro e we ⟨rfl, hbe⟩
          refine ⟨_, rfl, ?_⟩
          have hB := belowN hB x11 hle hbe
          have x11 := x11.next hbe
          try have n12 := n12.next hbe
          try have n13 := n13.next hbe
          refine hK3 _ _ ?_
          simp only [Act.put, List.getElem_toArray, List.getElem_cons_succ, List.getElem_cons_zero, List.setIfInBounds_toArray, List.set_cons_zero, List.set_cons_succ]
          refine wpAny_take (i := 4) (v := ?_) rfl (by kernel_rfl) (by kernel_rfl) (by kernel_rfl) (fun _ _ _ h => h) (Or.inl ⟨by kernel_rfl, ?_⟩) ?_
          rotate_left
          · intro w'; go_simp; try with_reducible rfl
          simp only [Act.put, List.getElem_toArray, List.getElem_cons_succ, List.getElem_cons_zero, List.setIfInBounds_toArray, List.set_cons_zero, List.set_cons_succ]
          refine wpAny_take (i := 5) (v := ?_) rfl (by kernel_rfl) (by kernel_rfl) (by kernel_rfl) (fun _ _ _ h => h) (Or.inl ⟨by kernel_rfl, ?_⟩) ?_
          rotate_left
          · intro w'; go_simp; try with_reducible rfl
          simp only [Act.put, List.getElem_toArray, List.getElem_cons_succ, List.getElem_cons_zero, List.setIfInBounds_toArray, List.set_cons_zero, List.set_cons_succ]
          refine wpAny_take (i := 6) (v := ?_) rfl (by kernel_rfl) (by kernel_rfl) (by kernel_rfl) (fun _ _ _ h => h) (Or.inl ⟨by kernel_rfl, ?_⟩) ?_
          rotate_left
          · intro w'; go_simp; try with_reducible rfl
          simp only [Act.put, List.getElem_toArray, List.getElem_cons_succ, List.getElem_cons_zero, List.setIfInBounds_toArray, List.set_cons_zero, List.set_cons_succ]
          refine wpAny_ready (rs := [7]) (by kernel_rfl) (by simp) ?_
          refine AllReady.cons rfl (fun K4 hK4 => ?_) (AllReady.nil)
          refine step_allocN hz rfl rfl ?_
          intro g12 W' n12 hnx hbx hnn
          try have hne : g12 ≠ g13 := Nat.ne_of_gt (hnn _ _ _ n13)
          try have n13 := hnx _ _ _ n13
          have hB := hbx _ _ hB (by have := x11.lt; omega)
          have hl12 : b0 ≤ g12 := by have h1 := hnn _ _ _ x11; omega
          have x11 := hnx _ _ _ x11
          clear hnx hbx hnn
          refine hK4 _ _ ?_
          simp only [Act.put, List.getElem_toArray, List.getElem_cons_succ, List.getElem_cons_zero, List.setIfInBounds_toArray, List.set_cons_zero, List.set_cons_succ]
          refine wpAny_ready (rs := [9]) (by kernel_rfl) (by simp) ?_
          refine AllReady.cons rfl (fun K5 hK5 => ?_) (AllReady.nil)
          refine step_stN n12 rfl (.tmp 12) (.tmp 36) rfl rfl _ _ rfl ?_
          have n13 := n13.row g12 (Ne.symm hne) (numC false (bitF (X / den)))
          have n12 := n12.put false (bitF (X / den))
          have hB := below_row hB (g := g12) hl12 (numC false (bitF (X / den)))
          refine hK5 _ _ ?_
          simp only [Act.put, List.getElem_toArray, List.getElem_cons_succ, List.getElem_cons_zero, List.setIfInBounds_toArray, List.set_cons_zero, List.set_cons_succ]
          refine wpAny_ready (rs := [10]) (by kernel_rfl) (by simp) ?_
          refine AllReady.cons rfl (fun K6 hK6 => ?_) (AllReady.nil)
          refine step_stN n13 rfl (.tmp 13) (.tmp 37) rfl rfl _ _ rfl ?_
          have n12 := n12.row g13 hne (numC false (bitF (X % den)))
          have n13 := n13.put false (bitF (X % den))
          have hB := below_row hB (g := g13) hl13 (numC false (bitF (X % den)))
          refine hK6 _ _ ?_
          simp only [Act.put, List.getElem_toArray, List.getElem_cons_succ, List.getElem_cons_zero, List.setIfInBounds_toArray, List.set_cons_zero, List.set_cons_succ]
          refine wpAny_done (by kernel_rfl) ?_ _
          clear x11
          go_wp2_with (first | (refine ld_num n12 rfl _ rfl rfl ?_))
          refine (HU1.out _).mono ?_
          rintro e wu ⟨rfl, hbu⟩
          have hB := belowN hB n12 hl12 hbu
          have n13 := n13.next hbu
          clear n12 hbu
          go_wp2_with (first | (refine ld_num n13 rfl _ rfl rfl ?_))
          refine (HU2.out _).mono ?_
          rintro e wv ⟨rfl, hbv⟩
          have hB := belowN hB n13 hl13 hbv
          clear n13 hbv
          cases is with
          | false =>
            go_wp2_with fail
            go_ret3
            exact ⟨by rw [HV.out]; rfl, by rw [Hb0.out]; exact hB⟩
          | true =>
            go_wp2_with fail
            go_ret3
            exact ⟨by rw [HV.out]; rfl, by rw [Hb0.out]; exact hB⟩
        · refine step_allocN hz rfl rfl ?_
          intro g12 W' n12 hnx hbx hnn
          try have hne : g12 ≠ g13 := Nat.ne_of_gt (hnn _ _ _ n13)
          try have n13 := hnx _ _ _ n13
          have hB := hbx _ _ hB (by have := x11.lt; omega)
          have hl12 : b0 ≤ g12 := by have h1 := hnn _ _ _ x11; omega
          have x11 := hnx _ _ _ x11
          clear hnx hbx hnn
          refine hK3 _ _ ?_
          simp only [Act.put, List.getElem_toArray, List.getElem_cons_succ, List.getElem_cons_zero, List.setIfInBounds_toArray, List.set_cons_zero, List.set_cons_succ]
          refine wpAny_ready (rs := [3]) (by kernel_rfl) (by simp) ?_
          refine AllReady.cons rfl (fun K4 hK4 => ?_) (AllReady.nil)
          refine step_callN rfl 45 #[.tmp 32, .tmp 34] _ rfl #[.agg (numC false (bitF X)), .agg (numC false (bitF den))] (by simp [Act.eval, Act.put]) (enters_of Try.func45 (by kernel_rfl) rfl) (HP.out _) ?_
          rintro e we ⟨rfl, hbe⟩
          refine ⟨_, rfl, ?_⟩
          have hB := belowN hB x11 hle hbe
          have x11 := x11.next hbe
          try have n12 := n12.next hbe
          try have n13 := n13.next hbe
          refine hK4 _ _ ?_
          simp only [Act.put, List.getElem_toArray, List.getElem_cons_succ, List.getElem_cons_zero, List.setIfInBounds_toArray, List.set_cons_zero, List.set_cons_succ]
          refine wpAny_take (i := 4) (v := ?_) rfl (by kernel_rfl) (by kernel_rfl) (by kernel_rfl) (fun _ _ _ h => h) (Or.inl ⟨by kernel_rfl, ?_⟩) ?_
          rotate_left
          · intro w'; go_simp; try with_reducible rfl
          simp only [Act.put, List.getElem_toArray, List.getElem_cons_succ, List.getElem_cons_zero, List.setIfInBounds_toArray, List.set_cons_zero, List.set_cons_succ]
          refine wpAny_take (i := 5) (v := ?_) rfl (by kernel_rfl) (by kernel_rfl) (by kernel_rfl) (fun _ _ _ h => h) (Or.inl ⟨by kernel_rfl, ?_⟩) ?_
          rotate_left
          · intro w'; go_simp; try with_reducible rfl
          simp only [Act.put, List.getElem_toArray, List.getElem_cons_succ, List.getElem_cons_zero, List.setIfInBounds_toArray, List.set_cons_zero, List.set_cons_succ]
          refine wpAny_take (i := 6) (v := ?_) rfl (by kernel_rfl) (by kernel_rfl) (by kernel_rfl) (fun _ _ _ h => h) (Or.inl ⟨by kernel_rfl, ?_⟩) ?_
          rotate_left
          · intro w'; go_simp; try with_reducible rfl
          simp only [Act.put, List.getElem_toArray, List.getElem_cons_succ, List.getElem_cons_zero, List.setIfInBounds_toArray, List.set_cons_zero, List.set_cons_succ]
          refine wpAny_ready (rs := [9]) (by kernel_rfl) (by simp) ?_
          refine AllReady.cons rfl (fun K5 hK5 => ?_) (AllReady.nil)
          refine step_stN n12 rfl (.tmp 12) (.tmp 36) rfl rfl _ _ rfl ?_
          have n13 := n13.row g12 (Ne.symm hne) (numC false (bitF (X / den)))
          have n12 := n12.put false (bitF (X / den))
          have hB := below_row hB (g := g12) hl12 (numC false (bitF (X / den)))
          refine hK5 _ _ ?_
          simp only [Act.put, List.getElem_toArray, List.getElem_cons_succ, List.getElem_cons_zero, List.setIfInBounds_toArray, List.set_cons_zero, List.set_cons_succ]
          refine wpAny_ready (rs := [10]) (by kernel_rfl) (by simp) ?_
          refine AllReady.cons rfl (fun K6 hK6 => ?_) (AllReady.nil)
          refine step_stN n13 rfl (.tmp 13) (.tmp 37) rfl rfl _ _ rfl ?_
          have n12 := n12.row g13 hne (numC false (bitF (X % den)))
          have n13 := n13.put false (bitF (X % den))
          have hB := below_row hB (g := g13) hl13 (numC false (bitF (X % den)))
          refine hK6 _ _ ?_
          simp only [Act.put, List.getElem_toArray, List.getElem_cons_succ, List.getElem_cons_zero, List.setIfInBounds_toArray, List.set_cons_zero, List.set_cons_succ]
          refine wpAny_done (by kernel_rfl) ?_ _
          clear x11
          go_wp2_with (first | (refine ld_num n12 rfl _ rfl rfl ?_))
          refine (HU1.out _).mono ?_
          rintro e wu ⟨rfl, hbu⟩
          have hB := belowN hB n12 hl12 hbu
          have n13 := n13.next hbu
          clear n12 hbu
          go_wp2_with (first | (refine ld_num n13 rfl _ rfl rfl ?_))
          refine (HU2.out _).mono ?_
          rintro e wv ⟨rfl, hbv⟩
          have hB := belowN hB n13 hl13 hbv
          clear n13 hbv
          cases is with
          | false =>
            go_wp2_with fail
            go_ret3
            exact ⟨by rw [HV.out]; rfl, by rw [Hb0.out]; exact hB⟩
          | true =>
            go_wp2_with fail
            go_ret3
            exact ⟨by rw [HV.out]; rfl, by rw [Hb0.out]; exact hB⟩
      · refine step_allocN hz rfl rfl ?_
        intro g12 W' n12 hnx hbx hnn
        try have hne : g12 ≠ g13 := Nat.ne_of_gt (hnn _ _ _ n13)
        try have n13 := hnx _ _ _ n13
        have hB := hbx _ _ hB (by have := x11.lt; omega)
        have hl12 : b0 ≤ g12 := by have h1 := hnn _ _ _ x11; omega
        have x11 := hnx _ _ _ x11
        clear hnx hbx hnn
        refine hK2 _ _ ?_
        simp only [Act.put, List.getElem_toArray, List.getElem_cons_succ, List.getElem_cons_zero, List.setIfInBounds_toArray, List.set_cons_zero, List.set_cons_succ]
        refine wpAny_ready (rs := [2]) (by kernel_rfl) (by simp) ?_
        refine AllReady.cons rfl (fun K3 hK3 => ?_) (AllReady.nil)
        refine step_callN rfl 44 #[.tmp 33] _ rfl #[.int .u64 (den : Int)] (by simp [Act.eval, Act.put]) (enters_of Try.func44 (by kernel_rfl) rfl) (num_of den hden _) ?_
        rintro e wd ⟨rfl, hbd⟩
        refine ⟨_, rfl, ?_⟩
        have hB := belowN hB x11 hle hbd
        have x11 := x11.next hbd
        try have n12 := n12.next hbd
        try have n13 := n13.next hbd
        refine hK3 _ _ ?_
        simp only [Act.put, List.getElem_toArray, List.getElem_cons_succ, List.getElem_cons_zero, List.setIfInBounds_toArray, List.set_cons_zero, List.set_cons_succ]
        refine wpAny_ready (rs := [3]) (by kernel_rfl) (by simp) ?_
        refine AllReady.cons rfl (fun K4 hK4 => ?_) (AllReady.nil)
        refine step_callN rfl 45 #[.tmp 32, .tmp 34] _ rfl #[.agg (numC false (bitF X)), .agg (numC false (bitF den))] (by simp [Act.eval, Act.put]) (enters_of Try.func45 (by kernel_rfl) rfl) (HP.out _) ?_
        rintro e we ⟨rfl, hbe⟩
        refine ⟨_, rfl, ?_⟩
        have hB := belowN hB x11 hle hbe
        have x11 := x11.next hbe
        try have n12 := n12.next hbe
        try have n13 := n13.next hbe
        refine hK4 _ _ ?_
        simp only [Act.put, List.getElem_toArray, List.getElem_cons_succ, List.getElem_cons_zero, List.setIfInBounds_toArray, List.set_cons_zero, List.set_cons_succ]
        refine wpAny_take (i := 4) (v := ?_) rfl (by kernel_rfl) (by kernel_rfl) (by kernel_rfl) (fun _ _ _ h => h) (Or.inl ⟨by kernel_rfl, ?_⟩) ?_
        rotate_left
        · intro w'; go_simp; try with_reducible rfl
        simp only [Act.put, List.getElem_toArray, List.getElem_cons_succ, List.getElem_cons_zero, List.setIfInBounds_toArray, List.set_cons_zero, List.set_cons_succ]
        refine wpAny_take (i := 5) (v := ?_) rfl (by kernel_rfl) (by kernel_rfl) (by kernel_rfl) (fun _ _ _ h => h) (Or.inl ⟨by kernel_rfl, ?_⟩) ?_
        rotate_left
        · intro w'; go_simp; try with_reducible rfl
        simp only [Act.put, List.getElem_toArray, List.getElem_cons_succ, List.getElem_cons_zero, List.setIfInBounds_toArray, List.set_cons_zero, List.set_cons_succ]
        refine wpAny_take (i := 6) (v := ?_) rfl (by kernel_rfl) (by kernel_rfl) (by kernel_rfl) (fun _ _ _ h => h) (Or.inl ⟨by kernel_rfl, ?_⟩) ?_
        rotate_left
        · intro w'; go_simp; try with_reducible rfl
        simp only [Act.put, List.getElem_toArray, List.getElem_cons_succ, List.getElem_cons_zero, List.setIfInBounds_toArray, List.set_cons_zero, List.set_cons_succ]
        refine wpAny_ready (rs := [9]) (by kernel_rfl) (by simp) ?_
        refine AllReady.cons rfl (fun K5 hK5 => ?_) (AllReady.nil)
        refine step_stN n12 rfl (.tmp 12) (.tmp 36) rfl rfl _ _ rfl ?_
        have n13 := n13.row g12 (Ne.symm hne) (numC false (bitF (X / den)))
        have n12 := n12.put false (bitF (X / den))
        have hB := below_row hB (g := g12) hl12 (numC false (bitF (X / den)))
        refine hK5 _ _ ?_
        simp only [Act.put, List.getElem_toArray, List.getElem_cons_succ, List.getElem_cons_zero, List.setIfInBounds_toArray, List.set_cons_zero, List.set_cons_succ]
        refine wpAny_ready (rs := [10]) (by kernel_rfl) (by simp) ?_
        refine AllReady.cons rfl (fun K6 hK6 => ?_) (AllReady.nil)
        refine step_stN n13 rfl (.tmp 13) (.tmp 37) rfl rfl _ _ rfl ?_
        have n12 := n12.row g13 hne (numC false (bitF (X % den)))
        have n13 := n13.put false (bitF (X % den))
        have hB := below_row hB (g := g13) hl13 (numC false (bitF (X % den)))
        refine hK6 _ _ ?_
        simp only [Act.put, List.getElem_toArray, List.getElem_cons_succ, List.getElem_cons_zero, List.setIfInBounds_toArray, List.set_cons_zero, List.set_cons_succ]
        refine wpAny_done (by kernel_rfl) ?_ _
        clear x11
        go_wp2_with (first | (refine ld_num n12 rfl _ rfl rfl ?_))
        refine (HU1.out _).mono ?_
        rintro e wu ⟨rfl, hbu⟩
        have hB := belowN hB n12 hl12 hbu
        have n13 := n13.next hbu
        clear n12 hbu
        go_wp2_with (first | (refine ld_num n13 rfl _ rfl rfl ?_))
        refine (HU2.out _).mono ?_
        rintro e wv ⟨rfl, hbv⟩
        have hB := belowN hB n13 hl13 hbv
        clear n13 hbv
        cases is with
        | false =>
          go_wp2_with fail
          go_ret3
          exact ⟨by rw [HV.out]; rfl, by rw [Hb0.out]; exact hB⟩
        | true =>
          go_wp2_with fail
          go_ret3
          exact ⟨by rw [HV.out]; rfl, by rw [Hb0.out]; exact hB⟩
  · refine step_callN rfl 44 #[.tmp 33] _ rfl #[.int .u64 (den : Int)] (by simp [Act.eval, Act.put]) (enters_of Try.func44 (by kernel_rfl) rfl) (num_of den hden _) ?_
    rintro e wd ⟨rfl, hbd⟩
    refine ⟨_, rfl, ?_⟩
    have hB := belowN hB x11 hle hbd
    have x11 := x11.next hbd
    try have n12 := n12.next hbd
    try have n13 := n13.next hbd
    refine hK0 _ _ ?_
    simp only [Act.put, List.getElem_toArray, List.getElem_cons_succ, List.getElem_cons_zero, List.setIfInBounds_toArray, List.set_cons_zero, List.set_cons_succ]
    refine wpAny_ready (rs := [0, 7, 8]) (by kernel_rfl) (by simp) ?_
    refine AllReady.cons rfl (fun K1 hK1 => ?_) (AllReady.cons rfl (fun K1 hK1 => ?_) (AllReady.cons rfl (fun K1 hK1 => ?_) (AllReady.nil)))
    · refine step_ldN x11 rfl (.tmp 11) rfl rfl ?_
      refine hK1 _ _ ?_
      simp only [Act.put, List.getElem_toArray, List.getElem_cons_succ, List.getElem_cons_zero, List.setIfInBounds_toArray, List.set_cons_zero, List.set_cons_succ]
      refine wpAny_ready (rs := [3, 7, 8]) (by kernel_rfl) (by simp) ?_
      refine AllReady.cons rfl (fun K2 hK2 => ?_) (AllReady.cons rfl (fun K2 hK2 => ?_) (AllReady.cons rfl (fun K2 hK2 => ?_) (AllReady.nil)))
      · refine step_callN rfl 45 #[.tmp 32, .tmp 34] _ rfl #[.agg (numC false (bitF X)), .agg (numC false (bitF den))] (by simp [Act.eval, Act.put]) (enters_of Try.func45 (by kernel_rfl) rfl) (HP.out _) ?_
        rintro e we ⟨rfl, hbe⟩
        refine ⟨_, rfl, ?_⟩
        have hB := belowN hB x11 hle hbe
        have x11 := x11.next hbe
        try have n12 := n12.next hbe
        try have n13 := n13.next hbe
        refine hK2 _ _ ?_
        simp only [Act.put, List.getElem_toArray, List.getElem_cons_succ, List.getElem_cons_zero, List.setIfInBounds_toArray, List.set_cons_zero, List.set_cons_succ]
        refine wpAny_take (i := 4) (v := ?_) rfl (by kernel_rfl) (by kernel_rfl) (by kernel_rfl) (fun _ _ _ h => h) (Or.inl ⟨by kernel_rfl, ?_⟩) ?_
        rotate_left
        · intro w'; go_simp; try with_reducible rfl
        simp only [Act.put, List.getElem_toArray, List.getElem_cons_succ, List.getElem_cons_zero, List.setIfInBounds_toArray, List.set_cons_zero, List.set_cons_succ]
        refine wpAny_take (i := 5) (v := ?_) rfl (by kernel_rfl) (by kernel_rfl) (by kernel_rfl) (fun _ _ _ h => h) (Or.inl ⟨by kernel_rfl, ?_⟩) ?_
        rotate_left
        · intro w'; go_simp; try with_reducible rfl
        simp only [Act.put, List.getElem_toArray, List.getElem_cons_succ, List.getElem_cons_zero, List.setIfInBounds_toArray, List.set_cons_zero, List.set_cons_succ]
        refine wpAny_take (i := 6) (v := ?_) rfl (by kernel_rfl) (by kernel_rfl) (by kernel_rfl) (fun _ _ _ h => h) (Or.inl ⟨by kernel_rfl, ?_⟩) ?_
        rotate_left
        · intro w'; go_simp; try with_reducible rfl
        simp only [Act.put, List.getElem_toArray, List.getElem_cons_succ, List.getElem_cons_zero, List.setIfInBounds_toArray, List.set_cons_zero, List.set_cons_succ]
        refine wpAny_ready (rs := [7, 8]) (by kernel_rfl) (by simp) ?_
        refine AllReady.cons rfl (fun K3 hK3 => ?_) (AllReady.cons rfl (fun K3 hK3 => ?_) (AllReady.nil))
        · refine step_allocN hz rfl rfl ?_
          intro g12 W' n12 hnx hbx hnn
          try have hne : g12 ≠ g13 := Nat.ne_of_gt (hnn _ _ _ n13)
          try have n13 := hnx _ _ _ n13
          have hB := hbx _ _ hB (by have := x11.lt; omega)
          have hl12 : b0 ≤ g12 := by have h1 := hnn _ _ _ x11; omega
          have x11 := hnx _ _ _ x11
          clear hnx hbx hnn
          refine hK3 _ _ ?_
          simp only [Act.put, List.getElem_toArray, List.getElem_cons_succ, List.getElem_cons_zero, List.setIfInBounds_toArray, List.set_cons_zero, List.set_cons_succ]
          refine wpAny_ready (rs := [8]) (by kernel_rfl) (by simp) ?_
          refine AllReady.cons rfl (fun K4 hK4 => ?_) (AllReady.nil)
          refine step_allocN hz rfl rfl ?_
          intro g13 W' n13 hnx hbx hnn
          try have hne : g12 ≠ g13 := Nat.ne_of_lt (hnn _ _ _ n12)
          try have n12 := hnx _ _ _ n12
          have hB := hbx _ _ hB (by have := x11.lt; omega)
          have hl13 : b0 ≤ g13 := by have h1 := hnn _ _ _ x11; omega
          have x11 := hnx _ _ _ x11
          clear hnx hbx hnn
          refine hK4 _ _ ?_
          simp only [Act.put, List.getElem_toArray, List.getElem_cons_succ, List.getElem_cons_zero, List.setIfInBounds_toArray, List.set_cons_zero, List.set_cons_succ]
          refine wpAny_ready (rs := [9]) (by kernel_rfl) (by simp) ?_
          refine AllReady.cons rfl (fun K5 hK5 => ?_) (AllReady.nil)
          refine step_stN n12 rfl (.tmp 12) (.tmp 36) rfl rfl _ _ rfl ?_
          have n13 := n13.row g12 (Ne.symm hne) (numC false (bitF (X / den)))
          have n12 := n12.put false (bitF (X / den))
          have hB := below_row hB (g := g12) hl12 (numC false (bitF (X / den)))
          refine hK5 _ _ ?_
          simp only [Act.put, List.getElem_toArray, List.getElem_cons_succ, List.getElem_cons_zero, List.setIfInBounds_toArray, List.set_cons_zero, List.set_cons_succ]
          refine wpAny_ready (rs := [10]) (by kernel_rfl) (by simp) ?_
          refine AllReady.cons rfl (fun K6 hK6 => ?_) (AllReady.nil)
          refine step_stN n13 rfl (.tmp 13) (.tmp 37) rfl rfl _ _ rfl ?_
          have n12 := n12.row g13 hne (numC false (bitF (X % den)))
          have n13 := n13.put false (bitF (X % den))
          have hB := below_row hB (g := g13) hl13 (numC false (bitF (X % den)))
          refine hK6 _ _ ?_
          simp only [Act.put, List.getElem_toArray, List.getElem_cons_succ, List.getElem_cons_zero, List.setIfInBounds_toArray, List.set_cons_zero, List.set_cons_succ]
          refine wpAny_done (by kernel_rfl) ?_ _
          clear x11
          go_wp2_with (first | (refine ld_num n12 rfl _ rfl rfl ?_))
          refine (HU1.out _).mono ?_
          rintro e wu ⟨rfl, hbu⟩
          have hB := belowN hB n12 hl12 hbu
          have n13 := n13.next hbu
          clear n12 hbu
          go_wp2_with (first | (refine ld_num n13 rfl _ rfl rfl ?_))
          refine (HU2.out _).mono ?_
          rintro e wv ⟨rfl, hbv⟩
          have hB := belowN hB n13 hl13 hbv
          clear n13 hbv
          cases is with
          | false =>
            go_wp2_with fail
            go_ret3
            exact ⟨by rw [HV.out]; rfl, by rw [Hb0.out]; exact hB⟩
          | true =>
            go_wp2_with fail
            go_ret3
            exact ⟨by rw [HV.out]; rfl, by rw [Hb0.out]; exact hB⟩
        · refine step_allocN hz rfl rfl ?_
          intro g13 W' n13 hnx hbx hnn
          try have hne : g12 ≠ g13 := Nat.ne_of_lt (hnn _ _ _ n12)
          try have n12 := hnx _ _ _ n12
          have hB := hbx _ _ hB (by have := x11.lt; omega)
          have hl13 : b0 ≤ g13 := by have h1 := hnn _ _ _ x11; omega
          have x11 := hnx _ _ _ x11
          clear hnx hbx hnn
          refine hK3 _ _ ?_
          simp only [Act.put, List.getElem_toArray, List.getElem_cons_succ, List.getElem_cons_zero, List.setIfInBounds_toArray, List.set_cons_zero, List.set_cons_succ]
          refine wpAny_ready (rs := [7]) (by kernel_rfl) (by simp) ?_
          refine AllReady.cons rfl (fun K4 hK4 => ?_) (AllReady.nil)
          refine step_allocN hz rfl rfl ?_
          intro g12 W' n12 hnx hbx hnn
          try have hne : g12 ≠ g13 := Nat.ne_of_gt (hnn _ _ _ n13)
          try have n13 := hnx _ _ _ n13
          have hB := hbx _ _ hB (by have := x11.lt; omega)
          have hl12 : b0 ≤ g12 := by have h1 := hnn _ _ _ x11; omega
          have x11 := hnx _ _ _ x11
          clear hnx hbx hnn
          refine hK4 _ _ ?_
          simp only [Act.put, List.getElem_toArray, List.getElem_cons_succ, List.getElem_cons_zero, List.setIfInBounds_toArray, List.set_cons_zero, List.set_cons_succ]
          refine wpAny_ready (rs := [9]) (by kernel_rfl) (by simp) ?_
          refine AllReady.cons rfl (fun K5 hK5 => ?_) (AllReady.nil)
          refine step_stN n12 rfl (.tmp 12) (.tmp 36) rfl rfl _ _ rfl ?_
          have n13 := n13.row g12 (Ne.symm hne) (numC false (bitF (X / den)))
          have n12 := n12.put false (bitF (X / den))
          have hB := below_row hB (g := g12) hl12 (numC false (bitF (X / den)))
          refine hK5 _ _ ?_
          simp only [Act.put, List.getElem_toArray, List.getElem_cons_succ, List.getElem_cons_zero, List.setIfInBounds_toArray, List.set_cons_zero, List.set_cons_succ]
          refine wpAny_ready (rs := [10]) (by kernel_rfl) (by simp) ?_
          refine AllReady.cons rfl (fun K6 hK6 => ?_) (AllReady.nil)
          refine step_stN n13 rfl (.tmp 13) (.tmp 37) rfl rfl _ _ rfl ?_
          have n12 := n12.row g13 hne (numC false (bitF (X % den)))
          have n13 := n13.put false (bitF (X % den))
          have hB := below_row hB (g := g13) hl13 (numC false (bitF (X % den)))
          refine hK6 _ _ ?_
          simp only [Act.put, List.getElem_toArray, List.getElem_cons_succ, List.getElem_cons_zero, List.setIfInBounds_toArray, List.set_cons_zero, List.set_cons_succ]
          refine wpAny_done (by kernel_rfl) ?_ _
          clear x11
          go_wp2_with (first | (refine ld_num n12 rfl _ rfl rfl ?_))
          refine (HU1.out _).mono ?_
          rintro e wu ⟨rfl, hbu⟩
          have hB := belowN hB n12 hl12 hbu
          have n13 := n13.next hbu
          clear n12 hbu
          go_wp2_with (first | (refine ld_num n13 rfl _ rfl rfl ?_))
          refine (HU2.out _).mono ?_
          rintro e wv ⟨rfl, hbv⟩
          have hB := belowN hB n13 hl13 hbv
          clear n13 hbv
          cases is with
          | false =>
            go_wp2_with fail
            go_ret3
            exact ⟨by rw [HV.out]; rfl, by rw [Hb0.out]; exact hB⟩
          | true =>
            go_wp2_with fail
            go_ret3
            exact ⟨by rw [HV.out]; rfl, by rw [Hb0.out]; exact hB⟩
      · refine step_allocN hz rfl rfl ?_
        intro g12 W' n12 hnx hbx hnn
        try have hne : g12 ≠ g13 := Nat.ne_of_gt (hnn _ _ _ n13)
        try have n13 := hnx _ _ _ n13
        have hB := hbx _ _ hB (by have := x11.lt; omega)
        have hl12 : b0 ≤ g12 := by have h1 := hnn _ _ _ x11; omega
        have x11 := hnx _ _ _ x11
        clear hnx hbx hnn
        refine hK2 _ _ ?_
        simp only [Act.put, List.getElem_toArray, List.getElem_cons_succ, List.getElem_cons_zero, List.setIfInBounds_toArray, List.set_cons_zero, List.set_cons_succ]
        refine wpAny_ready (rs := [3, 8]) (by kernel_rfl) (by simp) ?_
        refine AllReady.cons rfl (fun K3 hK3 => ?_) (AllReady.cons rfl (fun K3 hK3 => ?_) (AllReady.nil))
        · refine step_callN rfl 45 #[.tmp 32, .tmp 34] _ rfl #[.agg (numC false (bitF X)), .agg (numC false (bitF den))] (by simp [Act.eval, Act.put]) (enters_of Try.func45 (by kernel_rfl) rfl) (HP.out _) ?_
          rintro e we ⟨rfl, hbe⟩
          refine ⟨_, rfl, ?_⟩
          have hB := belowN hB x11 hle hbe
          have x11 := x11.next hbe
          try have n12 := n12.next hbe
          try have n13 := n13.next hbe
          refine hK3 _ _ ?_
          simp only [Act.put, List.getElem_toArray, List.getElem_cons_succ, List.getElem_cons_zero, List.setIfInBounds_toArray, List.set_cons_zero, List.set_cons_succ]
          refine wpAny_take (i := 4) (v := ?_) rfl (by kernel_rfl) (by kernel_rfl) (by kernel_rfl) (fun _ _ _ h => h) (Or.inl ⟨by kernel_rfl, ?_⟩) ?_
          rotate_left
          · intro w'; go_simp; try with_reducible rfl
          simp only [Act.put, List.getElem_toArray, List.getElem_cons_succ, List.getElem_cons_zero, List.setIfInBounds_toArray, List.set_cons_zero, List.set_cons_succ]
          refine wpAny_take (i := 5) (v := ?_) rfl (by kernel_rfl) (by kernel_rfl) (by kernel_rfl) (fun _ _ _ h => h) (Or.inl ⟨by kernel_rfl, ?_⟩) ?_
          rotate_left
          · intro w'; go_simp; try with_reducible rfl
          simp only [Act.put, List.getElem_toArray, List.getElem_cons_succ, List.getElem_cons_zero, List.setIfInBounds_toArray, List.set_cons_zero, List.set_cons_succ]
          refine wpAny_take (i := 6) (v := ?_) rfl (by kernel_rfl) (by kernel_rfl) (by kernel_rfl) (fun _ _ _ h => h) (Or.inl ⟨by kernel_rfl, ?_⟩) ?_
          rotate_left
          · intro w'; go_simp; try with_reducible rfl
          simp only [Act.put, List.getElem_toArray, List.getElem_cons_succ, List.getElem_cons_zero, List.setIfInBounds_toArray, List.set_cons_zero, List.set_cons_succ]
          refine wpAny_ready (rs := [8]) (by kernel_rfl) (by simp) ?_
          refine AllReady.cons rfl (fun K4 hK4 => ?_) (AllReady.nil)
          refine step_allocN hz rfl rfl ?_
          intro g13 W' n13 hnx hbx hnn
          try have hne : g12 ≠ g13 := Nat.ne_of_lt (hnn _ _ _ n12)
          try have n12 := hnx _ _ _ n12
          have hB := hbx _ _ hB (by have := x11.lt; omega)
          have hl13 : b0 ≤ g13 := by have h1 := hnn _ _ _ x11; omega
          have x11 := hnx _ _ _ x11
          clear hnx hbx hnn
          refine hK4 _ _ ?_
          simp only [Act.put, List.getElem_toArray, List.getElem_cons_succ, List.getElem_cons_zero, List.setIfInBounds_toArray, List.set_cons_zero, List.set_cons_succ]
          refine wpAny_ready (rs := [9]) (by kernel_rfl) (by simp) ?_
          refine AllReady.cons rfl (fun K5 hK5 => ?_) (AllReady.nil)
          refine step_stN n12 rfl (.tmp 12) (.tmp 36) rfl rfl _ _ rfl ?_
          have n13 := n13.row g12 (Ne.symm hne) (numC false (bitF (X / den)))
          have n12 := n12.put false (bitF (X / den))
          have hB := below_row hB (g := g12) hl12 (numC false (bitF (X / den)))
          refine hK5 _ _ ?_
          simp only [Act.put, List.getElem_toArray, List.getElem_cons_succ, List.getElem_cons_zero, List.setIfInBounds_toArray, List.set_cons_zero, List.set_cons_succ]
          refine wpAny_ready (rs := [10]) (by kernel_rfl) (by simp) ?_
          refine AllReady.cons rfl (fun K6 hK6 => ?_) (AllReady.nil)
          refine step_stN n13 rfl (.tmp 13) (.tmp 37) rfl rfl _ _ rfl ?_
          have n12 := n12.row g13 hne (numC false (bitF (X % den)))
          have n13 := n13.put false (bitF (X % den))
          have hB := below_row hB (g := g13) hl13 (numC false (bitF (X % den)))
          refine hK6 _ _ ?_
          simp only [Act.put, List.getElem_toArray, List.getElem_cons_succ, List.getElem_cons_zero, List.setIfInBounds_toArray, List.set_cons_zero, List.set_cons_succ]
          refine wpAny_done (by kernel_rfl) ?_ _
          clear x11
          go_wp2_with (first | (refine ld_num n12 rfl _ rfl rfl ?_))
          refine (HU1.out _).mono ?_
          rintro e wu ⟨rfl, hbu⟩
          have hB := belowN hB n12 hl12 hbu
          have n13 := n13.next hbu
          clear n12 hbu
          go_wp2_with (first | (refine ld_num n13 rfl _ rfl rfl ?_))
          refine (HU2.out _).mono ?_
          rintro e wv ⟨rfl, hbv⟩
          have hB := belowN hB n13 hl13 hbv
          clear n13 hbv
          cases is with
          | false =>
            go_wp2_with fail
            go_ret3
            exact ⟨by rw [HV.out]; rfl, by rw [Hb0.out]; exact hB⟩
          | true =>
            go_wp2_with fail
            go_ret3
            exact ⟨by rw [HV.out]; rfl, by rw [Hb0.out]; exact hB⟩
        · refine step_allocN hz rfl rfl ?_
          intro g13 W' n13 hnx hbx hnn
          try have hne : g12 ≠ g13 := Nat.ne_of_lt (hnn _ _ _ n12)
          try have n12 := hnx _ _ _ n12
          have hB := hbx _ _ hB (by have := x11.lt; omega)
          have hl13 : b0 ≤ g13 := by have h1 := hnn _ _ _ x11; omega
          have x11 := hnx _ _ _ x11
          clear hnx hbx hnn
          refine hK3 _ _ ?_
          simp only [Act.put, List.getElem_toArray, List.getElem_cons_succ, List.getElem_cons_zero, List.setIfInBounds_toArray, List.set_cons_zero, List.set_cons_succ]
          refine wpAny_ready (rs := [3]) (by kernel_rfl) (by simp) ?_
          refine AllReady.cons rfl (fun K4 hK4 => ?_) (AllReady.nil)
          refine step_callN rfl 45 #[.tmp 32, .tmp 34] _ rfl #[.agg (numC false (bitF X)), .agg (numC false (bitF den))] (by simp [Act.eval, Act.put]) (enters_of Try.func45 (by kernel_rfl) rfl) (HP.out _) ?_
          rintro e we ⟨rfl, hbe⟩
          refine ⟨_, rfl, ?_⟩
          have hB := belowN hB x11 hle hbe
          have x11 := x11.next hbe
          try have n12 := n12.next hbe
          try have n13 := n13.next hbe
          refine hK4 _ _ ?_
          simp only [Act.put, List.getElem_toArray, List.getElem_cons_succ, List.getElem_cons_zero, List.setIfInBounds_toArray, List.set_cons_zero, List.set_cons_succ]
          refine wpAny_take (i := 4) (v := ?_) rfl (by kernel_rfl) (by kernel_rfl) (by kernel_rfl) (fun _ _ _ h => h) (Or.inl ⟨by kernel_rfl, ?_⟩) ?_
          rotate_left
          · intro w'; go_simp; try with_reducible rfl
          simp only [Act.put, List.getElem_toArray, List.getElem_cons_succ, List.getElem_cons_zero, List.setIfInBounds_toArray, List.set_cons_zero, List.set_cons_succ]
          refine wpAny_take (i := 5) (v := ?_) rfl (by kernel_rfl) (by kernel_rfl) (by kernel_rfl) (fun _ _ _ h => h) (Or.inl ⟨by kernel_rfl, ?_⟩) ?_
          rotate_left
          · intro w'; go_simp; try with_reducible rfl
          simp only [Act.put, List.getElem_toArray, List.getElem_cons_succ, List.getElem_cons_zero, List.setIfInBounds_toArray, List.set_cons_zero, List.set_cons_succ]
          refine wpAny_take (i := 6) (v := ?_) rfl (by kernel_rfl) (by kernel_rfl) (by kernel_rfl) (fun _ _ _ h => h) (Or.inl ⟨by kernel_rfl, ?_⟩) ?_
          rotate_left
          · intro w'; go_simp; try with_reducible rfl
          simp only [Act.put, List.getElem_toArray, List.getElem_cons_succ, List.getElem_cons_zero, List.setIfInBounds_toArray, List.set_cons_zero, List.set_cons_succ]
          refine wpAny_ready (rs := [9]) (by kernel_rfl) (by simp) ?_
          refine AllReady.cons rfl (fun K5 hK5 => ?_) (AllReady.nil)
          refine step_stN n12 rfl (.tmp 12) (.tmp 36) rfl rfl _ _ rfl ?_
          have n13 := n13.row g12 (Ne.symm hne) (numC false (bitF (X / den)))
          have n12 := n12.put false (bitF (X / den))
          have hB := below_row hB (g := g12) hl12 (numC false (bitF (X / den)))
          refine hK5 _ _ ?_
          simp only [Act.put, List.getElem_toArray, List.getElem_cons_succ, List.getElem_cons_zero, List.setIfInBounds_toArray, List.set_cons_zero, List.set_cons_succ]
          refine wpAny_ready (rs := [10]) (by kernel_rfl) (by simp) ?_
          refine AllReady.cons rfl (fun K6 hK6 => ?_) (AllReady.nil)
          refine step_stN n13 rfl (.tmp 13) (.tmp 37) rfl rfl _ _ rfl ?_
          have n12 := n12.row g13 hne (numC false (bitF (X % den)))
          have n13 := n13.put false (bitF (X % den))
          have hB := below_row hB (g := g13) hl13 (numC false (bitF (X % den)))
          refine hK6 _ _ ?_
          simp only [Act.put, List.getElem_toArray, List.getElem_cons_succ, List.getElem_cons_zero, List.setIfInBounds_toArray, List.set_cons_zero, List.set_cons_succ]
          refine wpAny_done (by kernel_rfl) ?_ _
          clear x11
          go_wp2_with (first | (refine ld_num n12 rfl _ rfl rfl ?_))
          refine (HU1.out _).mono ?_
          rintro e wu ⟨rfl, hbu⟩
          have hB := belowN hB n12 hl12 hbu
          have n13 := n13.next hbu
          clear n12 hbu
          go_wp2_with (first | (refine ld_num n13 rfl _ rfl rfl ?_))
          refine (HU2.out _).mono ?_
          rintro e wv ⟨rfl, hbv⟩
          have hB := belowN hB n13 hl13 hbv
          clear n13 hbv
          cases is with
          | false =>
            go_wp2_with fail
            go_ret3
            exact ⟨by rw [HV.out]; rfl, by rw [Hb0.out]; exact hB⟩
          | true =>
            go_wp2_with fail
            go_ret3
            exact ⟨by rw [HV.out]; rfl, by rw [Hb0.out]; exact hB⟩
      · refine step_allocN hz rfl rfl ?_
        intro g13 W' n13 hnx hbx hnn
        try have hne : g12 ≠ g13 := Nat.ne_of_lt (hnn _ _ _ n12)
        try have n12 := hnx _ _ _ n12
        have hB := hbx _ _ hB (by have := x11.lt; omega)
        have hl13 : b0 ≤ g13 := by have h1 := hnn _ _ _ x11; omega
        have x11 := hnx _ _ _ x11
        clear hnx hbx hnn
        refine hK2 _ _ ?_
        simp only [Act.put, List.getElem_toArray, List.getElem_cons_succ, List.getElem_cons_zero, List.setIfInBounds_toArray, List.set_cons_zero, List.set_cons_succ]
        refine wpAny_ready (rs := [3, 7]) (by kernel_rfl) (by simp) ?_
        refine AllReady.cons rfl (fun K3 hK3 => ?_) (AllReady.cons rfl (fun K3 hK3 => ?_) (AllReady.nil))
        · refine step_callN rfl 45 #[.tmp 32, .tmp 34] _ rfl #[.agg (numC false (bitF X)), .agg (numC false (bitF den))] (by simp [Act.eval, Act.put]) (enters_of Try.func45 (by kernel_rfl) rfl) (HP.out _) ?_
          rintro e we ⟨rfl, hbe⟩
          refine ⟨_, rfl, ?_⟩
          have hB := belowN hB x11 hle hbe
          have x11 := x11.next hbe
          try have n12 := n12.next hbe
          try have n13 := n13.next hbe
          refine hK3 _ _ ?_
          simp only [Act.put, List.getElem_toArray, List.getElem_cons_succ, List.getElem_cons_zero, List.setIfInBounds_toArray, List.set_cons_zero, List.set_cons_succ]
          refine wpAny_take (i := 4) (v := ?_) rfl (by kernel_rfl) (by kernel_rfl) (by kernel_rfl) (fun _ _ _ h => h) (Or.inl ⟨by kernel_rfl, ?_⟩) ?_
          rotate_left
          · intro w'; go_simp; try with_reducible rfl
          simp only [Act.put, List.getElem_toArray, List.getElem_cons_succ, List.getElem_cons_zero, List.setIfInBounds_toArray, List.set_cons_zero, List.set_cons_succ]
          refine wpAny_take (i := 5) (v := ?_) rfl (by kernel_rfl) (by kernel_rfl) (by kernel_rfl) (fun _ _ _ h => h) (Or.inl ⟨by kernel_rfl, ?_⟩) ?_
          rotate_left
          · intro w'; go_simp; try with_reducible rfl
          simp only [Act.put, List.getElem_toArray, List.getElem_cons_succ, List.getElem_cons_zero, List.setIfInBounds_toArray, List.set_cons_zero, List.set_cons_succ]
          refine wpAny_take (i := 6) (v := ?_) rfl (by kernel_rfl) (by kernel_rfl) (by kernel_rfl) (fun _ _ _ h => h) (Or.inl ⟨by kernel_rfl, ?_⟩) ?_
          rotate_left
          · intro w'; go_simp; try with_reducible rfl
          simp only [Act.put, List.getElem_toArray, List.getElem_cons_succ, List.getElem_cons_zero, List.setIfInBounds_toArray, List.set_cons_zero, List.set_cons_succ]
          refine wpAny_ready (rs := [7]) (by kernel_rfl) (by simp) ?_
          refine AllReady.cons rfl (fun K4 hK4 => ?_) (AllReady.nil)
          refine step_allocN hz rfl rfl ?_
          intro g12 W' n12 hnx hbx hnn
          try have hne : g12 ≠ g13 := Nat.ne_of_gt (hnn _ _ _ n13)
          try have n13 := hnx _ _ _ n13
          have hB := hbx _ _ hB (by have := x11.lt; omega)
          have hl12 : b0 ≤ g12 := by have h1 := hnn _ _ _ x11; omega
          have x11 := hnx _ _ _ x11
          clear hnx hbx hnn
          refine hK4 _ _ ?_
          simp only [Act.put, List.getElem_toArray, List.getElem_cons_succ, List.getElem_cons_zero, List.setIfInBounds_toArray, List.set_cons_zero, List.set_cons_succ]
          refine wpAny_ready (rs := [9]) (by kernel_rfl) (by simp) ?_
          refine AllReady.cons rfl (fun K5 hK5 => ?_) (AllReady.nil)
          refine step_stN n12 rfl (.tmp 12) (.tmp 36) rfl rfl _ _ rfl ?_
          have n13 := n13.row g12 (Ne.symm hne) (numC false (bitF (X / den)))
          have n12 := n12.put false (bitF (X / den))
          have hB := below_row hB (g := g12) hl12 (numC false (bitF (X / den)))
          refine hK5 _ _ ?_
          simp only [Act.put, List.getElem_toArray, List.getElem_cons_succ, List.getElem_cons_zero, List.setIfInBounds_toArray, List.set_cons_zero, List.set_cons_succ]
          refine wpAny_ready (rs := [10]) (by kernel_rfl) (by simp) ?_
          refine AllReady.cons rfl (fun K6 hK6 => ?_) (AllReady.nil)
          refine step_stN n13 rfl (.tmp 13) (.tmp 37) rfl rfl _ _ rfl ?_
          have n12 := n12.row g13 hne (numC false (bitF (X % den)))
          have n13 := n13.put false (bitF (X % den))
          have hB := below_row hB (g := g13) hl13 (numC false (bitF (X % den)))
          refine hK6 _ _ ?_
          simp only [Act.put, List.getElem_toArray, List.getElem_cons_succ, List.getElem_cons_zero, List.setIfInBounds_toArray, List.set_cons_zero, List.set_cons_succ]
          refine wpAny_done (by kernel_rfl) ?_ _
          clear x11
          go_wp2_with (first | (refine ld_num n12 rfl _ rfl rfl ?_))
          refine (HU1.out _).mono ?_
          rintro e wu ⟨rfl, hbu⟩
          have hB := belowN hB n12 hl12 hbu
          have n13 := n13.next hbu
          clear n12 hbu
          go_wp2_with (first | (refine ld_num n13 rfl _ rfl rfl ?_))
          refine (HU2.out _).mono ?_
          rintro e wv ⟨rfl, hbv⟩
          have hB := belowN hB n13 hl13 hbv
          clear n13 hbv
          cases is with
          | false =>
            go_wp2_with fail
            go_ret3
            exact ⟨by rw [HV.out]; rfl, by rw [Hb0.out]; exact hB⟩
          | true =>
            go_wp2_with fail
            go_ret3
            exact ⟨by rw [HV.out]; rfl, by rw [Hb0.out]; exact hB⟩
        · refine step_allocN hz rfl rfl ?_
          intro g12 W' n12 hnx hbx hnn
          try have hne : g12 ≠ g13 := Nat.ne_of_gt (hnn _ _ _ n13)
          try have n13 := hnx _ _ _ n13
          have hB := hbx _ _ hB (by have := x11.lt; omega)
          have hl12 : b0 ≤ g12 := by have h1 := hnn _ _ _ x11; omega
          have x11 := hnx _ _ _ x11
          clear hnx hbx hnn
          refine hK3 _ _ ?_
          simp only [Act.put, List.getElem_toArray, List.getElem_cons_succ, List.getElem_cons_zero, List.setIfInBounds_toArray, List.set_cons_zero, List.set_cons_succ]
          refine wpAny_ready (rs := [3]) (by kernel_rfl) (by simp) ?_
          refine AllReady.cons rfl (fun K4 hK4 => ?_) (AllReady.nil)
          refine step_callN rfl 45 #[.tmp 32, .tmp 34] _ rfl #[.agg (numC false (bitF X)), .agg (numC false (bitF den))] (by simp [Act.eval, Act.put]) (enters_of Try.func45 (by kernel_rfl) rfl) (HP.out _) ?_
          rintro e we ⟨rfl, hbe⟩
          refine ⟨_, rfl, ?_⟩
          have hB := belowN hB x11 hle hbe
          have x11 := x11.next hbe
          try have n12 := n12.next hbe
          try have n13 := n13.next hbe
          refine hK4 _ _ ?_
          simp only [Act.put, List.getElem_toArray, List.getElem_cons_succ, List.getElem_cons_zero, List.setIfInBounds_toArray, List.set_cons_zero, List.set_cons_succ]
          refine wpAny_take (i := 4) (v := ?_) rfl (by kernel_rfl) (by kernel_rfl) (by kernel_rfl) (fun _ _ _ h => h) (Or.inl ⟨by kernel_rfl, ?_⟩) ?_
          rotate_left
          · intro w'; go_simp; try with_reducible rfl
          simp only [Act.put, List.getElem_toArray, List.getElem_cons_succ, List.getElem_cons_zero, List.setIfInBounds_toArray, List.set_cons_zero, List.set_cons_succ]
          refine wpAny_take (i := 5) (v := ?_) rfl (by kernel_rfl) (by kernel_rfl) (by kernel_rfl) (fun _ _ _ h => h) (Or.inl ⟨by kernel_rfl, ?_⟩) ?_
          rotate_left
          · intro w'; go_simp; try with_reducible rfl
          simp only [Act.put, List.getElem_toArray, List.getElem_cons_succ, List.getElem_cons_zero, List.setIfInBounds_toArray, List.set_cons_zero, List.set_cons_succ]
          refine wpAny_take (i := 6) (v := ?_) rfl (by kernel_rfl) (by kernel_rfl) (by kernel_rfl) (fun _ _ _ h => h) (Or.inl ⟨by kernel_rfl, ?_⟩) ?_
          rotate_left
          · intro w'; go_simp; try with_reducible rfl
          simp only [Act.put, List.getElem_toArray, List.getElem_cons_succ, List.getElem_cons_zero, List.setIfInBounds_toArray, List.set_cons_zero, List.set_cons_succ]
          refine wpAny_ready (rs := [9]) (by kernel_rfl) (by simp) ?_
          refine AllReady.cons rfl (fun K5 hK5 => ?_) (AllReady.nil)
          refine step_stN n12 rfl (.tmp 12) (.tmp 36) rfl rfl _ _ rfl ?_
          have n13 := n13.row g12 (Ne.symm hne) (numC false (bitF (X / den)))
          have n12 := n12.put false (bitF (X / den))
          have hB := below_row hB (g := g12) hl12 (numC false (bitF (X / den)))
          refine hK5 _ _ ?_
          simp only [Act.put, List.getElem_toArray, List.getElem_cons_succ, List.getElem_cons_zero, List.setIfInBounds_toArray, List.set_cons_zero, List.set_cons_succ]
          refine wpAny_ready (rs := [10]) (by kernel_rfl) (by simp) ?_
          refine AllReady.cons rfl (fun K6 hK6 => ?_) (AllReady.nil)
          refine step_stN n13 rfl (.tmp 13) (.tmp 37) rfl rfl _ _ rfl ?_
          have n12 := n12.row g13 hne (numC false (bitF (X % den)))
          have n13 := n13.put false (bitF (X % den))
          have hB := below_row hB (g := g13) hl13 (numC false (bitF (X % den)))
          refine hK6 _ _ ?_
          simp only [Act.put, List.getElem_toArray, List.getElem_cons_succ, List.getElem_cons_zero, List.setIfInBounds_toArray, List.set_cons_zero, List.set_cons_succ]
          refine wpAny_done (by kernel_rfl) ?_ _
          clear x11
          go_wp2_with (first | (refine ld_num n12 rfl _ rfl rfl ?_))
          refine (HU1.out _).mono ?_
          rintro e wu ⟨rfl, hbu⟩
          have hB := belowN hB n12 hl12 hbu
          have n13 := n13.next hbu
          clear n12 hbu
          go_wp2_with (first | (refine ld_num n13 rfl _ rfl rfl ?_))
          refine (HU2.out _).mono ?_
          rintro e wv ⟨rfl, hbv⟩
          have hB := belowN hB n13 hl13 hbv
          clear n13 hbv
          cases is with
          | false =>
            go_wp2_with fail
            go_ret3
            exact ⟨by rw [HV.out]; rfl, by rw [Hb0.out]; exact hB⟩
          | true =>
            go_wp2_with fail
            go_ret3
            exact ⟨by rw [HV.out]; rfl, by rw [Hb0.out]; exact hB⟩
    · refine step_allocN hz rfl rfl ?_
      intro g12 W' n12 hnx hbx hnn
      try have hne : g12 ≠ g13 := Nat.ne_of_gt (hnn _ _ _ n13)
      try have n13 := hnx _ _ _ n13
      have hB := hbx _ _ hB (by have := x11.lt; omega)
      have hl12 : b0 ≤ g12 := by have h1 := hnn _ _ _ x11; omega
      have x11 := hnx _ _ _ x11
      clear hnx hbx hnn
      refine hK1 _ _ ?_
      simp only [Act.put, List.getElem_toArray, List.getElem_cons_succ, List.getElem_cons_zero, List.setIfInBounds_toArray, List.set_cons_zero, List.set_cons_succ]
      refine wpAny_ready (rs := [0, 8]) (by kernel_rfl) (by simp) ?_
      refine AllReady.cons rfl (fun K2 hK2 => ?_) (AllReady.cons rfl (fun K2 hK2 => ?_) (AllReady.nil))
      · refine step_ldN x11 rfl (.tmp 11) rfl rfl ?_
        refine hK2 _ _ ?_
        simp only [Act.put, List.getElem_toArray, List.getElem_cons_succ, List.getElem_cons_zero, List.setIfInBounds_toArray, List.set_cons_zero, List.set_cons_succ]
        refine wpAny_ready (rs := [3, 8]) (by kernel_rfl) (by simp) ?_
        refine AllReady.cons rfl (fun K3 hK3 => ?_) (AllReady.cons rfl (fun K3 hK3 => ?_) (AllReady.nil))
        · refine step_callN rfl 45 #[.tmp 32, .tmp 34] _ rfl #[.agg (numC false (bitF X)), .agg (numC false (bitF den))] (by simp [Act.eval, Act.put]) (enters_of Try.func45 (by kernel_rfl) rfl) (HP.out _) ?_
          rintro e we ⟨rfl, hbe⟩
          refine ⟨_, rfl, ?_⟩
          have hB := belowN hB x11 hle hbe
          have x11 := x11.next hbe
          try have n12 := n12.next hbe
          try have n13 := n13.next hbe
          refine hK3 _ _ ?_
          simp only [Act.put, List.getElem_toArray, List.getElem_cons_succ, List.getElem_cons_zero, List.setIfInBounds_toArray, List.set_cons_zero, List.set_cons_succ]
          refine wpAny_take (i := 4) (v := ?_) rfl (by kernel_rfl) (by kernel_rfl) (by kernel_rfl) (fun _ _ _ h => h) (Or.inl ⟨by kernel_rfl, ?_⟩) ?_
          rotate_left
          · intro w'; go_simp; try with_reducible rfl
          simp only [Act.put, List.getElem_toArray, List.getElem_cons_succ, List.getElem_cons_zero, List.setIfInBounds_toArray, List.set_cons_zero, List.set_cons_succ]
          refine wpAny_take (i := 5) (v := ?_) rfl (by kernel_rfl) (by kernel_rfl) (by kernel_rfl) (fun _ _ _ h => h) (Or.inl ⟨by kernel_rfl, ?_⟩) ?_
          rotate_left
          · intro w'; go_simp; try with_reducible rfl
          simp only [Act.put, List.getElem_toArray, List.getElem_cons_succ, List.getElem_cons_zero, List.setIfInBounds_toArray, List.set_cons_zero, List.set_cons_succ]
          refine wpAny_take (i := 6) (v := ?_) rfl (by kernel_rfl) (by kernel_rfl) (by kernel_rfl) (fun _ _ _ h => h) (Or.inl ⟨by kernel_rfl, ?_⟩) ?_
          rotate_left
          · intro w'; go_simp; try with_reducible rfl
          simp only [Act.put, List.getElem_toArray, List.getElem_cons_succ, List.getElem_cons_zero, List.setIfInBounds_toArray, List.set_cons_zero, List.set_cons_succ]
          refine wpAny_ready (rs := [8]) (by kernel_rfl) (by simp) ?_
          refine AllReady.cons rfl (fun K4 hK4 => ?_) (AllReady.nil)
          refine step_allocN hz rfl rfl ?_
          intro g13 W' n13 hnx hbx hnn
          try have hne : g12 ≠ g13 := Nat.ne_of_lt (hnn _ _ _ n12)
          try have n12 := hnx _ _ _ n12
          have hB := hbx _ _ hB (by have := x11.lt; omega)
          have hl13 : b0 ≤ g13 := by have h1 := hnn _ _ _ x11; omega
          have x11 := hnx _ _ _ x11
          clear hnx hbx hnn
          refine hK4 _ _ ?_
          simp only [Act.put, List.getElem_toArray, List.getElem_cons_succ, List.getElem_cons_zero, List.setIfInBounds_toArray, List.set_cons_zero, List.set_cons_succ]
          refine wpAny_ready (rs := [9]) (by kernel_rfl) (by simp) ?_
          refine AllReady.cons rfl (fun K5 hK5 => ?_) (AllReady.nil)
          refine step_stN n12 rfl (.tmp 12) (.tmp 36) rfl rfl _ _ rfl ?_
          have n13 := n13.row g12 (Ne.symm hne) (numC false (bitF (X / den)))
          have n12 := n12.put false (bitF (X / den))
          have hB := below_row hB (g := g12) hl12 (numC false (bitF (X / den)))
          refine hK5 _ _ ?_
          simp only [Act.put, List.getElem_toArray, List.getElem_cons_succ, List.getElem_cons_zero, List.setIfInBounds_toArray, List.set_cons_zero, List.set_cons_succ]
          refine wpAny_ready (rs := [10]) (by kernel_rfl) (by simp) ?_
          refine AllReady.cons rfl (fun K6 hK6 => ?_) (AllReady.nil)
          refine step_stN n13 rfl (.tmp 13) (.tmp 37) rfl rfl _ _ rfl ?_
          have n12 := n12.row g13 hne (numC false (bitF (X % den)))
          have n13 := n13.put false (bitF (X % den))
          have hB := below_row hB (g := g13) hl13 (numC false (bitF (X % den)))
          refine hK6 _ _ ?_
          simp only [Act.put, List.getElem_toArray, List.getElem_cons_succ, List.getElem_cons_zero, List.setIfInBounds_toArray, List.set_cons_zero, List.set_cons_succ]
          refine wpAny_done (by kernel_rfl) ?_ _
          clear x11
          go_wp2_with (first | (refine ld_num n12 rfl _ rfl rfl ?_))
          refine (HU1.out _).mono ?_
          rintro e wu ⟨rfl, hbu⟩
          have hB := belowN hB n12 hl12 hbu
          have n13 := n13.next hbu
          clear n12 hbu
          go_wp2_with (first | (refine ld_num n13 rfl _ rfl rfl ?_))
          refine (HU2.out _).mono ?_
          rintro e wv ⟨rfl, hbv⟩
          have hB := belowN hB n13 hl13 hbv
          clear n13 hbv
          cases is with
          | false =>
            go_wp2_with fail
            go_ret3
            exact ⟨by rw [HV.out]; rfl, by rw [Hb0.out]; exact hB⟩
          | true =>
            go_wp2_with fail
            go_ret3
            exact ⟨by rw [HV.out]; rfl, by rw [Hb0.out]; exact hB⟩
        · refine step_allocN hz rfl rfl ?_
          intro g13 W' n13 hnx hbx hnn
          try have hne : g12 ≠ g13 := Nat.ne_of_lt (hnn _ _ _ n12)
          try have n12 := hnx _ _ _ n12
          have hB := hbx _ _ hB (by have := x11.lt; omega)
          have hl13 : b0 ≤ g13 := by have h1 := hnn _ _ _ x11; omega
          have x11 := hnx _ _ _ x11
          clear hnx hbx hnn
          refine hK3 _ _ ?_
          simp only [Act.put, List.getElem_toArray, List.getElem_cons_succ, List.getElem_cons_zero, List.setIfInBounds_toArray, List.set_cons_zero, List.set_cons_succ]
          refine wpAny_ready (rs := [3]) (by kernel_rfl) (by simp) ?_
          refine AllReady.cons rfl (fun K4 hK4 => ?_) (AllReady.nil)
          refine step_callN rfl 45 #[.tmp 32, .tmp 34] _ rfl #[.agg (numC false (bitF X)), .agg (numC false (bitF den))] (by simp [Act.eval, Act.put]) (enters_of Try.func45 (by kernel_rfl) rfl) (HP.out _) ?_
          rintro e we ⟨rfl, hbe⟩
          refine ⟨_, rfl, ?_⟩
          have hB := belowN hB x11 hle hbe
          have x11 := x11.next hbe
          try have n12 := n12.next hbe
          try have n13 := n13.next hbe
          refine hK4 _ _ ?_
          simp only [Act.put, List.getElem_toArray, List.getElem_cons_succ, List.getElem_cons_zero, List.setIfInBounds_toArray, List.set_cons_zero, List.set_cons_succ]
          refine wpAny_take (i := 4) (v := ?_) rfl (by kernel_rfl) (by kernel_rfl) (by kernel_rfl) (fun _ _ _ h => h) (Or.inl ⟨by kernel_rfl, ?_⟩) ?_
          rotate_left
          · intro w'; go_simp; try with_reducible rfl
          simp only [Act.put, List.getElem_toArray, List.getElem_cons_succ, List.getElem_cons_zero, List.setIfInBounds_toArray, List.set_cons_zero, List.set_cons_succ]
          refine wpAny_take (i := 5) (v := ?_) rfl (by kernel_rfl) (by kernel_rfl) (by kernel_rfl) (fun _ _ _ h => h) (Or.inl ⟨by kernel_rfl, ?_⟩) ?_
          rotate_left
          · intro w'; go_simp; try with_reducible rfl
          simp only [Act.put, List.getElem_toArray, List.getElem_cons_succ, List.getElem_cons_zero, List.setIfInBounds_toArray, List.set_cons_zero, List.set_cons_succ]
          refine wpAny_take (i := 6) (v := ?_) rfl (by kernel_rfl) (by kernel_rfl) (by kernel_rfl) (fun _ _ _ h => h) (Or.inl ⟨by kernel_rfl, ?_⟩) ?_
          rotate_left
          · intro w'; go_simp; try with_reducible rfl
          simp only [Act.put, List.getElem_toArray, List.getElem_cons_succ, List.getElem_cons_zero, List.setIfInBounds_toArray, List.set_cons_zero, List.set_cons_succ]
          refine wpAny_ready (rs := [9]) (by kernel_rfl) (by simp) ?_
          refine AllReady.cons rfl (fun K5 hK5 => ?_) (AllReady.nil)
          refine step_stN n12 rfl (.tmp 12) (.tmp 36) rfl rfl _ _ rfl ?_
          have n13 := n13.row g12 (Ne.symm hne) (numC false (bitF (X / den)))
          have n12 := n12.put false (bitF (X / den))
          have hB := below_row hB (g := g12) hl12 (numC false (bitF (X / den)))
          refine hK5 _ _ ?_
          simp only [Act.put, List.getElem_toArray, List.getElem_cons_succ, List.getElem_cons_zero, List.setIfInBounds_toArray, List.set_cons_zero, List.set_cons_succ]
          refine wpAny_ready (rs := [10]) (by kernel_rfl) (by simp) ?_
          refine AllReady.cons rfl (fun K6 hK6 => ?_) (AllReady.nil)
          refine step_stN n13 rfl (.tmp 13) (.tmp 37) rfl rfl _ _ rfl ?_
          have n12 := n12.row g13 hne (numC false (bitF (X % den)))
          have n13 := n13.put false (bitF (X % den))
          have hB := below_row hB (g := g13) hl13 (numC false (bitF (X % den)))
          refine hK6 _ _ ?_
          simp only [Act.put, List.getElem_toArray, List.getElem_cons_succ, List.getElem_cons_zero, List.setIfInBounds_toArray, List.set_cons_zero, List.set_cons_succ]
          refine wpAny_done (by kernel_rfl) ?_ _
          clear x11
          go_wp2_with (first | (refine ld_num n12 rfl _ rfl rfl ?_))
          refine (HU1.out _).mono ?_
          rintro e wu ⟨rfl, hbu⟩
          have hB := belowN hB n12 hl12 hbu
          have n13 := n13.next hbu
          clear n12 hbu
          go_wp2_with (first | (refine ld_num n13 rfl _ rfl rfl ?_))
          refine (HU2.out _).mono ?_
          rintro e wv ⟨rfl, hbv⟩
          have hB := belowN hB n13 hl13 hbv
          clear n13 hbv
          cases is with
          | false =>
            go_wp2_with fail
            go_ret3
            exact ⟨by rw [HV.out]; rfl, by rw [Hb0.out]; exact hB⟩
          | true =>
            go_wp2_with fail
            go_ret3
            exact ⟨by rw [HV.out]; rfl, by rw [Hb0.out]; exact hB⟩
      · refine step_allocN hz rfl rfl ?_
        intro g13 W' n13 hnx hbx hnn
        try have hne : g12 ≠ g13 := Nat.ne_of_lt (hnn _ _ _ n12)
        try have n12 := hnx _ _ _ n12
        have hB := hbx _ _ hB (by have := x11.lt; omega)
        have hl13 : b0 ≤ g13 := by have h1 := hnn _ _ _ x11; omega
        have x11 := hnx _ _ _ x11
        clear hnx hbx hnn
        refine hK2 _ _ ?_
        simp only [Act.put, List.getElem_toArray, List.getElem_cons_succ, List.getElem_cons_zero, List.setIfInBounds_toArray, List.set_cons_zero, List.set_cons_succ]
        refine wpAny_ready (rs := [0]) (by kernel_rfl) (by simp) ?_
        refine AllReady.cons rfl (fun K3 hK3 => ?_) (AllReady.nil)
        refine step_ldN x11 rfl (.tmp 11) rfl rfl ?_
        refine hK3 _ _ ?_
        simp only [Act.put, List.getElem_toArray, List.getElem_cons_succ, List.getElem_cons_zero, List.setIfInBounds_toArray, List.set_cons_zero, List.set_cons_succ]
        refine wpAny_ready (rs := [3]) (by kernel_rfl) (by simp) ?_
        refine AllReady.cons rfl (fun K4 hK4 => ?_) (AllReady.nil)
        refine step_callN rfl 45 #[.tmp 32, .tmp 34] _ rfl #[.agg (numC false (bitF X)), .agg (numC false (bitF den))] (by simp [Act.eval, Act.put]) (enters_of Try.func45 (by kernel_rfl) rfl) (HP.out _) ?_
        rintro e we ⟨rfl, hbe⟩
        refine ⟨_, rfl, ?_⟩
        have hB := belowN hB x11 hle hbe
        have x11 := x11.next hbe
        try have n12 := n12.next hbe
        try have n13 := n13.next hbe
        refine hK4 _ _ ?_
        simp only [Act.put, List.getElem_toArray, List.getElem_cons_succ, List.getElem_cons_zero, List.setIfInBounds_toArray, List.set_cons_zero, List.set_cons_succ]
        refine wpAny_take (i := 4) (v := ?_) rfl (by kernel_rfl) (by kernel_rfl) (by kernel_rfl) (fun _ _ _ h => h) (Or.inl ⟨by kernel_rfl, ?_⟩) ?_
        rotate_left
        · intro w'; go_simp; try with_reducible rfl
        simp only [Act.put, List.getElem_toArray, List.getElem_cons_succ, List.getElem_cons_zero, List.setIfInBounds_toArray, List.set_cons_zero, List.set_cons_succ]
        refine wpAny_take (i := 5) (v := ?_) rfl (by kernel_rfl) (by kernel_rfl) (by kernel_rfl) (fun _ _ _ h => h) (Or.inl ⟨by kernel_rfl, ?_⟩) ?_
        rotate_left
        · intro w'; go_simp; try with_reducible rfl
        simp only [Act.put, List.getElem_toArray, List.getElem_cons_succ, List.getElem_cons_zero, List.setIfInBounds_toArray, List.set_cons_zero, List.set_cons_succ]
        refine wpAny_take (i := 6) (v := ?_) rfl (by kernel_rfl) (by kernel_rfl) (by kernel_rfl) (fun _ _ _ h => h) (Or.inl ⟨by kernel_rfl, ?_⟩) ?_
        rotate_left
        · intro w'; go_simp; try with_reducible rfl
        simp only [Act.put, List.getElem_toArray, List.getElem_cons_succ, List.getElem_cons_zero, List.setIfInBounds_toArray, List.set_cons_zero, List.set_cons_succ]
        refine wpAny_ready (rs := [9]) (by kernel_rfl) (by simp) ?_
        refine AllReady.cons rfl (fun K5 hK5 => ?_) (AllReady.nil)
        refine step_stN n12 rfl (.tmp 12) (.tmp 36) rfl rfl _ _ rfl ?_
        have n13 := n13.row g12 (Ne.symm hne) (numC false (bitF (X / den)))
        have n12 := n12.put false (bitF (X / den))
        have hB := below_row hB (g := g12) hl12 (numC false (bitF (X / den)))
        refine hK5 _ _ ?_
        simp only [Act.put, List.getElem_toArray, List.getElem_cons_succ, List.getElem_cons_zero, List.setIfInBounds_toArray, List.set_cons_zero, List.set_cons_succ]
        refine wpAny_ready (rs := [10]) (by kernel_rfl) (by simp) ?_
        refine AllReady.cons rfl (fun K6 hK6 => ?_) (AllReady.nil)
        refine step_stN n13 rfl (.tmp 13) (.tmp 37) rfl rfl _ _ rfl ?_
        have n12 := n12.row g13 hne (numC false (bitF (X % den)))
        have n13 := n13.put false (bitF (X % den))
        have hB := below_row hB (g := g13) hl13 (numC false (bitF (X % den)))
        refine hK6 _ _ ?_
        simp only [Act.put, List.getElem_toArray, List.getElem_cons_succ, List.getElem_cons_zero, List.setIfInBounds_toArray, List.set_cons_zero, List.set_cons_succ]
        refine wpAny_done (by kernel_rfl) ?_ _
        clear x11
        go_wp2_with (first | (refine ld_num n12 rfl _ rfl rfl ?_))
        refine (HU1.out _).mono ?_
        rintro e wu ⟨rfl, hbu⟩
        have hB := belowN hB n12 hl12 hbu
        have n13 := n13.next hbu
        clear n12 hbu
        go_wp2_with (first | (refine ld_num n13 rfl _ rfl rfl ?_))
        refine (HU2.out _).mono ?_
        rintro e wv ⟨rfl, hbv⟩
        have hB := belowN hB n13 hl13 hbv
        clear n13 hbv
        cases is with
        | false =>
          go_wp2_with fail
          go_ret3
          exact ⟨by rw [HV.out]; rfl, by rw [Hb0.out]; exact hB⟩
        | true =>
          go_wp2_with fail
          go_ret3
          exact ⟨by rw [HV.out]; rfl, by rw [Hb0.out]; exact hB⟩
    · refine step_allocN hz rfl rfl ?_
      intro g13 W' n13 hnx hbx hnn
      try have hne : g12 ≠ g13 := Nat.ne_of_lt (hnn _ _ _ n12)
      try have n12 := hnx _ _ _ n12
      have hB := hbx _ _ hB (by have := x11.lt; omega)
      have hl13 : b0 ≤ g13 := by have h1 := hnn _ _ _ x11; omega
      have x11 := hnx _ _ _ x11
      clear hnx hbx hnn
      refine hK1 _ _ ?_
      simp only [Act.put, List.getElem_toArray, List.getElem_cons_succ, List.getElem_cons_zero, List.setIfInBounds_toArray, List.set_cons_zero, List.set_cons_succ]
      refine wpAny_ready (rs := [0, 7]) (by kernel_rfl) (by simp) ?_
      refine AllReady.cons rfl (fun K2 hK2 => ?_) (AllReady.cons rfl (fun K2 hK2 => ?_) (AllReady.nil))
      · refine step_ldN x11 rfl (.tmp 11) rfl rfl ?_
        refine hK2 _ _ ?_
        simp only [Act.put, List.getElem_toArray, List.getElem_cons_succ, List.getElem_cons_zero, List.setIfInBounds_toArray, List.set_cons_zero, List.set_cons_succ]
        refine wpAny_ready (rs := [3, 7]) (by kernel_rfl) (by simp) ?_
        refine AllReady.cons rfl (fun K3 hK3 => ?_) (AllReady.cons rfl (fun K3 hK3 => ?_) (AllReady.nil))
        · refine step_callN rfl 45 #[.tmp 32, .tmp 34] _ rfl #[.agg (numC false (bitF X)), .agg (numC false (bitF den))] (by simp [Act.eval, Act.put]) (enters_of Try.func45 (by kernel_rfl) rfl) (HP.out _) ?_
          rintro e we ⟨rfl, hbe⟩
          refine ⟨_, rfl, ?_⟩
          have hB := belowN hB x11 hle hbe
          have x11 := x11.next hbe
          try have n12 := n12.next hbe
          try have n13 := n13.next hbe
          refine hK3 _ _ ?_
          simp only [Act.put, List.getElem_toArray, List.getElem_cons_succ, List.getElem_cons_zero, List.setIfInBounds_toArray, List.set_cons_zero, List.set_cons_succ]
          refine wpAny_take (i := 4) (v := ?_) rfl (by kernel_rfl) (by kernel_rfl) (by kernel_rfl) (fun _ _ _ h => h) (Or.inl ⟨by kernel_rfl, ?_⟩) ?_
          rotate_left
          · intro w'; go_simp; try with_reducible rfl
          simp only [Act.put, List.getElem_toArray, List.getElem_cons_succ, List.getElem_cons_zero, List.setIfInBounds_toArray, List.set_cons_zero, List.set_cons_succ]
          refine wpAny_take (i := 5) (v := ?_) rfl (by kernel_rfl) (by kernel_rfl) (by kernel_rfl) (fun _ _ _ h => h) (Or.inl ⟨by kernel_rfl, ?_⟩) ?_
          rotate_left
          · intro w'; go_simp; try with_reducible rfl
          simp only [Act.put, List.getElem_toArray, List.getElem_cons_succ, List.getElem_cons_zero, List.setIfInBounds_toArray, List.set_cons_zero, List.set_cons_succ]
          refine wpAny_take (i := 6) (v := ?_) rfl (by kernel_rfl) (by kernel_rfl) (by kernel_rfl) (fun _ _ _ h => h) (Or.inl ⟨by kernel_rfl, ?_⟩) ?_
          rotate_left
          · intro w'; go_simp; try with_reducible rfl
          simp only [Act.put, List.getElem_toArray, List.getElem_cons_succ, List.getElem_cons_zero, List.setIfInBounds_toArray, List.set_cons_zero, List.set_cons_succ]
          refine wpAny_ready (rs := [7]) (by kernel_rfl) (by simp) ?_
          refine AllReady.cons rfl (fun K4 hK4 => ?_) (AllReady.nil)
          refine step_allocN hz rfl rfl ?_
          intro g12 W' n12 hnx hbx hnn
          try have hne : g12 ≠ g13 := Nat.ne_of_gt (hnn _ _ _ n13)
          try have n13 := hnx _ _ _ n13
          have hB := hbx _ _ hB (by have := x11.lt; omega)
          have hl12 : b0 ≤ g12 := by have h1 := hnn _ _ _ x11; omega
          have x11 := hnx _ _ _ x11
          clear hnx hbx hnn
          refine hK4 _ _ ?_
          simp only [Act.put, List.getElem_toArray, List.getElem_cons_succ, List.getElem_cons_zero, List.setIfInBounds_toArray, List.set_cons_zero, List.set_cons_succ]
          refine wpAny_ready (rs := [9]) (by kernel_rfl) (by simp) ?_
          refine AllReady.cons rfl (fun K5 hK5 => ?_) (AllReady.nil)
          refine step_stN n12 rfl (.tmp 12) (.tmp 36) rfl rfl _ _ rfl ?_
          have n13 := n13.row g12 (Ne.symm hne) (numC false (bitF (X / den)))
          have n12 := n12.put false (bitF (X / den))
          have hB := below_row hB (g := g12) hl12 (numC false (bitF (X / den)))
          refine hK5 _ _ ?_
          simp only [Act.put, List.getElem_toArray, List.getElem_cons_succ, List.getElem_cons_zero, List.setIfInBounds_toArray, List.set_cons_zero, List.set_cons_succ]
          refine wpAny_ready (rs := [10]) (by kernel_rfl) (by simp) ?_
          refine AllReady.cons rfl (fun K6 hK6 => ?_) (AllReady.nil)
          refine step_stN n13 rfl (.tmp 13) (.tmp 37) rfl rfl _ _ rfl ?_
          have n12 := n12.row g13 hne (numC false (bitF (X % den)))
          have n13 := n13.put false (bitF (X % den))
          have hB := below_row hB (g := g13) hl13 (numC false (bitF (X % den)))
          refine hK6 _ _ ?_
          simp only [Act.put, List.getElem_toArray, List.getElem_cons_succ, List.getElem_cons_zero, List.setIfInBounds_toArray, List.set_cons_zero, List.set_cons_succ]
          refine wpAny_done (by kernel_rfl) ?_ _
          clear x11
          go_wp2_with (first | (refine ld_num n12 rfl _ rfl rfl ?_))
          refine (HU1.out _).mono ?_
          rintro e wu ⟨rfl, hbu⟩
          have hB := belowN hB n12 hl12 hbu
          have n13 := n13.next hbu
          clear n12 hbu
          go_wp2_with (first | (refine ld_num n13 rfl _ rfl rfl ?_))
          refine (HU2.out _).mono ?_
          rintro e wv ⟨rfl, hbv⟩
          have hB := belowN hB n13 hl13 hbv
          clear n13 hbv
          cases is with
          | false =>
            go_wp2_with fail
            go_ret3
            exact ⟨by rw [HV.out]; rfl, by rw [Hb0.out]; exact hB⟩
          | true =>
            go_wp2_with fail
            go_ret3
            exact ⟨by rw [HV.out]; rfl, by rw [Hb0.out]; exact hB⟩
        · refine step_allocN hz rfl rfl ?_
          intro g12 W' n12 hnx hbx hnn
          try have hne : g12 ≠ g13 := Nat.ne_of_gt (hnn _ _ _ n13)
          try have n13 := hnx _ _ _ n13
          have hB := hbx _ _ hB (by have := x11.lt; omega)
          have hl12 : b0 ≤ g12 := by have h1 := hnn _ _ _ x11; omega
          have x11 := hnx _ _ _ x11
          clear hnx hbx hnn
          refine hK3 _ _ ?_
          simp only [Act.put, List.getElem_toArray, List.getElem_cons_succ, List.getElem_cons_zero, List.setIfInBounds_toArray, List.set_cons_zero, List.set_cons_succ]
          refine wpAny_ready (rs := [3]) (by kernel_rfl) (by simp) ?_
          refine AllReady.cons rfl (fun K4 hK4 => ?_) (AllReady.nil)
          refine step_callN rfl 45 #[.tmp 32, .tmp 34] _ rfl #[.agg (numC false (bitF X)), .agg (numC false (bitF den))] (by simp [Act.eval, Act.put]) (enters_of Try.func45 (by kernel_rfl) rfl) (HP.out _) ?_
          rintro e we ⟨rfl, hbe⟩
          refine ⟨_, rfl, ?_⟩
          have hB := belowN hB x11 hle hbe
          have x11 := x11.next hbe
          try have n12 := n12.next hbe
          try have n13 := n13.next hbe
          refine hK4 _ _ ?_
          simp only [Act.put, List.getElem_toArray, List.getElem_cons_succ, List.getElem_cons_zero, List.setIfInBounds_toArray, List.set_cons_zero, List.set_cons_succ]
          refine wpAny_take (i := 4) (v := ?_) rfl (by kernel_rfl) (by kernel_rfl) (by kernel_rfl) (fun _ _ _ h => h) (Or.inl ⟨by kernel_rfl, ?_⟩) ?_
          rotate_left
          · intro w'; go_simp; try with_reducible rfl
          simp only [Act.put, List.getElem_toArray, List.getElem_cons_succ, List.getElem_cons_zero, List.setIfInBounds_toArray, List.set_cons_zero, List.set_cons_succ]
          refine wpAny_take (i := 5) (v := ?_) rfl (by kernel_rfl) (by kernel_rfl) (by kernel_rfl) (fun _ _ _ h => h) (Or.inl ⟨by kernel_rfl, ?_⟩) ?_
          rotate_left
          · intro w'; go_simp; try with_reducible rfl
          simp only [Act.put, List.getElem_toArray, List.getElem_cons_succ, List.getElem_cons_zero, List.setIfInBounds_toArray, List.set_cons_zero, List.set_cons_succ]
          refine wpAny_take (i := 6) (v := ?_) rfl (by kernel_rfl) (by kernel_rfl) (by kernel_rfl) (fun _ _ _ h => h) (Or.inl ⟨by kernel_rfl, ?_⟩) ?_
          rotate_left
          · intro w'; go_simp; try with_reducible rfl
          simp only [Act.put, List.getElem_toArray, List.getElem_cons_succ, List.getElem_cons_zero, List.setIfInBounds_toArray, List.set_cons_zero, List.set_cons_succ]
          refine wpAny_ready (rs := [9]) (by kernel_rfl) (by simp) ?_
          refine AllReady.cons rfl (fun K5 hK5 => ?_) (AllReady.nil)
          refine step_stN n12 rfl (.tmp 12) (.tmp 36) rfl rfl _ _ rfl ?_
          have n13 := n13.row g12 (Ne.symm hne) (numC false (bitF (X / den)))
          have n12 := n12.put false (bitF (X / den))
          have hB := below_row hB (g := g12) hl12 (numC false (bitF (X / den)))
          refine hK5 _ _ ?_
          simp only [Act.put, List.getElem_toArray, List.getElem_cons_succ, List.getElem_cons_zero, List.setIfInBounds_toArray, List.set_cons_zero, List.set_cons_succ]
          refine wpAny_ready (rs := [10]) (by kernel_rfl) (by simp) ?_
          refine AllReady.cons rfl (fun K6 hK6 => ?_) (AllReady.nil)
          refine step_stN n13 rfl (.tmp 13) (.tmp 37) rfl rfl _ _ rfl ?_
          have n12 := n12.row g13 hne (numC false (bitF (X % den)))
          have n13 := n13.put false (bitF (X % den))
          have hB := below_row hB (g := g13) hl13 (numC false (bitF (X % den)))
          refine hK6 _ _ ?_
          simp only [Act.put, List.getElem_toArray, List.getElem_cons_succ, List.getElem_cons_zero, List.setIfInBounds_toArray, List.set_cons_zero, List.set_cons_succ]
          refine wpAny_done (by kernel_rfl) ?_ _
          clear x11
          go_wp2_with (first | (refine ld_num n12 rfl _ rfl rfl ?_))
          refine (HU1.out _).mono ?_
          rintro e wu ⟨rfl, hbu⟩
          have hB := belowN hB n12 hl12 hbu
          have n13 := n13.next hbu
          clear n12 hbu
          go_wp2_with (first | (refine ld_num n13 rfl _ rfl rfl ?_))
          refine (HU2.out _).mono ?_
          rintro e wv ⟨rfl, hbv⟩
          have hB := belowN hB n13 hl13 hbv
          clear n13 hbv
          cases is with
          | false =>
            go_wp2_with fail
            go_ret3
            exact ⟨by rw [HV.out]; rfl, by rw [Hb0.out]; exact hB⟩
          | true =>
            go_wp2_with fail
            go_ret3
            exact ⟨by rw [HV.out]; rfl, by rw [Hb0.out]; exact hB⟩
      · refine step_allocN hz rfl rfl ?_
        intro g12 W' n12 hnx hbx hnn
        try have hne : g12 ≠ g13 := Nat.ne_of_gt (hnn _ _ _ n13)
        try have n13 := hnx _ _ _ n13
        have hB := hbx _ _ hB (by have := x11.lt; omega)
        have hl12 : b0 ≤ g12 := by have h1 := hnn _ _ _ x11; omega
        have x11 := hnx _ _ _ x11
        clear hnx hbx hnn
        refine hK2 _ _ ?_
        simp only [Act.put, List.getElem_toArray, List.getElem_cons_succ, List.getElem_cons_zero, List.setIfInBounds_toArray, List.set_cons_zero, List.set_cons_succ]
        refine wpAny_ready (rs := [0]) (by kernel_rfl) (by simp) ?_
        refine AllReady.cons rfl (fun K3 hK3 => ?_) (AllReady.nil)
        refine step_ldN x11 rfl (.tmp 11) rfl rfl ?_
        refine hK3 _ _ ?_
        simp only [Act.put, List.getElem_toArray, List.getElem_cons_succ, List.getElem_cons_zero, List.setIfInBounds_toArray, List.set_cons_zero, List.set_cons_succ]
        refine wpAny_ready (rs := [3]) (by kernel_rfl) (by simp) ?_
        refine AllReady.cons rfl (fun K4 hK4 => ?_) (AllReady.nil)
        refine step_callN rfl 45 #[.tmp 32, .tmp 34] _ rfl #[.agg (numC false (bitF X)), .agg (numC false (bitF den))] (by simp [Act.eval, Act.put]) (enters_of Try.func45 (by kernel_rfl) rfl) (HP.out _) ?_
        rintro e we ⟨rfl, hbe⟩
        refine ⟨_, rfl, ?_⟩
        have hB := belowN hB x11 hle hbe
        have x11 := x11.next hbe
        try have n12 := n12.next hbe
        try have n13 := n13.next hbe
        refine hK4 _ _ ?_
        simp only [Act.put, List.getElem_toArray, List.getElem_cons_succ, List.getElem_cons_zero, List.setIfInBounds_toArray, List.set_cons_zero, List.set_cons_succ]
        refine wpAny_take (i := 4) (v := ?_) rfl (by kernel_rfl) (by kernel_rfl) (by kernel_rfl) (fun _ _ _ h => h) (Or.inl ⟨by kernel_rfl, ?_⟩) ?_
        rotate_left
        · intro w'; go_simp; try with_reducible rfl
        simp only [Act.put, List.getElem_toArray, List.getElem_cons_succ, List.getElem_cons_zero, List.setIfInBounds_toArray, List.set_cons_zero, List.set_cons_succ]
        refine wpAny_take (i := 5) (v := ?_) rfl (by kernel_rfl) (by kernel_rfl) (by kernel_rfl) (fun _ _ _ h => h) (Or.inl ⟨by kernel_rfl, ?_⟩) ?_
        rotate_left
        · intro w'; go_simp; try with_reducible rfl
        simp only [Act.put, List.getElem_toArray, List.getElem_cons_succ, List.getElem_cons_zero, List.setIfInBounds_toArray, List.set_cons_zero, List.set_cons_succ]
        refine wpAny_take (i := 6) (v := ?_) rfl (by kernel_rfl) (by kernel_rfl) (by kernel_rfl) (fun _ _ _ h => h) (Or.inl ⟨by kernel_rfl, ?_⟩) ?_
        rotate_left
        · intro w'; go_simp; try with_reducible rfl
        simp only [Act.put, List.getElem_toArray, List.getElem_cons_succ, List.getElem_cons_zero, List.setIfInBounds_toArray, List.set_cons_zero, List.set_cons_succ]
        refine wpAny_ready (rs := [9]) (by kernel_rfl) (by simp) ?_
        refine AllReady.cons rfl (fun K5 hK5 => ?_) (AllReady.nil)
        refine step_stN n12 rfl (.tmp 12) (.tmp 36) rfl rfl _ _ rfl ?_
        have n13 := n13.row g12 (Ne.symm hne) (numC false (bitF (X / den)))
        have n12 := n12.put false (bitF (X / den))
        have hB := below_row hB (g := g12) hl12 (numC false (bitF (X / den)))
        refine hK5 _ _ ?_
        simp only [Act.put, List.getElem_toArray, List.getElem_cons_succ, List.getElem_cons_zero, List.setIfInBounds_toArray, List.set_cons_zero, List.set_cons_succ]
        refine wpAny_ready (rs := [10]) (by kernel_rfl) (by simp) ?_
        refine AllReady.cons rfl (fun K6 hK6 => ?_) (AllReady.nil)
        refine step_stN n13 rfl (.tmp 13) (.tmp 37) rfl rfl _ _ rfl ?_
        have n12 := n12.row g13 hne (numC false (bitF (X % den)))
        have n13 := n13.put false (bitF (X % den))
        have hB := below_row hB (g := g13) hl13 (numC false (bitF (X % den)))
        refine hK6 _ _ ?_
        simp only [Act.put, List.getElem_toArray, List.getElem_cons_succ, List.getElem_cons_zero, List.setIfInBounds_toArray, List.set_cons_zero, List.set_cons_succ]
        refine wpAny_done (by kernel_rfl) ?_ _
        clear x11
        go_wp2_with (first | (refine ld_num n12 rfl _ rfl rfl ?_))
        refine (HU1.out _).mono ?_
        rintro e wu ⟨rfl, hbu⟩
        have hB := belowN hB n12 hl12 hbu
        have n13 := n13.next hbu
        clear n12 hbu
        go_wp2_with (first | (refine ld_num n13 rfl _ rfl rfl ?_))
        refine (HU2.out _).mono ?_
        rintro e wv ⟨rfl, hbv⟩
        have hB := belowN hB n13 hl13 hbv
        clear n13 hbv
        cases is with
        | false =>
          go_wp2_with fail
          go_ret3
          exact ⟨by rw [HV.out]; rfl, by rw [Hb0.out]; exact hB⟩
        | true =>
          go_wp2_with fail
          go_ret3
          exact ⟨by rw [HV.out]; rfl, by rw [Hb0.out]; exact hB⟩
  · refine step_allocN hz rfl rfl ?_
    intro g12 W' n12 hnx hbx hnn
    try have hne : g12 ≠ g13 := Nat.ne_of_gt (hnn _ _ _ n13)
    try have n13 := hnx _ _ _ n13
    have hB := hbx _ _ hB (by have := x11.lt; omega)
    have hl12 : b0 ≤ g12 := by have h1 := hnn _ _ _ x11; omega
    have x11 := hnx _ _ _ x11
    clear hnx hbx hnn
    refine hK0 _ _ ?_
    simp only [Act.put, List.getElem_toArray, List.getElem_cons_succ, List.getElem_cons_zero, List.setIfInBounds_toArray, List.set_cons_zero, List.set_cons_succ]
    refine wpAny_ready (rs := [0, 2, 8]) (by kernel_rfl) (by simp) ?_
    refine AllReady.cons rfl (fun K1 hK1 => ?_) (AllReady.cons rfl (fun K1 hK1 => ?_) (AllReady.cons rfl (fun K1 hK1 => ?_) (AllReady.nil)))
    · refine step_ldN x11 rfl (.tmp 11) rfl rfl ?_
      refine hK1 _ _ ?_
      simp only [Act.put, List.getElem_toArray, List.getElem_cons_succ, List.getElem_cons_zero, List.setIfInBounds_toArray, List.set_cons_zero, List.set_cons_succ]
      refine wpAny_ready (rs := [2, 8]) (by kernel_rfl) (by simp) ?_
      refine AllReady.cons rfl (fun K2 hK2 => ?_) (AllReady.cons rfl (fun K2 hK2 => ?_) (AllReady.nil))
      · refine step_callN rfl 44 #[.tmp 33] _ rfl #[.int .u64 (den : Int)] (by simp [Act.eval, Act.put]) (enters_of Try.func44 (by kernel_rfl) rfl) (num_of den hden _) ?_
        rintro e wd ⟨rfl, hbd⟩
        refine ⟨_, rfl, ?_⟩
        have hB := belowN hB x11 hle hbd
        have x11 := x11.next hbd
        try have n12 := n12.next hbd
        try have n13 := n13.next hbd
        refine hK2 _ _ ?_
        simp only [Act.put, List.getElem_toArray, List.getElem_cons_succ, List.getElem_cons_zero, List.setIfInBounds_toArray, List.set_cons_zero, List.set_cons_succ]
        refine wpAny_ready (rs := [3, 8]) (by kernel_rfl) (by simp) ?_
        refine AllReady.cons rfl (fun K3 hK3 => ?_) (AllReady.cons rfl (fun K3 hK3 => ?_) (AllReady.nil))
        · refine step_callN rfl 45 #[.tmp 32, .tmp 34] _ rfl #[.agg (numC false (bitF X)), .agg (numC false (bitF den))] (by simp [Act.eval, Act.put]) (enters_of Try.func45 (by kernel_rfl) rfl) (HP.out _) ?_
          rintro e we ⟨rfl, hbe⟩
          refine ⟨_, rfl, ?_⟩
          have hB := belowN hB x11 hle hbe
          have x11 := x11.next hbe
          try have n12 := n12.next hbe
          try have n13 := n13.next hbe
          refine hK3 _ _ ?_
          simp only [Act.put, List.getElem_toArray, List.getElem_cons_succ, List.getElem_cons_zero, List.setIfInBounds_toArray, List.set_cons_zero, List.set_cons_succ]
          refine wpAny_take (i := 4) (v := ?_) rfl (by kernel_rfl) (by kernel_rfl) (by kernel_rfl) (fun _ _ _ h => h) (Or.inl ⟨by kernel_rfl, ?_⟩) ?_
          rotate_left
          · intro w'; go_simp; try with_reducible rfl
          simp only [Act.put, List.getElem_toArray, List.getElem_cons_succ, List.getElem_cons_zero, List.setIfInBounds_toArray, List.set_cons_zero, List.set_cons_succ]
          refine wpAny_take (i := 5) (v := ?_) rfl (by kernel_rfl) (by kernel_rfl) (by kernel_rfl) (fun _ _ _ h => h) (Or.inl ⟨by kernel_rfl, ?_⟩) ?_
          rotate_left
          · intro w'; go_simp; try with_reducible rfl
          simp only [Act.put, List.getElem_toArray, List.getElem_cons_succ, List.getElem_cons_zero, List.setIfInBounds_toArray, List.set_cons_zero, List.set_cons_succ]
          refine wpAny_take (i := 6) (v := ?_) rfl (by kernel_rfl) (by kernel_rfl) (by kernel_rfl) (fun _ _ _ h => h) (Or.inl ⟨by kernel_rfl, ?_⟩) ?_
          rotate_left
          · intro w'; go_simp; try with_reducible rfl
          simp only [Act.put, List.getElem_toArray, List.getElem_cons_succ, List.getElem_cons_zero, List.setIfInBounds_toArray, List.set_cons_zero, List.set_cons_succ]
          refine wpAny_ready (rs := [8]) (by kernel_rfl) (by simp) ?_
          refine AllReady.cons rfl (fun K4 hK4 => ?_) (AllReady.nil)
          refine step_allocN hz rfl rfl ?_
          intro g13 W' n13 hnx hbx hnn
          try have hne : g12 ≠ g13 := Nat.ne_of_lt (hnn _ _ _ n12)
          try have n12 := hnx _ _ _ n12
          have hB := hbx _ _ hB (by have := x11.lt; omega)
          have hl13 : b0 ≤ g13 := by have h1 := hnn _ _ _ x11; omega
          have x11 := hnx _ _ _ x11
          clear hnx hbx hnn
          refine hK4 _ _ ?_
          simp only [Act.put, List.getElem_toArray, List.getElem_cons_succ, List.getElem_cons_zero, List.setIfInBounds_toArray, List.set_cons_zero, List.set_cons_succ]
          refine wpAny_ready (rs := [9]) (by kernel_rfl) (by simp) ?_
          refine AllReady.cons rfl (fun K5 hK5 => ?_) (AllReady.nil)
          refine step_stN n12 rfl (.tmp 12) (.tmp 36) rfl rfl _ _ rfl ?_
          have n13 := n13.row g12 (Ne.symm hne) (numC false (bitF (X / den)))
          have n12 := n12.put false (bitF (X / den))
          have hB := below_row hB (g := g12) hl12 (numC false (bitF (X / den)))
          refine hK5 _ _ ?_
          simp only [Act.put, List.getElem_toArray, List.getElem_cons_succ, List.getElem_cons_zero, List.setIfInBounds_toArray, List.set_cons_zero, List.set_cons_succ]
          refine wpAny_ready (rs := [10]) (by kernel_rfl) (by simp) ?_
          refine AllReady.cons rfl (fun K6 hK6 => ?_) (AllReady.nil)
          refine step_stN n13 rfl (.tmp 13) (.tmp 37) rfl rfl _ _ rfl ?_
          have n12 := n12.row g13 hne (numC false (bitF (X % den)))
          have n13 := n13.put false (bitF (X % den))
          have hB := below_row hB (g := g13) hl13 (numC false (bitF (X % den)))
          refine hK6 _ _ ?_
          simp only [Act.put, List.getElem_toArray, List.getElem_cons_succ, List.getElem_cons_zero, List.setIfInBounds_toArray, List.set_cons_zero, List.set_cons_succ]
          refine wpAny_done (by kernel_rfl) ?_ _
          clear x11
          go_wp2_with (first | (refine ld_num n12 rfl _ rfl rfl ?_))
          refine (HU1.out _).mono ?_
          rintro e wu ⟨rfl, hbu⟩
          have hB := belowN hB n12 hl12 hbu
          have n13 := n13.next hbu
          clear n12 hbu
          go_wp2_with (first | (refine ld_num n13 rfl _ rfl rfl ?_))
          refine (HU2.out _).mono ?_
          rintro e wv ⟨rfl, hbv⟩
          have hB := belowN hB n13 hl13 hbv
          clear n13 hbv
          cases is with
          | false =>
            go_wp2_with fail
            go_ret3
            exact ⟨by rw [HV.out]; rfl, by rw [Hb0.out]; exact hB⟩
          | true =>
            go_wp2_with fail
            go_ret3
            exact ⟨by rw [HV.out]; rfl, by rw [Hb0.out]; exact hB⟩
        · refine step_allocN hz rfl rfl ?_
          intro g13 W' n13 hnx hbx hnn
          try have hne : g12 ≠ g13 := Nat.ne_of_lt (hnn _ _ _ n12)
          try have n12 := hnx _ _ _ n12
          have hB := hbx _ _ hB (by have := x11.lt; omega)
          have hl13 : b0 ≤ g13 := by have h1 := hnn _ _ _ x11; omega
          have x11 := hnx _ _ _ x11
          clear hnx hbx hnn
          refine hK3 _ _ ?_
          simp only [Act.put, List.getElem_toArray, List.getElem_cons_succ, List.getElem_cons_zero, List.setIfInBounds_toArray, List.set_cons_zero, List.set_cons_succ]
          refine wpAny_ready (rs := [3]) (by kernel_rfl) (by simp) ?_
          refine AllReady.cons rfl (fun K4 hK4 => ?_) (AllReady.nil)
          refine step_callN rfl 45 #[.tmp 32, .tmp 34] _ rfl #[.agg (numC false (bitF X)), .agg (numC false (bitF den))] (by simp [Act.eval, Act.put]) (enters_of Try.func45 (by kernel_rfl) rfl) (HP.out _) ?_
          rintro e we ⟨rfl, hbe⟩
          refine ⟨_, rfl, ?_⟩
          have hB := belowN hB x11 hle hbe
          have x11 := x11.next hbe
          try have n12 := n12.next hbe
          try have n13 := n13.next hbe
          refine hK4 _ _ ?_
          simp only [Act.put, List.getElem_toArray, List.getElem_cons_succ, List.getElem_cons_zero, List.setIfInBounds_toArray, List.set_cons_zero, List.set_cons_succ]
          refine wpAny_take (i := 4) (v := ?_) rfl (by kernel_rfl) (by kernel_rfl) (by kernel_rfl) (fun _ _ _ h => h) (Or.inl ⟨by kernel_rfl, ?_⟩) ?_
          rotate_left
          · intro w'; go_simp; try with_reducible rfl
          simp only [Act.put, List.getElem_toArray, List.getElem_cons_succ, List.getElem_cons_zero, List.setIfInBounds_toArray, List.set_cons_zero, List.set_cons_succ]
          refine wpAny_take (i := 5) (v := ?_) rfl (by kernel_rfl) (by kernel_rfl) (by kernel_rfl) (fun _ _ _ h => h) (Or.inl ⟨by kernel_rfl, ?_⟩) ?_
          rotate_left
          · intro w'; go_simp; try with_reducible rfl
          simp only [Act.put, List.getElem_toArray, List.getElem_cons_succ, List.getElem_cons_zero, List.setIfInBounds_toArray, List.set_cons_zero, List.set_cons_succ]
          refine wpAny_take (i := 6) (v := ?_) rfl (by kernel_rfl) (by kernel_rfl) (by kernel_rfl) (fun _ _ _ h => h) (Or.inl ⟨by kernel_rfl, ?_⟩) ?_
          rotate_left
          · intro w'; go_simp; try with_reducible rfl
          simp only [Act.put, List.getElem_toArray, List.getElem_cons_succ, List.getElem_cons_zero, List.setIfInBounds_toArray, List.set_cons_zero, List.set_cons_succ]
          refine wpAny_ready (rs := [9]) (by kernel_rfl) (by simp) ?_
          refine AllReady.cons rfl (fun K5 hK5 => ?_) (AllReady.nil)
          refine step_stN n12 rfl (.tmp 12) (.tmp 36) rfl rfl _ _ rfl ?_
          have n13 := n13.row g12 (Ne.symm hne) (numC false (bitF (X / den)))
          have n12 := n12.put false (bitF (X / den))
          have hB := below_row hB (g := g12) hl12 (numC false (bitF (X / den)))
          refine hK5 _ _ ?_
          simp only [Act.put, List.getElem_toArray, List.getElem_cons_succ, List.getElem_cons_zero, List.setIfInBounds_toArray, List.set_cons_zero, List.set_cons_succ]
          refine wpAny_ready (rs := [10]) (by kernel_rfl) (by simp) ?_
          refine AllReady.cons rfl (fun K6 hK6 => ?_) (AllReady.nil)
          refine step_stN n13 rfl (.tmp 13) (.tmp 37) rfl rfl _ _ rfl ?_
          have n12 := n12.row g13 hne (numC false (bitF (X % den)))
          have n13 := n13.put false (bitF (X % den))
          have hB := below_row hB (g := g13) hl13 (numC false (bitF (X % den)))
          refine hK6 _ _ ?_
          simp only [Act.put, List.getElem_toArray, List.getElem_cons_succ, List.getElem_cons_zero, List.setIfInBounds_toArray, List.set_cons_zero, List.set_cons_succ]
          refine wpAny_done (by kernel_rfl) ?_ _
          clear x11
          go_wp2_with (first | (refine ld_num n12 rfl _ rfl rfl ?_))
          refine (HU1.out _).mono ?_
          rintro e wu ⟨rfl, hbu⟩
          have hB := belowN hB n12 hl12 hbu
          have n13 := n13.next hbu
          clear n12 hbu
          go_wp2_with (first | (refine ld_num n13 rfl _ rfl rfl ?_))
          refine (HU2.out _).mono ?_
          rintro e wv ⟨rfl, hbv⟩
          have hB := belowN hB n13 hl13 hbv
          clear n13 hbv
          cases is with
          | false =>
            go_wp2_with fail
            go_ret3
            exact ⟨by rw [HV.out]; rfl, by rw [Hb0.out]; exact hB⟩
          | true =>
            go_wp2_with fail
            go_ret3
            exact ⟨by rw [HV.out]; rfl, by rw [Hb0.out]; exact hB⟩
      · refine step_allocN hz rfl rfl ?_
        intro g13 W' n13 hnx hbx hnn
        try have hne : g12 ≠ g13 := Nat.ne_of_lt (hnn _ _ _ n12)
        try have n12 := hnx _ _ _ n12
        have hB := hbx _ _ hB (by have := x11.lt; omega)
        have hl13 : b0 ≤ g13 := by have h1 := hnn _ _ _ x11; omega
        have x11 := hnx _ _ _ x11
        clear hnx hbx hnn
        refine hK2 _ _ ?_
        simp only [Act.put, List.getElem_toArray, List.getElem_cons_succ, List.getElem_cons_zero, List.setIfInBounds_toArray, List.set_cons_zero, List.set_cons_succ]
        refine wpAny_ready (rs := [2]) (by kernel_rfl) (by simp) ?_
        refine AllReady.cons rfl (fun K3 hK3 => ?_) (AllReady.nil)
        refine step_callN rfl 44 #[.tmp 33] _ rfl #[.int .u64 (den : Int)] (by simp [Act.eval, Act.put]) (enters_of Try.func44 (by kernel_rfl) rfl) (num_of den hden _) ?_
        rintro e wd ⟨rfl, hbd⟩
        refine ⟨_, rfl, ?_⟩
        have hB := belowN hB x11 hle hbd
        have x11 := x11.next hbd
        try have n12 := n12.next hbd
        try have n13 := n13.next hbd
        refine hK3 _ _ ?_
        simp only [Act.put, List.getElem_toArray, List.getElem_cons_succ, List.getElem_cons_zero, List.setIfInBounds_toArray, List.set_cons_zero, List.set_cons_succ]
        refine wpAny_ready (rs := [3]) (by kernel_rfl) (by simp) ?_
        refine AllReady.cons rfl (fun K4 hK4 => ?_) (AllReady.nil)
        refine step_callN rfl 45 #[.tmp 32, .tmp 34] _ rfl #[.agg (numC false (bitF X)), .agg (numC false (bitF den))] (by simp [Act.eval, Act.put]) (enters_of Try.func45 (by kernel_rfl) rfl) (HP.out _) ?_
        rintro e we ⟨rfl, hbe⟩
        refine ⟨_, rfl, ?_⟩
        have hB := belowN hB x11 hle hbe
        have x11 := x11.next hbe
        try have n12 := n12.next hbe
        try have n13 := n13.next hbe
        refine hK4 _ _ ?_
        simp only [Act.put, List.getElem_toArray, List.getElem_cons_succ, List.getElem_cons_zero, List.setIfInBounds_toArray, List.set_cons_zero, List.set_cons_succ]
        refine wpAny_take (i := 4) (v := ?_) rfl (by kernel_rfl) (by kernel_rfl) (by kernel_rfl) (fun _ _ _ h => h) (Or.inl ⟨by kernel_rfl, ?_⟩) ?_
        rotate_left
        · intro w'; go_simp; try with_reducible rfl
        simp only [Act.put, List.getElem_toArray, List.getElem_cons_succ, List.getElem_cons_zero, List.setIfInBounds_toArray, List.set_cons_zero, List.set_cons_succ]
        refine wpAny_take (i := 5) (v := ?_) rfl (by kernel_rfl) (by kernel_rfl) (by kernel_rfl) (fun _ _ _ h => h) (Or.inl ⟨by kernel_rfl, ?_⟩) ?_
        rotate_left
        · intro w'; go_simp; try with_reducible rfl
        simp only [Act.put, List.getElem_toArray, List.getElem_cons_succ, List.getElem_cons_zero, List.setIfInBounds_toArray, List.set_cons_zero, List.set_cons_succ]
        refine wpAny_take (i := 6) (v := ?_) rfl (by kernel_rfl) (by kernel_rfl) (by kernel_rfl) (fun _ _ _ h => h) (Or.inl ⟨by kernel_rfl, ?_⟩) ?_
        rotate_left
        · intro w'; go_simp; try with_reducible rfl
        simp only [Act.put, List.getElem_toArray, List.getElem_cons_succ, List.getElem_cons_zero, List.setIfInBounds_toArray, List.set_cons_zero, List.set_cons_succ]
        refine wpAny_ready (rs := [9]) (by kernel_rfl) (by simp) ?_
        refine AllReady.cons rfl (fun K5 hK5 => ?_) (AllReady.nil)
        refine step_stN n12 rfl (.tmp 12) (.tmp 36) rfl rfl _ _ rfl ?_
        have n13 := n13.row g12 (Ne.symm hne) (numC false (bitF (X / den)))
        have n12 := n12.put false (bitF (X / den))
        have hB := below_row hB (g := g12) hl12 (numC false (bitF (X / den)))
        refine hK5 _ _ ?_
        simp only [Act.put, List.getElem_toArray, List.getElem_cons_succ, List.getElem_cons_zero, List.setIfInBounds_toArray, List.set_cons_zero, List.set_cons_succ]
        refine wpAny_ready (rs := [10]) (by kernel_rfl) (by simp) ?_
        refine AllReady.cons rfl (fun K6 hK6 => ?_) (AllReady.nil)
        refine step_stN n13 rfl (.tmp 13) (.tmp 37) rfl rfl _ _ rfl ?_
        have n12 := n12.row g13 hne (numC false (bitF (X % den)))
        have n13 := n13.put false (bitF (X % den))
        have hB := below_row hB (g := g13) hl13 (numC false (bitF (X % den)))
        refine hK6 _ _ ?_
        simp only [Act.put, List.getElem_toArray, List.getElem_cons_succ, List.getElem_cons_zero, List.setIfInBounds_toArray, List.set_cons_zero, List.set_cons_succ]
        refine wpAny_done (by kernel_rfl) ?_ _
        clear x11
        go_wp2_with (first | (refine ld_num n12 rfl _ rfl rfl ?_))
        refine (HU1.out _).mono ?_
        rintro e wu ⟨rfl, hbu⟩
        have hB := belowN hB n12 hl12 hbu
        have n13 := n13.next hbu
        clear n12 hbu
        go_wp2_with (first | (refine ld_num n13 rfl _ rfl rfl ?_))
        refine (HU2.out _).mono ?_
        rintro e wv ⟨rfl, hbv⟩
        have hB := belowN hB n13 hl13 hbv
        clear n13 hbv
        cases is with
        | false =>
          go_wp2_with fail
          go_ret3
          exact ⟨by rw [HV.out]; rfl, by rw [Hb0.out]; exact hB⟩
        | true =>
          go_wp2_with fail
          go_ret3
          exact ⟨by rw [HV.out]; rfl, by rw [Hb0.out]; exact hB⟩
    · refine step_callN rfl 44 #[.tmp 33] _ rfl #[.int .u64 (den : Int)] (by simp [Act.eval, Act.put]) (enters_of Try.func44 (by kernel_rfl) rfl) (num_of den hden _) ?_
      rintro e wd ⟨rfl, hbd⟩
      refine ⟨_, rfl, ?_⟩
      have hB := belowN hB x11 hle hbd
      have x11 := x11.next hbd
      try have n12 := n12.next hbd
      try have n13 := n13.next hbd
      refine hK1 _ _ ?_
      simp only [Act.put, List.getElem_toArray, List.getElem_cons_succ, List.getElem_cons_zero, List.setIfInBounds_toArray, List.set_cons_zero, List.set_cons_succ]
      refine wpAny_ready (rs := [0, 8]) (by kernel_rfl) (by simp) ?_
      refine AllReady.cons rfl (fun K2 hK2 => ?_) (AllReady.cons rfl (fun K2 hK2 => ?_) (AllReady.nil))
      · refine step_ldN x11 rfl (.tmp 11) rfl rfl ?_
        refine hK2 _ _ ?_
        simp only [Act.put, List.getElem_toArray, List.getElem_cons_succ, List.getElem_cons_zero, List.setIfInBounds_toArray, List.set_cons_zero, List.set_cons_succ]
        refine wpAny_ready (rs := [3, 8]) (by kernel_rfl) (by simp) ?_
        refine AllReady.cons rfl (fun K3 hK3 => ?_) (AllReady.cons rfl (fun K3 hK3 => ?_) (AllReady.nil))
        · refine step_callN rfl 45 #[.tmp 32, .tmp 34] _ rfl #[.agg (numC false (bitF X)), .agg (numC false (bitF den))] (by simp [Act.eval, Act.put]) (enters_of Try.func45 (by kernel_rfl) rfl) (HP.out _) ?_
          rintro e we ⟨rfl, hbe⟩
          refine ⟨_, rfl, ?_⟩
          have hB := belowN hB x11 hle hbe
          have x11 := x11.next hbe
          try have n12 := n12.next hbe
          try have n13 := n13.next hbe
          refine hK3 _ _ ?_
          simp only [Act.put, List.getElem_toArray, List.getElem_cons_succ, List.getElem_cons_zero, List.setIfInBounds_toArray, List.set_cons_zero, List.set_cons_succ]
          refine wpAny_take (i := 4) (v := ?_) rfl (by kernel_rfl) (by kernel_rfl) (by kernel_rfl) (fun _ _ _ h => h) (Or.inl ⟨by kernel_rfl, ?_⟩) ?_
          rotate_left
          · intro w'; go_simp; try with_reducible rfl
          simp only [Act.put, List.getElem_toArray, List.getElem_cons_succ, List.getElem_cons_zero, List.setIfInBounds_toArray, List.set_cons_zero, List.set_cons_succ]
          refine wpAny_take (i := 5) (v := ?_) rfl (by kernel_rfl) (by kernel_rfl) (by kernel_rfl) (fun _ _ _ h => h) (Or.inl ⟨by kernel_rfl, ?_⟩) ?_
          rotate_left
          · intro w'; go_simp; try with_reducible rfl
          simp only [Act.put, List.getElem_toArray, List.getElem_cons_succ, List.getElem_cons_zero, List.setIfInBounds_toArray, List.set_cons_zero, List.set_cons_succ]
          refine wpAny_take (i := 6) (v := ?_) rfl (by kernel_rfl) (by kernel_rfl) (by kernel_rfl) (fun _ _ _ h => h) (Or.inl ⟨by kernel_rfl, ?_⟩) ?_
          rotate_left
          · intro w'; go_simp; try with_reducible rfl
          simp only [Act.put, List.getElem_toArray, List.getElem_cons_succ, List.getElem_cons_zero, List.setIfInBounds_toArray, List.set_cons_zero, List.set_cons_succ]
          refine wpAny_ready (rs := [8]) (by kernel_rfl) (by simp) ?_
          refine AllReady.cons rfl (fun K4 hK4 => ?_) (AllReady.nil)
          refine step_allocN hz rfl rfl ?_
          intro g13 W' n13 hnx hbx hnn
          try have hne : g12 ≠ g13 := Nat.ne_of_lt (hnn _ _ _ n12)
          try have n12 := hnx _ _ _ n12
          have hB := hbx _ _ hB (by have := x11.lt; omega)
          have hl13 : b0 ≤ g13 := by have h1 := hnn _ _ _ x11; omega
          have x11 := hnx _ _ _ x11
          clear hnx hbx hnn
          refine hK4 _ _ ?_
          simp only [Act.put, List.getElem_toArray, List.getElem_cons_succ, List.getElem_cons_zero, List.setIfInBounds_toArray, List.set_cons_zero, List.set_cons_succ]
          refine wpAny_ready (rs := [9]) (by kernel_rfl) (by simp) ?_
          refine AllReady.cons rfl (fun K5 hK5 => ?_) (AllReady.nil)
          refine step_stN n12 rfl (.tmp 12) (.tmp 36) rfl rfl _ _ rfl ?_
          have n13 := n13.row g12 (Ne.symm hne) (numC false (bitF (X / den)))
          have n12 := n12.put false (bitF (X / den))
          have hB := below_row hB (g := g12) hl12 (numC false (bitF (X / den)))
          refine hK5 _ _ ?_
          simp only [Act.put, List.getElem_toArray, List.getElem_cons_succ, List.getElem_cons_zero, List.setIfInBounds_toArray, List.set_cons_zero, List.set_cons_succ]
          refine wpAny_ready (rs := [10]) (by kernel_rfl) (by simp) ?_
          refine AllReady.cons rfl (fun K6 hK6 => ?_) (AllReady.nil)
          refine step_stN n13 rfl (.tmp 13) (.tmp 37) rfl rfl _ _ rfl ?_
          have n12 := n12.row g13 hne (numC false (bitF (X % den)))
          have n13 := n13.put false (bitF (X % den))
          have hB := below_row hB (g := g13) hl13 (numC false (bitF (X % den)))
          refine hK6 _ _ ?_
          simp only [Act.put, List.getElem_toArray, List.getElem_cons_succ, List.getElem_cons_zero, List.setIfInBounds_toArray, List.set_cons_zero, List.set_cons_succ]
          refine wpAny_done (by kernel_rfl) ?_ _
          clear x11
          go_wp2_with (first | (refine ld_num n12 rfl _ rfl rfl ?_))
          refine (HU1.out _).mono ?_
          rintro e wu ⟨rfl, hbu⟩
          have hB := belowN hB n12 hl12 hbu
          have n13 := n13.next hbu
          clear n12 hbu
          go_wp2_with (first | (refine ld_num n13 rfl _ rfl rfl ?_))
          refine (HU2.out _).mono ?_
          rintro e wv ⟨rfl, hbv⟩
          have hB := belowN hB n13 hl13 hbv
          clear n13 hbv
          cases is with
          | false =>
            go_wp2_with fail
            go_ret3
            exact ⟨by rw [HV.out]; rfl, by rw [Hb0.out]; exact hB⟩
          | true =>
            go_wp2_with fail
            go_ret3
            exact ⟨by rw [HV.out]; rfl, by rw [Hb0.out]; exact hB⟩
        · refine step_allocN hz rfl rfl ?_
          intro g13 W' n13 hnx hbx hnn
          try have hne : g12 ≠ g13 := Nat.ne_of_lt (hnn _ _ _ n12)
          try have n12 := hnx _ _ _ n12
          have hB := hbx _ _ hB (by have := x11.lt; omega)
          have hl13 : b0 ≤ g13 := by have h1 := hnn _ _ _ x11; omega
          have x11 := hnx _ _ _ x11
          clear hnx hbx hnn
          refine hK3 _ _ ?_
          simp only [Act.put, List.getElem_toArray, List.getElem_cons_succ, List.getElem_cons_zero, List.setIfInBounds_toArray, List.set_cons_zero, List.set_cons_succ]
          refine wpAny_ready (rs := [3]) (by kernel_rfl) (by simp) ?_
          refine AllReady.cons rfl (fun K4 hK4 => ?_) (AllReady.nil)
          refine step_callN rfl 45 #[.tmp 32, .tmp 34] _ rfl #[.agg (numC false (bitF X)), .agg (numC false (bitF den))] (by simp [Act.eval, Act.put]) (enters_of Try.func45 (by kernel_rfl) rfl) (HP.out _) ?_
          rintro e we ⟨rfl, hbe⟩
          refine ⟨_, rfl, ?_⟩
          have hB := belowN hB x11 hle hbe
          have x11 := x11.next hbe
          try have n12 := n12.next hbe
          try have n13 := n13.next hbe
          refine hK4 _ _ ?_
          simp only [Act.put, List.getElem_toArray, List.getElem_cons_succ, List.getElem_cons_zero, List.setIfInBounds_toArray, List.set_cons_zero, List.set_cons_succ]
          refine wpAny_take (i := 4) (v := ?_) rfl (by kernel_rfl) (by kernel_rfl) (by kernel_rfl) (fun _ _ _ h => h) (Or.inl ⟨by kernel_rfl, ?_⟩) ?_
          rotate_left
          · intro w'; go_simp; try with_reducible rfl
          simp only [Act.put, List.getElem_toArray, List.getElem_cons_succ, List.getElem_cons_zero, List.setIfInBounds_toArray, List.set_cons_zero, List.set_cons_succ]
          refine wpAny_take (i := 5) (v := ?_) rfl (by kernel_rfl) (by kernel_rfl) (by kernel_rfl) (fun _ _ _ h => h) (Or.inl ⟨by kernel_rfl, ?_⟩) ?_
          rotate_left
          · intro w'; go_simp; try with_reducible rfl
          simp only [Act.put, List.getElem_toArray, List.getElem_cons_succ, List.getElem_cons_zero, List.setIfInBounds_toArray, List.set_cons_zero, List.set_cons_succ]
          refine wpAny_take (i := 6) (v := ?_) rfl (by kernel_rfl) (by kernel_rfl) (by kernel_rfl) (fun _ _ _ h => h) (Or.inl ⟨by kernel_rfl, ?_⟩) ?_
          rotate_left
          · intro w'; go_simp; try with_reducible rfl
          simp only [Act.put, List.getElem_toArray, List.getElem_cons_succ, List.getElem_cons_zero, List.setIfInBounds_toArray, List.set_cons_zero, List.set_cons_succ]
          refine wpAny_ready (rs := [9]) (by kernel_rfl) (by simp) ?_
          refine AllReady.cons rfl (fun K5 hK5 => ?_) (AllReady.nil)
          refine step_stN n12 rfl (.tmp 12) (.tmp 36) rfl rfl _ _ rfl ?_
          have n13 := n13.row g12 (Ne.symm hne) (numC false (bitF (X / den)))
          have n12 := n12.put false (bitF (X / den))
          have hB := below_row hB (g := g12) hl12 (numC false (bitF (X / den)))
          refine hK5 _ _ ?_
          simp only [Act.put, List.getElem_toArray, List.getElem_cons_succ, List.getElem_cons_zero, List.setIfInBounds_toArray, List.set_cons_zero, List.set_cons_succ]
          refine wpAny_ready (rs := [10]) (by kernel_rfl) (by simp) ?_
          refine AllReady.cons rfl (fun K6 hK6 => ?_) (AllReady.nil)
          refine step_stN n13 rfl (.tmp 13) (.tmp 37) rfl rfl _ _ rfl ?_
          have n12 := n12.row g13 hne (numC false (bitF (X % den)))
          have n13 := n13.put false (bitF (X % den))
          have hB := below_row hB (g := g13) hl13 (numC false (bitF (X % den)))
          refine hK6 _ _ ?_
          simp only [Act.put, List.getElem_toArray, List.getElem_cons_succ, List.getElem_cons_zero, List.setIfInBounds_toArray, List.set_cons_zero, List.set_cons_succ]
          refine wpAny_done (by kernel_rfl) ?_ _
          clear x11
          go_wp2_with (first | (refine ld_num n12 rfl _ rfl rfl ?_))
          refine (HU1.out _).mono ?_
          rintro e wu ⟨rfl, hbu⟩
          have hB := belowN hB n12 hl12 hbu
          have n13 := n13.next hbu
          clear n12 hbu
          go_wp2_with (first | (refine ld_num n13 rfl _ rfl rfl ?_))
          refine (HU2.out _).mono ?_
          rintro e wv ⟨rfl, hbv⟩
          have hB := belowN hB n13 hl13 hbv
          clear n13 hbv
          cases is with
          | false =>
            go_wp2_with fail
            go_ret3
            exact ⟨by rw [HV.out]; rfl, by rw [Hb0.out]; exact hB⟩
          | true =>
            go_wp2_with fail
            go_ret3
            exact ⟨by rw [HV.out]; rfl, by rw [Hb0.out]; exact hB⟩
      · refine step_allocN hz rfl rfl ?_
        intro g13 W' n13 hnx hbx hnn
        try have hne : g12 ≠ g13 := Nat.ne_of_lt (hnn _ _ _ n12)
        try have n12 := hnx _ _ _ n12
        have hB := hbx _ _ hB (by have := x11.lt; omega)
        have hl13 : b0 ≤ g13 := by have h1 := hnn _ _ _ x11; omega
        have x11 := hnx _ _ _ x11
        clear hnx hbx hnn
        refine hK2 _ _ ?_
        simp only [Act.put, List.getElem_toArray, List.getElem_cons_succ, List.getElem_cons_zero, List.setIfInBounds_toArray, List.set_cons_zero, List.set_cons_succ]
        refine wpAny_ready (rs := [0]) (by kernel_rfl) (by simp) ?_
        refine AllReady.cons rfl (fun K3 hK3 => ?_) (AllReady.nil)
        refine step_ldN x11 rfl (.tmp 11) rfl rfl ?_
        refine hK3 _ _ ?_
        simp only [Act.put, List.getElem_toArray, List.getElem_cons_succ, List.getElem_cons_zero, List.setIfInBounds_toArray, List.set_cons_zero, List.set_cons_succ]
        refine wpAny_ready (rs := [3]) (by kernel_rfl) (by simp) ?_
        refine AllReady.cons rfl (fun K4 hK4 => ?_) (AllReady.nil)
        refine step_callN rfl 45 #[.tmp 32, .tmp 34] _ rfl #[.agg (numC false (bitF X)), .agg (numC false (bitF den))] (by simp [Act.eval, Act.put]) (enters_of Try.func45 (by kernel_rfl) rfl) (HP.out _) ?_
        rintro e we ⟨rfl, hbe⟩
        refine ⟨_, rfl, ?_⟩
        have hB := belowN hB x11 hle hbe
        have x11 := x11.next hbe
        try have n12 := n12.next hbe
        try have n13 := n13.next hbe
        refine hK4 _ _ ?_
        simp only [Act.put, List.getElem_toArray, List.getElem_cons_succ, List.getElem_cons_zero, List.setIfInBounds_toArray, List.set_cons_zero, List.set_cons_succ]
        refine wpAny_take (i := 4) (v := ?_) rfl (by kernel_rfl) (by kernel_rfl) (by kernel_rfl) (fun _ _ _ h => h) (Or.inl ⟨by kernel_rfl, ?_⟩) ?_
        rotate_left
        · intro w'; go_simp; try with_reducible rfl
        simp only [Act.put, List.getElem_toArray, List.getElem_cons_succ, List.getElem_cons_zero, List.setIfInBounds_toArray, List.set_cons_zero, List.set_cons_succ]
        refine wpAny_take (i := 5) (v := ?_) rfl (by kernel_rfl) (by kernel_rfl) (by kernel_rfl) (fun _ _ _ h => h) (Or.inl ⟨by kernel_rfl, ?_⟩) ?_
        rotate_left
        · intro w'; go_simp; try with_reducible rfl
        simp only [Act.put, List.getElem_toArray, List.getElem_cons_succ, List.getElem_cons_zero, List.setIfInBounds_toArray, List.set_cons_zero, List.set_cons_succ]
        refine wpAny_take (i := 6) (v := ?_) rfl (by kernel_rfl) (by kernel_rfl) (by kernel_rfl) (fun _ _ _ h => h) (Or.inl ⟨by kernel_rfl, ?_⟩) ?_
        rotate_left
        · intro w'; go_simp; try with_reducible rfl
        simp only [Act.put, List.getElem_toArray, List.getElem_cons_succ, List.getElem_cons_zero, List.setIfInBounds_toArray, List.set_cons_zero, List.set_cons_succ]
        refine wpAny_ready (rs := [9]) (by kernel_rfl) (by simp) ?_
        refine AllReady.cons rfl (fun K5 hK5 => ?_) (AllReady.nil)
        refine step_stN n12 rfl (.tmp 12) (.tmp 36) rfl rfl _ _ rfl ?_
        have n13 := n13.row g12 (Ne.symm hne) (numC false (bitF (X / den)))
        have n12 := n12.put false (bitF (X / den))
        have hB := below_row hB (g := g12) hl12 (numC false (bitF (X / den)))
        refine hK5 _ _ ?_
        simp only [Act.put, List.getElem_toArray, List.getElem_cons_succ, List.getElem_cons_zero, List.setIfInBounds_toArray, List.set_cons_zero, List.set_cons_succ]
        refine wpAny_ready (rs := [10]) (by kernel_rfl) (by simp) ?_
        refine AllReady.cons rfl (fun K6 hK6 => ?_) (AllReady.nil)
        refine step_stN n13 rfl (.tmp 13) (.tmp 37) rfl rfl _ _ rfl ?_
        have n12 := n12.row g13 hne (numC false (bitF (X % den)))
        have n13 := n13.put false (bitF (X % den))
        have hB := below_row hB (g := g13) hl13 (numC false (bitF (X % den)))
        refine hK6 _ _ ?_
        simp only [Act.put, List.getElem_toArray, List.getElem_cons_succ, List.getElem_cons_zero, List.setIfInBounds_toArray, List.set_cons_zero, List.set_cons_succ]
        refine wpAny_done (by kernel_rfl) ?_ _
        clear x11
        go_wp2_with (first | (refine ld_num n12 rfl _ rfl rfl ?_))
        refine (HU1.out _).mono ?_
        rintro e wu ⟨rfl, hbu⟩
        have hB := belowN hB n12 hl12 hbu
        have n13 := n13.next hbu
        clear n12 hbu
        go_wp2_with (first | (refine ld_num n13 rfl _ rfl rfl ?_))
        refine (HU2.out _).mono ?_
        rintro e wv ⟨rfl, hbv⟩
        have hB := belowN hB n13 hl13 hbv
        clear n13 hbv
        cases is with
        | false =>
          go_wp2_with fail
          go_ret3
          exact ⟨by rw [HV.out]; rfl, by rw [Hb0.out]; exact hB⟩
        | true =>
          go_wp2_with fail
          go_ret3
          exact ⟨by rw [HV.out]; rfl, by rw [Hb0.out]; exact hB⟩
    · refine step_allocN hz rfl rfl ?_
      intro g13 W' n13 hnx hbx hnn
      try have hne : g12 ≠ g13 := Nat.ne_of_lt (hnn _ _ _ n12)
      try have n12 := hnx _ _ _ n12
      have hB := hbx _ _ hB (by have := x11.lt; omega)
      have hl13 : b0 ≤ g13 := by have h1 := hnn _ _ _ x11; omega
      have x11 := hnx _ _ _ x11
      clear hnx hbx hnn
      refine hK1 _ _ ?_
      simp only [Act.put, List.getElem_toArray, List.getElem_cons_succ, List.getElem_cons_zero, List.setIfInBounds_toArray, List.set_cons_zero, List.set_cons_succ]
      refine wpAny_ready (rs := [0, 2]) (by kernel_rfl) (by simp) ?_
      refine AllReady.cons rfl (fun K2 hK2 => ?_) (AllReady.cons rfl (fun K2 hK2 => ?_) (AllReady.nil))
      · refine step_ldN x11 rfl (.tmp 11) rfl rfl ?_
        refine hK2 _ _ ?_
        simp only [Act.put, List.getElem_toArray, List.getElem_cons_succ, List.getElem_cons_zero, List.setIfInBounds_toArray, List.set_cons_zero, List.set_cons_succ]
        refine wpAny_ready (rs := [2]) (by kernel_rfl) (by simp) ?_
        refine AllReady.cons rfl (fun K3 hK3 => ?_) (AllReady.nil)
        refine step_callN rfl 44 #[.tmp 33] _ rfl #[.int .u64 (den : Int)] (by simp [Act.eval, Act.put]) (enters_of Try.func44 (by kernel_rfl) rfl) (num_of den hden _) ?_
        rintro e wd ⟨rfl, hbd⟩
        refine ⟨_, rfl, ?_⟩
        have hB := belowN hB x11 hle hbd
        have x11 := x11.next hbd
        try have n12 := n12.next hbd
        try have n13 := n13.next hbd
        refine hK3 _ _ ?_
        simp only [Act.put, List.getElem_toArray, List.getElem_cons_succ, List.getElem_cons_zero, List.setIfInBounds_toArray, List.set_cons_zero, List.set_cons_succ]
        refine wpAny_ready (rs := [3]) (by kernel_rfl) (by simp) ?_
        refine AllReady.cons rfl (fun K4 hK4 => ?_) (AllReady.nil)
        refine step_callN rfl 45 #[.tmp 32, .tmp 34] _ rfl #[.agg (numC false (bitF X)), .agg (numC false (bitF den))] (by simp [Act.eval, Act.put]) (enters_of Try.func45 (by kernel_rfl) rfl) (HP.out _) ?_
        rintro e we ⟨rfl, hbe⟩
        refine ⟨_, rfl, ?_⟩
        have hB := belowN hB x11 hle hbe
        have x11 := x11.next hbe
        try have n12 := n12.next hbe
        try have n13 := n13.next hbe
        refine hK4 _ _ ?_
        simp only [Act.put, List.getElem_toArray, List.getElem_cons_succ, List.getElem_cons_zero, List.setIfInBounds_toArray, List.set_cons_zero, List.set_cons_succ]
        refine wpAny_take (i := 4) (v := ?_) rfl (by kernel_rfl) (by kernel_rfl) (by kernel_rfl) (fun _ _ _ h => h) (Or.inl ⟨by kernel_rfl, ?_⟩) ?_
        rotate_left
        · intro w'; go_simp; try with_reducible rfl
        simp only [Act.put, List.getElem_toArray, List.getElem_cons_succ, List.getElem_cons_zero, List.setIfInBounds_toArray, List.set_cons_zero, List.set_cons_succ]
        refine wpAny_take (i := 5) (v := ?_) rfl (by kernel_rfl) (by kernel_rfl) (by kernel_rfl) (fun _ _ _ h => h) (Or.inl ⟨by kernel_rfl, ?_⟩) ?_
        rotate_left
        · intro w'; go_simp; try with_reducible rfl
        simp only [Act.put, List.getElem_toArray, List.getElem_cons_succ, List.getElem_cons_zero, List.setIfInBounds_toArray, List.set_cons_zero, List.set_cons_succ]
        refine wpAny_take (i := 6) (v := ?_) rfl (by kernel_rfl) (by kernel_rfl) (by kernel_rfl) (fun _ _ _ h => h) (Or.inl ⟨by kernel_rfl, ?_⟩) ?_
        rotate_left
        · intro w'; go_simp; try with_reducible rfl
        simp only [Act.put, List.getElem_toArray, List.getElem_cons_succ, List.getElem_cons_zero, List.setIfInBounds_toArray, List.set_cons_zero, List.set_cons_succ]
        refine wpAny_ready (rs := [9]) (by kernel_rfl) (by simp) ?_
        refine AllReady.cons rfl (fun K5 hK5 => ?_) (AllReady.nil)
        refine step_stN n12 rfl (.tmp 12) (.tmp 36) rfl rfl _ _ rfl ?_
        have n13 := n13.row g12 (Ne.symm hne) (numC false (bitF (X / den)))
        have n12 := n12.put false (bitF (X / den))
        have hB := below_row hB (g := g12) hl12 (numC false (bitF (X / den)))
        refine hK5 _ _ ?_
        simp only [Act.put, List.getElem_toArray, List.getElem_cons_succ, List.getElem_cons_zero, List.setIfInBounds_toArray, List.set_cons_zero, List.set_cons_succ]
        refine wpAny_ready (rs := [10]) (by kernel_rfl) (by simp) ?_
        refine AllReady.cons rfl (fun K6 hK6 => ?_) (AllReady.nil)
        refine step_stN n13 rfl (.tmp 13) (.tmp 37) rfl rfl _ _ rfl ?_
        have n12 := n12.row g13 hne (numC false (bitF (X % den)))
        have n13 := n13.put false (bitF (X % den))
        have hB := below_row hB (g := g13) hl13 (numC false (bitF (X % den)))
        refine hK6 _ _ ?_
        simp only [Act.put, List.getElem_toArray, List.getElem_cons_succ, List.getElem_cons_zero, List.setIfInBounds_toArray, List.set_cons_zero, List.set_cons_succ]
        refine wpAny_done (by kernel_rfl) ?_ _
        clear x11
        go_wp2_with (first | (refine ld_num n12 rfl _ rfl rfl ?_))
        refine (HU1.out _).mono ?_
        rintro e wu ⟨rfl, hbu⟩
        have hB := belowN hB n12 hl12 hbu
        have n13 := n13.next hbu
        clear n12 hbu
        go_wp2_with (first | (refine ld_num n13 rfl _ rfl rfl ?_))
        refine (HU2.out _).mono ?_
        rintro e wv ⟨rfl, hbv⟩
        have hB := belowN hB n13 hl13 hbv
        clear n13 hbv
        cases is with
        | false =>
          go_wp2_with fail
          go_ret3
          exact ⟨by rw [HV.out]; rfl, by rw [Hb0.out]; exact hB⟩
        | true =>
          go_wp2_with fail
          go_ret3
          exact ⟨by rw [HV.out]; rfl, by rw [Hb0.out]; exact hB⟩
      · refine step_callN rfl 44 #[.tmp 33] _ rfl #[.int .u64 (den : Int)] (by simp [Act.eval, Act.put]) (enters_of Try.func44 (by kernel_rfl) rfl) (num_of den hden _) ?_
        rintro e wd ⟨rfl, hbd⟩
        refine ⟨_, rfl, ?_⟩
        have hB := belowN hB x11 hle hbd
        have x11 := x11.next hbd
        try have n12 := n12.next hbd
        try have n13 := n13.next hbd
        refine hK2 _ _ ?_
        simp only [Act.put, List.getElem_toArray, List.getElem_cons_succ, List.getElem_cons_zero, List.setIfInBounds_toArray, List.set_cons_zero, List.set_cons_succ]
        refine wpAny_ready (rs := [0]) (by kernel_rfl) (by simp) ?_
        refine AllReady.cons rfl (fun K3 hK3 => ?_) (AllReady.nil)
        refine step_ldN x11 rfl (.tmp 11) rfl rfl ?_
        refine hK3 _ _ ?_
        simp only [Act.put, List.getElem_toArray, List.getElem_cons_succ, List.getElem_cons_zero, List.setIfInBounds_toArray, List.set_cons_zero, List.set_cons_succ]
        refine wpAny_ready (rs := [3]) (by kernel_rfl) (by simp) ?_
        refine AllReady.cons rfl (fun K4 hK4 => ?_) (AllReady.nil)
        refine step_callN rfl 45 #[.tmp 32, .tmp 34] _ rfl #[.agg (numC false (bitF X)), .agg (numC false (bitF den))] (by simp [Act.eval, Act.put]) (enters_of Try.func45 (by kernel_rfl) rfl) (HP.out _) ?_
        rintro e we ⟨rfl, hbe⟩
        refine ⟨_, rfl, ?_⟩
        have hB := belowN hB x11 hle hbe
        have x11 := x11.next hbe
        try have n12 := n12.next hbe
        try have n13 := n13.next hbe
        refine hK4 _ _ ?_
        simp only [Act.put, List.getElem_toArray, List.getElem_cons_succ, List.getElem_cons_zero, List.setIfInBounds_toArray, List.set_cons_zero, List.set_cons_succ]
        refine wpAny_take (i := 4) (v := ?_) rfl (by kernel_rfl) (by kernel_rfl) (by kernel_rfl) (fun _ _ _ h => h) (Or.inl ⟨by kernel_rfl, ?_⟩) ?_
        rotate_left
        · intro w'; go_simp; try with_reducible rfl
        simp only [Act.put, List.getElem_toArray, List.getElem_cons_succ, List.getElem_cons_zero, List.setIfInBounds_toArray, List.set_cons_zero, List.set_cons_succ]
        refine wpAny_take (i := 5) (v := ?_) rfl (by kernel_rfl) (by kernel_rfl) (by kernel_rfl) (fun _ _ _ h => h) (Or.inl ⟨by kernel_rfl, ?_⟩) ?_
        rotate_left
        · intro w'; go_simp; try with_reducible rfl
        simp only [Act.put, List.getElem_toArray, List.getElem_cons_succ, List.getElem_cons_zero, List.setIfInBounds_toArray, List.set_cons_zero, List.set_cons_succ]
        refine wpAny_take (i := 6) (v := ?_) rfl (by kernel_rfl) (by kernel_rfl) (by kernel_rfl) (fun _ _ _ h => h) (Or.inl ⟨by kernel_rfl, ?_⟩) ?_
        rotate_left
        · intro w'; go_simp; try with_reducible rfl
        simp only [Act.put, List.getElem_toArray, List.getElem_cons_succ, List.getElem_cons_zero, List.setIfInBounds_toArray, List.set_cons_zero, List.set_cons_succ]
        refine wpAny_ready (rs := [9]) (by kernel_rfl) (by simp) ?_
        refine AllReady.cons rfl (fun K5 hK5 => ?_) (AllReady.nil)
        refine step_stN n12 rfl (.tmp 12) (.tmp 36) rfl rfl _ _ rfl ?_
        have n13 := n13.row g12 (Ne.symm hne) (numC false (bitF (X / den)))
        have n12 := n12.put false (bitF (X / den))
        have hB := below_row hB (g := g12) hl12 (numC false (bitF (X / den)))
        refine hK5 _ _ ?_
        simp only [Act.put, List.getElem_toArray, List.getElem_cons_succ, List.getElem_cons_zero, List.setIfInBounds_toArray, List.set_cons_zero, List.set_cons_succ]
        refine wpAny_ready (rs := [10]) (by kernel_rfl) (by simp) ?_
        refine AllReady.cons rfl (fun K6 hK6 => ?_) (AllReady.nil)
        refine step_stN n13 rfl (.tmp 13) (.tmp 37) rfl rfl _ _ rfl ?_
        have n12 := n12.row g13 hne (numC false (bitF (X % den)))
        have n13 := n13.put false (bitF (X % den))
        have hB := below_row hB (g := g13) hl13 (numC false (bitF (X % den)))
        refine hK6 _ _ ?_
        simp only [Act.put, List.getElem_toArray, List.getElem_cons_succ, List.getElem_cons_zero, List.setIfInBounds_toArray, List.set_cons_zero, List.set_cons_succ]
        refine wpAny_done (by kernel_rfl) ?_ _
        clear x11
        go_wp2_with (first | (refine ld_num n12 rfl _ rfl rfl ?_))
        refine (HU1.out _).mono ?_
        rintro e wu ⟨rfl, hbu⟩
        have hB := belowN hB n12 hl12 hbu
        have n13 := n13.next hbu
        clear n12 hbu
        go_wp2_with (first | (refine ld_num n13 rfl _ rfl rfl ?_))
        refine (HU2.out _).mono ?_
        rintro e wv ⟨rfl, hbv⟩
        have hB := belowN hB n13 hl13 hbv
        clear n13 hbv
        cases is with
        | false =>
          go_wp2_with fail
          go_ret3
          exact ⟨by rw [HV.out]; rfl, by rw [Hb0.out]; exact hB⟩
        | true =>
          go_wp2_with fail
          go_ret3
          exact ⟨by rw [HV.out]; rfl, by rw [Hb0.out]; exact hB⟩
  · refine step_allocN hz rfl rfl ?_
    intro g13 W' n13 hnx hbx hnn
    try have hne : g12 ≠ g13 := Nat.ne_of_lt (hnn _ _ _ n12)
    try have n12 := hnx _ _ _ n12
    have hB := hbx _ _ hB (by have := x11.lt; omega)
    have hl13 : b0 ≤ g13 := by have h1 := hnn _ _ _ x11; omega
    have x11 := hnx _ _ _ x11
    clear hnx hbx hnn
    refine hK0 _ _ ?_
    simp only [Act.put, List.getElem_toArray, List.getElem_cons_succ, List.getElem_cons_zero, List.setIfInBounds_toArray, List.set_cons_zero, List.set_cons_succ]
    refine wpAny_ready (rs := [0, 2, 7]) (by kernel_rfl) (by simp) ?_
    refine AllReady.cons rfl (fun K1 hK1 => ?_) (AllReady.cons rfl (fun K1 hK1 => ?_) (AllReady.cons rfl (fun K1 hK1 => ?_) (AllReady.nil)))
    · refine step_ldN x11 rfl (.tmp 11) rfl rfl ?_
      refine hK1 _ _ ?_
      simp only [Act.put, List.getElem_toArray, List.getElem_cons_succ, List.getElem_cons_zero, List.setIfInBounds_toArray, List.set_cons_zero, List.set_cons_succ]
      refine wpAny_ready (rs := [2, 7]) (by kernel_rfl) (by simp) ?_
      refine AllReady.cons rfl (fun K2 hK2 => ?_) (AllReady.cons rfl (fun K2 hK2 => ?_) (AllReady.nil))
      · refine step_callN rfl 44 #[.tmp 33] _ rfl #[.int .u64 (den : Int)] (by simp [Act.eval, Act.put]) (enters_of Try.func44 (by kernel_rfl) rfl) (num_of den hden _) ?_
        rintro e wd ⟨rfl, hbd⟩
        refine ⟨_, rfl, ?_⟩
        have hB := belowN hB x11 hle hbd
        have x11 := x11.next hbd
        try have n12 := n12.next hbd
        try have n13 := n13.next hbd
        refine hK2 _ _ ?_
        simp only [Act.put, List.getElem_toArray, List.getElem_cons_succ, List.getElem_cons_zero, List.setIfInBounds_toArray, List.set_cons_zero, List.set_cons_succ]
        refine wpAny_ready (rs := [3, 7]) (by kernel_rfl) (by simp) ?_
        refine AllReady.cons rfl (fun K3 hK3 => ?_) (AllReady.cons rfl (fun K3 hK3 => ?_) (AllReady.nil))
        · refine step_callN rfl 45 #[.tmp 32, .tmp 34] _ rfl #[.agg (numC false (bitF X)), .agg (numC false (bitF den))] (by simp [Act.eval, Act.put]) (enters_of Try.func45 (by kernel_rfl) rfl) (HP.out _) ?_
          rintro e we ⟨rfl, hbe⟩
          refine ⟨_, rfl, ?_⟩
          have hB := belowN hB x11 hle hbe
          have x11 := x11.next hbe
          try have n12 := n12.next hbe
          try have n13 := n13.next hbe
          refine hK3 _ _ ?_
          simp only [Act.put, List.getElem_toArray, List.getElem_cons_succ, List.getElem_cons_zero, List.setIfInBounds_toArray, List.set_cons_zero, List.set_cons_succ]
          refine wpAny_take (i := 4) (v := ?_) rfl (by kernel_rfl) (by kernel_rfl) (by kernel_rfl) (fun _ _ _ h => h) (Or.inl ⟨by kernel_rfl, ?_⟩) ?_
          rotate_left
          · intro w'; go_simp; try with_reducible rfl
          simp only [Act.put, List.getElem_toArray, List.getElem_cons_succ, List.getElem_cons_zero, List.setIfInBounds_toArray, List.set_cons_zero, List.set_cons_succ]
          refine wpAny_take (i := 5) (v := ?_) rfl (by kernel_rfl) (by kernel_rfl) (by kernel_rfl) (fun _ _ _ h => h) (Or.inl ⟨by kernel_rfl, ?_⟩) ?_
          rotate_left
          · intro w'; go_simp; try with_reducible rfl
          simp only [Act.put, List.getElem_toArray, List.getElem_cons_succ, List.getElem_cons_zero, List.setIfInBounds_toArray, List.set_cons_zero, List.set_cons_succ]
          refine wpAny_take (i := 6) (v := ?_) rfl (by kernel_rfl) (by kernel_rfl) (by kernel_rfl) (fun _ _ _ h => h) (Or.inl ⟨by kernel_rfl, ?_⟩) ?_
          rotate_left
          · intro w'; go_simp; try with_reducible rfl
          simp only [Act.put, List.getElem_toArray, List.getElem_cons_succ, List.getElem_cons_zero, List.setIfInBounds_toArray, List.set_cons_zero, List.set_cons_succ]
          refine wpAny_ready (rs := [7]) (by kernel_rfl) (by simp) ?_
          refine AllReady.cons rfl (fun K4 hK4 => ?_) (AllReady.nil)
          refine step_allocN hz rfl rfl ?_
          intro g12 W' n12 hnx hbx hnn
          try have hne : g12 ≠ g13 := Nat.ne_of_gt (hnn _ _ _ n13)
          try have n13 := hnx _ _ _ n13
          have hB := hbx _ _ hB (by have := x11.lt; omega)
          have hl12 : b0 ≤ g12 := by have h1 := hnn _ _ _ x11; omega
          have x11 := hnx _ _ _ x11
          clear hnx hbx hnn
          refine hK4 _ _ ?_
          simp only [Act.put, List.getElem_toArray, List.getElem_cons_succ, List.getElem_cons_zero, List.setIfInBounds_toArray, List.set_cons_zero, List.set_cons_succ]
          refine wpAny_ready (rs := [9]) (by kernel_rfl) (by simp) ?_
          refine AllReady.cons rfl (fun K5 hK5 => ?_) (AllReady.nil)
          refine step_stN n12 rfl (.tmp 12) (.tmp 36) rfl rfl _ _ rfl ?_
          have n13 := n13.row g12 (Ne.symm hne) (numC false (bitF (X / den)))
          have n12 := n12.put false (bitF (X / den))
          have hB := below_row hB (g := g12) hl12 (numC false (bitF (X / den)))
          refine hK5 _ _ ?_
          simp only [Act.put, List.getElem_toArray, List.getElem_cons_succ, List.getElem_cons_zero, List.setIfInBounds_toArray, List.set_cons_zero, List.set_cons_succ]
          refine wpAny_ready (rs := [10]) (by kernel_rfl) (by simp) ?_
          refine AllReady.cons rfl (fun K6 hK6 => ?_) (AllReady.nil)
          refine step_stN n13 rfl (.tmp 13) (.tmp 37) rfl rfl _ _ rfl ?_
          have n12 := n12.row g13 hne (numC false (bitF (X % den)))
          have n13 := n13.put false (bitF (X % den))
          have hB := below_row hB (g := g13) hl13 (numC false (bitF (X % den)))
          refine hK6 _ _ ?_
          simp only [Act.put, List.getElem_toArray, List.getElem_cons_succ, List.getElem_cons_zero, List.setIfInBounds_toArray, List.set_cons_zero, List.set_cons_succ]
          refine wpAny_done (by kernel_rfl) ?_ _
          clear x11
          go_wp2_with (first | (refine ld_num n12 rfl _ rfl rfl ?_))
          refine (HU1.out _).mono ?_
          rintro e wu ⟨rfl, hbu⟩
          have hB := belowN hB n12 hl12 hbu
          have n13 := n13.next hbu
          clear n12 hbu
          go_wp2_with (first | (refine ld_num n13 rfl _ rfl rfl ?_))
          refine (HU2.out _).mono ?_
          rintro e wv ⟨rfl, hbv⟩
          have hB := belowN hB n13 hl13 hbv
          clear n13 hbv
          cases is with
          | false =>
            go_wp2_with fail
            go_ret3
            exact ⟨by rw [HV.out]; rfl, by rw [Hb0.out]; exact hB⟩
          | true =>
            go_wp2_with fail
            go_ret3
            exact ⟨by rw [HV.out]; rfl, by rw [Hb0.out]; exact hB⟩
        · refine step_allocN hz rfl rfl ?_
          intro g12 W' n12 hnx hbx hnn
          try have hne : g12 ≠ g13 := Nat.ne_of_gt (hnn _ _ _ n13)
          try have n13 := hnx _ _ _ n13
          have hB := hbx _ _ hB (by have := x11.lt; omega)
          have hl12 : b0 ≤ g12 := by have h1 := hnn _ _ _ x11; omega
          have x11 := hnx _ _ _ x11
          clear hnx hbx hnn
          refine hK3 _ _ ?_
          simp only [Act.put, List.getElem_toArray, List.getElem_cons_succ, List.getElem_cons_zero, List.setIfInBounds_toArray, List.set_cons_zero, List.set_cons_succ]
          refine wpAny_ready (rs := [3]) (by kernel_rfl) (by simp) ?_
          refine AllReady.cons rfl (fun K4 hK4 => ?_) (AllReady.nil)
          refine step_callN rfl 45 #[.tmp 32, .tmp 34] _ rfl #[.agg (numC false (bitF X)), .agg (numC false (bitF den))] (by simp [Act.eval, Act.put]) (enters_of Try.func45 (by kernel_rfl) rfl) (HP.out _) ?_
          rintro e we ⟨rfl, hbe⟩
          refine ⟨_, rfl, ?_⟩
          have hB := belowN hB x11 hle hbe
          have x11 := x11.next hbe
          try have n12 := n12.next hbe
          try have n13 := n13.next hbe
          refine hK4 _ _ ?_
          simp only [Act.put, List.getElem_toArray, List.getElem_cons_succ, List.getElem_cons_zero, List.setIfInBounds_toArray, List.set_cons_zero, List.set_cons_succ]
          refine wpAny_take (i := 4) (v := ?_) rfl (by kernel_rfl) (by kernel_rfl) (by kernel_rfl) (fun _ _ _ h => h) (Or.inl ⟨by kernel_rfl, ?_⟩) ?_
          rotate_left
          · intro w'; go_simp; try with_reducible rfl
          simp only [Act.put, List.getElem_toArray, List.getElem_cons_succ, List.getElem_cons_zero, List.setIfInBounds_toArray, List.set_cons_zero, List.set_cons_succ]
          refine wpAny_take (i := 5) (v := ?_) rfl (by kernel_rfl) (by kernel_rfl) (by kernel_rfl) (fun _ _ _ h => h) (Or.inl ⟨by kernel_rfl, ?_⟩) ?_
          rotate_left
          · intro w'; go_simp; try with_reducible rfl
          simp only [Act.put, List.getElem_toArray, List.getElem_cons_succ, List.getElem_cons_zero, List.setIfInBounds_toArray, List.set_cons_zero, List.set_cons_succ]
          refine wpAny_take (i := 6) (v := ?_) rfl (by kernel_rfl) (by kernel_rfl) (by kernel_rfl) (fun _ _ _ h => h) (Or.inl ⟨by kernel_rfl, ?_⟩) ?_
          rotate_left
          · intro w'; go_simp; try with_reducible rfl
          simp only [Act.put, List.getElem_toArray, List.getElem_cons_succ, List.getElem_cons_zero, List.setIfInBounds_toArray, List.set_cons_zero, List.set_cons_succ]
          refine wpAny_ready (rs := [9]) (by kernel_rfl) (by simp) ?_
          refine AllReady.cons rfl (fun K5 hK5 => ?_) (AllReady.nil)
          refine step_stN n12 rfl (.tmp 12) (.tmp 36) rfl rfl _ _ rfl ?_
          have n13 := n13.row g12 (Ne.symm hne) (numC false (bitF (X / den)))
          have n12 := n12.put false (bitF (X / den))
          have hB := below_row hB (g := g12) hl12 (numC false (bitF (X / den)))
          refine hK5 _ _ ?_
          simp only [Act.put, List.getElem_toArray, List.getElem_cons_succ, List.getElem_cons_zero, List.setIfInBounds_toArray, List.set_cons_zero, List.set_cons_succ]
          refine wpAny_ready (rs := [10]) (by kernel_rfl) (by simp) ?_
          refine AllReady.cons rfl (fun K6 hK6 => ?_) (AllReady.nil)
          refine step_stN n13 rfl (.tmp 13) (.tmp 37) rfl rfl _ _ rfl ?_
          have n12 := n12.row g13 hne (numC false (bitF (X % den)))
          have n13 := n13.put false (bitF (X % den))
          have hB := below_row hB (g := g13) hl13 (numC false (bitF (X % den)))
          refine hK6 _ _ ?_
          simp only [Act.put, List.getElem_toArray, List.getElem_cons_succ, List.getElem_cons_zero, List.setIfInBounds_toArray, List.set_cons_zero, List.set_cons_succ]
          refine wpAny_done (by kernel_rfl) ?_ _
          clear x11
          go_wp2_with (first | (refine ld_num n12 rfl _ rfl rfl ?_))
          refine (HU1.out _).mono ?_
          rintro e wu ⟨rfl, hbu⟩
          have hB := belowN hB n12 hl12 hbu
          have n13 := n13.next hbu
          clear n12 hbu
          go_wp2_with (first | (refine ld_num n13 rfl _ rfl rfl ?_))
          refine (HU2.out _).mono ?_
          rintro e wv ⟨rfl, hbv⟩
          have hB := belowN hB n13 hl13 hbv
          clear n13 hbv
          cases is with
          | false =>
            go_wp2_with fail
            go_ret3
            exact ⟨by rw [HV.out]; rfl, by rw [Hb0.out]; exact hB⟩
          | true =>
            go_wp2_with fail
            go_ret3
            exact ⟨by rw [HV.out]; rfl, by rw [Hb0.out]; exact hB⟩
      · refine step_allocN hz rfl rfl ?_
        intro g12 W' n12 hnx hbx hnn
        try have hne : g12 ≠ g13 := Nat.ne_of_gt (hnn _ _ _ n13)
        try have n13 := hnx _ _ _ n13
        have hB := hbx _ _ hB (by have := x11.lt; omega)
        have hl12 : b0 ≤ g12 := by have h1 := hnn _ _ _ x11; omega
        have x11 := hnx _ _ _ x11
        clear hnx hbx hnn
        refine hK2 _ _ ?_
        simp only [Act.put, List.getElem_toArray, List.getElem_cons_succ, List.getElem_cons_zero, List.setIfInBounds_toArray, List.set_cons_zero, List.set_cons_succ]
        refine wpAny_ready (rs := [2]) (by kernel_rfl) (by simp) ?_
        refine AllReady.cons rfl (fun K3 hK3 => ?_) (AllReady.nil)
        refine step_callN rfl 44 #[.tmp 33] _ rfl #[.int .u64 (den : Int)] (by simp [Act.eval, Act.put]) (enters_of Try.func44 (by kernel_rfl) rfl) (num_of den hden _) ?_
        rintro e wd ⟨rfl, hbd⟩
        refine ⟨_, rfl, ?_⟩
        have hB := belowN hB x11 hle hbd
        have x11 := x11.next hbd
        try have n12 := n12.next hbd
        try have n13 := n13.next hbd
        refine hK3 _ _ ?_
        simp only [Act.put, List.getElem_toArray, List.getElem_cons_succ, List.getElem_cons_zero, List.setIfInBounds_toArray, List.set_cons_zero, List.set_cons_succ]
        refine wpAny_ready (rs := [3]) (by kernel_rfl) (by simp) ?_
        refine AllReady.cons rfl (fun K4 hK4 => ?_) (AllReady.nil)
        refine step_callN rfl 45 #[.tmp 32, .tmp 34] _ rfl #[.agg (numC false (bitF X)), .agg (numC false (bitF den))] (by simp [Act.eval, Act.put]) (enters_of Try.func45 (by kernel_rfl) rfl) (HP.out _) ?_
        rintro e we ⟨rfl, hbe⟩
        refine ⟨_, rfl, ?_⟩
        have hB := belowN hB x11 hle hbe
        have x11 := x11.next hbe
        try have n12 := n12.next hbe
        try have n13 := n13.next hbe
        refine hK4 _ _ ?_
        simp only [Act.put, List.getElem_toArray, List.getElem_cons_succ, List.getElem_cons_zero, List.setIfInBounds_toArray, List.set_cons_zero, List.set_cons_succ]
        refine wpAny_take (i := 4) (v := ?_) rfl (by kernel_rfl) (by kernel_rfl) (by kernel_rfl) (fun _ _ _ h => h) (Or.inl ⟨by kernel_rfl, ?_⟩) ?_
        rotate_left
        · intro w'; go_simp; try with_reducible rfl
        simp only [Act.put, List.getElem_toArray, List.getElem_cons_succ, List.getElem_cons_zero, List.setIfInBounds_toArray, List.set_cons_zero, List.set_cons_succ]
        refine wpAny_take (i := 5) (v := ?_) rfl (by kernel_rfl) (by kernel_rfl) (by kernel_rfl) (fun _ _ _ h => h) (Or.inl ⟨by kernel_rfl, ?_⟩) ?_
        rotate_left
        · intro w'; go_simp; try with_reducible rfl
        simp only [Act.put, List.getElem_toArray, List.getElem_cons_succ, List.getElem_cons_zero, List.setIfInBounds_toArray, List.set_cons_zero, List.set_cons_succ]
        refine wpAny_take (i := 6) (v := ?_) rfl (by kernel_rfl) (by kernel_rfl) (by kernel_rfl) (fun _ _ _ h => h) (Or.inl ⟨by kernel_rfl, ?_⟩) ?_
        rotate_left
        · intro w'; go_simp; try with_reducible rfl
        simp only [Act.put, List.getElem_toArray, List.getElem_cons_succ, List.getElem_cons_zero, List.setIfInBounds_toArray, List.set_cons_zero, List.set_cons_succ]
        refine wpAny_ready (rs := [9]) (by kernel_rfl) (by simp) ?_
        refine AllReady.cons rfl (fun K5 hK5 => ?_) (AllReady.nil)
        refine step_stN n12 rfl (.tmp 12) (.tmp 36) rfl rfl _ _ rfl ?_
        have n13 := n13.row g12 (Ne.symm hne) (numC false (bitF (X / den)))
        have n12 := n12.put false (bitF (X / den))
        have hB := below_row hB (g := g12) hl12 (numC false (bitF (X / den)))
        refine hK5 _ _ ?_
        simp only [Act.put, List.getElem_toArray, List.getElem_cons_succ, List.getElem_cons_zero, List.setIfInBounds_toArray, List.set_cons_zero, List.set_cons_succ]
        refine wpAny_ready (rs := [10]) (by kernel_rfl) (by simp) ?_
        refine AllReady.cons rfl (fun K6 hK6 => ?_) (AllReady.nil)
        refine step_stN n13 rfl (.tmp 13) (.tmp 37) rfl rfl _ _ rfl ?_
        have n12 := n12.row g13 hne (numC false (bitF (X % den)))
        have n13 := n13.put false (bitF (X % den))
        have hB := below_row hB (g := g13) hl13 (numC false (bitF (X % den)))
        refine hK6 _ _ ?_
        simp only [Act.put, List.getElem_toArray, List.getElem_cons_succ, List.getElem_cons_zero, List.setIfInBounds_toArray, List.set_cons_zero, List.set_cons_succ]
        refine wpAny_done (by kernel_rfl) ?_ _
        clear x11
        go_wp2_with (first | (refine ld_num n12 rfl _ rfl rfl ?_))
        refine (HU1.out _).mono ?_
        rintro e wu ⟨rfl, hbu⟩
        have hB := belowN hB n12 hl12 hbu
        have n13 := n13.next hbu
        clear n12 hbu
        go_wp2_with (first | (refine ld_num n13 rfl _ rfl rfl ?_))
        refine (HU2.out _).mono ?_
        rintro e wv ⟨rfl, hbv⟩
        have hB := belowN hB n13 hl13 hbv
        clear n13 hbv
        cases is with
        | false =>
          go_wp2_with fail
          go_ret3
          exact ⟨by rw [HV.out]; rfl, by rw [Hb0.out]; exact hB⟩
        | true =>
          go_wp2_with fail
          go_ret3
          exact ⟨by rw [HV.out]; rfl, by rw [Hb0.out]; exact hB⟩
    · refine step_callN rfl 44 #[.tmp 33] _ rfl #[.int .u64 (den : Int)] (by simp [Act.eval, Act.put]) (enters_of Try.func44 (by kernel_rfl) rfl) (num_of den hden _) ?_
      rintro e wd ⟨rfl, hbd⟩
      refine ⟨_, rfl, ?_⟩
      have hB := belowN hB x11 hle hbd
      have x11 := x11.next hbd
      try have n12 := n12.next hbd
      try have n13 := n13.next hbd
      refine hK1 _ _ ?_
      simp only [Act.put, List.getElem_toArray, List.getElem_cons_succ, List.getElem_cons_zero, List.setIfInBounds_toArray, List.set_cons_zero, List.set_cons_succ]
      refine wpAny_ready (rs := [0, 7]) (by kernel_rfl) (by simp) ?_
      refine AllReady.cons rfl (fun K2 hK2 => ?_) (AllReady.cons rfl (fun K2 hK2 => ?_) (AllReady.nil))
      · refine step_ldN x11 rfl (.tmp 11) rfl rfl ?_
        refine hK2 _ _ ?_
        simp only [Act.put, List.getElem_toArray, List.getElem_cons_succ, List.getElem_cons_zero, List.setIfInBounds_toArray, List.set_cons_zero, List.set_cons_succ]
        refine wpAny_ready (rs := [3, 7]) (by kernel_rfl) (by simp) ?_
        refine AllReady.cons rfl (fun K3 hK3 => ?_) (AllReady.cons rfl (fun K3 hK3 => ?_) (AllReady.nil))
        · refine step_callN rfl 45 #[.tmp 32, .tmp 34] _ rfl #[.agg (numC false (bitF X)), .agg (numC false (bitF den))] (by simp [Act.eval, Act.put]) (enters_of Try.func45 (by kernel_rfl) rfl) (HP.out _) ?_
          rintro e we ⟨rfl, hbe⟩
          refine ⟨_, rfl, ?_⟩
          have hB := belowN hB x11 hle hbe
          have x11 := x11.next hbe
          try have n12 := n12.next hbe
          try have n13 := n13.next hbe
          refine hK3 _ _ ?_
          simp only [Act.put, List.getElem_toArray, List.getElem_cons_succ, List.getElem_cons_zero, List.setIfInBounds_toArray, List.set_cons_zero, List.set_cons_succ]
          refine wpAny_take (i := 4) (v := ?_) rfl (by kernel_rfl) (by kernel_rfl) (by kernel_rfl) (fun _ _ _ h => h) (Or.inl ⟨by kernel_rfl, ?_⟩) ?_
          rotate_left
          · intro w'; go_simp; try with_reducible rfl
          simp only [Act.put, List.getElem_toArray, List.getElem_cons_succ, List.getElem_cons_zero, List.setIfInBounds_toArray, List.set_cons_zero, List.set_cons_succ]
          refine wpAny_take (i := 5) (v := ?_) rfl (by kernel_rfl) (by kernel_rfl) (by kernel_rfl) (fun _ _ _ h => h) (Or.inl ⟨by kernel_rfl, ?_⟩) ?_
          rotate_left
          · intro w'; go_simp; try with_reducible rfl
          simp only [Act.put, List.getElem_toArray, List.getElem_cons_succ, List.getElem_cons_zero, List.setIfInBounds_toArray, List.set_cons_zero, List.set_cons_succ]
          refine wpAny_take (i := 6) (v := ?_) rfl (by kernel_rfl) (by kernel_rfl) (by kernel_rfl) (fun _ _ _ h => h) (Or.inl ⟨by kernel_rfl, ?_⟩) ?_
          rotate_left
          · intro w'; go_simp; try with_reducible rfl
          simp only [Act.put, List.getElem_toArray, List.getElem_cons_succ, List.getElem_cons_zero, List.setIfInBounds_toArray, List.set_cons_zero, List.set_cons_succ]
          refine wpAny_ready (rs := [7]) (by kernel_rfl) (by simp) ?_
          refine AllReady.cons rfl (fun K4 hK4 => ?_) (AllReady.nil)
          refine step_allocN hz rfl rfl ?_
          intro g12 W' n12 hnx hbx hnn
          try have hne : g12 ≠ g13 := Nat.ne_of_gt (hnn _ _ _ n13)
          try have n13 := hnx _ _ _ n13
          have hB := hbx _ _ hB (by have := x11.lt; omega)
          have hl12 : b0 ≤ g12 := by have h1 := hnn _ _ _ x11; omega
          have x11 := hnx _ _ _ x11
          clear hnx hbx hnn
          refine hK4 _ _ ?_
          simp only [Act.put, List.getElem_toArray, List.getElem_cons_succ, List.getElem_cons_zero, List.setIfInBounds_toArray, List.set_cons_zero, List.set_cons_succ]
          refine wpAny_ready (rs := [9]) (by kernel_rfl) (by simp) ?_
          refine AllReady.cons rfl (fun K5 hK5 => ?_) (AllReady.nil)
          refine step_stN n12 rfl (.tmp 12) (.tmp 36) rfl rfl _ _ rfl ?_
          have n13 := n13.row g12 (Ne.symm hne) (numC false (bitF (X / den)))
          have n12 := n12.put false (bitF (X / den))
          have hB := below_row hB (g := g12) hl12 (numC false (bitF (X / den)))
          refine hK5 _ _ ?_
          simp only [Act.put, List.getElem_toArray, List.getElem_cons_succ, List.getElem_cons_zero, List.setIfInBounds_toArray, List.set_cons_zero, List.set_cons_succ]
          refine wpAny_ready (rs := [10]) (by kernel_rfl) (by simp) ?_
          refine AllReady.cons rfl (fun K6 hK6 => ?_) (AllReady.nil)
          refine step_stN n13 rfl (.tmp 13) (.tmp 37) rfl rfl _ _ rfl ?_
          have n12 := n12.row g13 hne (numC false (bitF (X % den)))
          have n13 := n13.put false (bitF (X % den))
          have hB := below_row hB (g := g13) hl13 (numC false (bitF (X % den)))
          refine hK6 _ _ ?_
          simp only [Act.put, List.getElem_toArray, List.getElem_cons_succ, List.getElem_cons_zero, List.setIfInBounds_toArray, List.set_cons_zero, List.set_cons_succ]
          refine wpAny_done (by kernel_rfl) ?_ _
          clear x11
          go_wp2_with (first | (refine ld_num n12 rfl _ rfl rfl ?_))
          refine (HU1.out _).mono ?_
          rintro e wu ⟨rfl, hbu⟩
          have hB := belowN hB n12 hl12 hbu
          have n13 := n13.next hbu
          clear n12 hbu
          go_wp2_with (first | (refine ld_num n13 rfl _ rfl rfl ?_))
          refine (HU2.out _).mono ?_
          rintro e wv ⟨rfl, hbv⟩
          have hB := belowN hB n13 hl13 hbv
          clear n13 hbv
          cases is with
          | false =>
            go_wp2_with fail
            go_ret3
            exact ⟨by rw [HV.out]; rfl, by rw [Hb0.out]; exact hB⟩
          | true =>
            go_wp2_with fail
            go_ret3
            exact ⟨by rw [HV.out]; rfl, by rw [Hb0.out]; exact hB⟩
        · refine step_allocN hz rfl rfl ?_
          intro g12 W' n12 hnx hbx hnn
          try have hne : g12 ≠ g13 := Nat.ne_of_gt (hnn _ _ _ n13)
          try have n13 := hnx _ _ _ n13
          have hB := hbx _ _ hB (by have := x11.lt; omega)
          have hl12 : b0 ≤ g12 := by have h1 := hnn _ _ _ x11; omega
          have x11 := hnx _ _ _ x11
          clear hnx hbx hnn
          refine hK3 _ _ ?_
          simp only [Act.put, List.getElem_toArray, List.getElem_cons_succ, List.getElem_cons_zero, List.setIfInBounds_toArray, List.set_cons_zero, List.set_cons_succ]
          refine wpAny_ready (rs := [3]) (by kernel_rfl) (by simp) ?_
          refine AllReady.cons rfl (fun K4 hK4 => ?_) (AllReady.nil)
          refine step_callN rfl 45 #[.tmp 32, .tmp 34] _ rfl #[.agg (numC false (bitF X)), .agg (numC false (bitF den))] (by simp [Act.eval, Act.put]) (enters_of Try.func45 (by kernel_rfl) rfl) (HP.out _) ?_
          rintro e we ⟨rfl, hbe⟩
          refine ⟨_, rfl, ?_⟩
          have hB := belowN hB x11 hle hbe
          have x11 := x11.next hbe
          try have n12 := n12.next hbe
          try have n13 := n13.next hbe
          refine hK4 _ _ ?_
          simp only [Act.put, List.getElem_toArray, List.getElem_cons_succ, List.getElem_cons_zero, List.setIfInBounds_toArray, List.set_cons_zero, List.set_cons_succ]
          refine wpAny_take (i := 4) (v := ?_) rfl (by kernel_rfl) (by kernel_rfl) (by kernel_rfl) (fun _ _ _ h => h) (Or.inl ⟨by kernel_rfl, ?_⟩) ?_
          rotate_left
          · intro w'; go_simp; try with_reducible rfl
          simp only [Act.put, List.getElem_toArray, List.getElem_cons_succ, List.getElem_cons_zero, List.setIfInBounds_toArray, List.set_cons_zero, List.set_cons_succ]
          refine wpAny_take (i := 5) (v := ?_) rfl (by kernel_rfl) (by kernel_rfl) (by kernel_rfl) (fun _ _ _ h => h) (Or.inl ⟨by kernel_rfl, ?_⟩) ?_
          rotate_left
          · intro w'; go_simp; try with_reducible rfl
          simp only [Act.put, List.getElem_toArray, List.getElem_cons_succ, List.getElem_cons_zero, List.setIfInBounds_toArray, List.set_cons_zero, List.set_cons_succ]
          refine wpAny_take (i := 6) (v := ?_) rfl (by kernel_rfl) (by kernel_rfl) (by kernel_rfl) (fun _ _ _ h => h) (Or.inl ⟨by kernel_rfl, ?_⟩) ?_
          rotate_left
          · intro w'; go_simp; try with_reducible rfl
          simp only [Act.put, List.getElem_toArray, List.getElem_cons_succ, List.getElem_cons_zero, List.setIfInBounds_toArray, List.set_cons_zero, List.set_cons_succ]
          refine wpAny_ready (rs := [9]) (by kernel_rfl) (by simp) ?_
          refine AllReady.cons rfl (fun K5 hK5 => ?_) (AllReady.nil)
          refine step_stN n12 rfl (.tmp 12) (.tmp 36) rfl rfl _ _ rfl ?_
          have n13 := n13.row g12 (Ne.symm hne) (numC false (bitF (X / den)))
          have n12 := n12.put false (bitF (X / den))
          have hB := below_row hB (g := g12) hl12 (numC false (bitF (X / den)))
          refine hK5 _ _ ?_
          simp only [Act.put, List.getElem_toArray, List.getElem_cons_succ, List.getElem_cons_zero, List.setIfInBounds_toArray, List.set_cons_zero, List.set_cons_succ]
          refine wpAny_ready (rs := [10]) (by kernel_rfl) (by simp) ?_
          refine AllReady.cons rfl (fun K6 hK6 => ?_) (AllReady.nil)
          refine step_stN n13 rfl (.tmp 13) (.tmp 37) rfl rfl _ _ rfl ?_
          have n12 := n12.row g13 hne (numC false (bitF (X % den)))
          have n13 := n13.put false (bitF (X % den))
          have hB := below_row hB (g := g13) hl13 (numC false (bitF (X % den)))
          refine hK6 _ _ ?_
          simp only [Act.put, List.getElem_toArray, List.getElem_cons_succ, List.getElem_cons_zero, List.setIfInBounds_toArray, List.set_cons_zero, List.set_cons_succ]
          refine wpAny_done (by kernel_rfl) ?_ _
          clear x11
          go_wp2_with (first | (refine ld_num n12 rfl _ rfl rfl ?_))
          refine (HU1.out _).mono ?_
          rintro e wu ⟨rfl, hbu⟩
          have hB := belowN hB n12 hl12 hbu
          have n13 := n13.next hbu
          clear n12 hbu
          go_wp2_with (first | (refine ld_num n13 rfl _ rfl rfl ?_))
          refine (HU2.out _).mono ?_
          rintro e wv ⟨rfl, hbv⟩
          have hB := belowN hB n13 hl13 hbv
          clear n13 hbv
          cases is with
          | false =>
            go_wp2_with fail
            go_ret3
            exact ⟨by rw [HV.out]; rfl, by rw [Hb0.out]; exact hB⟩
          | true =>
            go_wp2_with fail
            go_ret3
            exact ⟨by rw [HV.out]; rfl, by rw [Hb0.out]; exact hB⟩
      · refine step_allocN hz rfl rfl ?_
        intro g12 W' n12 hnx hbx hnn
        try have hne : g12 ≠ g13 := Nat.ne_of_gt (hnn _ _ _ n13)
        try have n13 := hnx _ _ _ n13
        have hB := hbx _ _ hB (by have := x11.lt; omega)
        have hl12 : b0 ≤ g12 := by have h1 := hnn _ _ _ x11; omega
        have x11 := hnx _ _ _ x11
        clear hnx hbx hnn
        refine hK2 _ _ ?_
        simp only [Act.put, List.getElem_toArray, List.getElem_cons_succ, List.getElem_cons_zero, List.setIfInBounds_toArray, List.set_cons_zero, List.set_cons_succ]
        refine wpAny_ready (rs := [0]) (by kernel_rfl) (by simp) ?_
        refine AllReady.cons rfl (fun K3 hK3 => ?_) (AllReady.nil)
        refine step_ldN x11 rfl (.tmp 11) rfl rfl ?_
        refine hK3 _ _ ?_
        simp only [Act.put, List.getElem_toArray, List.getElem_cons_succ, List.getElem_cons_zero, List.setIfInBounds_toArray, List.set_cons_zero, List.set_cons_succ]
        refine wpAny_ready (rs := [3]) (by kernel_rfl) (by simp) ?_
        refine AllReady.cons rfl (fun K4 hK4 => ?_) (AllReady.nil)
        refine step_callN rfl 45 #[.tmp 32, .tmp 34] _ rfl #[.agg (numC false (bitF X)), .agg (numC false (bitF den))] (by simp [Act.eval, Act.put]) (enters_of Try.func45 (by kernel_rfl) rfl) (HP.out _) ?_
        rintro e we ⟨rfl, hbe⟩
        refine ⟨_, rfl, ?_⟩
        have hB := belowN hB x11 hle hbe
        have x11 := x11.next hbe
        try have n12 := n12.next hbe
        try have n13 := n13.next hbe
        refine hK4 _ _ ?_
        simp only [Act.put, List.getElem_toArray, List.getElem_cons_succ, List.getElem_cons_zero, List.setIfInBounds_toArray, List.set_cons_zero, List.set_cons_succ]
        refine wpAny_take (i := 4) (v := ?_) rfl (by kernel_rfl) (by kernel_rfl) (by kernel_rfl) (fun _ _ _ h => h) (Or.inl ⟨by kernel_rfl, ?_⟩) ?_
        rotate_left
        · intro w'; go_simp; try with_reducible rfl
        simp only [Act.put, List.getElem_toArray, List.getElem_cons_succ, List.getElem_cons_zero, List.setIfInBounds_toArray, List.set_cons_zero, List.set_cons_succ]
        refine wpAny_take (i := 5) (v := ?_) rfl (by kernel_rfl) (by kernel_rfl) (by kernel_rfl) (fun _ _ _ h => h) (Or.inl ⟨by kernel_rfl, ?_⟩) ?_
        rotate_left
        · intro w'; go_simp; try with_reducible rfl
        simp only [Act.put, List.getElem_toArray, List.getElem_cons_succ, List.getElem_cons_zero, List.setIfInBounds_toArray, List.set_cons_zero, List.set_cons_succ]
        refine wpAny_take (i := 6) (v := ?_) rfl (by kernel_rfl) (by kernel_rfl) (by kernel_rfl) (fun _ _ _ h => h) (Or.inl ⟨by kernel_rfl, ?_⟩) ?_
        rotate_left
        · intro w'; go_simp; try with_reducible rfl
        simp only [Act.put, List.getElem_toArray, List.getElem_cons_succ, List.getElem_cons_zero, List.setIfInBounds_toArray, List.set_cons_zero, List.set_cons_succ]
        refine wpAny_ready (rs := [9]) (by kernel_rfl) (by simp) ?_
        refine AllReady.cons rfl (fun K5 hK5 => ?_) (AllReady.nil)
        refine step_stN n12 rfl (.tmp 12) (.tmp 36) rfl rfl _ _ rfl ?_
        have n13 := n13.row g12 (Ne.symm hne) (numC false (bitF (X / den)))
        have n12 := n12.put false (bitF (X / den))
        have hB := below_row hB (g := g12) hl12 (numC false (bitF (X / den)))
        refine hK5 _ _ ?_
        simp only [Act.put, List.getElem_toArray, List.getElem_cons_succ, List.getElem_cons_zero, List.setIfInBounds_toArray, List.set_cons_zero, List.set_cons_succ]
        refine wpAny_ready (rs := [10]) (by kernel_rfl) (by simp) ?_
        refine AllReady.cons rfl (fun K6 hK6 => ?_) (AllReady.nil)
        refine step_stN n13 rfl (.tmp 13) (.tmp 37) rfl rfl _ _ rfl ?_
        have n12 := n12.row g13 hne (numC false (bitF (X % den)))
        have n13 := n13.put false (bitF (X % den))
        have hB := below_row hB (g := g13) hl13 (numC false (bitF (X % den)))
        refine hK6 _ _ ?_
        simp only [Act.put, List.getElem_toArray, List.getElem_cons_succ, List.getElem_cons_zero, List.setIfInBounds_toArray, List.set_cons_zero, List.set_cons_succ]
        refine wpAny_done (by kernel_rfl) ?_ _
        clear x11
        go_wp2_with (first | (refine ld_num n12 rfl _ rfl rfl ?_))
        refine (HU1.out _).mono ?_
        rintro e wu ⟨rfl, hbu⟩
        have hB := belowN hB n12 hl12 hbu
        have n13 := n13.next hbu
        clear n12 hbu
        go_wp2_with (first | (refine ld_num n13 rfl _ rfl rfl ?_))
        refine (HU2.out _).mono ?_
        rintro e wv ⟨rfl, hbv⟩
        have hB := belowN hB n13 hl13 hbv
        clear n13 hbv
        cases is with
        | false =>
          go_wp2_with fail
          go_ret3
          exact ⟨by rw [HV.out]; rfl, by rw [Hb0.out]; exact hB⟩
        | true =>
          go_wp2_with fail
          go_ret3
          exact ⟨by rw [HV.out]; rfl, by rw [Hb0.out]; exact hB⟩
    · refine step_allocN hz rfl rfl ?_
      intro g12 W' n12 hnx hbx hnn
      try have hne : g12 ≠ g13 := Nat.ne_of_gt (hnn _ _ _ n13)
      try have n13 := hnx _ _ _ n13
      have hB := hbx _ _ hB (by have := x11.lt; omega)
      have hl12 : b0 ≤ g12 := by have h1 := hnn _ _ _ x11; omega
      have x11 := hnx _ _ _ x11
      clear hnx hbx hnn
      refine hK1 _ _ ?_
      simp only [Act.put, List.getElem_toArray, List.getElem_cons_succ, List.getElem_cons_zero, List.setIfInBounds_toArray, List.set_cons_zero, List.set_cons_succ]
      refine wpAny_ready (rs := [0, 2]) (by kernel_rfl) (by simp) ?_
      refine AllReady.cons rfl (fun K2 hK2 => ?_) (AllReady.cons rfl (fun K2 hK2 => ?_) (AllReady.nil))
      · refine step_ldN x11 rfl (.tmp 11) rfl rfl ?_
        refine hK2 _ _ ?_
        simp only [Act.put, List.getElem_toArray, List.getElem_cons_succ, List.getElem_cons_zero, List.setIfInBounds_toArray, List.set_cons_zero, List.set_cons_succ]
        refine wpAny_ready (rs := [2]) (by kernel_rfl) (by simp) ?_
        refine AllReady.cons rfl (fun K3 hK3 => ?_) (AllReady.nil)
        refine step_callN rfl 44 #[.tmp 33] _ rfl #[.int .u64 (den : Int)] (by simp [Act.eval, Act.put]) (enters_of Try.func44 (by kernel_rfl) rfl) (num_of den hden _) ?_
        rintro e wd ⟨rfl, hbd⟩
        refine ⟨_, rfl, ?_⟩
        have hB := belowN hB x11 hle hbd
        have x11 := x11.next hbd
        try have n12 := n12.next hbd
        try have n13 := n13.next hbd
        refine hK3 _ _ ?_
        simp only [Act.put, List.getElem_toArray, List.getElem_cons_succ, List.getElem_cons_zero, List.setIfInBounds_toArray, List.set_cons_zero, List.set_cons_succ]
        refine wpAny_ready (rs := [3]) (by kernel_rfl) (by simp) ?_
        refine AllReady.cons rfl (fun K4 hK4 => ?_) (AllReady.nil)
        refine step_callN rfl 45 #[.tmp 32, .tmp 34] _ rfl #[.agg (numC false (bitF X)), .agg (numC false (bitF den))] (by simp [Act.eval, Act.put]) (enters_of Try.func45 (by kernel_rfl) rfl) (HP.out _) ?_
        rintro e we ⟨rfl, hbe⟩
        refine ⟨_, rfl, ?_⟩
        have hB := belowN hB x11 hle hbe
        have x11 := x11.next hbe
        try have n12 := n12.next hbe
        try have n13 := n13.next hbe
        refine hK4 _ _ ?_
        simp only [Act.put, List.getElem_toArray, List.getElem_cons_succ, List.getElem_cons_zero, List.setIfInBounds_toArray, List.set_cons_zero, List.set_cons_succ]
        refine wpAny_take (i := 4) (v := ?_) rfl (by kernel_rfl) (by kernel_rfl) (by kernel_rfl) (fun _ _ _ h => h) (Or.inl ⟨by kernel_rfl, ?_⟩) ?_
        rotate_left
        · intro w'; go_simp; try with_reducible rfl
        simp only [Act.put, List.getElem_toArray, List.getElem_cons_succ, List.getElem_cons_zero, List.setIfInBounds_toArray, List.set_cons_zero, List.set_cons_succ]
        refine wpAny_take (i := 5) (v := ?_) rfl (by kernel_rfl) (by kernel_rfl) (by kernel_rfl) (fun _ _ _ h => h) (Or.inl ⟨by kernel_rfl, ?_⟩) ?_
        rotate_left
        · intro w'; go_simp; try with_reducible rfl
        simp only [Act.put, List.getElem_toArray, List.getElem_cons_succ, List.getElem_cons_zero, List.setIfInBounds_toArray, List.set_cons_zero, List.set_cons_succ]
        refine wpAny_take (i := 6) (v := ?_) rfl (by kernel_rfl) (by kernel_rfl) (by kernel_rfl) (fun _ _ _ h => h) (Or.inl ⟨by kernel_rfl, ?_⟩) ?_
        rotate_left
        · intro w'; go_simp; try with_reducible rfl
        simp only [Act.put, List.getElem_toArray, List.getElem_cons_succ, List.getElem_cons_zero, List.setIfInBounds_toArray, List.set_cons_zero, List.set_cons_succ]
        refine wpAny_ready (rs := [9]) (by kernel_rfl) (by simp) ?_
        refine AllReady.cons rfl (fun K5 hK5 => ?_) (AllReady.nil)
        refine step_stN n12 rfl (.tmp 12) (.tmp 36) rfl rfl _ _ rfl ?_
        have n13 := n13.row g12 (Ne.symm hne) (numC false (bitF (X / den)))
        have n12 := n12.put false (bitF (X / den))
        have hB := below_row hB (g := g12) hl12 (numC false (bitF (X / den)))
        refine hK5 _ _ ?_
        simp only [Act.put, List.getElem_toArray, List.getElem_cons_succ, List.getElem_cons_zero, List.setIfInBounds_toArray, List.set_cons_zero, List.set_cons_succ]
        refine wpAny_ready (rs := [10]) (by kernel_rfl) (by simp) ?_
        refine AllReady.cons rfl (fun K6 hK6 => ?_) (AllReady.nil)
        refine step_stN n13 rfl (.tmp 13) (.tmp 37) rfl rfl _ _ rfl ?_
        have n12 := n12.row g13 hne (numC false (bitF (X % den)))
        have n13 := n13.put false (bitF (X % den))
        have hB := below_row hB (g := g13) hl13 (numC false (bitF (X % den)))
        refine hK6 _ _ ?_
        simp only [Act.put, List.getElem_toArray, List.getElem_cons_succ, List.getElem_cons_zero, List.setIfInBounds_toArray, List.set_cons_zero, List.set_cons_succ]
        refine wpAny_done (by kernel_rfl) ?_ _
        clear x11
        go_wp2_with (first | (refine ld_num n12 rfl _ rfl rfl ?_))
        refine (HU1.out _).mono ?_
        rintro e wu ⟨rfl, hbu⟩
        have hB := belowN hB n12 hl12 hbu
        have n13 := n13.next hbu
        clear n12 hbu
        go_wp2_with (first | (refine ld_num n13 rfl _ rfl rfl ?_))
        refine (HU2.out _).mono ?_
        rintro e wv ⟨rfl, hbv⟩
        have hB := belowN hB n13 hl13 hbv
        clear n13 hbv
        cases is with
        | false =>
          go_wp2_with fail
          go_ret3
          exact ⟨by rw [HV.out]; rfl, by rw [Hb0.out]; exact hB⟩
        | true =>
          go_wp2_with fail
          go_ret3
          exact ⟨by rw [HV.out]; rfl, by rw [Hb0.out]; exact hB⟩
      · refine step_callN rfl 44 #[.tmp 33] _ rfl #[.int .u64 (den : Int)] (by simp [Act.eval, Act.put]) (enters_of Try.func44 (by kernel_rfl) rfl) (num_of den hden _) ?_
        rintro e wd ⟨rfl, hbd⟩
        refine ⟨_, rfl, ?_⟩
        have hB := belowN hB x11 hle hbd
        have x11 := x11.next hbd
        try have n12 := n12.next hbd
        try have n13 := n13.next hbd
        refine hK2 _ _ ?_
        simp only [Act.put, List.getElem_toArray, List.getElem_cons_succ, List.getElem_cons_zero, List.setIfInBounds_toArray, List.set_cons_zero, List.set_cons_succ]
        refine wpAny_ready (rs := [0]) (by kernel_rfl) (by simp) ?_
        refine AllReady.cons rfl (fun K3 hK3 => ?_) (AllReady.nil)
        refine step_ldN x11 rfl (.tmp 11) rfl rfl ?_
        refine hK3 _ _ ?_
        simp only [Act.put, List.getElem_toArray, List.getElem_cons_succ, List.getElem_cons_zero, List.setIfInBounds_toArray, List.set_cons_zero, List.set_cons_succ]
        refine wpAny_ready (rs := [3]) (by kernel_rfl) (by simp) ?_
        refine AllReady.cons rfl (fun K4 hK4 => ?_) (AllReady.nil)
        refine step_callN rfl 45 #[.tmp 32, .tmp 34] _ rfl #[.agg (numC false (bitF X)), .agg (numC false (bitF den))] (by simp [Act.eval, Act.put]) (enters_of Try.func45 (by kernel_rfl) rfl) (HP.out _) ?_
        rintro e we ⟨rfl, hbe⟩
        refine ⟨_, rfl, ?_⟩
        have hB := belowN hB x11 hle hbe
        have x11 := x11.next hbe
        try have n12 := n12.next hbe
        try have n13 := n13.next hbe
        refine hK4 _ _ ?_
        simp only [Act.put, List.getElem_toArray, List.getElem_cons_succ, List.getElem_cons_zero, List.setIfInBounds_toArray, List.set_cons_zero, List.set_cons_succ]
        refine wpAny_take (i := 4) (v := ?_) rfl (by kernel_rfl) (by kernel_rfl) (by kernel_rfl) (fun _ _ _ h => h) (Or.inl ⟨by kernel_rfl, ?_⟩) ?_
        rotate_left
        · intro w'; go_simp; try with_reducible rfl
        simp only [Act.put, List.getElem_toArray, List.getElem_cons_succ, List.getElem_cons_zero, List.setIfInBounds_toArray, List.set_cons_zero, List.set_cons_succ]
        refine wpAny_take (i := 5) (v := ?_) rfl (by kernel_rfl) (by kernel_rfl) (by kernel_rfl) (fun _ _ _ h => h) (Or.inl ⟨by kernel_rfl, ?_⟩) ?_
        rotate_left
        · intro w'; go_simp; try with_reducible rfl
        simp only [Act.put, List.getElem_toArray, List.getElem_cons_succ, List.getElem_cons_zero, List.setIfInBounds_toArray, List.set_cons_zero, List.set_cons_succ]
        refine wpAny_take (i := 6) (v := ?_) rfl (by kernel_rfl) (by kernel_rfl) (by kernel_rfl) (fun _ _ _ h => h) (Or.inl ⟨by kernel_rfl, ?_⟩) ?_
        rotate_left
        · intro w'; go_simp; try with_reducible rfl
        simp only [Act.put, List.getElem_toArray, List.getElem_cons_succ, List.getElem_cons_zero, List.setIfInBounds_toArray, List.set_cons_zero, List.set_cons_succ]
        refine wpAny_ready (rs := [9]) (by kernel_rfl) (by simp) ?_
        refine AllReady.cons rfl (fun K5 hK5 => ?_) (AllReady.nil)
        refine step_stN n12 rfl (.tmp 12) (.tmp 36) rfl rfl _ _ rfl ?_
        have n13 := n13.row g12 (Ne.symm hne) (numC false (bitF (X / den)))
        have n12 := n12.put false (bitF (X / den))
        have hB := below_row hB (g := g12) hl12 (numC false (bitF (X / den)))
        refine hK5 _ _ ?_
        simp only [Act.put, List.getElem_toArray, List.getElem_cons_succ, List.getElem_cons_zero, List.setIfInBounds_toArray, List.set_cons_zero, List.set_cons_succ]
        refine wpAny_ready (rs := [10]) (by kernel_rfl) (by simp) ?_
        refine AllReady.cons rfl (fun K6 hK6 => ?_) (AllReady.nil)
        refine step_stN n13 rfl (.tmp 13) (.tmp 37) rfl rfl _ _ rfl ?_
        have n12 := n12.row g13 hne (numC false (bitF (X % den)))
        have n13 := n13.put false (bitF (X % den))
        have hB := below_row hB (g := g13) hl13 (numC false (bitF (X % den)))
        refine hK6 _ _ ?_
        simp only [Act.put, List.getElem_toArray, List.getElem_cons_succ, List.getElem_cons_zero, List.setIfInBounds_toArray, List.set_cons_zero, List.set_cons_succ]
        refine wpAny_done (by kernel_rfl) ?_ _
        clear x11
        go_wp2_with (first | (refine ld_num n12 rfl _ rfl rfl ?_))
        refine (HU1.out _).mono ?_
        rintro e wu ⟨rfl, hbu⟩
        have hB := belowN hB n12 hl12 hbu
        have n13 := n13.next hbu
        clear n12 hbu
        go_wp2_with (first | (refine ld_num n13 rfl _ rfl rfl ?_))
        refine (HU2.out _).mono ?_
        rintro e wv ⟨rfl, hbv⟩
        have hB := belowN hB n13 hl13 hbv
        clear n13 hbv
        cases is with
        | false =>
          go_wp2_with fail
          go_ret3
          exact ⟨by rw [HV.out]; rfl, by rw [Hb0.out]; exact hB⟩
        | true =>
          go_wp2_with fail
          go_ret3
          exact ⟨by rw [HV.out]; rfl, by rw [Hb0.out]; exact hB⟩
end Go.Proofs.Ytjmkbpgakfeceaa
