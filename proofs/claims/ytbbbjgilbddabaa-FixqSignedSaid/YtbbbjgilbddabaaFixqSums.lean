/-
  The sum of a list of int64 in numbers of 200 bits, and the walk of FixqSums. Conditions stand at each theorem.
-/
import Derived.Test.YtbbbjgilbddabaaNumC
import Derived.Test.YtbbbjgilbddabaaFixqSum
namespace Go.Proofs.Ytbbbjgilbddabaa
open Go Go.RowKit Go.Kw Go.Kw.Nm
set_option linter.unusedVariables false
set_option linter.unusedSimpArgs false

theorem step_val {ops : Array Oper} {o : Oper} {a : Act} {w : World} {K : Act → World → Prop} {Q : Exit → Act → World → Prop} {E : Prop} (hgd : o.guard = none) (v : Value) (hr : (execOp a.eval o).run Try.prog w = .ok (.value v) w)
    (hK : K (a.put o.dst v) w) : if Region.wanted o (yielded ops a.tmps) = true then Oper.wp Try.prog o a w K Q else E := by
  have hw : Region.wanted o (yielded ops a.tmps) = true := by simp [Region.wanted, hgd]
  rw [if_pos hw]
  unfold Oper.wp
  rw [hr, Oper.upon_value]
  exact hK
theorem sum_abs (l : List Int) (h : ∀ x ∈ l, inR x) : l.sum.natAbs ≤ 9223372036854775808 * l.length := by
  induction l with
  | nil => simp
  | cons x r ih =>
    have h1 := ih (fun y hy => h y (List.mem_cons_of_mem _ hy))
    have h2 := h x (List.mem_cons_self ..)
    unfold inR at h2
    simp only [List.sum_cons, List.length_cons]
    omega
theorem take_mem {l : List Int} (h : ∀ x ∈ l, inR x) (k : Nat) : ∀ x ∈ l.take k, inR x := fun x hx => h x (List.mem_of_mem_take hx)
theorem isRow_ints {w : World} {a : Option Addr} {len cap : Nat} {zs : List Int} (h : IsRow .i64 w a len cap zs) : ∃ l : List Int, l.length = len ∧ (∀ x ∈ l, inR x) ∧ RdI w w.heap.size a l := by
  have hr := h.rd
  refine ⟨zs.take len, ?_, ?_, ?_⟩
  · rcases h with ⟨rfl, rfl, rfl, rfl⟩ | ⟨x, rfl, h1, h2, h3, _⟩
    · rfl
    · simp; omega
  · intro x hx
    rcases h with ⟨rfl, rfl, rfl, rfl⟩ | ⟨y, rfl, h1, h2, h3, h4, h5⟩
    · simp at hx
    · exact Go.bounds_i64 (h5 x (List.mem_of_mem_take hx))
  · have hlen : (zs.take len).length = len := by
      rcases h with ⟨rfl, rfl, rfl, rfl⟩ | ⟨x, rfl, h1, h2, h3, _⟩
      · rfl
      · simp; omega
    unfold RdI
    rw [hlen]
    rcases hr with hr | ⟨b, off, e, hb, hc⟩
    · exact .inl hr
    · refine .inr ⟨b, off, e, hb, fun i hi => ?_⟩
      rw [hc i hi]
      show some (Value.int .i64 (zs.getD i 0)) = some (Value.int .i64 ((zs.take len).getD i 0))
      rw [List.getD_eq_getElem?_getD, List.getD_eq_getElem?_getD, List.getElem?_take_of_lt hi]


set_option maxRecDepth 100000 in
set_option maxHeartbeats 2000000 in
theorem num_all (A : Option Addr) (c N : Nat) (zs : List Int) (hN : zs.length = N) (hl : N ≤ 1000) (hr : ∀ x ∈ zs, inR x) (w : World) (hR : RdI w w.heap.size A zs) :
    Calls Try.prog 17 #[.slice A N c] w fun e w' => e = .returned (toldV zs.sum) ∧ Below w.heap.size w w' := by
  have hz := num_zero
  have n0 := NB.new w false (fun _ => 0)
  have hb := stepN w (.cells (numC false (fun _ => 0)) 68)
  have HR := Lib.hid hR
  have HN := Lib.hid hN
  have Hr := Lib.hid hr
  obtain ⟨b4, hb4⟩ : ∃ b4, w.heap.size = b4 := ⟨_, rfl⟩
  have Hb4 := Lib.hid hb4
  go_enter Try.func17, Try.ntmps17
  go_wp2_with fail
  try rw [hb4]
  rw [hb4] at n0 hb
  generalize w.alloc (.cells (numC false fun _ => 0) 68) = W at *
  clear hR hN hr hz hb4
  go_loopw [5] (fun i wr => ∃ k : Nat, k ≤ N ∧ i = .int .i64 k ∧ NB wr b4 (decide ((zs.take k).sum < 0)) (bitF (zs.take k).sum.natAbs) ∧ Below b4 w wr) (fun i _ => N - (intOf i).toNat)
  case atStart => exact ⟨0, by omega, rfl, by rw [List.take_zero, List.sum_nil, Int.natAbs_zero, bitF_z]; exact n0, hb⟩
  case round =>
    obtain ⟨k, hk, rfl, m0, hb'⟩ := hrel
    by_cases hlt : k < N
    · obtain ⟨b1, o1, e1, hb1, hc⟩ := Rd.at_ HR.out (k := k) (by rw [HN.out]; exact hlt)
      subst e1
      obtain ⟨z, hz⟩ : ∃ z, zs.getD k 0 = z := ⟨_, rfl⟩
      have hk2 : k < zs.length := by rw [HN.out]; exact hlt
      have hzk : zs[k]? = some z := by rw [← hz, List.getD_eq_getElem?_getD, List.getElem?_eq_getElem hk2]; rfl
      have hzr : inR z := Hr.out z (List.mem_of_getElem? hzk)
      have hsn := sum_snoc zs k z hzk
      have hsa := sum_abs (zs.take k) (take_mem Hr.out k)
      have hlen : (zs.take k).length ≤ 1000 := by simp; omega
      obtain ⟨S, hS⟩ : ∃ S, (zs.take k).sum = S := ⟨_, rfl⟩
      rw [hS] at m0 hsn hsa
      have hce : wr.cell? ⟨b1, o1 + k, none⟩ = some (.int .i64 z) := ((hb'.cell (p := ⟨b1, o1 + k, none⟩) (by rw [← Hb4.out]; exact hb1)).trans hc).trans (by rw [hz])
      have hz1 : -9223372036854775808 ≤ z := hzr.1
      have hz2 : z < 9223372036854775808 := by have := hzr.2; omega
      have hz3 : z.natAbs < 2 ^ 200 := by have : z.natAbs ≤ 9223372036854775808 := by omega
                                          exact Nat.lt_of_le_of_lt this (by decide)
      have hS1 : S.natAbs < 2 ^ 200 := by
        have : S.natAbs ≤ 9223372036854775808 * 1000 := Nat.le_trans hsa (Nat.mul_le_mul_left _ hlen)
        exact Nat.lt_of_le_of_lt this (by decide)
      have Hsn := Lib.hid hsn
      have hkI : (k : Int) < (N : Int) := by omega
      have hkI0 : (0 : Int) ≤ (k : Int) := by omega
      have w7 : IntKind.i64.wrap ((k : Int) + 1) = (k : Int) + 1 := IntWalk.i64_in _ (by omega)
      have hle : b4 ≤ b4 := Nat.le_refl _
      clear hsn hsa hlen hS hzr hzk hk2 hz hc
      go_wp2_with fail
      refine wp_region_any (by kernel_rfl) ?_
      have xw : NB { wr with drawn := wr.drawn + 1 } b4 (decide (S < 0)) (bitF S.natAbs) := m0
      have hce : World.cell? { wr with drawn := wr.drawn + 1 } ⟨b1, o1 + k, none⟩ = some (.int .i64 z) := hce
      have hB : Below b4 w { wr with drawn := wr.drawn + 1 } := hb'.drew
      clear m0 hb'
      generalize ({ wr with drawn := wr.drawn + 1 } : World) = W1 at *
      refine wpAny_take (i := 1) (v := ?_) rfl (by kernel_rfl) (by kernel_rfl) (by kernel_rfl) (fun _ _ _ h => h) (Or.inl ⟨by kernel_rfl, ?_⟩) ?_
      rotate_left
      · intro w'; go_simp; try with_reducible rfl
      simp only [Act.put, List.getElem_toArray, List.getElem_cons_succ, List.getElem_cons_zero, List.setIfInBounds_toArray, List.set_cons_zero, List.set_cons_succ]
      refine wpAny_take (i := 2) (v := ?_) rfl (by kernel_rfl) (by kernel_rfl) (by kernel_rfl) (fun _ _ _ h => h) (Or.inl ⟨by kernel_rfl, ?_⟩) ?_
      rotate_left
      · intro w'; go_simp; try with_reducible rfl
      simp only [Act.put, List.getElem_toArray, List.getElem_cons_succ, List.getElem_cons_zero, List.setIfInBounds_toArray, List.set_cons_zero, List.set_cons_succ]
      refine wpAny_take (i := 3) (v := ?_) rfl (by kernel_rfl) (by kernel_rfl) (by kernel_rfl) (fun _ _ _ h => h) (Or.inl ⟨by kernel_rfl, ?_⟩) ?_
      rotate_left
      · intro w'; go_simp; try with_reducible rfl
      simp only [Act.put, List.getElem_toArray, List.getElem_cons_succ, List.getElem_cons_zero, List.setIfInBounds_toArray, List.set_cons_zero, List.set_cons_succ]
      refine wpAny_ready (rs := [0, 4]) (by kernel_rfl) (by simp) ?_
      refine AllReady.cons rfl (fun K0 hK0 => ?_) (AllReady.cons rfl (fun K0 hK0 => ?_) (AllReady.nil))
      · refine step_ldN xw rfl (.tmp 4) rfl rfl ?_
        refine hK0 _ _ ?_
        simp only [Act.put, List.getElem_toArray, List.getElem_cons_succ, List.getElem_cons_zero, List.setIfInBounds_toArray, List.set_cons_zero, List.set_cons_succ]
        refine wpAny_ready (rs := [4]) (by kernel_rfl) (by simp) ?_
        refine AllReady.cons rfl (fun K1 hK1 => ?_) (AllReady.nil)
        refine step_val rfl (.int .i64 z) (by go_simp) ?_
        refine hK1 _ _ ?_
        simp only [Act.put, List.getElem_toArray, List.getElem_cons_succ, List.getElem_cons_zero, List.setIfInBounds_toArray, List.set_cons_zero, List.set_cons_succ]
        refine wpAny_ready (rs := [5]) (by kernel_rfl) (by simp) ?_
        refine AllReady.cons rfl (fun K2 hK2 => ?_) (AllReady.nil)
        refine step_callN rfl 30 #[.tmp 16] _ rfl #[.int .i64 z] (by simp [Act.eval, Act.put]) (enters_of Try.func30 (by kernel_rfl) rfl) (num_signed z hz1 hz2 _) ?_
        rintro e wd ⟨rfl, hbd⟩
        refine ⟨_, rfl, ?_⟩
        have hB := belowN hB xw hle hbd
        have xw := xw.next hbd
        have hce := (hbd.cell (p := ⟨b1, o1 + k, none⟩) (block_lt hce)).trans hce
        refine hK2 _ _ ?_
        simp only [Act.put, List.getElem_toArray, List.getElem_cons_succ, List.getElem_cons_zero, List.setIfInBounds_toArray, List.set_cons_zero, List.set_cons_succ]
        refine wpAny_ready (rs := [6]) (by kernel_rfl) (by simp) ?_
        refine AllReady.cons rfl (fun K3 hK3 => ?_) (AllReady.nil)
        refine step_callN rfl 29 #[.tmp 12, .tmp 17] _ rfl #[numZ S, numZ z] (by simp [Act.eval, Act.put, numZ]) (enters_of Try.func29 (by kernel_rfl) rfl) (num_sum S z hS1 hz3 _) ?_
        rintro e we ⟨rfl, hbe⟩
        refine ⟨_, rfl, ?_⟩
        have hB := belowN hB xw hle hbe
        have xw := xw.next hbe
        have hce := (hbe.cell (p := ⟨b1, o1 + k, none⟩) (block_lt hce)).trans hce
        refine hK3 _ _ ?_
        simp only [Act.put, List.getElem_toArray, List.getElem_cons_succ, List.getElem_cons_zero, List.setIfInBounds_toArray, List.set_cons_zero, List.set_cons_succ]
        refine wpAny_ready (rs := [7]) (by kernel_rfl) (by simp) ?_
        refine AllReady.cons rfl (fun K4 hK4 => ?_) (AllReady.nil)
        unfold numZ
        refine step_stN xw rfl (.tmp 4) (.tmp 18) rfl rfl _ _ rfl ?_
        have hB := below_row hB hle (numC (decide (S + z < 0)) (bitF (S + z).natAbs))
        have xw := xw.put (decide (S + z < 0)) (bitF (S + z).natAbs)
        refine hK4 _ _ ?_
        simp only [Act.put, List.getElem_toArray, List.getElem_cons_succ, List.getElem_cons_zero, List.setIfInBounds_toArray, List.set_cons_zero, List.set_cons_succ]
        refine wpAny_done (by kernel_rfl) ?_ _
        have Xw := Lib.hid xw
        have HB := Lib.hid hB
        clear xw hB hce
        go_wp2_with fail
        refine ⟨⟨k + 1, by omega, by push_cast; rfl, ?_, HB.out⟩, by simp [intOf]; omega⟩
        rw [Hsn.out]; exact Xw.out
      · refine step_val rfl (.int .i64 z) (by go_simp) ?_
        refine hK0 _ _ ?_
        simp only [Act.put, List.getElem_toArray, List.getElem_cons_succ, List.getElem_cons_zero, List.setIfInBounds_toArray, List.set_cons_zero, List.set_cons_succ]
        refine wpAny_ready (rs := [0, 5]) (by kernel_rfl) (by simp) ?_
        refine AllReady.cons rfl (fun K1 hK1 => ?_) (AllReady.cons rfl (fun K1 hK1 => ?_) (AllReady.nil))
        · refine step_ldN xw rfl (.tmp 4) rfl rfl ?_
          refine hK1 _ _ ?_
          simp only [Act.put, List.getElem_toArray, List.getElem_cons_succ, List.getElem_cons_zero, List.setIfInBounds_toArray, List.set_cons_zero, List.set_cons_succ]
          refine wpAny_ready (rs := [5]) (by kernel_rfl) (by simp) ?_
          refine AllReady.cons rfl (fun K2 hK2 => ?_) (AllReady.nil)
          refine step_callN rfl 30 #[.tmp 16] _ rfl #[.int .i64 z] (by simp [Act.eval, Act.put]) (enters_of Try.func30 (by kernel_rfl) rfl) (num_signed z hz1 hz2 _) ?_
          rintro e wd ⟨rfl, hbd⟩
          refine ⟨_, rfl, ?_⟩
          have hB := belowN hB xw hle hbd
          have xw := xw.next hbd
          have hce := (hbd.cell (p := ⟨b1, o1 + k, none⟩) (block_lt hce)).trans hce
          refine hK2 _ _ ?_
          simp only [Act.put, List.getElem_toArray, List.getElem_cons_succ, List.getElem_cons_zero, List.setIfInBounds_toArray, List.set_cons_zero, List.set_cons_succ]
          refine wpAny_ready (rs := [6]) (by kernel_rfl) (by simp) ?_
          refine AllReady.cons rfl (fun K3 hK3 => ?_) (AllReady.nil)
          refine step_callN rfl 29 #[.tmp 12, .tmp 17] _ rfl #[numZ S, numZ z] (by simp [Act.eval, Act.put, numZ]) (enters_of Try.func29 (by kernel_rfl) rfl) (num_sum S z hS1 hz3 _) ?_
          rintro e we ⟨rfl, hbe⟩
          refine ⟨_, rfl, ?_⟩
          have hB := belowN hB xw hle hbe
          have xw := xw.next hbe
          have hce := (hbe.cell (p := ⟨b1, o1 + k, none⟩) (block_lt hce)).trans hce
          refine hK3 _ _ ?_
          simp only [Act.put, List.getElem_toArray, List.getElem_cons_succ, List.getElem_cons_zero, List.setIfInBounds_toArray, List.set_cons_zero, List.set_cons_succ]
          refine wpAny_ready (rs := [7]) (by kernel_rfl) (by simp) ?_
          refine AllReady.cons rfl (fun K4 hK4 => ?_) (AllReady.nil)
          unfold numZ
          refine step_stN xw rfl (.tmp 4) (.tmp 18) rfl rfl _ _ rfl ?_
          have hB := below_row hB hle (numC (decide (S + z < 0)) (bitF (S + z).natAbs))
          have xw := xw.put (decide (S + z < 0)) (bitF (S + z).natAbs)
          refine hK4 _ _ ?_
          simp only [Act.put, List.getElem_toArray, List.getElem_cons_succ, List.getElem_cons_zero, List.setIfInBounds_toArray, List.set_cons_zero, List.set_cons_succ]
          refine wpAny_done (by kernel_rfl) ?_ _
          have Xw := Lib.hid xw
          have HB := Lib.hid hB
          clear xw hB hce
          go_wp2_with fail
          refine ⟨⟨k + 1, by omega, by push_cast; rfl, ?_, HB.out⟩, by simp [intOf]; omega⟩
          rw [Hsn.out]; exact Xw.out
        · refine step_callN rfl 30 #[.tmp 16] _ rfl #[.int .i64 z] (by simp [Act.eval, Act.put]) (enters_of Try.func30 (by kernel_rfl) rfl) (num_signed z hz1 hz2 _) ?_
          rintro e wd ⟨rfl, hbd⟩
          refine ⟨_, rfl, ?_⟩
          have hB := belowN hB xw hle hbd
          have xw := xw.next hbd
          have hce := (hbd.cell (p := ⟨b1, o1 + k, none⟩) (block_lt hce)).trans hce
          refine hK1 _ _ ?_
          simp only [Act.put, List.getElem_toArray, List.getElem_cons_succ, List.getElem_cons_zero, List.setIfInBounds_toArray, List.set_cons_zero, List.set_cons_succ]
          refine wpAny_ready (rs := [0]) (by kernel_rfl) (by simp) ?_
          refine AllReady.cons rfl (fun K2 hK2 => ?_) (AllReady.nil)
          refine step_ldN xw rfl (.tmp 4) rfl rfl ?_
          refine hK2 _ _ ?_
          simp only [Act.put, List.getElem_toArray, List.getElem_cons_succ, List.getElem_cons_zero, List.setIfInBounds_toArray, List.set_cons_zero, List.set_cons_succ]
          refine wpAny_ready (rs := [6]) (by kernel_rfl) (by simp) ?_
          refine AllReady.cons rfl (fun K3 hK3 => ?_) (AllReady.nil)
          refine step_callN rfl 29 #[.tmp 12, .tmp 17] _ rfl #[numZ S, numZ z] (by simp [Act.eval, Act.put, numZ]) (enters_of Try.func29 (by kernel_rfl) rfl) (num_sum S z hS1 hz3 _) ?_
          rintro e we ⟨rfl, hbe⟩
          refine ⟨_, rfl, ?_⟩
          have hB := belowN hB xw hle hbe
          have xw := xw.next hbe
          have hce := (hbe.cell (p := ⟨b1, o1 + k, none⟩) (block_lt hce)).trans hce
          refine hK3 _ _ ?_
          simp only [Act.put, List.getElem_toArray, List.getElem_cons_succ, List.getElem_cons_zero, List.setIfInBounds_toArray, List.set_cons_zero, List.set_cons_succ]
          refine wpAny_ready (rs := [7]) (by kernel_rfl) (by simp) ?_
          refine AllReady.cons rfl (fun K4 hK4 => ?_) (AllReady.nil)
          unfold numZ
          refine step_stN xw rfl (.tmp 4) (.tmp 18) rfl rfl _ _ rfl ?_
          have hB := below_row hB hle (numC (decide (S + z < 0)) (bitF (S + z).natAbs))
          have xw := xw.put (decide (S + z < 0)) (bitF (S + z).natAbs)
          refine hK4 _ _ ?_
          simp only [Act.put, List.getElem_toArray, List.getElem_cons_succ, List.getElem_cons_zero, List.setIfInBounds_toArray, List.set_cons_zero, List.set_cons_succ]
          refine wpAny_done (by kernel_rfl) ?_ _
          have Xw := Lib.hid xw
          have HB := Lib.hid hB
          clear xw hB hce
          go_wp2_with fail
          refine ⟨⟨k + 1, by omega, by push_cast; rfl, ?_, HB.out⟩, by simp [intOf]; omega⟩
          rw [Hsn.out]; exact Xw.out
    · obtain rfl : N = k := by omega
      have e1 : zs.take N = zs := List.take_of_length_le (by rw [HN.out]; exact Nat.le_refl _)
      rw [e1] at m0
      have hsa := sum_abs zs Hr.out
      have hS1 : zs.sum.natAbs < 2 ^ 200 := by
        have : zs.sum.natAbs ≤ 9223372036854775808 * 1000 := Nat.le_trans hsa (Nat.mul_le_mul_left _ (by rw [HN.out]; exact hl))
        exact Nat.lt_of_le_of_lt this (by decide)
      have HT := Lib.hid (num_told zs.sum hS1)
      unfold numZ at HT
      obtain ⟨x, y, hxy⟩ : ∃ x y : Int, toldV zs.sum = .tuple #[.int .i64 x, .int .i64 y] := ⟨_, _, rfl⟩
      rw [hxy] at HT
      have Hxy := Lib.hid hxy
      clear hxy
      clear hsa hS1 e1
      have kN : decide ((N : Int) < (N : Int)) = false := by simp
      go_wp2_with (first | (refine ld_num m0 rfl _ rfl rfl ?_))
      refine (HT.out _).mono ?_
      rintro e wu ⟨rfl, hbu⟩
      have hBu := belowN hb' m0 (Nat.le_refl _) hbu
      clear m0 HT hbu hb'
      go_wp2_with fail
      go_ret2
      exact ⟨by rw [Hxy.out]; rfl, by rw [Hb4.out]; exact hBu⟩
theorem inZ_inR (z : Int) : inZ z ↔ inR z := by unfold inZ inR; omega
theorem told_okV (z : Int) : toldV z = okV z := by
  unfold okV
  by_cases h : inR z
  · rw [if_pos h, toldV_yes z ((inZ_inR z).2 h)]
  · rw [if_neg h, toldV_no z (fun h2 => h ((inZ_inR z).1 h2))]
theorem okV_two (z : Int) : ∃ x y : Int, okV z = .tuple #[.int .i64 x, .int .i64 y] := by
  unfold okV; split <;> exact ⟨_, _, rfl⟩

set_option maxHeartbeats 1000000 in
theorem fixqSums_walk (a0 : Option Addr) (len0 cap0 : Nat) (z0 : List Int) (w : World) (w0 : IsRow .i64 w a0 len0 cap0 z0) :
    Calls Try.prog 4 #[.slice a0 len0 cap0] w fun e w' => e = .returned (.bool true) ∧ Below w.heap.size w w' := by
  obtain ⟨l, hl, hr, hR⟩ := isRow_ints w0
  subst hl
  clear w0
  by_cases h1 : 100 < l.length
  · have k1 : decide (100 < (l.length : Int)) = true := by simp; omega
    clear h1
    go_enter Try.func4, Try.ntmps4
    go_wp2_with fail
    go_ret
    exact ⟨rfl, Below.refl _ _⟩
  · have k1 : decide (100 < (l.length : Int)) = false := by simp; omega
    have HS := Lib.hid (sum_calls a0 cap0 l (by omega) (fun i hi => hr _ (by rw [List.getD_eq_getElem?_getD, List.getElem?_eq_getElem hi]; exact List.getElem_mem hi)) w hR)
    have HA := Lib.hid (fun W (h : RdI W W.heap.size a0 l) => num_all a0 cap0 l.length l rfl (by omega) hr W h)
    have HR := Lib.hid hR
    obtain ⟨x, y, hxy⟩ := okV_two l.sum
    rw [hxy] at HS
    simp only [told_okV, hxy] at HA
    clear h1 hr hR hxy
    go_enter Try.func4, Try.ntmps4
    go_wp2_with fail
    refine HS.out.mono ?_
    rintro e w1 ⟨rfl, hb1⟩
    go_wp2_with fail
    refine (HA.out w1 ((Rd.below HR.out hb1).more hb1.size)).mono ?_
    rintro e w2 ⟨rfl, hb2⟩
    go_wp2_with fail
    go_ret
    exact ⟨by simp, bnext hb1 hb2⟩
end Go.Proofs.Ytbbbjgilbddabaa
