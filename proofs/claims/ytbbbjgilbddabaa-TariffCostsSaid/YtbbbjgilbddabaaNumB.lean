/-
  Numbers of 200 bits: of int64, their sum, back to int64, walked. Conditions stand at each theorem.
-/
import Derived.Test.YtbbbjgilbddabaaNumA
import Derived.RegionTactic
import Derived.Shelf.Abstract
import Derived.Orders
namespace Go.Proofs.Ytbbbjgilbddabaa
open Go Go.RowKit Go.Kw Go.Kw.Nm
set_option linter.unusedVariables false
set_option linter.unusedSimpArgs false

theorem bitF_z : bitF 0 = fun _ => 0 := funext fun i => bitF_zero i
/-- A number with its sign. -/
def numZ (z : Int) : Value := .agg (numC (decide (z < 0)) (bitF z.natAbs))
theorem step_ldN {ops : Array Oper} {o : Oper} {a : Act} {w : World} {K : Act → World → Prop} {Q : Exit → Act → World → Prop} {E : Prop} {g : Nat} {neg : Bool} {f : Nat → Nat} (h : NB w g neg f) (hgd : o.guard = none) (x : Operand) (ho : o.op = .load 68 x) (hx : a.eval x = .pointer (some ⟨g, 0, none⟩))
    (hK : K (a.put o.dst (.agg (numC neg f))) w) : if Region.wanted o (yielded ops a.tmps) = true then Oper.wp Try.prog o a w K Q else E := by
  have hw : Region.wanted o (yielded ops a.tmps) = true := by simp [Region.wanted, hgd]
  rw [if_pos hw]
  exact wp_load_row 68 x ho g hx 68 _ (0, 0) _ h Try.underlying68 rfl (num_sizeC _ _) hK
theorem step_stN {ops : Array Oper} {o : Oper} {a : Act} {w : World} {K : Act → World → Prop} {Q : Exit → Act → World → Prop} {E : Prop} {g : Nat} {neg : Bool} {f : Nat → Nat} (h : NB w g neg f) (hgd : o.guard = none) (x y : Operand) (ho : o.op = .store 68 x y) (hx : a.eval x = .pointer (some ⟨g, 0, none⟩)) (n' : Bool) (f' : Nat → Nat) (hy : a.eval y = .agg (numC n' f'))
    (hK : K (a.put o.dst undef) (w.setRow g (numC n' f'))) : if Region.wanted o (yielded ops a.tmps) = true then Oper.wp Try.prog o a w K Q else E := by
  have hw : Region.wanted o (yielded ops a.tmps) = true := by simp [Region.wanted, hgd]
  rw [if_pos hw]
  exact wp_store_row 68 x y ho g _ hx hy 68 _ h (num_sizeC _ _) (by rw [numC_size, numC_size]) (num_one _ _) hK
theorem step_callN {ops : Array Oper} {o : Oper} {a : Act} {w : World} {K : Act → World → Prop} {Q : Exit → Act → World → Prop} {E : Prop}
    (hg : o.guard = none) (f : FuncId) (xs : Array Operand) (ts : Array TypeId) (hop : o.op = Op.call { callee := Callee.value (Operand.func f), args := xs, argTypes := ts }) (vs : Array Value) (hx : xs.map a.eval = vs)
    (hent : ∀ args w, (callFunc f args).run Try.prog w = .ok (.enter f args) w) {R : Ending → World → Prop} (hc : Calls Try.prog f vs w R) (hR : ∀ e w', R e w' → ∃ u, e = .returned u ∧ K (a.put o.dst u) w') :
    if Region.wanted o (yielded ops a.tmps) = true then Oper.wp Try.prog o a w K Q else E := by
  have hw : Region.wanted o (yielded ops a.tmps) = true := by simp [Region.wanted, hg]
  rw [if_pos hw]
  unfold Oper.wp
  have hf : a.eval (Operand.func f) = .func (.func f) #[] #[] := rfl
  have hrun : (execOp a.eval o).run Try.prog w = .ok (.enter f vs) w := by simp [execOp, hop, resolve, invoke, hf, hent, go_sem, hx]
  rw [hrun, Oper.upon_enter]
  exact hc.mono fun e w' hr => by obtain ⟨u, rfl, hk⟩ := hR e w' hr; exact hk
theorem below_setC {B : Nat} {a w : World} (h : Below B a w) {p : Addr} (hp : B ≤ p.block) (v : Value) : Below B a (w.setCell p v) := h.setCell hp v

set_option maxRecDepth 100000 in
set_option maxHeartbeats 2000000 in
theorem num_signed (z : Int) (h0 : -9223372036854775808 ≤ z) (h1 : z < 9223372036854775808) (w : World) : Calls Try.prog 30 #[.int .i64 z] w fun e w' => e = .returned (numZ z) ∧ Below w.heap.size w w' := by
  have hz := num_zero
  have n0 := NB.new w false (fun _ => 0)
  have hb0 : Below w.heap.size w (w.alloc (.cells (numC false fun _ => 0) 68)) := (Below.refl _ w).alloc (Nat.le_refl _) _
  unfold numZ
  by_cases hneg : z < 0
  · have k1 : decide (z ≥ 0) = false := by simp; omega
    have k2 : decide (z < 0) = true := by simp; omega
    obtain ⟨m, hm⟩ : ∃ m : Nat, z = -((m : Int) + 1) := ⟨(-z - 1).toNat, by omega⟩
    have w1 : IntKind.i64.wrap (z + 1) = z + 1 := IntWalk.i64_in _ (by omega)
    have w2 : IntKind.i64.wrap (-(z + 1)) = (m : Int) := by rw [IntWalk.i64_in _ (by omega)]; omega
    have w3 : IntKind.u64.wrap (m : Int) = (m : Int) := by rw [IntKind.wrap_u64]; omega
    have hna : z.natAbs = m + 1 := by omega
    have Hof := Lib.hid (num_of m (by omega))
    have Hna := Lib.hid hna
    clear hm hna
    go_enter Try.func30, Try.ntmps30
    go_wp2_with fail
    refine (Hof.out _).mono ?_
    rintro e wc ⟨rfl, hb2⟩
    have m3 := NB.new wc false (fun _ => 0)
    go_wp2_with (first | (refine st_num m3 rfl _ _ rfl rfl _ _ rfl ?_))
    rw [World.setRow_alloc_new]
    have x3 := NB.new wc false (bitF m)
    have hbc : Below wc.heap.size wc (wc.alloc (.cells (numC false (bitF m)) 68)) := (Below.refl _ _).alloc (Nat.le_refl _) _
    have x2 := (n0.next hb2).next hbc
    have hB := bnext (bnext hb0 hb2) hbc
    have hne : w.heap.size ≠ wc.heap.size := Nat.ne_of_lt (n0.next hb2).lt
    have hle : w.heap.size ≤ wc.heap.size := Nat.le_of_lt (n0.next hb2).lt
    generalize wc.alloc (.cells (numC false (bitF m)) 68) = W at *
    obtain ⟨b2, hb2'⟩ : ∃ b2, w.heap.size = b2 := ⟨_, rfl⟩
    obtain ⟨b3, hb3'⟩ : ∃ b3, wc.heap.size = b3 := ⟨_, rfl⟩
    rw [hb2'] at hne hle x2 ⊢
    rw [hb3'] at hne hle x3 ⊢
    have Hb2 := Lib.hid hb2'
    rw [hb2'] at hB
    clear hb2' hb3' m3 hbc hb2 hb0 n0 hz
    refine wp_region_any (by kernel_rfl) ?_
    have x3 : NB { W with drawn := W.drawn + 1 } b3 false (bitF m) := x3
    have x2 : NB { W with drawn := W.drawn + 1 } b2 false (fun _ => 0) := x2
    have hB : Below b2 w { W with drawn := W.drawn + 1 } := hB.drew
    generalize ({ W with drawn := W.drawn + 1 } : World) = W1 at *
    refine wpAny_ready (rs := [0, 1]) (by kernel_rfl) (by simp) ?_
    refine AllReady.cons rfl (fun K0 hK0 => ?_) (AllReady.cons rfl (fun K0 hK0 => ?_) (AllReady.nil))
    · refine step_ldN x3 rfl (.tmp 3) rfl rfl ?_
      refine hK0 _ _ ?_
      simp only [Act.put, List.getElem_toArray, List.getElem_cons_succ, List.getElem_cons_zero, List.setIfInBounds_toArray, List.set_cons_zero, List.set_cons_succ]
      refine wpAny_ready (rs := [1]) (by kernel_rfl) (by simp) ?_
      refine AllReady.cons rfl (fun K1 hK1 => ?_) (AllReady.nil)
      refine step_callN rfl 36 #[.const (.int .u64 1)] _ rfl #[.int .u64 ((1 : Nat) : Int)] (by simp [Act.eval, Act.put]) (enters_of Try.func36 (by kernel_rfl) rfl) (num_of 1 (by omega) _) ?_
      rintro e wd ⟨rfl, hbd⟩
      refine ⟨_, rfl, ?_⟩
      have hB := hB.trans (hbd.mono (Nat.le_of_lt x2.lt))
      have x3 := x3.next hbd
      have x2 := x2.next hbd
      refine hK1 _ _ ?_
      simp only [Act.put, List.getElem_toArray, List.getElem_cons_succ, List.getElem_cons_zero, List.setIfInBounds_toArray, List.set_cons_zero, List.set_cons_succ]
      refine wpAny_ready (rs := [2]) (by kernel_rfl) (by simp) ?_
      refine AllReady.cons rfl (fun K2 hK2 => ?_) (AllReady.nil)
      refine step_callN rfl 35 #[.tmp 14, .tmp 15] _ rfl #[.agg (numC false (bitF m)), .agg (numC false (bitF 1))] (by simp [Act.eval, Act.put]) (enters_of Try.func35 (by kernel_rfl) rfl) (num_plus false false m 1 _) ?_
      rintro e we ⟨rfl, hbe⟩
      refine ⟨_, rfl, ?_⟩
      have hB := hB.trans (hbe.mono (Nat.le_of_lt x2.lt))
      have x3 := x3.next hbe
      have x2 := x2.next hbe
      refine hK2 _ _ ?_
      simp only [Act.put, List.getElem_toArray, List.getElem_cons_succ, List.getElem_cons_zero, List.setIfInBounds_toArray, List.set_cons_zero, List.set_cons_succ]
      refine wpAny_ready (rs := [3]) (by kernel_rfl) (by simp) ?_
      refine AllReady.cons rfl (fun K3 hK3 => ?_) (AllReady.nil)
      refine step_stN x3 rfl (.tmp 3) (.tmp 16) rfl rfl _ _ rfl ?_
      have x2 := x2.row _ hne (numC false (bitF (m + 1)))
      have x3 := x3.put false (bitF (m + 1))
      have hB := below_row hB hle (numC false (bitF (m + 1)))
      refine hK3 _ _ ?_
      simp only [Act.put, List.getElem_toArray, List.getElem_cons_succ, List.getElem_cons_zero, List.setIfInBounds_toArray, List.set_cons_zero, List.set_cons_succ]
      refine wpAny_done (by kernel_rfl) ?_ _
      have f3 := x3.fr 0
      have c3 := x3.c0
      have x5 := x3.setN true
      have y5 := x2.far (p := ⟨b3, 0, none⟩) hne (.bool true)
      have hB5 := below_setC hB (p := ⟨b3, 0, none⟩) hle (.bool true)
      clear x3 x2 hB
      go_wp2_with (first | (refine ld_num x5 rfl _ rfl rfl ?_) | (refine st_num y5 rfl _ _ rfl rfl _ _ rfl ?_))
      refine bodyPost_ret (v := .agg (numC true (bitF (m + 1)))) (res_num rfl _ _ b2 (y5.put _ _) rfl) rfl ⟨by rw [k2, Hna.out], by rw [Hb2.out]; exact below_row hB5 (Nat.le_refl _) _⟩
    · refine step_callN rfl 36 #[.const (.int .u64 1)] _ rfl #[.int .u64 ((1 : Nat) : Int)] (by simp [Act.eval, Act.put]) (enters_of Try.func36 (by kernel_rfl) rfl) (num_of 1 (by omega) _) ?_
      rintro e wd ⟨rfl, hbd⟩
      refine ⟨_, rfl, ?_⟩
      have hB := hB.trans (hbd.mono (Nat.le_of_lt x2.lt))
      have x3 := x3.next hbd
      have x2 := x2.next hbd
      refine hK0 _ _ ?_
      simp only [Act.put, List.getElem_toArray, List.getElem_cons_succ, List.getElem_cons_zero, List.setIfInBounds_toArray, List.set_cons_zero, List.set_cons_succ]
      refine wpAny_ready (rs := [0]) (by kernel_rfl) (by simp) ?_
      refine AllReady.cons rfl (fun K1 hK1 => ?_) (AllReady.nil)
      refine step_ldN x3 rfl (.tmp 3) rfl rfl ?_
      refine hK1 _ _ ?_
      simp only [Act.put, List.getElem_toArray, List.getElem_cons_succ, List.getElem_cons_zero, List.setIfInBounds_toArray, List.set_cons_zero, List.set_cons_succ]
      refine wpAny_ready (rs := [2]) (by kernel_rfl) (by simp) ?_
      refine AllReady.cons rfl (fun K2 hK2 => ?_) (AllReady.nil)
      refine step_callN rfl 35 #[.tmp 14, .tmp 15] _ rfl #[.agg (numC false (bitF m)), .agg (numC false (bitF 1))] (by simp [Act.eval, Act.put]) (enters_of Try.func35 (by kernel_rfl) rfl) (num_plus false false m 1 _) ?_
      rintro e we ⟨rfl, hbe⟩
      refine ⟨_, rfl, ?_⟩
      have hB := hB.trans (hbe.mono (Nat.le_of_lt x2.lt))
      have x3 := x3.next hbe
      have x2 := x2.next hbe
      refine hK2 _ _ ?_
      simp only [Act.put, List.getElem_toArray, List.getElem_cons_succ, List.getElem_cons_zero, List.setIfInBounds_toArray, List.set_cons_zero, List.set_cons_succ]
      refine wpAny_ready (rs := [3]) (by kernel_rfl) (by simp) ?_
      refine AllReady.cons rfl (fun K3 hK3 => ?_) (AllReady.nil)
      refine step_stN x3 rfl (.tmp 3) (.tmp 16) rfl rfl _ _ rfl ?_
      have x2 := x2.row _ hne (numC false (bitF (m + 1)))
      have x3 := x3.put false (bitF (m + 1))
      have hB := below_row hB hle (numC false (bitF (m + 1)))
      refine hK3 _ _ ?_
      simp only [Act.put, List.getElem_toArray, List.getElem_cons_succ, List.getElem_cons_zero, List.setIfInBounds_toArray, List.set_cons_zero, List.set_cons_succ]
      refine wpAny_done (by kernel_rfl) ?_ _
      have f3 := x3.fr 0
      have c3 := x3.c0
      have x5 := x3.setN true
      have y5 := x2.far (p := ⟨b3, 0, none⟩) hne (.bool true)
      have hB5 := below_setC hB (p := ⟨b3, 0, none⟩) hle (.bool true)
      clear x3 x2 hB
      go_wp2_with (first | (refine ld_num x5 rfl _ rfl rfl ?_) | (refine st_num y5 rfl _ _ rfl rfl _ _ rfl ?_))
      refine bodyPost_ret (v := .agg (numC true (bitF (m + 1)))) (res_num rfl _ _ b2 (y5.put _ _) rfl) rfl ⟨by rw [k2, Hna.out], by rw [Hb2.out]; exact below_row hB5 (Nat.le_refl _) _⟩
  · obtain ⟨m, rfl⟩ := Int.eq_ofNat_of_zero_le (show 0 ≤ z by omega)
    have k1 : decide ((m : Int) ≥ 0) = true := by simp
    have k2 : decide ((m : Int) < 0) = false := by simp
    have w3 : IntKind.u64.wrap (m : Int) = (m : Int) := by rw [IntKind.wrap_u64]; omega
    have Hof := Lib.hid (num_of m (by omega))
    go_enter Try.func30, Try.ntmps30
    go_wp2_with fail
    refine (Hof.out _).mono ?_
    rintro e wc ⟨rfl, hb2⟩
    have m2 := n0.next hb2
    have hB := bnext hb0 hb2
    go_wp2_with (first | (refine st_num m2 rfl _ _ rfl rfl _ _ rfl ?_))
    refine bodyPost_ret (v := .agg (numC false (bitF m))) (res_num rfl _ _ w.heap.size (m2.put _ _) rfl) rfl ⟨by rw [k2]; rfl, below_row hB (Nat.le_refl _) _⟩
theorem nb3 (w : World) (na nb nc : Bool) (fa fb fc : Nat → Nat) : ∃ W, (((w.alloc (.cells (numC na fa) 68)).alloc (.cells (numC nb fb) 68)).alloc (.cells (numC nc fc) 68)) = W ∧
    NB W w.heap.size na fa ∧ NB W (w.heap.size + 1) nb fb ∧ NB W (w.heap.size + 1 + 1) nc fc ∧ Below w.heap.size w W := by
  have st : ∀ (w : World) (o : Obj), Below w.heap.size w (w.alloc o) := fun w o => (Below.refl _ w).alloc (Nat.le_refl _) o
  refine ⟨_, rfl, ((NB.new w na fa).next (st _ _)).next (st _ _), ?_, ?_, ((st w _).trans ((st _ _).mono (by simp only [World.size_alloc]; omega))).trans ((st _ _).mono (by simp only [World.size_alloc]; omega))⟩
  · have := (NB.new (w.alloc (.cells (numC na fa) 68)) nb fb).next (st _ (.cells (numC nc fc) 68))
    rw [World.size_alloc] at this; exact this
  · have := NB.new ((w.alloc (.cells (numC na fa) 68)).alloc (.cells (numC nb fb) 68)) nc fc
    rw [World.size_alloc, World.size_alloc] at this; exact this
theorem belowN {B : Nat} {a w w' : World} {g : Nat} {neg : Bool} {f : Nat → Nat} (h : Below B a w) (hg : NB w g neg f) (hB : B ≤ g) (k : Below w.heap.size w w') : Below B a w' := h.trans (k.mono (by have := hg.lt; omega))
theorem alloc_put (w : World) (f : Nat → Nat) : ∃ V, (w.alloc (.cells (numC false fun _ => 0) 68)).setRow w.heap.size (numC false f) = V ∧ NB V w.heap.size false f ∧ (∀ b n g, NB w b n g → NB V b n g) ∧ ∀ B a, Below B a w → B ≤ w.heap.size → Below B a V := by
  rw [World.setRow_alloc_new]
  have st : Below w.heap.size w (w.alloc (.cells (numC false f) 68)) := (Below.refl _ w).alloc (Nat.le_refl _) _
  exact ⟨_, rfl, NB.new w false f, fun b n g h => h.next st, fun B a h hB => h.trans (st.mono hB)⟩
theorem stepN (w : World) (o : Obj) : Below w.heap.size w (w.alloc o) := (Below.refl _ w).alloc (Nat.le_refl _) o

set_option maxRecDepth 100000 in
set_option maxHeartbeats 2000000 in
theorem num_sum_same (sg : Bool) (A B : Nat) (w : World) : Calls Try.prog 29 #[.agg (numC sg (bitF A)), .agg (numC sg (bitF B))] w fun e w' => e = .returned (.agg (numC sg (bitF (A + B)))) ∧ Below w.heap.size w w' := by
  have hz := num_zero
  obtain ⟨W, hW, n0, n1, n2, hb⟩ := nb3 w sg sg false (bitF A) (bitF B) (fun _ => 0)
  have c0 := n0.c0
  have c1 := n1.c0
  have k1 : (sg == sg) = true := by simp
  go_enter Try.func29, Try.ntmps29
  go_wp2_with (first | (refine ld_num n0 rfl _ rfl rfl ?_) | (refine ld_num n1 rfl _ rfl rfl ?_))
  refine (num_plus sg sg A B W).mono ?_
  rintro e wc ⟨rfl, hbc⟩
  obtain ⟨V, hV, x5, hx, hBx⟩ := alloc_put wc (bitF (A + B))
  have m5 := NB.new wc false (fun _ => 0)
  have c0' := (hx _ _ _ (n0.next hbc)).c0
  have x2 := hx _ _ _ (n2.next hbc)
  have hlt := (n2.next hbc).lt
  have hB2 := hBx _ _ (belowN hb n0 (Nat.le_refl _) hbc) (by omega)
  have c5 := x5.c0
  have f5 := x5.fr 0
  have y5 := x5.setN sg
  have y2 := x2.far (p := ⟨wc.heap.size, 0, none⟩) (by simp; omega) (.bool sg)
  have hB5 := below_setC hB2 (p := ⟨wc.heap.size, 0, none⟩) (by simp; omega) (.bool sg)
  clear hx hBx hbc x2 x5 hB2
  clear c0 c1 hW n0 n1 n2 hb
  go_wp2_with (first | (refine st_num m5 rfl _ _ rfl rfl _ _ rfl ?_) | (refine ld_num y5 rfl _ rfl rfl ?_) | (refine st_num y2 rfl _ _ rfl rfl _ _ rfl ?_))
  refine bodyPost_ret (v := .agg (numC sg (bitF (A + B)))) (res_num rfl _ _ (w.heap.size + 1 + 1) (y2.put _ _) rfl) rfl ⟨rfl, below_row hB5 (by omega) _⟩

set_option maxRecDepth 100000 in
set_option maxHeartbeats 2000000 in
theorem num_sum_diff (sg : Bool) (A B : Nat) (hA : A < 2 ^ 200) (hB : B < 2 ^ 200) (w : World) : Calls Try.prog 29 #[.agg (numC sg (bitF A)), .agg (numC (!sg) (bitF B))] w fun e w' => e = .returned (.agg (if A < B then numC (!sg) (bitF (B - A)) else numC (sg && decide (B < A)) (bitF (A - B)))) ∧ Below w.heap.size w w' := by
  have hz := num_zero
  obtain ⟨W, hW, n0, n1, n2, hb⟩ := nb3 w sg (!sg) false (bitF A) (bitF B) (fun _ => 0)
  have c0 := n0.c0
  have c1 := n1.c0
  have k1 : (sg == !sg) = false := by cases sg <;> rfl
  have HBare := Lib.hid (fun W => num_bare sg (!sg) A B hA hB W)
  by_cases hlt : A < B
  · have hc : cmpN A B = -1 := by unfold cmpN; rw [if_pos hlt]
    rw [hc] at HBare
    have HM := Lib.hid (num_minus (!sg) sg B A (by omega))
    rw [if_pos hlt]
    have Hlt := Lib.hid hlt
    clear hc hA hB hlt
    go_enter Try.func29, Try.ntmps29
    go_wp2_with (first | (refine ld_num n0 rfl _ rfl rfl ?_) | (refine ld_num n1 rfl _ rfl rfl ?_))
    refine (HBare.out W).mono ?_
    rintro e wd ⟨rfl, hbd⟩
    have q0 := n0.next hbd
    have q1 := n1.next hbd
    have q2 := n2.next hbd
    have hb' := belowN hb n0 (Nat.le_refl _) hbd
    clear n0 n1 n2 hb hbd c0 c1 hW HBare
    go_wp2_with (first | (refine ld_num q0 rfl _ rfl rfl ?_) | (refine ld_num q1 rfl _ rfl rfl ?_))
    refine (HM.out wd).mono ?_
    rintro e wc ⟨rfl, hbc⟩
    obtain ⟨V, hV, x5, hx, hBx⟩ := alloc_put wc (bitF (B - A))
    have m5 := NB.new wc false (fun _ => 0)
    have c1 := (hx _ _ _ (q1.next hbc)).c0
    have x2 := hx _ _ _ (q2.next hbc)
    have hlt := (q2.next hbc).lt
    have hB2 := hBx _ _ (belowN hb' q0 (Nat.le_refl _) hbc) (by omega)
    have c5 := x5.c0
    have f5 := x5.fr 0
    have y5 := x5.setN (!sg)
    have y2 := x2.far (p := ⟨wc.heap.size, 0, none⟩) (by simp; omega) (.bool (!sg))
    have hB5 := below_setC hB2 (p := ⟨wc.heap.size, 0, none⟩) (by simp; omega) (.bool (!sg))
    clear hx hBx hbc x2 x5 hB2
    clear q0 q1 q2 hb'
    go_wp2_with (first | (refine st_num m5 rfl _ _ rfl rfl _ _ rfl ?_) | (refine ld_num y5 rfl _ rfl rfl ?_) | (refine st_num y2 rfl _ _ rfl rfl _ _ rfl ?_))
    refine bodyPost_ret (v := .agg (numC (!sg) (bitF (B - A)))) (res_num rfl _ _ (w.heap.size + 1 + 1) (y2.put _ _) rfl) rfl ⟨rfl, below_row hB5 (by omega) _⟩
  · obtain ⟨cc, hcc⟩ : ∃ cc : Int, cmpN A B = cc := ⟨_, rfl⟩
    obtain ⟨v, hv⟩ : ∃ v : Bool, (sg && decide (B < A)) = v := ⟨_, rfl⟩
    rw [hcc] at HBare
    have hc0 : 0 ≤ cc := by rw [← hcc]; unfold cmpN; rw [if_neg hlt]; split <;> omega
    have kc : decide (cc ≥ 0) = true := by simp; omega
    have kc2 : decide (cc > 0) = decide (B < A) := by
      rw [← hcc]; unfold cmpN; rw [if_neg hlt]
      by_cases he : A = B
      · rw [if_pos he, he]; simp
      · rw [if_neg he]; simp; omega
    have HM := Lib.hid (num_minus sg (!sg) A B (by omega))
    rw [if_neg hlt, hv]
    have Hv := Lib.hid hv
    have Hlt := Lib.hid hlt
    clear hcc hA hB hlt hv
    go_enter Try.func29, Try.ntmps29
    go_wp2_with (first | (refine ld_num n0 rfl _ rfl rfl ?_) | (refine ld_num n1 rfl _ rfl rfl ?_))
    refine (HBare.out W).mono ?_
    rintro e wd ⟨rfl, hbd⟩
    have q0 := n0.next hbd
    have q1 := n1.next hbd
    have q2 := n2.next hbd
    have hb' := belowN hb n0 (Nat.le_refl _) hbd
    clear n0 n1 n2 hb hbd c0 c1 hW HBare
    go_wp2_with (first | (refine ld_num q0 rfl _ rfl rfl ?_) | (refine ld_num q1 rfl _ rfl rfl ?_))
    refine (HM.out wd).mono ?_
    rintro e wc ⟨rfl, hbc⟩
    obtain ⟨V, hV, x5, hx, hBx⟩ := alloc_put wc (bitF (A - B))
    have m5 := NB.new wc false (fun _ => 0)
    have c0 := (hx _ _ _ (q0.next hbc)).c0
    have x2 := hx _ _ _ (q2.next hbc)
    have hlt := (q2.next hbc).lt
    have hB2 := hBx _ _ (belowN hb' q0 (Nat.le_refl _) hbc) (by omega)
    have c5 := x5.c0
    have f5 := x5.fr 0
    have y5 := x5.setN v
    have y2 := x2.far (p := ⟨wc.heap.size, 0, none⟩) (by simp; omega) (.bool v)
    have hB5 := below_setC hB2 (p := ⟨wc.heap.size, 0, none⟩) (by simp; omega) (.bool v)
    clear hx hBx hbc x2 x5 hB2
    clear q0 q1 q2 hb'
    have hvv : v = (sg && decide (cc > 0)) := by rw [kc2]; exact Hv.out.symm
    cases sg with
    | false =>
      have hv2 : v = false := by rw [hvv]; rfl
      subst hv2
      clear hvv
      go_wp2_with (first | (refine st_num m5 rfl _ _ rfl rfl _ _ rfl ?_) | (refine ld_num y5 rfl _ rfl rfl ?_) | (refine st_num y2 rfl _ _ rfl rfl _ _ rfl ?_))
      refine bodyPost_ret (v := .agg (numC false (bitF (A - B)))) (res_num rfl _ _ (w.heap.size + 1 + 1) (y2.put _ _) rfl) rfl ⟨rfl, below_row hB5 (by omega) _⟩
    | true =>
      have hv2 : decide (cc > 0) = v := by rw [hvv]; rfl
      clear hvv kc2
      have hv3 : decide (0 < cc) = v := hv2
      go_wp2_with (first | (refine st_num m5 rfl _ _ rfl rfl _ _ rfl ?_) | (refine ld_num y5 rfl _ rfl rfl ?_) | (refine st_num y2 rfl _ _ rfl rfl _ _ rfl ?_))
      refine bodyPost_ret (v := .agg (numC v (bitF (A - B)))) (res_num rfl _ _ (w.heap.size + 1 + 1) (y2.put _ _) rfl) rfl ⟨rfl, below_row hB5 (by omega) _⟩

theorem num_sum (a b : Int) (hA : a.natAbs < 2 ^ 200) (hB : b.natAbs < 2 ^ 200) (w : World) : Calls Try.prog 29 #[numZ a, numZ b] w fun e w' => e = .returned (numZ (a + b)) ∧ Below w.heap.size w w' := by
  unfold numZ
  by_cases h : decide (a < 0) = decide (b < 0)
  · have h2 : decide (a + b < 0) = decide (a < 0) ∧ (a + b).natAbs = a.natAbs + b.natAbs := by
      by_cases ha : a < 0 <;> simp [ha] at h ⊢ <;> omega
    rw [← h, h2.1, h2.2]
    exact num_sum_same _ _ _ w
  · have h1 : decide (b < 0) = !decide (a < 0) := by
      by_cases ha : a < 0 <;> simp [ha] at h ⊢ <;> omega
    rw [h1]
    refine (num_sum_diff (decide (a < 0)) a.natAbs b.natAbs hA hB w).mono ?_
    rintro e w' ⟨rfl, hb⟩
    refine ⟨?_, hb⟩
    congr 2
    by_cases hlt : a.natAbs < b.natAbs
    · rw [if_pos hlt, ← h1]
      have e1 : decide (a + b < 0) = decide (b < 0) ∧ (a + b).natAbs = b.natAbs - a.natAbs := by
        by_cases ha : a < 0 <;> simp [ha] at h ⊢ <;> omega
      rw [e1.1, e1.2]
    · rw [if_neg hlt]
      have e1 : decide (a + b < 0) = (decide (a < 0) && decide (b.natAbs < a.natAbs)) ∧ (a + b).natAbs = a.natAbs - b.natAbs := by
        by_cases ha : a < 0 <;> simp [ha] at h ⊢ <;> omega
      rw [e1.1, e1.2]
end Go.Proofs.Ytbbbjgilbddabaa
