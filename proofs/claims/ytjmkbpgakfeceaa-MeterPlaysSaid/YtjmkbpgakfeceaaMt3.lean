/-
  A meter: the ends of intervals that a span passes (ends and its iterator), walked. Conditions stand at each theorem. (Printed by gen_mt3.py.)
-/
import Derived.Test.YtjmkbpgakfeceaaMt2
namespace Go.Proofs.Ytjmkbpgakfeceaa
open Go Go.RowKit Go.Kw Go.Kw.Mt
set_option linter.unusedVariables false
set_option linter.unusedSimpArgs false

def spC (t' : Int) (d fl : Nat) : Array Value := #[.int .i64 t', .int .u32 (d : Int), .int .i64 (fl : Int)]
theorem ends_calls (w : World) (b : Nat) (t' : Int) (d fl : Nat) : Calls Try.prog 47 #[.pointer (some ⟨b, 0, none⟩), .agg #[.int .i64 t', .int .u32 (d : Int), .int .i64 (fl : Int)]] w fun e w' =>
    e = .returned (.func (.func 56) #[] #[.pointer (some ⟨w.heap.size, 0, none⟩), .pointer (some ⟨w.heap.size + 1, 0, none⟩)]) ∧ w' = (w.alloc (.cells #[.pointer (some ⟨b, 0, none⟩)] 35)).alloc (.cells (spC t' d fl) 81) := by
  go_enter Try.func47, Try.ntmps47
  go_wp2_with fail
  go_ret
  exact ⟨rfl, rfl⟩
/-- What the iterator holds: the boxes of the meter's pointer and of the span, the meter's own copy. -/
def HoldE (b2 b3 wb : Nat) (nr : Int) (s : Stp) (m : M) (t' : Int) (d fl : Nat) (W : World) : Prop :=
  Boxed W b2 35 (.pointer (some ⟨wb, 0, none⟩)) ∧ W.heap[b3]? = some (.cells (spC t' d fl) 81 (0, 0)) ∧ MtB W wb nr s m
section
variable {b2 b3 wb : Nat} {nr : Int} {s : Stp} {m : M} {t' : Int} {d fl : Nat} {W W' : World}
theorem HoldE.own {B₀ : Nat} : OwnW B₀ (HoldE b2 b3 wb nr s m t' d fl) := (boxed_ownW _ _ _ _).and (block_ownW.and block_ownW)
theorem HoldE.kept {S : Nat → Prop} (h : HoldE b2 b3 wb nr s m t' d fl W) (hk : Kept S W W') (h2 : S b2) (h3 : S b3) (hw : S wb) : HoldE b2 b3 wb nr s m t' d fl W' :=
  ⟨heap_kept hk h.1 h2, heap_kept hk h.2.1 h3, heap_kept hk h.2.2 hw⟩
theorem HoldE.go (h : HoldE b2 b3 wb nr s m t' d fl W) (hb : Below W.heap.size W W') : HoldE b2 b3 wb nr s m t' d fl W' := h.kept (hb.keptS (fun _ => True)) trivial trivial trivial
end
def endV (s : Stp) (m : M) (t' : Int) (d : Nat) (j : Nat) : Array Value := #[.int .i64 (endJ s m j), .int .u64 (cnJ s m t' d j : Int)]
theorem scale_end' {s : Stp} {m : M} {t' : Int} {d j : Nat} (hd : d < 4294967296) (h1 : m.t < endJ s m j) (h2 : endJ s m j ≤ t') (h3 : t' - m.t < 4294967296) :
    ∃ r : Int, ∀ w : World, Calls Try.prog 29 #[.int .u64 (d : Int), .int .u64 (endJ s m j - m.t), .int .u64 (t' - m.t)] w fun e w' => e = .returned (.tuple #[.int .u64 (cnJ s m t' d j : Int), .int .u64 r, .int .i64 0]) ∧ Below w.heap.size w w' := by
  obtain ⟨x, hx⟩ : ∃ x : Nat, endJ s m j - m.t = x := ⟨(endJ s m j - m.t).toNat, by omega⟩
  obtain ⟨y, hy⟩ : ∃ y : Nat, t' - m.t = y := ⟨(t' - m.t).toNat, by omega⟩
  have hq : (d * x + 0) / 18446744073709551616 < y := by
    have : d * x ≤ 4294967295 * 4294967295 := Nat.mul_le_mul (by omega) (by omega)
    have : (d * x + 0) / 18446744073709551616 = 0 := Nat.div_eq_of_lt (by omega)
    omega
  refine ⟨(((d * x + 0) % y : Nat) : Int), fun w => ?_⟩
  have h := scale_calls d x y (by omega) (by omega) (by omega) (by omega) w
  rw [carry_fine d x y 0 (by omega) (by omega) hq] at h
  have e : cnJ s m t' d j = (d * x + 0) / y := by
    unfold cnJ
    rw [show (endJ s m j - m.t).toNat = x by omega, show (t' - m.t).toNat = y by omega, Nat.add_zero]
  rw [hx, hy, e]
  exact h
theorem endJ_succ (s : Stp) (m : M) (j : Nat) : endJ s m (j + 1) = endJ s m j + s.len := by
  unfold endJ
  rw [show m.o + 1 + ((j + 1 : Nat) : Int) = (m.o + 1 + j) + 1 by push_cast; omega, Int.add_mul (m.o + 1 + j) 1, Int.one_mul]
set_option maxRecDepth 100000 in
set_option maxHeartbeats 32000000 in
theorem ends_seq (b2 b3 wb : Nat) (nr : Int) (s : Stp) (m : M) (t' : Int) (d fl i : Nat) (hs : MayS s) (hok : Ok s m i) (hd : d < 4294967296) (ht : m.t ≤ t') (ht2 : t' < 253402300800) (hsp : t' - m.t < 4294967296) :
    SeqW Try.prog 56 #[.pointer (some ⟨b2, 0, none⟩), .pointer (some ⟨b3, 0, none⟩)] (endV s m t' d) (List.range (many s m t')) (fun A B => Below A.heap.size A B)
      (HoldE b2 b3 wb nr s m t' d fl) (fun _ => HoldE b2 b3 wb nr s m t' d fl) (fun _ => True) (fun _ _ => True) := by
  intro lo J Jx hJ hJx hY W hH h0
  have hF := wide_fn
  have hl := hs.ok.len
  have ho := hok.o
  have htt := hok.t
  have hmo := many_o hl.1 hok ht
  have ho0 : 0 ≤ m.o := by
    rcases Int.lt_or_le m.o 0 with h | h
    · have h1 := Int.mul_le_mul_of_nonneg_right (show m.o + 1 ≤ 0 by omega) (show 0 ≤ s.len by omega)
      omega
    · exact h
  have e0 : endJ s m 0 = (m.o + 1) * s.len := by unfold endJ; simp
  have e0b : endJ s m 0 ≤ m.t + s.len := by rw [e0, Int.add_mul]; omega
  have hob : m.o ≤ m.t := by
    have := Int.mul_le_mul_of_nonneg_left (show 1 ≤ s.len by omega) ho0
    omega
  have HY := Lib.hid hY
  have HJJ := Lib.hid hJ
  have HS := Lib.hid (And.intro hs (And.intro hok (And.intro hd (And.intro ht (And.intro ht2 (And.intro hsp (And.intro hl (And.intro e0b (And.intro ho0 hmo)))))))))
  have X0 := Lib.hid (wrapI_at (m.o + 1) (by omega))
  have X1 := Lib.hid (show IntKind.i64.wrap ((m.o + 1) * s.len) = endJ s m 0 by rw [← e0]; exact wrapI_at _ (by omega))
  have HC := Lib.hid (show ∀ Y, HoldE b2 b3 wb nr s m t' d fl Y → (Y.cell? ⟨b2, 0, none⟩ = some (.pointer (some ⟨wb, 0, none⟩)) ∧ Y.cell? ⟨b3, 0, none⟩ = some (.int .i64 t') ∧ Y.cell? ⟨b3, 1, none⟩ = some (.int .u32 (d : Int)) ∧ Y.cell? ⟨wb, 5, none⟩ = some (.int .i64 s.len) ∧ Y.cell? ⟨wb, 7, none⟩ = some (.int .i64 m.t) ∧ Y.cell? ⟨wb, 10, none⟩ = some (.int .i64 m.o)) from fun Y hY =>
    ⟨hY.1.cell, blk_cell hY.2.1 0 rfl, blk_cell hY.2.1 1 rfl, hY.2.2.cells.2.2.2.2.2.1, hY.2.2.cells.2.2.2.2.2.2.2.1, hY.2.2.cells.2.2.2.2.2.2.2.2.2.2.1⟩)
  have HH := Lib.hid hH
  clear hY hJ hJx hs hok hd ht ht2 hsp hl ho htt hmo ho0 e0 e0b hob hH
  refine callsIn_of_wp Try.func56 rfl (hF _) ?_ rfl
  simp only [Try.ntmps56, List.size_toArray, List.length_cons, List.length_nil, Nat.reduceAdd, Nat.reduceSub, Array.replicate_succ, Array.replicate_zero, List.push_toArray, List.append_toArray, List.nil_append, List.cons_append]
  gi_wp2_with (first | (refine wpIn_scope ?_) | (refine wpIn_label ?_))
  refine wpIn_normal (wpIn_wide.2 ?_)
  refine wp_region_held_drew (S := (fun Y => Y.cell? ⟨b2, 0, none⟩ = some (.pointer (some ⟨wb, 0, none⟩)) ∧ Y.cell? ⟨b3, 0, none⟩ = some (.int .i64 t') ∧ Y.cell? ⟨b3, 1, none⟩ = some (.int .u32 (d : Int)) ∧ Y.cell? ⟨wb, 5, none⟩ = some (.int .i64 s.len) ∧ Y.cell? ⟨wb, 7, none⟩ = some (.int .i64 m.t) ∧ Y.cell? ⟨wb, 10, none⟩ = some (.int .i64 m.o))) (by kernel_rfl) (HC.out _ (HH.out.kept (S := fun _ => True) (Kept.refl _ _).drew trivial trivial trivial)) (fun hHeld => ?_)
  refine wpAnyH_take (i := 0) (v := ?_) rfl (by kernel_rfl) (by kernel_rfl) (by kernel_rfl) (fun _ _ _ h => h) (Or.inl ⟨by kernel_rfl, ?_⟩) (by assumption) ?_
  rotate_left
  · intro w hSw; (try dsimp only at hSw); go_simp; try with_reducible rfl
  simp only [Act.put, List.getElem_toArray, List.getElem_cons_succ, List.getElem_cons_zero, List.setIfInBounds_toArray, List.set_cons_zero, List.set_cons_succ]
  refine wpAnyH_take (i := 1) (v := ?_) rfl (by kernel_rfl) (by kernel_rfl) (by kernel_rfl) (fun _ _ _ h => h) (Or.inl ⟨by kernel_rfl, ?_⟩) (by assumption) ?_
  rotate_left
  · intro w hSw; (try dsimp only at hSw); go_simp; try with_reducible rfl
  simp only [Act.put, List.getElem_toArray, List.getElem_cons_succ, List.getElem_cons_zero, List.setIfInBounds_toArray, List.set_cons_zero, List.set_cons_succ]
  refine wpAnyH_take (i := 2) (v := ?_) rfl (by kernel_rfl) (by kernel_rfl) (by kernel_rfl) (fun _ _ _ h => h) (Or.inl ⟨by kernel_rfl, ?_⟩) (by assumption) ?_
  rotate_left
  · intro w hSw; (try dsimp only at hSw); go_simp; try with_reducible rfl
  simp only [Act.put, List.getElem_toArray, List.getElem_cons_succ, List.getElem_cons_zero, List.setIfInBounds_toArray, List.set_cons_zero, List.set_cons_succ]
  refine wpAnyH_take (i := 3) (v := ?_) rfl (by kernel_rfl) (by kernel_rfl) (by kernel_rfl) (fun _ _ _ h => h) (Or.inl ⟨by kernel_rfl, ?_⟩) (by assumption) ?_
  rotate_left
  · intro w hSw; (try dsimp only at hSw); go_simp; try with_reducible rfl
  simp only [Act.put, List.getElem_toArray, List.getElem_cons_succ, List.getElem_cons_zero, List.setIfInBounds_toArray, List.set_cons_zero, List.set_cons_succ]
  refine wpAnyH_take (i := 4) (v := .int .i64 (m.o + 1)) rfl (by kernel_rfl) (by kernel_rfl) (by kernel_rfl) (fun _ _ _ h => h) (Or.inl ⟨by kernel_rfl, ?_⟩) (by assumption) ?_
  · intro w hSw; (try dsimp only at hSw)
    have x0 := X0.out; go_simp
  simp only [Act.put, List.getElem_toArray, List.getElem_cons_succ, List.getElem_cons_zero, List.setIfInBounds_toArray, List.set_cons_zero, List.set_cons_succ]
  refine wpAnyH_take (i := 5) (v := ?_) rfl (by kernel_rfl) (by kernel_rfl) (by kernel_rfl) (fun _ _ _ h => h) (Or.inl ⟨by kernel_rfl, ?_⟩) (by assumption) ?_
  rotate_left
  · intro w hSw; (try dsimp only at hSw); go_simp; try with_reducible rfl
  simp only [Act.put, List.getElem_toArray, List.getElem_cons_succ, List.getElem_cons_zero, List.setIfInBounds_toArray, List.set_cons_zero, List.set_cons_succ]
  refine wpAnyH_take (i := 6) (v := ?_) rfl (by kernel_rfl) (by kernel_rfl) (by kernel_rfl) (fun _ _ _ h => h) (Or.inl ⟨by kernel_rfl, ?_⟩) (by assumption) ?_
  rotate_left
  · intro w hSw; (try dsimp only at hSw); go_simp; try with_reducible rfl
  simp only [Act.put, List.getElem_toArray, List.getElem_cons_succ, List.getElem_cons_zero, List.setIfInBounds_toArray, List.set_cons_zero, List.set_cons_succ]
  refine wpAnyH_take (i := 7) (v := ?_) rfl (by kernel_rfl) (by kernel_rfl) (by kernel_rfl) (fun _ _ _ h => h) (Or.inl ⟨by kernel_rfl, ?_⟩) (by assumption) ?_
  rotate_left
  · intro w hSw; (try dsimp only at hSw); go_simp; try with_reducible rfl
  simp only [Act.put, List.getElem_toArray, List.getElem_cons_succ, List.getElem_cons_zero, List.setIfInBounds_toArray, List.set_cons_zero, List.set_cons_succ]
  refine wpAnyH_take (i := 8) (v := ?_) rfl (by kernel_rfl) (by kernel_rfl) (by kernel_rfl) (fun _ _ _ h => h) (Or.inl ⟨by kernel_rfl, ?_⟩) (by assumption) ?_
  rotate_left
  · intro w hSw; (try dsimp only at hSw); go_simp; try with_reducible rfl
  simp only [Act.put, List.getElem_toArray, List.getElem_cons_succ, List.getElem_cons_zero, List.setIfInBounds_toArray, List.set_cons_zero, List.set_cons_succ]
  refine wpAnyH_take (i := 9) (v := ?_) rfl (by kernel_rfl) (by kernel_rfl) (by kernel_rfl) (fun _ _ _ h => h) (Or.inl ⟨by kernel_rfl, ?_⟩) (by assumption) ?_
  rotate_left
  · intro w hSw; (try dsimp only at hSw); go_simp; try with_reducible rfl
  simp only [Act.put, List.getElem_toArray, List.getElem_cons_succ, List.getElem_cons_zero, List.setIfInBounds_toArray, List.set_cons_zero, List.set_cons_succ]
  refine wpAnyH_take (i := 10) (v := .int .i64 (endJ s m 0)) rfl (by kernel_rfl) (by kernel_rfl) (by kernel_rfl) (fun _ _ _ h => h) (Or.inl ⟨by kernel_rfl, ?_⟩) (by assumption) ?_
  · intro w hSw; (try dsimp only at hSw)
    have x1 := X1.out; go_simp
  simp only [Act.put, List.getElem_toArray, List.getElem_cons_succ, List.getElem_cons_zero, List.setIfInBounds_toArray, List.set_cons_zero, List.set_cons_succ]
  refine wpAnyH_take (i := 11) (v := ?_) rfl (by kernel_rfl) (by kernel_rfl) (by kernel_rfl) (fun _ _ _ h => h) (Or.inl ⟨by kernel_rfl, ?_⟩) (by assumption) ?_
  rotate_left
  · intro w hSw; (try dsimp only at hSw); go_simp; try with_reducible rfl
  simp only [Act.put, List.getElem_toArray, List.getElem_cons_succ, List.getElem_cons_zero, List.setIfInBounds_toArray, List.set_cons_zero, List.set_cons_succ]
  refine wpAnyH_done (by kernel_rfl) ?_ _
  simp only [normalOnly]
  have HH1 := Lib.hid (HH.out.kept (W' := W.drew) (S := fun _ => True) (Kept.refl _ _).drew trivial trivial trivial)
  have HJ0 := Lib.hid (HJJ.out _ _ _ h0 (Below.refl W.heap.size W).drew)
  clear hHeld h0
  gi_wp2_with (first | (refine wpIn_scope ?_) | (refine wpIn_label ?_))
  gi_loopw [4] (fun ev wr => ∃ j : Nat, j ≤ many s m t' ∧ ev = .int .i64 (endJ s m j) ∧ J j wr ∧ HoldE b2 b3 wb nr s m t' d fl wr) (fun ev _ => (t' + s.len - intOf ev).toNat)
  case atStart => exact ⟨0, by omega, rfl, HJ0.out, HH1.out⟩
  case round =>
    obtain ⟨j, hj, rfl, hJj, hHj⟩ := hrel
    have hl := HS.out.2.2.2.2.2.2.1
    by_cases hlt : j < many s m t'
    · have hin := endJ_in (s := s) (m := m) hl.1 hlt
      have hgt : m.t < endJ s m j := by
        have h1 := endJ_mono (s := s) (m := m) (i := 0) (j := j) (by omega) (by omega)
        have h2 := HS.out.2.1.o.2
        have e0 : endJ s m 0 = (m.o + 1) * s.len := by unfold endJ; simp
        omega
      obtain ⟨q, hq⟩ : ∃ q : Unit, True := ⟨(), trivial⟩
      obtain ⟨r, hSc⟩ := scale_end' (s := s) (m := m) (t' := t') (d := d) (j := j) HS.out.2.2.1 hgt hin HS.out.2.2.2.2.2.1
      have hget : (List.range (many s m t'))[j]? = some j := List.getElem?_range hlt
      obtain ⟨c1, c2, c3, c4, c5, c6⟩ := HC.out _ hHj
      have htl := HS.out.2.1.t
      have hsu := endJ_succ s m j
      have X2 := Lib.hid (wrapI_at (endJ s m j - m.t) (by have := HS.out.2.2.2.2.1; omega))
      have X3 := Lib.hid (wrapI_at (t' - m.t) (by have := HS.out.2.2.2.2.1; omega))
      have X4 := Lib.hid (wrap64_at (endJ s m j + s.len) (by have := HS.out.2.2.2.2.1; omega))
      have U1 := Lib.hid (show IntKind.u64.wrap (d : Int) = (d : Int) by rw [IntKind.wrap_u64]; have := HS.out.2.2.1; omega)
      have U2 := Lib.hid (show IntKind.u64.wrap (endJ s m j - m.t) = endJ s m j - m.t by rw [IntKind.wrap_u64]; have := HS.out.2.2.2.2.1; omega)
      have U3 := Lib.hid (show IntKind.u64.wrap (t' - m.t) = t' - m.t by rw [IntKind.wrap_u64]; have := HS.out.2.2.2.1; have := HS.out.2.2.2.2.1; omega)
      have k1 : decide (endJ s m j ≤ t') = true := decide_eq_true hin
      have HSc := Lib.hid hSc
      have Hq := Lib.hid (And.intro hlt (And.intro hin (And.intro hget (And.intro hsu (And.intro hJj hHj)))))
      obtain ⟨ej, hej⟩ : ∃ ej, endJ s m j = ej := ⟨_, rfl⟩
      have Hej := Lib.hid hej
      rw [hej] at X2 X4 U2 k1 HSc
      rw [hej]
      clear hlt hin hgt hq hSc hget hsu hJj hHj hj htl hl hej
      gi_wp2_with (first | (refine wpIn_scope ?_) | (refine wpIn_label ?_))
      refine wpIn_normal (wpIn_wide.2 ?_)
      refine wp_region_held_drew (S := (fun Y => Y.cell? ⟨b2, 0, none⟩ = some (.pointer (some ⟨wb, 0, none⟩)) ∧ Y.cell? ⟨b3, 0, none⟩ = some (.int .i64 t') ∧ Y.cell? ⟨b3, 1, none⟩ = some (.int .u32 (d : Int)) ∧ Y.cell? ⟨wb, 5, none⟩ = some (.int .i64 s.len) ∧ Y.cell? ⟨wb, 7, none⟩ = some (.int .i64 m.t) ∧ Y.cell? ⟨wb, 10, none⟩ = some (.int .i64 m.o))) (by kernel_rfl) (HC.out _ (Hq.out.2.2.2.2.2.kept (S := fun _ => True) (Kept.refl _ _).drew trivial trivial trivial)) (fun hHeld => ?_)
      refine wpAnyH_take (i := 0) (v := ?_) rfl (by kernel_rfl) (by kernel_rfl) (by kernel_rfl) (fun _ _ _ h => h) (Or.inl ⟨by kernel_rfl, ?_⟩) (by assumption) ?_
      rotate_left
      · intro w hSw; (try dsimp only at hSw); go_simp; try with_reducible rfl
      simp only [Act.put, List.getElem_toArray, List.getElem_cons_succ, List.getElem_cons_zero, List.setIfInBounds_toArray, List.set_cons_zero, List.set_cons_succ]
      refine wpAnyH_take (i := 1) (v := ?_) rfl (by kernel_rfl) (by kernel_rfl) (by kernel_rfl) (fun _ _ _ h => h) (Or.inl ⟨by kernel_rfl, ?_⟩) (by assumption) ?_
      rotate_left
      · intro w hSw; (try dsimp only at hSw); go_simp; try with_reducible rfl
      simp only [Act.put, List.getElem_toArray, List.getElem_cons_succ, List.getElem_cons_zero, List.setIfInBounds_toArray, List.set_cons_zero, List.set_cons_succ]
      refine wpAnyH_take (i := 2) (v := .int .u64 (d : Int)) rfl (by kernel_rfl) (by kernel_rfl) (by kernel_rfl) (fun _ _ _ h => h) (Or.inl ⟨by kernel_rfl, ?_⟩) (by assumption) ?_
      · intro w hSw; (try dsimp only at hSw)
        have u1 := U1.out; go_simp
      simp only [Act.put, List.getElem_toArray, List.getElem_cons_succ, List.getElem_cons_zero, List.setIfInBounds_toArray, List.set_cons_zero, List.set_cons_succ]
      refine wpAnyH_take (i := 3) (v := ?_) rfl (by kernel_rfl) (by kernel_rfl) (by kernel_rfl) (fun _ _ _ h => h) (Or.inl ⟨by kernel_rfl, ?_⟩) (by assumption) ?_
      rotate_left
      · intro w hSw; (try dsimp only at hSw); go_simp; try with_reducible rfl
      simp only [Act.put, List.getElem_toArray, List.getElem_cons_succ, List.getElem_cons_zero, List.setIfInBounds_toArray, List.set_cons_zero, List.set_cons_succ]
      refine wpAnyH_take (i := 4) (v := ?_) rfl (by kernel_rfl) (by kernel_rfl) (by kernel_rfl) (fun _ _ _ h => h) (Or.inl ⟨by kernel_rfl, ?_⟩) (by assumption) ?_
      rotate_left
      · intro w hSw; (try dsimp only at hSw); go_simp; try with_reducible rfl
      simp only [Act.put, List.getElem_toArray, List.getElem_cons_succ, List.getElem_cons_zero, List.setIfInBounds_toArray, List.set_cons_zero, List.set_cons_succ]
      refine wpAnyH_take (i := 5) (v := ?_) rfl (by kernel_rfl) (by kernel_rfl) (by kernel_rfl) (fun _ _ _ h => h) (Or.inl ⟨by kernel_rfl, ?_⟩) (by assumption) ?_
      rotate_left
      · intro w hSw; (try dsimp only at hSw); go_simp; try with_reducible rfl
      simp only [Act.put, List.getElem_toArray, List.getElem_cons_succ, List.getElem_cons_zero, List.setIfInBounds_toArray, List.set_cons_zero, List.set_cons_succ]
      refine wpAnyH_take (i := 6) (v := ?_) rfl (by kernel_rfl) (by kernel_rfl) (by kernel_rfl) (fun _ _ _ h => h) (Or.inl ⟨by kernel_rfl, ?_⟩) (by assumption) ?_
      rotate_left
      · intro w hSw; (try dsimp only at hSw); go_simp; try with_reducible rfl
      simp only [Act.put, List.getElem_toArray, List.getElem_cons_succ, List.getElem_cons_zero, List.setIfInBounds_toArray, List.set_cons_zero, List.set_cons_succ]
      refine wpAnyH_take (i := 7) (v := ?_) rfl (by kernel_rfl) (by kernel_rfl) (by kernel_rfl) (fun _ _ _ h => h) (Or.inl ⟨by kernel_rfl, ?_⟩) (by assumption) ?_
      rotate_left
      · intro w hSw; (try dsimp only at hSw); go_simp; try with_reducible rfl
      simp only [Act.put, List.getElem_toArray, List.getElem_cons_succ, List.getElem_cons_zero, List.setIfInBounds_toArray, List.set_cons_zero, List.set_cons_succ]
      refine wpAnyH_take (i := 8) (v := .int .i64 (ej - m.t)) rfl (by kernel_rfl) (by kernel_rfl) (by kernel_rfl) (fun _ _ _ h => h) (Or.inl ⟨by kernel_rfl, ?_⟩) (by assumption) ?_
      · intro w hSw; (try dsimp only at hSw)
        have x2 := X2.out; go_simp
      simp only [Act.put, List.getElem_toArray, List.getElem_cons_succ, List.getElem_cons_zero, List.setIfInBounds_toArray, List.set_cons_zero, List.set_cons_succ]
      refine wpAnyH_take (i := 9) (v := .int .u64 (ej - m.t)) rfl (by kernel_rfl) (by kernel_rfl) (by kernel_rfl) (fun _ _ _ h => h) (Or.inl ⟨by kernel_rfl, ?_⟩) (by assumption) ?_
      · intro w hSw; (try dsimp only at hSw)
        have u2 := U2.out; go_simp
      simp only [Act.put, List.getElem_toArray, List.getElem_cons_succ, List.getElem_cons_zero, List.setIfInBounds_toArray, List.set_cons_zero, List.set_cons_succ]
      refine wpAnyH_take (i := 10) (v := ?_) rfl (by kernel_rfl) (by kernel_rfl) (by kernel_rfl) (fun _ _ _ h => h) (Or.inl ⟨by kernel_rfl, ?_⟩) (by assumption) ?_
      rotate_left
      · intro w hSw; (try dsimp only at hSw); go_simp; try with_reducible rfl
      simp only [Act.put, List.getElem_toArray, List.getElem_cons_succ, List.getElem_cons_zero, List.setIfInBounds_toArray, List.set_cons_zero, List.set_cons_succ]
      refine wpAnyH_take (i := 11) (v := ?_) rfl (by kernel_rfl) (by kernel_rfl) (by kernel_rfl) (fun _ _ _ h => h) (Or.inl ⟨by kernel_rfl, ?_⟩) (by assumption) ?_
      rotate_left
      · intro w hSw; (try dsimp only at hSw); go_simp; try with_reducible rfl
      simp only [Act.put, List.getElem_toArray, List.getElem_cons_succ, List.getElem_cons_zero, List.setIfInBounds_toArray, List.set_cons_zero, List.set_cons_succ]
      refine wpAnyH_take (i := 12) (v := ?_) rfl (by kernel_rfl) (by kernel_rfl) (by kernel_rfl) (fun _ _ _ h => h) (Or.inl ⟨by kernel_rfl, ?_⟩) (by assumption) ?_
      rotate_left
      · intro w hSw; (try dsimp only at hSw); go_simp; try with_reducible rfl
      simp only [Act.put, List.getElem_toArray, List.getElem_cons_succ, List.getElem_cons_zero, List.setIfInBounds_toArray, List.set_cons_zero, List.set_cons_succ]
      refine wpAnyH_take (i := 13) (v := ?_) rfl (by kernel_rfl) (by kernel_rfl) (by kernel_rfl) (fun _ _ _ h => h) (Or.inl ⟨by kernel_rfl, ?_⟩) (by assumption) ?_
      rotate_left
      · intro w hSw; (try dsimp only at hSw); go_simp; try with_reducible rfl
      simp only [Act.put, List.getElem_toArray, List.getElem_cons_succ, List.getElem_cons_zero, List.setIfInBounds_toArray, List.set_cons_zero, List.set_cons_succ]
      refine wpAnyH_take (i := 14) (v := ?_) rfl (by kernel_rfl) (by kernel_rfl) (by kernel_rfl) (fun _ _ _ h => h) (Or.inl ⟨by kernel_rfl, ?_⟩) (by assumption) ?_
      rotate_left
      · intro w hSw; (try dsimp only at hSw); go_simp; try with_reducible rfl
      simp only [Act.put, List.getElem_toArray, List.getElem_cons_succ, List.getElem_cons_zero, List.setIfInBounds_toArray, List.set_cons_zero, List.set_cons_succ]
      refine wpAnyH_take (i := 15) (v := ?_) rfl (by kernel_rfl) (by kernel_rfl) (by kernel_rfl) (fun _ _ _ h => h) (Or.inl ⟨by kernel_rfl, ?_⟩) (by assumption) ?_
      rotate_left
      · intro w hSw; (try dsimp only at hSw); go_simp; try with_reducible rfl
      simp only [Act.put, List.getElem_toArray, List.getElem_cons_succ, List.getElem_cons_zero, List.setIfInBounds_toArray, List.set_cons_zero, List.set_cons_succ]
      refine wpAnyH_take (i := 16) (v := (.int .i64 (t' - m.t))) rfl (by kernel_rfl) (by kernel_rfl) (by kernel_rfl) (fun _ _ _ h => h) (Or.inl ⟨by kernel_rfl, ?_⟩) (by assumption) ?_
      · intro w hSw; (try dsimp only at hSw)
        have x3 := X3.out; go_simp
      simp only [Act.put, List.getElem_toArray, List.getElem_cons_succ, List.getElem_cons_zero, List.setIfInBounds_toArray, List.set_cons_zero, List.set_cons_succ]
      refine wpAnyH_take (i := 17) (v := (.int .u64 (t' - m.t))) rfl (by kernel_rfl) (by kernel_rfl) (by kernel_rfl) (fun _ _ _ h => h) (Or.inl ⟨by kernel_rfl, ?_⟩) (by assumption) ?_
      · intro w hSw; (try dsimp only at hSw)
        have u3 := U3.out; go_simp
      simp only [Act.put, List.getElem_toArray, List.getElem_cons_succ, List.getElem_cons_zero, List.setIfInBounds_toArray, List.set_cons_zero, List.set_cons_succ]
      refine wpAnyH_ready (rs := [18]) (by kernel_rfl) (by simp) ?_
      refine AllReadyH.cons rfl (fun K hK => ?_) AllReadyH.nil
      go_simp
      refine (HSc.out wr.drew).mono ?_
      rintro e u ⟨rfl, hb⟩
      have Hu := Lib.hid (bnext (Below.refl wr.heap.size wr).drew hb)
      clear hb
      try go_wp2_with fail
      refine hK.out _ _ (HC.out _ (Hq.out.2.2.2.2.2.go Hu.out)) (fun hHeld => ?_)
      clear hK K
      try simp only [Act.put, List.getElem_toArray, List.getElem_cons_succ, List.getElem_cons_zero, List.setIfInBounds_toArray, List.set_cons_zero, List.set_cons_succ]
      refine wpAnyH_take (i := 19) (v := ?_) rfl (by kernel_rfl) (by kernel_rfl) (by kernel_rfl) (fun _ _ _ h => h) (Or.inl ⟨by kernel_rfl, ?_⟩) (by assumption) ?_
      rotate_left
      · intro w hSw; (try dsimp only at hSw); go_simp; try with_reducible rfl
      simp only [Act.put, List.getElem_toArray, List.getElem_cons_succ, List.getElem_cons_zero, List.setIfInBounds_toArray, List.set_cons_zero, List.set_cons_succ]
      refine wpAnyH_take (i := 20) (v := ?_) rfl (by kernel_rfl) (by kernel_rfl) (by kernel_rfl) (fun _ _ _ h => h) (Or.inl ⟨by kernel_rfl, ?_⟩) (by assumption) ?_
      rotate_left
      · intro w hSw; (try dsimp only at hSw); go_simp; try with_reducible rfl
      simp only [Act.put, List.getElem_toArray, List.getElem_cons_succ, List.getElem_cons_zero, List.setIfInBounds_toArray, List.set_cons_zero, List.set_cons_succ]
      refine wpAnyH_take (i := 21) (v := ?_) rfl (by kernel_rfl) (by kernel_rfl) (by kernel_rfl) (fun _ _ _ h => h) (Or.inl ⟨by kernel_rfl, ?_⟩) (by assumption) ?_
      rotate_left
      · intro w hSw; (try dsimp only at hSw); go_simp; try with_reducible rfl
      simp only [Act.put, List.getElem_toArray, List.getElem_cons_succ, List.getElem_cons_zero, List.setIfInBounds_toArray, List.set_cons_zero, List.set_cons_succ]
      refine wpAnyH_take (i := 22) (v := ?_) rfl (by kernel_rfl) (by kernel_rfl) (by kernel_rfl) (fun _ _ _ h => h) (Or.inl ⟨by kernel_rfl, ?_⟩) (by assumption) ?_
      rotate_left
      · intro w hSw; (try dsimp only at hSw); go_simp; try with_reducible rfl
      simp only [Act.put, List.getElem_toArray, List.getElem_cons_succ, List.getElem_cons_zero, List.setIfInBounds_toArray, List.set_cons_zero, List.set_cons_succ]
      refine wpAnyH_take (i := 23) (v := ?_) rfl (by kernel_rfl) (by kernel_rfl) (by kernel_rfl) (fun _ _ _ h => h) (Or.inl ⟨by kernel_rfl, ?_⟩) (by assumption) ?_
      rotate_left
      · intro w hSw; (try dsimp only at hSw); go_simp; try with_reducible rfl
      simp only [Act.put, List.getElem_toArray, List.getElem_cons_succ, List.getElem_cons_zero, List.setIfInBounds_toArray, List.set_cons_zero, List.set_cons_succ]
      refine wpAnyH_take (i := 24) (v := ?_) rfl (by kernel_rfl) (by kernel_rfl) (by kernel_rfl) (fun _ _ _ h => h) (Or.inl ⟨by kernel_rfl, ?_⟩) (by assumption) ?_
      rotate_left
      · intro w hSw; (try dsimp only at hSw); go_simp; try with_reducible rfl
      simp only [Act.put, List.getElem_toArray, List.getElem_cons_succ, List.getElem_cons_zero, List.setIfInBounds_toArray, List.set_cons_zero, List.set_cons_succ]
      refine wpAnyH_take (i := 25) (v := ?_) rfl (by kernel_rfl) (by kernel_rfl) (by kernel_rfl) (fun _ _ _ h => h) (Or.inl ⟨by kernel_rfl, ?_⟩) (by assumption) ?_
      rotate_left
      · intro w hSw; (try dsimp only at hSw); go_simp; try with_reducible rfl
      simp only [Act.put, List.getElem_toArray, List.getElem_cons_succ, List.getElem_cons_zero, List.setIfInBounds_toArray, List.set_cons_zero, List.set_cons_succ]
      refine wpAnyH_done (by kernel_rfl) ?_ _
      simp only [normalOnly]
      have hHu := Hq.out.2.2.2.2.2.go Hu.out
      have hJu := HJJ.out _ _ _ Hq.out.2.2.2.2.1 Hu.out
      obtain ⟨c1, c2, c3, c4, c5, c6⟩ := HC.out _ hHu
      obtain ⟨fn, tmps, assign, body, hy, hYR⟩ := HY.out j j u Hq.out.2.2.1 hJu hHu
      unfold endV at hy
      rw [Hej.out] at hy
      clear hHeld hHu hJu
      gi_wp2_with (first | (refine wpIn_scope ?_) | (refine wpIn_label ?_))
      refine hYR.mono ?_
      rintro e W3 ⟨hG3, (⟨rfl, hJ3⟩ | ⟨rfl, hJx3⟩)⟩
      · clear hy c1 c2 c3 c4 c5 c6
        obtain ⟨c1, c2, c3, c4, c5, c6⟩ := HC.out _ hG3
        gi_wp2_with (first | (refine wpIn_scope ?_) | (refine wpIn_label ?_))
        rw [X4.out]
        go_roundw
        case rel => exact ⟨j + 1, Hq.out.1, by rw [Hq.out.2.2.2.1, Hej.out], hJ3, hG3⟩
        case measure =>
          have h1 := Hq.out.2.1
          rw [Hej.out] at h1
          have := HS.out.2.2.2.2.2.2.1
          simp [intOf]; omega
      · clear hy
        gi_wp2_with (first | (refine wpIn_scope ?_) | (refine wpIn_label ?_))
        try rw [Exit.noGoto_ret]
        first | (refine bodyPost_ret (results_none rfl _ _ _) rfl ?_) | go_end0
        have hlen : j < (List.range (many s m t')).length := by rw [List.length_range]; exact Hq.out.1
        first | exact ⟨⟨_, rfl⟩, .inr ⟨_, hlen, hJx3, trivial⟩⟩ | exact ⟨⟨_, rfl⟩, .inr ⟨_, hlen, hJx3⟩⟩
    · have hout := endJ_out (s := s) (m := m) (t' := t') hl.1 HS.out.2.2.2.2.2.2.2.2.2.2
      obtain rfl : j = many s m t' := by omega
      obtain ⟨c1, c2, c3, c4, c5, c6⟩ := HC.out _ hHj
      have k1 : decide (endJ s m (many s m t') ≤ t') = false := decide_eq_false (by omega)
      have HP := Lib.hid hJj
      clear hlt hout hJj hHj hj hl
      gi_wp2_with (first | (refine wpIn_scope ?_) | (refine wpIn_label ?_))
      go_end0
      exact ⟨⟨_, rfl⟩, .inl ⟨by rw [List.length_range]; exact HP.out, trivial⟩⟩
end Go.Proofs.Ytjmkbpgakfeceaa
