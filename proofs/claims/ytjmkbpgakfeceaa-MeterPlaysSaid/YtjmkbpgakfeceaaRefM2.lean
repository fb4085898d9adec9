/-
  The document's meter: passes, walked. Conditions stand at each theorem. (Printed by gen_refm2.py.)
-/
import Derived.Test.YtjmkbpgakfeceaaRefM1
namespace Go.Proofs.Ytjmkbpgakfeceaa
open Go Go.RowKit Go.Kw Go.Kw.Mt Go.Kw.Nm
set_option linter.unusedVariables false
set_option linter.unusedSimpArgs false

def lenOf : Value → Nat
  | .slice _ n _ => n
  | _ => 0
/-- What a span asks. -/
structure PsI (s : Stp) (m : M) (t : Int) (d i : Nat) : Prop where
  hs : MayS s
  ok : Ok s m i
  i : i ≤ 200
  bg : m.bg = true
  t : m.t ≤ t ∧ t < 253402300800
  d : d < 4294967296
theorem PsI.o0 {s : Stp} {m : M} {t : Int} {d i : Nat} (h : PsI s m t d i) : 0 ≤ m.o := by
  have hl := h.hs.ok.len
  have ho := h.ok.o
  have ht := h.ok.t
  rcases Int.lt_or_le m.o 0 with h | h
  · have h1 := Int.mul_le_mul_of_nonneg_right (show m.o + 1 ≤ 0 by omega) (show 0 ≤ s.len by omega)
    omega
  · exact h
/-- (t - Start) / Length. -/
theorem PsI.quo {s : Stp} {m : M} {t : Int} {d i : Nat} (h : PsI s m t d i) : (t - m.o * s.len) / s.len = t / s.len - m.o ∧ 0 ≤ t - m.o * s.len ∧ 0 ≤ m.o * s.len ∧ m.o * s.len ≤ t ∧ t / s.len - m.o ≤ t := by
  have hl := h.hs.ok.len
  have ho := h.ok.o
  have ht := h.t
  have h0 := Int.mul_nonneg h.o0 (show 0 ≤ s.len by omega)
  have ht0 := h.ok.t
  have hq1 : t / s.len ≤ t := Int.ediv_le_self _ (by omega)
  have := h.o0
  refine ⟨?_, by omega, h0, by omega, by omega⟩
  rw [show t - m.o * s.len = t + (-m.o) * s.len by rw [Int.neg_mul]; omega, Int.add_mul_ediv_right _ _ (by omega)]
  omega

set_option maxRecDepth 100000 in
set_option maxHeartbeats 16000000 in
theorem rpass_span (w : World) (r : Nat) (nr : Int) (s : Stp) (m : M) (t : Int) (d i : Nat) (sB : Bool) (h : PsI s m t d i) (hB : RtB w r nr s m) (hsp : t / s.len - m.o > 1000) :
    Calls Try.prog 50 #[.pointer (some ⟨r, 0, none⟩), .int .i64 t, .int .u64 (d : Int), .bool sB] w fun e w' => e = .returned (.tuple #[.slice none 0 0, .int .i64 242]) ∧ Below w.heap.size w w' := by
  obtain ⟨q1, q2, q3, q4, q5⟩ := h.quo
  have hl := h.hs.ok.len
  have ht := h.t
  have X1 := Lib.hid (wrapI_at (t - m.o * s.len) (by omega))
  have HQ := Lib.hid (show IntKind.i64.wrap ((t - m.o * s.len).tdiv s.len) = t / s.len - m.o by rw [Int.tdiv_eq_ediv_of_nonneg q2, q1]; exact wrapI_at _ (by omega))
  have Hz := Lib.hid (show ¬ s.len = 0 by omega)
  have HH := Lib.hid hsp
  have HS := Lib.hid (show w.drew.cell? ⟨r, 10, none⟩ = some (.int .i64 (m.o * s.len)) ∧ w.drew.cell? ⟨r, 5, none⟩ = some (.int .i64 s.len) from ⟨hB.cells.2.2.2.2.2.2.2.2.2.2.1, hB.cells.2.2.2.2.2.1⟩)
  clear q1 q2 q3 q4 q5 hl ht h hB hsp
  go_enter Try.func50, Try.ntmps50
  go_upto_region 1 with fail
  refine wp_region_held_drew (S := (fun Y => Y.cell? ⟨r, 10, none⟩ = some (.int .i64 (m.o * s.len)) ∧ Y.cell? ⟨r, 5, none⟩ = some (.int .i64 s.len))) (by kernel_rfl) HS.out (fun hHeld => ?_)
  refine wpAnyH_take (i := 0) (v := ?_) rfl (by kernel_rfl) (by kernel_rfl) (by kernel_rfl) (fun _ _ _ h => h) (Or.inl ⟨by kernel_rfl, ?_⟩) (by assumption) ?_
  rotate_left
  · intro w hSw; (try dsimp only at hSw); go_simp; try with_reducible rfl
  simp only [Act.put, List.getElem_toArray, List.getElem_cons_succ, List.getElem_cons_zero, List.setIfInBounds_toArray, List.set_cons_zero, List.set_cons_succ]
  refine wpAnyH_take (i := 1) (v := ?_) rfl (by kernel_rfl) (by kernel_rfl) (by kernel_rfl) (fun _ _ _ h => h) (Or.inl ⟨by kernel_rfl, ?_⟩) (by assumption) ?_
  rotate_left
  · intro w hSw; (try dsimp only at hSw); go_simp; try with_reducible rfl
  simp only [Act.put, List.getElem_toArray, List.getElem_cons_succ, List.getElem_cons_zero, List.setIfInBounds_toArray, List.set_cons_zero, List.set_cons_succ]
  refine wpAnyH_take (i := 2) (v := ?_) rfl (by kernel_rfl) (by kernel_rfl) (by kernel_rfl) (fun _ _ _ h => h) (Or.inl ⟨by kernel_rfl, ?_⟩) (by assumption) ?_
  rotate_left
  · intro w hSw; (try dsimp only at hSw); go_simp; try with_reducible rfl
  simp only [Act.put, List.getElem_toArray, List.getElem_cons_succ, List.getElem_cons_zero, List.setIfInBounds_toArray, List.set_cons_zero, List.set_cons_succ]
  refine wpAnyH_take (i := 3) (v := ?_) rfl (by kernel_rfl) (by kernel_rfl) (by kernel_rfl) (fun _ _ _ h => h) (Or.inl ⟨by kernel_rfl, ?_⟩) (by assumption) ?_
  rotate_left
  · intro w hSw; (try dsimp only at hSw); go_simp; try with_reducible rfl
  simp only [Act.put, List.getElem_toArray, List.getElem_cons_succ, List.getElem_cons_zero, List.setIfInBounds_toArray, List.set_cons_zero, List.set_cons_succ]
  refine wpAnyH_take (i := 4) (v := ?_) rfl (by kernel_rfl) (by kernel_rfl) (by kernel_rfl) (fun _ _ _ h => h) (Or.inl ⟨by kernel_rfl, ?_⟩) (by assumption) ?_
  rotate_left
  · intro w hSw; (try dsimp only at hSw); go_simp; try with_reducible rfl
  simp only [Act.put, List.getElem_toArray, List.getElem_cons_succ, List.getElem_cons_zero, List.setIfInBounds_toArray, List.set_cons_zero, List.set_cons_succ]
  refine wpAnyH_take (i := 5) (v := .int .i64 (t - m.o * s.len)) rfl (by kernel_rfl) (by kernel_rfl) (by kernel_rfl) (fun _ _ _ h => h) (Or.inl ⟨by kernel_rfl, ?_⟩) (by assumption) ?_
  · intro w hSw; (try dsimp only at hSw)
    have x1 := X1.out; go_simp
  simp only [Act.put, List.getElem_toArray, List.getElem_cons_succ, List.getElem_cons_zero, List.setIfInBounds_toArray, List.set_cons_zero, List.set_cons_succ]
  refine wpAnyH_take (i := 6) (v := ?_) rfl (by kernel_rfl) (by kernel_rfl) (by kernel_rfl) (fun _ _ _ h => h) (Or.inl ⟨by kernel_rfl, ?_⟩) (by assumption) ?_
  rotate_left
  · intro w hSw; (try dsimp only at hSw); go_simp; try with_reducible rfl
  simp only [Act.put, List.getElem_toArray, List.getElem_cons_succ, List.getElem_cons_zero, List.setIfInBounds_toArray, List.set_cons_zero, List.set_cons_succ]
  refine wpAnyH_take (i := 7) (v := ?_) rfl (by kernel_rfl) (by kernel_rfl) (by kernel_rfl) (fun _ _ _ h => h) (Or.inl ⟨by kernel_rfl, ?_⟩) (by assumption) ?_
  rotate_left
  · intro w hSw; (try dsimp only at hSw); go_simp; try with_reducible rfl
  simp only [Act.put, List.getElem_toArray, List.getElem_cons_succ, List.getElem_cons_zero, List.setIfInBounds_toArray, List.set_cons_zero, List.set_cons_succ]
  refine wpAnyH_take (i := 8) (v := ?_) rfl (by kernel_rfl) (by kernel_rfl) (by kernel_rfl) (fun _ _ _ h => h) (Or.inl ⟨by kernel_rfl, ?_⟩) (by assumption) ?_
  rotate_left
  · intro w hSw; (try dsimp only at hSw); go_simp; try with_reducible rfl
  simp only [Act.put, List.getElem_toArray, List.getElem_cons_succ, List.getElem_cons_zero, List.setIfInBounds_toArray, List.set_cons_zero, List.set_cons_succ]
  refine wpAnyH_take (i := 9) (v := ?_) rfl (by kernel_rfl) (by kernel_rfl) (by kernel_rfl) (fun _ _ _ h => h) (Or.inl ⟨by kernel_rfl, ?_⟩) (by assumption) ?_
  rotate_left
  · intro w hSw; (try dsimp only at hSw); go_simp; try with_reducible rfl
  simp only [Act.put, List.getElem_toArray, List.getElem_cons_succ, List.getElem_cons_zero, List.setIfInBounds_toArray, List.set_cons_zero, List.set_cons_succ]
  refine wpAnyH_take (i := 10) (v := ?_) rfl (by kernel_rfl) (by kernel_rfl) (by kernel_rfl) (fun _ _ _ h => h) (Or.inl ⟨by kernel_rfl, ?_⟩) (by assumption) ?_
  rotate_left
  · intro w hSw; (try dsimp only at hSw); go_simp; try with_reducible rfl
  simp only [Act.put, List.getElem_toArray, List.getElem_cons_succ, List.getElem_cons_zero, List.setIfInBounds_toArray, List.set_cons_zero, List.set_cons_succ]
  refine wpAnyH_take (i := 11) (v := .int .i64 (t / s.len - m.o)) rfl (by kernel_rfl) (by kernel_rfl) (by kernel_rfl) (fun _ _ _ h => h) (Or.inl ⟨by kernel_rfl, ?_⟩) (by assumption) ?_
  · intro w hSw; (try dsimp only at hSw)
    have hq := HQ.out; go_simp; exact Hz.out
  simp only [Act.put, List.getElem_toArray, List.getElem_cons_succ, List.getElem_cons_zero, List.setIfInBounds_toArray, List.set_cons_zero, List.set_cons_succ]
  refine wpAnyH_take (i := 12) (v := .bool true) rfl (by kernel_rfl) (by kernel_rfl) (by kernel_rfl) (fun _ _ _ h => h) (Or.inl ⟨by kernel_rfl, ?_⟩) (by assumption) ?_
  · intro w hSw; (try dsimp only at hSw)
    have k1 : decide (t / s.len - m.o > 1000) = true := decide_eq_true HH.out
    go_simp
  simp only [Act.put, List.getElem_toArray, List.getElem_cons_succ, List.getElem_cons_zero, List.setIfInBounds_toArray, List.set_cons_zero, List.set_cons_succ]
  refine wpAnyH_done (by kernel_rfl) ?_ _
  clear hHeld
  go_wp2_with fail
  go_ret2
  exact ⟨rfl, (Below.refl _ w).drew⟩

set_option maxRecDepth 100000 in
set_option maxHeartbeats 64000000 in
theorem rpasses_calls (w : World) (r : Nat) (nr : Int) (s : Stp) (m : M) (t : Int) (d i : Nat) (sB : Bool) (h : PsI s m t d i) (hB : RtB w r nr s m) (hsp : ¬ t / s.len - m.o > 1000) (fl : Nat) (hfl : fl = if sB = true then 4 else 0) :
    Calls Try.prog 50 #[.pointer (some ⟨r, 0, none⟩), .int .i64 t, .int .u64 (d : Int), .bool sB] w fun e w' => ∃ A c, e = .returned (.tuple #[.slice A (many s m t) c, .int .i64 0]) ∧
      w'.ownsRow w.heap.size 45 42 (.slice A (many s m t) c) (many s m t) (ensC nr (passE s m t d (passF s m t fl) (many s m t))) ∧ RtB w' r nr s (passZ s m t d fl) ∧ Kept (fun x => x ≠ r) w w' := by
  obtain ⟨q1, q2, q3, q4, q5⟩ := h.quo
  have hl := h.hs.ok.len
  have ht := h.t
  have htt := h.ok.t
  have hmo := many_o hl.1 h.ok ht.1
  have hcc := h.ok.c
  have hko := h.ok.k
  have hfr := h.ok.fr
  have h2 := eng_add s h.hs.ok m.c d h.d
  have hi := h.i
  have hll : (i : Int) * 9007199254740992 ≤ 200 * 9007199254740992 := Int.mul_le_mul_of_nonneg_right (by omega) (by omega)
  have hic : i * 4294967296 ≤ 200 * 4294967296 := Nat.mul_le_mul_right _ hi
  have hd := h.d
  have hspan : t - m.t < 4294967296 := by
    have h3 := Int.lt_ediv_add_one_mul_self t (show 0 < s.len by omega)
    have h4 := Int.mul_le_mul_of_nonneg_right (show t / s.len + 1 ≤ m.o + 1001 by omega) (show 0 ≤ s.len by omega)
    have h5 : (m.o + 1001) * s.len = m.o * s.len + 1001 * s.len := Int.add_mul _ _ _
    have := h.ok.o
    omega
  have X1 := Lib.hid (wrapI_at (t - m.o * s.len) (by omega))
  have HQ := Lib.hid (show IntKind.i64.wrap ((t - m.o * s.len).tdiv s.len) = t / s.len - m.o by rw [Int.tdiv_eq_ediv_of_nonneg q2, q1]; exact wrapI_at _ (by omega))
  have Hz := Lib.hid (show ¬ s.len = 0 by omega)
  have X2 := Lib.hid (show IntKind.u64.wrap ((m.c : Int) + (d : Int)) = ((m.c + d : Nat) : Int) by rw [IntKind.wrap_u64]; push_cast; omega)
  have X3 := Lib.hid (wrapI_at (t - m.t) (by omega))
  have hEr := refEnergy_calls (m.c + d) s.num s.den (s.bound : Int) s.gap s.len (by omega)
  have he := enV_ok (m.c + d) s.num s.den s.gap s.len h.hs.may (by unfold eng at *; omega)
  rw [he] at hEr
  unfold setV at hEr
  obtain ⟨E, hE⟩ : ∃ E : Nat, (m.c + d) * s.num / s.den = E := ⟨_, rfl⟩
  rw [hE] at hEr
  have HE := Lib.hid hEr
  obtain ⟨gB, hgB⟩ : ∃ gB : Bool, decide (t - m.t > s.gap) = gB := ⟨_, rfl⟩
  have HgB := Lib.hid hgB
  obtain ⟨F, hF⟩ : ∃ F : Nat, passF s m t fl = F := ⟨_, rfl⟩
  have hFv : F = (if gB = true then 2 else 0) + (if sB = true then 4 else 0) := by
    rw [← hF, hfl]
    unfold passF
    have hg : (t - m.t > s.gap) ↔ gB = true := by rw [← hgB]; exact decide_eq_true_iff.symm
    cases gB <;> cases sB <;> simp [hg]
  have hF16 : F < 16 := by rw [hFv]; split <;> split <;> omega
  obtain ⟨N, hN⟩ : ∃ N, many s m t = N := ⟨_, rfl⟩
  have HH := Lib.hid (And.intro h (And.intro hsp (And.intro hspan (And.intro hF (And.intro hF16 (And.intro hN (show N ≤ 1000 by rw [← hN]; unfold many; omega)))))))
  have HFv := Lib.hid hFv
  have HB := Lib.hid hB
  have HC := Lib.hid (show ∀ Y, Below w.heap.size w Y → (Y.cell? ⟨r, 1, none⟩ = some (.int .u64 (s.num : Int)) ∧ Y.cell? ⟨r, 2, none⟩ = some (.int .u64 (s.den : Int)) ∧ Y.cell? ⟨r, 3, none⟩ = some (.int .u32 (s.bound : Int)) ∧ Y.cell? ⟨r, 4, none⟩ = some (.int .i64 s.gap) ∧ Y.cell? ⟨r, 5, none⟩ = some (.int .i64 s.len) ∧ Y.cell? ⟨r, 7, none⟩ = some (.int .i64 m.t) ∧ Y.cell? ⟨r, 9, none⟩ = some (.int .u64 (m.c : Int)) ∧ Y.cell? ⟨r, 10, none⟩ = some (.int .i64 (m.o * s.len))) from fun Y hY => by
    obtain ⟨c0, c1, c2, c3, c4, c5, c6, c7, c8, c9, c10, c11, c12, c13⟩ := (HB.out.go hY).cells
    exact ⟨c1, c2, c3, c4, c5, c7, c9, c10⟩)
  rw [hN, hF]
  clear q1 q2 q3 q4 q5 hl ht htt hmo hcc hko hfr h2 hi hll hic hspan hEr he hE hgB hF hFv hF16 hN h hB hsp hfl hd
  go_enter Try.func50, Try.ntmps50
  go_upto_region 1 with fail
  refine wp_region_held_drew (S := (fun Y => Y.cell? ⟨r, 1, none⟩ = some (.int .u64 (s.num : Int)) ∧ Y.cell? ⟨r, 2, none⟩ = some (.int .u64 (s.den : Int)) ∧ Y.cell? ⟨r, 3, none⟩ = some (.int .u32 (s.bound : Int)) ∧ Y.cell? ⟨r, 4, none⟩ = some (.int .i64 s.gap) ∧ Y.cell? ⟨r, 5, none⟩ = some (.int .i64 s.len) ∧ Y.cell? ⟨r, 7, none⟩ = some (.int .i64 m.t) ∧ Y.cell? ⟨r, 9, none⟩ = some (.int .u64 (m.c : Int)) ∧ Y.cell? ⟨r, 10, none⟩ = some (.int .i64 (m.o * s.len)))) (by kernel_rfl) (HC.out _ (Below.refl _ w).drew) (fun hHeld => ?_)
  refine wpAnyH_take (i := 0) (v := ?_) rfl (by kernel_rfl) (by kernel_rfl) (by kernel_rfl) (fun _ _ _ h => h) (Or.inl ⟨by kernel_rfl, ?_⟩) (by assumption) ?_
  rotate_left
  · intro w hSw; (try dsimp only at hSw); go_simp; try with_reducible rfl
  simp only [Act.put, List.getElem_toArray, List.getElem_cons_succ, List.getElem_cons_zero, List.setIfInBounds_toArray, List.set_cons_zero, List.set_cons_succ]
  refine wpAnyH_take (i := 1) (v := ?_) rfl (by kernel_rfl) (by kernel_rfl) (by kernel_rfl) (fun _ _ _ h => h) (Or.inl ⟨by kernel_rfl, ?_⟩) (by assumption) ?_
  rotate_left
  · intro w hSw; (try dsimp only at hSw); go_simp; try with_reducible rfl
  simp only [Act.put, List.getElem_toArray, List.getElem_cons_succ, List.getElem_cons_zero, List.setIfInBounds_toArray, List.set_cons_zero, List.set_cons_succ]
  refine wpAnyH_take (i := 2) (v := ?_) rfl (by kernel_rfl) (by kernel_rfl) (by kernel_rfl) (fun _ _ _ h => h) (Or.inl ⟨by kernel_rfl, ?_⟩) (by assumption) ?_
  rotate_left
  · intro w hSw; (try dsimp only at hSw); go_simp; try with_reducible rfl
  simp only [Act.put, List.getElem_toArray, List.getElem_cons_succ, List.getElem_cons_zero, List.setIfInBounds_toArray, List.set_cons_zero, List.set_cons_succ]
  refine wpAnyH_take (i := 3) (v := ?_) rfl (by kernel_rfl) (by kernel_rfl) (by kernel_rfl) (fun _ _ _ h => h) (Or.inl ⟨by kernel_rfl, ?_⟩) (by assumption) ?_
  rotate_left
  · intro w hSw; (try dsimp only at hSw); go_simp; try with_reducible rfl
  simp only [Act.put, List.getElem_toArray, List.getElem_cons_succ, List.getElem_cons_zero, List.setIfInBounds_toArray, List.set_cons_zero, List.set_cons_succ]
  refine wpAnyH_take (i := 4) (v := ?_) rfl (by kernel_rfl) (by kernel_rfl) (by kernel_rfl) (fun _ _ _ h => h) (Or.inl ⟨by kernel_rfl, ?_⟩) (by assumption) ?_
  rotate_left
  · intro w hSw; (try dsimp only at hSw); go_simp; try with_reducible rfl
  simp only [Act.put, List.getElem_toArray, List.getElem_cons_succ, List.getElem_cons_zero, List.setIfInBounds_toArray, List.set_cons_zero, List.set_cons_succ]
  refine wpAnyH_take (i := 5) (v := .int .i64 (t - m.o * s.len)) rfl (by kernel_rfl) (by kernel_rfl) (by kernel_rfl) (fun _ _ _ h => h) (Or.inl ⟨by kernel_rfl, ?_⟩) (by assumption) ?_
  · intro w hSw; (try dsimp only at hSw)
    have x1 := X1.out; go_simp
  simp only [Act.put, List.getElem_toArray, List.getElem_cons_succ, List.getElem_cons_zero, List.setIfInBounds_toArray, List.set_cons_zero, List.set_cons_succ]
  refine wpAnyH_take (i := 6) (v := ?_) rfl (by kernel_rfl) (by kernel_rfl) (by kernel_rfl) (fun _ _ _ h => h) (Or.inl ⟨by kernel_rfl, ?_⟩) (by assumption) ?_
  rotate_left
  · intro w hSw; (try dsimp only at hSw); go_simp; try with_reducible rfl
  simp only [Act.put, List.getElem_toArray, List.getElem_cons_succ, List.getElem_cons_zero, List.setIfInBounds_toArray, List.set_cons_zero, List.set_cons_succ]
  refine wpAnyH_take (i := 7) (v := ?_) rfl (by kernel_rfl) (by kernel_rfl) (by kernel_rfl) (fun _ _ _ h => h) (Or.inl ⟨by kernel_rfl, ?_⟩) (by assumption) ?_
  rotate_left
  · intro w hSw; (try dsimp only at hSw); go_simp; try with_reducible rfl
  simp only [Act.put, List.getElem_toArray, List.getElem_cons_succ, List.getElem_cons_zero, List.setIfInBounds_toArray, List.set_cons_zero, List.set_cons_succ]
  refine wpAnyH_take (i := 8) (v := ?_) rfl (by kernel_rfl) (by kernel_rfl) (by kernel_rfl) (fun _ _ _ h => h) (Or.inl ⟨by kernel_rfl, ?_⟩) (by assumption) ?_
  rotate_left
  · intro w hSw; (try dsimp only at hSw); go_simp; try with_reducible rfl
  simp only [Act.put, List.getElem_toArray, List.getElem_cons_succ, List.getElem_cons_zero, List.setIfInBounds_toArray, List.set_cons_zero, List.set_cons_succ]
  refine wpAnyH_take (i := 9) (v := ?_) rfl (by kernel_rfl) (by kernel_rfl) (by kernel_rfl) (fun _ _ _ h => h) (Or.inl ⟨by kernel_rfl, ?_⟩) (by assumption) ?_
  rotate_left
  · intro w hSw; (try dsimp only at hSw); go_simp; try with_reducible rfl
  simp only [Act.put, List.getElem_toArray, List.getElem_cons_succ, List.getElem_cons_zero, List.setIfInBounds_toArray, List.set_cons_zero, List.set_cons_succ]
  refine wpAnyH_take (i := 10) (v := ?_) rfl (by kernel_rfl) (by kernel_rfl) (by kernel_rfl) (fun _ _ _ h => h) (Or.inl ⟨by kernel_rfl, ?_⟩) (by assumption) ?_
  rotate_left
  · intro w hSw; (try dsimp only at hSw); go_simp; try with_reducible rfl
  simp only [Act.put, List.getElem_toArray, List.getElem_cons_succ, List.getElem_cons_zero, List.setIfInBounds_toArray, List.set_cons_zero, List.set_cons_succ]
  refine wpAnyH_take (i := 11) (v := .int .i64 (t / s.len - m.o)) rfl (by kernel_rfl) (by kernel_rfl) (by kernel_rfl) (fun _ _ _ h => h) (Or.inl ⟨by kernel_rfl, ?_⟩) (by assumption) ?_
  · intro w hSw; (try dsimp only at hSw)
    have hq := HQ.out; go_simp; exact Hz.out
  simp only [Act.put, List.getElem_toArray, List.getElem_cons_succ, List.getElem_cons_zero, List.setIfInBounds_toArray, List.set_cons_zero, List.set_cons_succ]
  refine wpAnyH_take (i := 12) (v := .bool false) rfl (by kernel_rfl) (by kernel_rfl) (by kernel_rfl) (fun _ _ _ h => h) (Or.inl ⟨by kernel_rfl, ?_⟩) (by assumption) ?_
  · intro w hSw; (try dsimp only at hSw)
    have k1 : decide (t / s.len - m.o > 1000) = false := decide_eq_false HH.out.2.1
    go_simp
  simp only [Act.put, List.getElem_toArray, List.getElem_cons_succ, List.getElem_cons_zero, List.setIfInBounds_toArray, List.set_cons_zero, List.set_cons_succ]
  refine wpAnyH_done (by kernel_rfl) ?_ _
  clear hHeld X1 HQ Hz
  go_upto_region 3 with fail
  go_cut [10, 11] from 34 to 47 (fun s10 s11 wx => s11 = .int .i64 0 ∧ Below w.heap.size w wx)
  case first =>
    refine wp_region_held_drew (S := (fun Y => Y.cell? ⟨r, 1, none⟩ = some (.int .u64 (s.num : Int)) ∧ Y.cell? ⟨r, 2, none⟩ = some (.int .u64 (s.den : Int)) ∧ Y.cell? ⟨r, 3, none⟩ = some (.int .u32 (s.bound : Int)) ∧ Y.cell? ⟨r, 4, none⟩ = some (.int .i64 s.gap) ∧ Y.cell? ⟨r, 5, none⟩ = some (.int .i64 s.len) ∧ Y.cell? ⟨r, 7, none⟩ = some (.int .i64 m.t) ∧ Y.cell? ⟨r, 9, none⟩ = some (.int .u64 (m.c : Int)) ∧ Y.cell? ⟨r, 10, none⟩ = some (.int .i64 (m.o * s.len)))) (by kernel_rfl) (HC.out _ (Below.refl _ w).drew.drew) (fun hHeld => ?_)
    refine wpAnyH_take (i := 0) (v := ?_) rfl (by kernel_rfl) (by kernel_rfl) (by kernel_rfl) (fun _ _ _ h => h) (Or.inl ⟨by kernel_rfl, ?_⟩) (by assumption) ?_
    rotate_left
    · intro w hSw; (try dsimp only at hSw); go_simp; try with_reducible rfl
    simp only [Act.put, List.getElem_toArray, List.getElem_cons_succ, List.getElem_cons_zero, List.setIfInBounds_toArray, List.set_cons_zero, List.set_cons_succ]
    refine wpAnyH_take (i := 1) (v := ?_) rfl (by kernel_rfl) (by kernel_rfl) (by kernel_rfl) (fun _ _ _ h => h) (Or.inl ⟨by kernel_rfl, ?_⟩) (by assumption) ?_
    rotate_left
    · intro w hSw; (try dsimp only at hSw); go_simp; try with_reducible rfl
    simp only [Act.put, List.getElem_toArray, List.getElem_cons_succ, List.getElem_cons_zero, List.setIfInBounds_toArray, List.set_cons_zero, List.set_cons_succ]
    refine wpAnyH_take (i := 2) (v := ?_) rfl (by kernel_rfl) (by kernel_rfl) (by kernel_rfl) (fun _ _ _ h => h) (Or.inl ⟨by kernel_rfl, ?_⟩) (by assumption) ?_
    rotate_left
    · intro w hSw; (try dsimp only at hSw); go_simp; try with_reducible rfl
    simp only [Act.put, List.getElem_toArray, List.getElem_cons_succ, List.getElem_cons_zero, List.setIfInBounds_toArray, List.set_cons_zero, List.set_cons_succ]
    refine wpAnyH_take (i := 3) (v := ?_) rfl (by kernel_rfl) (by kernel_rfl) (by kernel_rfl) (fun _ _ _ h => h) (Or.inl ⟨by kernel_rfl, ?_⟩) (by assumption) ?_
    rotate_left
    · intro w hSw; (try dsimp only at hSw); go_simp; try with_reducible rfl
    simp only [Act.put, List.getElem_toArray, List.getElem_cons_succ, List.getElem_cons_zero, List.setIfInBounds_toArray, List.set_cons_zero, List.set_cons_succ]
    refine wpAnyH_take (i := 4) (v := ?_) rfl (by kernel_rfl) (by kernel_rfl) (by kernel_rfl) (fun _ _ _ h => h) (Or.inl ⟨by kernel_rfl, ?_⟩) (by assumption) ?_
    rotate_left
    · intro w hSw; (try dsimp only at hSw); go_simp; try with_reducible rfl
    simp only [Act.put, List.getElem_toArray, List.getElem_cons_succ, List.getElem_cons_zero, List.setIfInBounds_toArray, List.set_cons_zero, List.set_cons_succ]
    refine wpAnyH_take (i := 5) (v := ?_) rfl (by kernel_rfl) (by kernel_rfl) (by kernel_rfl) (fun _ _ _ h => h) (Or.inl ⟨by kernel_rfl, ?_⟩) (by assumption) ?_
    rotate_left
    · intro w hSw; (try dsimp only at hSw); go_simp; try with_reducible rfl
    simp only [Act.put, List.getElem_toArray, List.getElem_cons_succ, List.getElem_cons_zero, List.setIfInBounds_toArray, List.set_cons_zero, List.set_cons_succ]
    refine wpAnyH_take (i := 6) (v := ?_) rfl (by kernel_rfl) (by kernel_rfl) (by kernel_rfl) (fun _ _ _ h => h) (Or.inl ⟨by kernel_rfl, ?_⟩) (by assumption) ?_
    rotate_left
    · intro w hSw; (try dsimp only at hSw); go_simp; try with_reducible rfl
    simp only [Act.put, List.getElem_toArray, List.getElem_cons_succ, List.getElem_cons_zero, List.setIfInBounds_toArray, List.set_cons_zero, List.set_cons_succ]
    refine wpAnyH_take (i := 7) (v := ?_) rfl (by kernel_rfl) (by kernel_rfl) (by kernel_rfl) (fun _ _ _ h => h) (Or.inl ⟨by kernel_rfl, ?_⟩) (by assumption) ?_
    rotate_left
    · intro w hSw; (try dsimp only at hSw); go_simp; try with_reducible rfl
    simp only [Act.put, List.getElem_toArray, List.getElem_cons_succ, List.getElem_cons_zero, List.setIfInBounds_toArray, List.set_cons_zero, List.set_cons_succ]
    refine wpAnyH_take (i := 8) (v := ?_) rfl (by kernel_rfl) (by kernel_rfl) (by kernel_rfl) (fun _ _ _ h => h) (Or.inl ⟨by kernel_rfl, ?_⟩) (by assumption) ?_
    rotate_left
    · intro w hSw; (try dsimp only at hSw); go_simp; try with_reducible rfl
    simp only [Act.put, List.getElem_toArray, List.getElem_cons_succ, List.getElem_cons_zero, List.setIfInBounds_toArray, List.set_cons_zero, List.set_cons_succ]
    refine wpAnyH_take (i := 9) (v := .int .u64 ((m.c + d : Nat) : Int)) rfl (by kernel_rfl) (by kernel_rfl) (by kernel_rfl) (fun _ _ _ h => h) (Or.inl ⟨by kernel_rfl, ?_⟩) (by assumption) ?_
    · intro w hSw; (try dsimp only at hSw)
      have x2 := X2.out; go_simp
    simp only [Act.put, List.getElem_toArray, List.getElem_cons_succ, List.getElem_cons_zero, List.setIfInBounds_toArray, List.set_cons_zero, List.set_cons_succ]
    refine wpAnyH_ready (rs := [10]) (by kernel_rfl) (by simp) ?_
    refine AllReadyH.cons rfl (fun K hK => ?_) AllReadyH.nil
    go_simp
    refine (HE.out w.drew.drew).mono ?_
    rintro e w2 ⟨rfl, hb⟩
    have H2 := Lib.hid ((Below.refl w.heap.size w).drew.drew.trans (hb.mono (Nat.le_refl _)))
    clear hb
    try go_wp2_with fail
    refine hK.out _ _ (HC.out _ H2.out) (fun hHeld => ?_)
    clear hK K
    try simp only [Act.put, List.getElem_toArray, List.getElem_cons_succ, List.getElem_cons_zero, List.setIfInBounds_toArray, List.set_cons_zero, List.set_cons_succ]
    refine wpAnyH_take (i := 11) (v := ?_) rfl (by kernel_rfl) (by kernel_rfl) (by kernel_rfl) (fun _ _ _ h => h) (Or.inl ⟨by kernel_rfl, ?_⟩) (by assumption) ?_
    rotate_left
    · intro w hSw; (try dsimp only at hSw); go_simp; try with_reducible rfl
    simp only [Act.put, List.getElem_toArray, List.getElem_cons_succ, List.getElem_cons_zero, List.setIfInBounds_toArray, List.set_cons_zero, List.set_cons_succ]
    refine wpAnyH_take (i := 12) (v := ?_) rfl (by kernel_rfl) (by kernel_rfl) (by kernel_rfl) (fun _ _ _ h => h) (Or.inl ⟨by kernel_rfl, ?_⟩) (by assumption) ?_
    rotate_left
    · intro w hSw; (try dsimp only at hSw); go_simp; try with_reducible rfl
    simp only [Act.put, List.getElem_toArray, List.getElem_cons_succ, List.getElem_cons_zero, List.setIfInBounds_toArray, List.set_cons_zero, List.set_cons_succ]
    refine wpAnyH_take (i := 13) (v := ?_) rfl (by kernel_rfl) (by kernel_rfl) (by kernel_rfl) (fun _ _ _ h => h) (Or.inl ⟨by kernel_rfl, ?_⟩) (by assumption) ?_
    rotate_left
    · intro w hSw; (try dsimp only at hSw); go_simp; try with_reducible rfl
    simp only [Act.put, List.getElem_toArray, List.getElem_cons_succ, List.getElem_cons_zero, List.setIfInBounds_toArray, List.set_cons_zero, List.set_cons_succ]
    refine wpAnyH_take (i := 14) (v := ?_) rfl (by kernel_rfl) (by kernel_rfl) (by kernel_rfl) (fun _ _ _ h => h) (Or.inl ⟨by kernel_rfl, ?_⟩) (by assumption) ?_
    rotate_left
    · intro w hSw; (try dsimp only at hSw); go_simp; try with_reducible rfl
    simp only [Act.put, List.getElem_toArray, List.getElem_cons_succ, List.getElem_cons_zero, List.setIfInBounds_toArray, List.set_cons_zero, List.set_cons_succ]
    refine wpAnyH_take (i := 15) (v := ?_) rfl (by kernel_rfl) (by kernel_rfl) (by kernel_rfl) (fun _ _ _ h => h) (Or.inl ⟨by kernel_rfl, ?_⟩) (by assumption) ?_
    rotate_left
    · intro w hSw; (try dsimp only at hSw); go_simp; try with_reducible rfl
    simp only [Act.put, List.getElem_toArray, List.getElem_cons_succ, List.getElem_cons_zero, List.setIfInBounds_toArray, List.set_cons_zero, List.set_cons_succ]
    refine wpAnyH_done (by kernel_rfl) ?_ _
    go_wp2_with fail
    go_meet
    exact ⟨rfl, H2.out⟩
  case rest =>
    obtain ⟨rfl, hb2⟩ := hcut
    obtain ⟨w2, rfl⟩ : ∃ x : World, x = wc := ⟨_, rfl⟩
    have H2 := Lib.hid hb2
    clear hb2
    go_upto_region 7 with fail
    refine wp_region_held_drew (S := (fun Y => Y.cell? ⟨r, 1, none⟩ = some (.int .u64 (s.num : Int)) ∧ Y.cell? ⟨r, 2, none⟩ = some (.int .u64 (s.den : Int)) ∧ Y.cell? ⟨r, 3, none⟩ = some (.int .u32 (s.bound : Int)) ∧ Y.cell? ⟨r, 4, none⟩ = some (.int .i64 s.gap) ∧ Y.cell? ⟨r, 5, none⟩ = some (.int .i64 s.len) ∧ Y.cell? ⟨r, 7, none⟩ = some (.int .i64 m.t) ∧ Y.cell? ⟨r, 9, none⟩ = some (.int .u64 (m.c : Int)) ∧ Y.cell? ⟨r, 10, none⟩ = some (.int .i64 (m.o * s.len)))) (by kernel_rfl) (HC.out _ H2.out.drew) (fun hHeld => ?_)
    refine wpAnyH_take (i := 0) (v := ?_) rfl (by kernel_rfl) (by kernel_rfl) (by kernel_rfl) (fun _ _ _ h => h) (Or.inl ⟨by kernel_rfl, ?_⟩) (by assumption) ?_
    rotate_left
    · intro w hSw; (try dsimp only at hSw); go_simp; try with_reducible rfl
    simp only [Act.put, List.getElem_toArray, List.getElem_cons_succ, List.getElem_cons_zero, List.setIfInBounds_toArray, List.set_cons_zero, List.set_cons_succ]
    refine wpAnyH_take (i := 1) (v := ?_) rfl (by kernel_rfl) (by kernel_rfl) (by kernel_rfl) (fun _ _ _ h => h) (Or.inl ⟨by kernel_rfl, ?_⟩) (by assumption) ?_
    rotate_left
    · intro w hSw; (try dsimp only at hSw); go_simp; try with_reducible rfl
    simp only [Act.put, List.getElem_toArray, List.getElem_cons_succ, List.getElem_cons_zero, List.setIfInBounds_toArray, List.set_cons_zero, List.set_cons_succ]
    refine wpAnyH_take (i := 2) (v := ?_) rfl (by kernel_rfl) (by kernel_rfl) (by kernel_rfl) (fun _ _ _ h => h) (Or.inl ⟨by kernel_rfl, ?_⟩) (by assumption) ?_
    rotate_left
    · intro w hSw; (try dsimp only at hSw); go_simp; try with_reducible rfl
    simp only [Act.put, List.getElem_toArray, List.getElem_cons_succ, List.getElem_cons_zero, List.setIfInBounds_toArray, List.set_cons_zero, List.set_cons_succ]
    refine wpAnyH_take (i := 3) (v := ?_) rfl (by kernel_rfl) (by kernel_rfl) (by kernel_rfl) (fun _ _ _ h => h) (Or.inl ⟨by kernel_rfl, ?_⟩) (by assumption) ?_
    rotate_left
    · intro w hSw; (try dsimp only at hSw); go_simp; try with_reducible rfl
    simp only [Act.put, List.getElem_toArray, List.getElem_cons_succ, List.getElem_cons_zero, List.setIfInBounds_toArray, List.set_cons_zero, List.set_cons_succ]
    refine wpAnyH_take (i := 4) (v := ?_) rfl (by kernel_rfl) (by kernel_rfl) (by kernel_rfl) (fun _ _ _ h => h) (Or.inl ⟨by kernel_rfl, ?_⟩) (by assumption) ?_
    rotate_left
    · intro w hSw; (try dsimp only at hSw); go_simp; try with_reducible rfl
    simp only [Act.put, List.getElem_toArray, List.getElem_cons_succ, List.getElem_cons_zero, List.setIfInBounds_toArray, List.set_cons_zero, List.set_cons_succ]
    refine wpAnyH_take (i := 5) (v := .int .i64 (t - m.t)) rfl (by kernel_rfl) (by kernel_rfl) (by kernel_rfl) (fun _ _ _ h => h) (Or.inl ⟨by kernel_rfl, ?_⟩) (by assumption) ?_
    · intro w hSw; (try dsimp only at hSw)
      have x3 := X3.out; go_simp
    simp only [Act.put, List.getElem_toArray, List.getElem_cons_succ, List.getElem_cons_zero, List.setIfInBounds_toArray, List.set_cons_zero, List.set_cons_succ]
    refine wpAnyH_take (i := 6) (v := ?_) rfl (by kernel_rfl) (by kernel_rfl) (by kernel_rfl) (fun _ _ _ h => h) (Or.inl ⟨by kernel_rfl, ?_⟩) (by assumption) ?_
    rotate_left
    · intro w hSw; (try dsimp only at hSw); go_simp; try with_reducible rfl
    simp only [Act.put, List.getElem_toArray, List.getElem_cons_succ, List.getElem_cons_zero, List.setIfInBounds_toArray, List.set_cons_zero, List.set_cons_succ]
    refine wpAnyH_take (i := 7) (v := ?_) rfl (by kernel_rfl) (by kernel_rfl) (by kernel_rfl) (fun _ _ _ h => h) (Or.inl ⟨by kernel_rfl, ?_⟩) (by assumption) ?_
    rotate_left
    · intro w hSw; (try dsimp only at hSw); go_simp; try with_reducible rfl
    simp only [Act.put, List.getElem_toArray, List.getElem_cons_succ, List.getElem_cons_zero, List.setIfInBounds_toArray, List.set_cons_zero, List.set_cons_succ]
    refine wpAnyH_take (i := 8) (v := ?_) rfl (by kernel_rfl) (by kernel_rfl) (by kernel_rfl) (fun _ _ _ h => h) (Or.inl ⟨by kernel_rfl, ?_⟩) (by assumption) ?_
    rotate_left
    · intro w hSw; (try dsimp only at hSw); go_simp; try with_reducible rfl
    simp only [Act.put, List.getElem_toArray, List.getElem_cons_succ, List.getElem_cons_zero, List.setIfInBounds_toArray, List.set_cons_zero, List.set_cons_succ]
    refine wpAnyH_take (i := 9) (v := ?_) rfl (by kernel_rfl) (by kernel_rfl) (by kernel_rfl) (fun _ _ _ h => h) (Or.inl ⟨by kernel_rfl, ?_⟩) (by assumption) ?_
    rotate_left
    · intro w hSw; (try dsimp only at hSw); go_simp; try with_reducible rfl
    simp only [Act.put, List.getElem_toArray, List.getElem_cons_succ, List.getElem_cons_zero, List.setIfInBounds_toArray, List.set_cons_zero, List.set_cons_succ]
    refine wpAnyH_take (i := 10) (v := ?_) rfl (by kernel_rfl) (by kernel_rfl) (by kernel_rfl) (fun _ _ _ h => h) (Or.inl ⟨by kernel_rfl, ?_⟩) (by assumption) ?_
    rotate_left
    · intro w hSw; (try dsimp only at hSw); go_simp; try with_reducible rfl
    simp only [Act.put, List.getElem_toArray, List.getElem_cons_succ, List.getElem_cons_zero, List.setIfInBounds_toArray, List.set_cons_zero, List.set_cons_succ]
    refine wpAnyH_take (i := 11) (v := .bool gB) rfl (by kernel_rfl) (by kernel_rfl) (by kernel_rfl) (fun _ _ _ h => h) (Or.inl ⟨by kernel_rfl, ?_⟩) (by assumption) ?_
    · intro w hSw; (try dsimp only at hSw)
      have hg := HgB.out; go_simp
    simp only [Act.put, List.getElem_toArray, List.getElem_cons_succ, List.getElem_cons_zero, List.setIfInBounds_toArray, List.set_cons_zero, List.set_cons_succ]
    refine wpAnyH_done (by kernel_rfl) ?_ _
    clear hHeld
    obtain ⟨M1, hM1⟩ : ∃ M1 : Nat, (if gB = true then 2 else 0) = M1 := ⟨_, rfl⟩
    have HM1 := Lib.hid hM1
    clear hM1
    go_upto_if 62 with fail
    go_cut [12] from 63 to 65 (fun s12 wx => s12 = .int .i64 (M1 : Int) ∧ w2.drew = wx)
    case first =>
      cases gB with
      | true =>
        have h2 : M1 = 2 := HM1.out.symm
        have H22 := Lib.hid h2
        clear h2
        go_wp2_with fail
        go_meet
        exact ⟨by rw [H22.out]; rfl, by first | rfl | trivial⟩
      | false =>
        have h2 : M1 = 0 := HM1.out.symm
        have H22 := Lib.hid h2
        clear h2
        go_wp2_with fail
        go_meet
        exact ⟨by rw [H22.out]; rfl, by first | rfl | trivial⟩
    case rest =>
      obtain ⟨rfl, hw⟩ := hcut
      subst hw
      go_upto_if 63 with fail
      go_cut [12] from 64 to 65 (fun s12 wx => s12 = .int .i64 (F : Int) ∧ w2.drew = wx)
      case first =>
        have hFv := HFv.out
        rw [HM1.out] at hFv
        cases sB with
        | true =>
          have X5 := Lib.hid (show wrap64 ((M1 : Int) + 4) = (F : Int) by have : F = M1 + 4 := hFv; rw [wrap64_at _ (by have := HM1.out; split at this <;> omega)]; omega)
          clear hFv
          go_wp2_with fail
          go_meet
          exact ⟨congrArg (Value.int .i64) X5.out, by first | rfl | trivial⟩
        | false =>
          have X5 := Lib.hid (show M1 = F by have : F = M1 + 0 := hFv; omega)
          clear hFv
          go_wp2_with fail
          go_meet
          exact ⟨by rw [X5.out], by first | rfl | trivial⟩
      case rest =>
        obtain ⟨rfl, hw⟩ := hcut
        subst hw
        have H3 := Lib.hid (And.intro (HB.out.go H2.out.drew) (show Below w.heap.size w w2.drew from H2.out.drew))
        obtain ⟨w3, hw3⟩ : ∃ x, w2.drew = x := ⟨_, rfl⟩
        rw [hw3] at H3 ⊢
        clear hw3
        go_wp2_with fail
        go_loopw [13] (fun s13 wr => ∃ (j : Nat) (A : Option Addr) (c : Nat), j ≤ N ∧ s13 = .slice A j c ∧ wr.ownsRow w.heap.size 45 42 (.slice A j c) j (ensC nr (passE s m t d F j)) ∧ RtB wr r nr s (passM s m t d j) ∧ Kept (fun x => x ≠ r) w wr) (fun s13 _ => N - lenOf s13)
        case atStart => exact ⟨0, none, 0, by omega, rfl, own_nilE _ _ _, H3.out.1, H3.out.2.keptS _⟩
        case round =>
          obtain ⟨j, A, c, hj, rfl, ho, hm, hk⟩ := hrel
          obtain ⟨wo, rfl⟩ : ∃ wo : World, wo = wr := ⟨_, rfl⟩
          have hl := HH.out.1.hs.ok.len
          have hmo := many_o hl.1 HH.out.1.ok HH.out.1.t.1
          have hn := HH.out.2.2.2.2.2.1
          obtain ⟨e, he⟩ : ∃ e, endJ s m j = e := ⟨_, rfl⟩
          obtain ⟨mj, hmj⟩ : ∃ mj, passM s m t d j = mj := ⟨_, rfl⟩
          have hoj : mj.o = m.o + j := by rw [← hmj]; exact passM_o j
          have hmul : mj.o * s.len + s.len = e := by
            rw [hoj, ← he]
            unfold endJ
            rw [show m.o + 1 + (j : Int) = (m.o + j) + 1 by omega, Int.add_mul (m.o + j) 1, Int.one_mul]
          have hmj0 : 0 ≤ mj.o * s.len := Int.mul_nonneg (by have := HH.out.1.o0; omega) (by omega)
          rw [hmj] at hm
          have htb := HH.out.1.t
          have heb : e ≤ t + s.len := by
            rcases Nat.lt_or_ge j N with h | h
            · have := endJ_in (s := s) (m := m) (t' := t) hl.1 (by rw [hn]; exact h); omega
            · have hjn : j = N := by omega
              have h3 := Int.ediv_mul_le t (show s.len ≠ 0 by omega)
              have h4 : e = (t / s.len + 1) * s.len := by rw [← he]; unfold endJ; rw [hjn, ← hn]; congr 1; omega
              rw [Int.add_mul, Int.one_mul] at h4
              omega
          have X6 := Lib.hid (show IntKind.i64.wrap (mj.o * s.len + s.len) = e by rw [hmul]; exact wrapI_at _ (by omega))
          have HM := Lib.hid (And.intro hm (And.intro ho (And.intro hk hmj)))
          have HS12 := Lib.hid (show wo.drew.cell? ⟨r, 10, none⟩ = some (.int .i64 (mj.o * s.len)) ∧ wo.drew.cell? ⟨r, 5, none⟩ = some (.int .i64 s.len) from ⟨hm.cells.2.2.2.2.2.2.2.2.2.2.1, hm.cells.2.2.2.2.2.1⟩)
          have HE5 := Lib.hid (And.intro he (And.intro hoj (And.intro hmul (And.intro hmj0 heb))))
          by_cases hlt : j < N
          · have k0 : decide (e ≤ t) = true := decide_eq_true (by rw [← he]; exact endJ_in hl.1 (by rw [hn]; exact hlt))
            have K0 := Lib.hid k0
            have Hlt := Lib.hid hlt
            clear hl hmo hn he hmj hoj hmul hmj0 hm htb heb ho hk k0 hlt hj
            go_upto_region 12 with fail
            refine wp_region_held_drew (S := (fun Y => Y.cell? ⟨r, 10, none⟩ = some (.int .i64 (mj.o * s.len)) ∧ Y.cell? ⟨r, 5, none⟩ = some (.int .i64 s.len))) (by kernel_rfl) HS12.out (fun hHeld => ?_)
            refine wpAnyH_take (i := 0) (v := ?_) rfl (by kernel_rfl) (by kernel_rfl) (by kernel_rfl) (fun _ _ _ h => h) (Or.inl ⟨by kernel_rfl, ?_⟩) (by assumption) ?_
            rotate_left
            · intro w hSw; (try dsimp only at hSw); go_simp; try with_reducible rfl
            simp only [Act.put, List.getElem_toArray, List.getElem_cons_succ, List.getElem_cons_zero, List.setIfInBounds_toArray, List.set_cons_zero, List.set_cons_succ]
            refine wpAnyH_take (i := 1) (v := ?_) rfl (by kernel_rfl) (by kernel_rfl) (by kernel_rfl) (fun _ _ _ h => h) (Or.inl ⟨by kernel_rfl, ?_⟩) (by assumption) ?_
            rotate_left
            · intro w hSw; (try dsimp only at hSw); go_simp; try with_reducible rfl
            simp only [Act.put, List.getElem_toArray, List.getElem_cons_succ, List.getElem_cons_zero, List.setIfInBounds_toArray, List.set_cons_zero, List.set_cons_succ]
            refine wpAnyH_take (i := 2) (v := ?_) rfl (by kernel_rfl) (by kernel_rfl) (by kernel_rfl) (fun _ _ _ h => h) (Or.inl ⟨by kernel_rfl, ?_⟩) (by assumption) ?_
            rotate_left
            · intro w hSw; (try dsimp only at hSw); go_simp; try with_reducible rfl
            simp only [Act.put, List.getElem_toArray, List.getElem_cons_succ, List.getElem_cons_zero, List.setIfInBounds_toArray, List.set_cons_zero, List.set_cons_succ]
            refine wpAnyH_take (i := 3) (v := ?_) rfl (by kernel_rfl) (by kernel_rfl) (by kernel_rfl) (fun _ _ _ h => h) (Or.inl ⟨by kernel_rfl, ?_⟩) (by assumption) ?_
            rotate_left
            · intro w hSw; (try dsimp only at hSw); go_simp; try with_reducible rfl
            simp only [Act.put, List.getElem_toArray, List.getElem_cons_succ, List.getElem_cons_zero, List.setIfInBounds_toArray, List.set_cons_zero, List.set_cons_succ]
            refine wpAnyH_take (i := 4) (v := ?_) rfl (by kernel_rfl) (by kernel_rfl) (by kernel_rfl) (fun _ _ _ h => h) (Or.inl ⟨by kernel_rfl, ?_⟩) (by assumption) ?_
            rotate_left
            · intro w hSw; (try dsimp only at hSw); go_simp; try with_reducible rfl
            simp only [Act.put, List.getElem_toArray, List.getElem_cons_succ, List.getElem_cons_zero, List.setIfInBounds_toArray, List.set_cons_zero, List.set_cons_succ]
            refine wpAnyH_take (i := 5) (v := ?_) rfl (by kernel_rfl) (by kernel_rfl) (by kernel_rfl) (fun _ _ _ h => h) (Or.inl ⟨by kernel_rfl, ?_⟩) (by assumption) ?_
            rotate_left
            · intro w hSw; (try dsimp only at hSw); go_simp; try with_reducible rfl
            simp only [Act.put, List.getElem_toArray, List.getElem_cons_succ, List.getElem_cons_zero, List.setIfInBounds_toArray, List.set_cons_zero, List.set_cons_succ]
            refine wpAnyH_take (i := 6) (v := ?_) rfl (by kernel_rfl) (by kernel_rfl) (by kernel_rfl) (fun _ _ _ h => h) (Or.inl ⟨by kernel_rfl, ?_⟩) (by assumption) ?_
            rotate_left
            · intro w hSw; (try dsimp only at hSw); go_simp; try with_reducible rfl
            simp only [Act.put, List.getElem_toArray, List.getElem_cons_succ, List.getElem_cons_zero, List.setIfInBounds_toArray, List.set_cons_zero, List.set_cons_succ]
            refine wpAnyH_take (i := 7) (v := ?_) rfl (by kernel_rfl) (by kernel_rfl) (by kernel_rfl) (fun _ _ _ h => h) (Or.inl ⟨by kernel_rfl, ?_⟩) (by assumption) ?_
            rotate_left
            · intro w hSw; (try dsimp only at hSw); go_simp; try with_reducible rfl
            simp only [Act.put, List.getElem_toArray, List.getElem_cons_succ, List.getElem_cons_zero, List.setIfInBounds_toArray, List.set_cons_zero, List.set_cons_succ]
            refine wpAnyH_take (i := 8) (v := ?_) rfl (by kernel_rfl) (by kernel_rfl) (by kernel_rfl) (fun _ _ _ h => h) (Or.inl ⟨by kernel_rfl, ?_⟩) (by assumption) ?_
            rotate_left
            · intro w hSw; (try dsimp only at hSw); go_simp; try with_reducible rfl
            simp only [Act.put, List.getElem_toArray, List.getElem_cons_succ, List.getElem_cons_zero, List.setIfInBounds_toArray, List.set_cons_zero, List.set_cons_succ]
            refine wpAnyH_take (i := 9) (v := .int .i64 e) rfl (by kernel_rfl) (by kernel_rfl) (by kernel_rfl) (fun _ _ _ h => h) (Or.inl ⟨by kernel_rfl, ?_⟩) (by assumption) ?_
            · intro w hSw; (try dsimp only at hSw)
              have x6 := X6.out; go_simp
            simp only [Act.put, List.getElem_toArray, List.getElem_cons_succ, List.getElem_cons_zero, List.setIfInBounds_toArray, List.set_cons_zero, List.set_cons_succ]
            refine wpAnyH_take (i := 10) (v := ?_) rfl (by kernel_rfl) (by kernel_rfl) (by kernel_rfl) (fun _ _ _ h => h) (Or.inl ⟨by kernel_rfl, ?_⟩) (by assumption) ?_
            rotate_left
            · intro w hSw; (try dsimp only at hSw); go_simp; try with_reducible rfl
            simp only [Act.put, List.getElem_toArray, List.getElem_cons_succ, List.getElem_cons_zero, List.setIfInBounds_toArray, List.set_cons_zero, List.set_cons_succ]
            refine wpAnyH_take (i := 11) (v := .bool true) rfl (by kernel_rfl) (by kernel_rfl) (by kernel_rfl) (fun _ _ _ h => h) (Or.inl ⟨by kernel_rfl, ?_⟩) (by assumption) ?_
            · intro w hSw; (try dsimp only at hSw)
              have k0 := K0.out; go_simp
            simp only [Act.put, List.getElem_toArray, List.getElem_cons_succ, List.getElem_cons_zero, List.setIfInBounds_toArray, List.set_cons_zero, List.set_cons_succ]
            refine wpAnyH_done (by kernel_rfl) ?_ _
            clear hHeld
            go_upto_region 13 with fail
            refine wp_region_held_drew (S := (fun Y => Y.cell? ⟨r, 10, none⟩ = some (.int .i64 (mj.o * s.len)) ∧ Y.cell? ⟨r, 5, none⟩ = some (.int .i64 s.len))) (by kernel_rfl) HS12.out (fun hHeld => ?_)
            refine wpAnyH_take (i := 0) (v := ?_) rfl (by kernel_rfl) (by kernel_rfl) (by kernel_rfl) (fun _ _ _ h => h) (Or.inl ⟨by kernel_rfl, ?_⟩) (by assumption) ?_
            rotate_left
            · intro w hSw; (try dsimp only at hSw); go_simp; try with_reducible rfl
            simp only [Act.put, List.getElem_toArray, List.getElem_cons_succ, List.getElem_cons_zero, List.setIfInBounds_toArray, List.set_cons_zero, List.set_cons_succ]
            refine wpAnyH_take (i := 1) (v := ?_) rfl (by kernel_rfl) (by kernel_rfl) (by kernel_rfl) (fun _ _ _ h => h) (Or.inl ⟨by kernel_rfl, ?_⟩) (by assumption) ?_
            rotate_left
            · intro w hSw; (try dsimp only at hSw); go_simp; try with_reducible rfl
            simp only [Act.put, List.getElem_toArray, List.getElem_cons_succ, List.getElem_cons_zero, List.setIfInBounds_toArray, List.set_cons_zero, List.set_cons_succ]
            refine wpAnyH_take (i := 2) (v := ?_) rfl (by kernel_rfl) (by kernel_rfl) (by kernel_rfl) (fun _ _ _ h => h) (Or.inl ⟨by kernel_rfl, ?_⟩) (by assumption) ?_
            rotate_left
            · intro w hSw; (try dsimp only at hSw); go_simp; try with_reducible rfl
            simp only [Act.put, List.getElem_toArray, List.getElem_cons_succ, List.getElem_cons_zero, List.setIfInBounds_toArray, List.set_cons_zero, List.set_cons_succ]
            refine wpAnyH_take (i := 3) (v := ?_) rfl (by kernel_rfl) (by kernel_rfl) (by kernel_rfl) (fun _ _ _ h => h) (Or.inl ⟨by kernel_rfl, ?_⟩) (by assumption) ?_
            rotate_left
            · intro w hSw; (try dsimp only at hSw); go_simp; try with_reducible rfl
            simp only [Act.put, List.getElem_toArray, List.getElem_cons_succ, List.getElem_cons_zero, List.setIfInBounds_toArray, List.set_cons_zero, List.set_cons_succ]
            refine wpAnyH_take (i := 4) (v := ?_) rfl (by kernel_rfl) (by kernel_rfl) (by kernel_rfl) (fun _ _ _ h => h) (Or.inl ⟨by kernel_rfl, ?_⟩) (by assumption) ?_
            rotate_left
            · intro w hSw; (try dsimp only at hSw); go_simp; try with_reducible rfl
            simp only [Act.put, List.getElem_toArray, List.getElem_cons_succ, List.getElem_cons_zero, List.setIfInBounds_toArray, List.set_cons_zero, List.set_cons_succ]
            refine wpAnyH_take (i := 5) (v := ?_) rfl (by kernel_rfl) (by kernel_rfl) (by kernel_rfl) (fun _ _ _ h => h) (Or.inl ⟨by kernel_rfl, ?_⟩) (by assumption) ?_
            rotate_left
            · intro w hSw; (try dsimp only at hSw); go_simp; try with_reducible rfl
            simp only [Act.put, List.getElem_toArray, List.getElem_cons_succ, List.getElem_cons_zero, List.setIfInBounds_toArray, List.set_cons_zero, List.set_cons_succ]
            refine wpAnyH_take (i := 6) (v := ?_) rfl (by kernel_rfl) (by kernel_rfl) (by kernel_rfl) (fun _ _ _ h => h) (Or.inl ⟨by kernel_rfl, ?_⟩) (by assumption) ?_
            rotate_left
            · intro w hSw; (try dsimp only at hSw); go_simp; try with_reducible rfl
            simp only [Act.put, List.getElem_toArray, List.getElem_cons_succ, List.getElem_cons_zero, List.setIfInBounds_toArray, List.set_cons_zero, List.set_cons_succ]
            refine wpAnyH_take (i := 7) (v := ?_) rfl (by kernel_rfl) (by kernel_rfl) (by kernel_rfl) (fun _ _ _ h => h) (Or.inl ⟨by kernel_rfl, ?_⟩) (by assumption) ?_
            rotate_left
            · intro w hSw; (try dsimp only at hSw); go_simp; try with_reducible rfl
            simp only [Act.put, List.getElem_toArray, List.getElem_cons_succ, List.getElem_cons_zero, List.setIfInBounds_toArray, List.set_cons_zero, List.set_cons_succ]
            refine wpAnyH_take (i := 8) (v := ?_) rfl (by kernel_rfl) (by kernel_rfl) (by kernel_rfl) (fun _ _ _ h => h) (Or.inl ⟨by kernel_rfl, ?_⟩) (by assumption) ?_
            rotate_left
            · intro w hSw; (try dsimp only at hSw); go_simp; try with_reducible rfl
            simp only [Act.put, List.getElem_toArray, List.getElem_cons_succ, List.getElem_cons_zero, List.setIfInBounds_toArray, List.set_cons_zero, List.set_cons_succ]
            refine wpAnyH_take (i := 9) (v := .int .i64 e) rfl (by kernel_rfl) (by kernel_rfl) (by kernel_rfl) (fun _ _ _ h => h) (Or.inl ⟨by kernel_rfl, ?_⟩) (by assumption) ?_
            · intro w hSw; (try dsimp only at hSw)
              have x6 := X6.out; go_simp
            simp only [Act.put, List.getElem_toArray, List.getElem_cons_succ, List.getElem_cons_zero, List.setIfInBounds_toArray, List.set_cons_zero, List.set_cons_succ]
            refine wpAnyH_take (i := 10) (v := ?_) rfl (by kernel_rfl) (by kernel_rfl) (by kernel_rfl) (fun _ _ _ h => h) (Or.inl ⟨by kernel_rfl, ?_⟩) (by assumption) ?_
            rotate_left
            · intro w hSw; (try dsimp only at hSw); go_simp; try with_reducible rfl
            simp only [Act.put, List.getElem_toArray, List.getElem_cons_succ, List.getElem_cons_zero, List.setIfInBounds_toArray, List.set_cons_zero, List.set_cons_succ]
            refine wpAnyH_done (by kernel_rfl) ?_ _
            clear hHeld
            have hat := atEnd (d := d) (i := i) HH.out.1.hs.ok HH.out.1.ok HH.out.1.d (show j < many s m t by rw [HH.out.2.2.2.2.2.1]; exact Hlt.out)
            have hspn := HH.out.2.2.1
            have hi2 := HH.out.1.i
            have hii : ((i : Int) + 1) * 9007199254740992 ≤ 201 * 9007199254740992 := Int.mul_le_mul_of_nonneg_right (by omega) (by omega)
            have hic : i * 4294967296 ≤ 200 * 4294967296 := Nat.mul_le_mul_right _ hi2
            have htt := HH.out.1.ok.t
            have htb := HH.out.1.t
            obtain ⟨hee, hafr, hak, hanow, hasum, hacn⟩ := hat
            rw [HE5.out.1] at hee
            rw [HM.out.2.2.2] at hafr hak hasum
            obtain ⟨Xn, hXn⟩ : ∃ Xn : Nat, e - m.t = Xn := ⟨(e - m.t).toNat, by omega⟩
            obtain ⟨Yn, hYn⟩ : ∃ Yn : Nat, t - m.t = Yn := ⟨(t - m.t).toNat, by omega⟩
            obtain ⟨cn, hcn⟩ : ∃ cn, cnJ s m t d j = cn := ⟨_, rfl⟩
            have hcnv : (d * Xn + 0) / Yn = cn := by
              rw [← hcn]
              unfold cnJ
              rw [HE5.out.1, show (e - m.t).toNat = Xn by omega, show (t - m.t).toNat = Yn by omega, Nat.add_zero]
            obtain ⟨now, hnow⟩ : ∃ now : Nat, eng s (m.c + cn) = now := ⟨_, rfl⟩
            have hnowJ : nowJ s m t d j = (now : Int) := by unfold nowJ; rw [hcn, hnow]
            rw [hnowJ] at hafr hanow hasum
            rw [hcn] at hacn
            have hq : (d * Xn + 0) / 18446744073709551616 < Yn := by
              have hd' := HH.out.1.d
              have : d * Xn ≤ 4294967295 * 4294967295 := Nat.mul_le_mul (by omega) (by omega)
              have : (d * Xn + 0) / 18446744073709551616 = 0 := Nat.div_eq_of_lt (by omega)
              omega
            have hcy := num_carry d Xn Yn 0 (by have := HH.out.1.d; omega) (by omega) (by omega) (by omega) (by omega) (by omega)
            rw [carry_fine d Xn Yn 0 (by omega) (by omega) hq, hcnv] at hcy
            obtain ⟨rm, hrm⟩ : ∃ rm : Int, (((d * Xn + 0) % Yn : Nat) : Int) = rm := ⟨_, rfl⟩
            rw [hrm] at hcy
            have HCy := Lib.hid hcy
            have hcc := HH.out.1.ok.c
            have hEr := refEnergy_calls (m.c + cn) s.num s.den (s.bound : Int) s.gap s.len (by have := HH.out.1.d; omega)
            have he := enV_ok (m.c + cn) s.num s.den s.gap s.len HH.out.1.hs.may (by unfold eng at hnow; omega)
            rw [he] at hEr
            unfold setV at hEr
            rw [show (m.c + cn) * s.num / s.den = now from hnow] at hEr
            have HEr := Lib.hid hEr
            have Z1 := Lib.hid (wrapI_at (e - m.t) (by omega))
            have Z2 := Lib.hid (show IntKind.u64.wrap (e - m.t) = (Xn : Int) by rw [IntKind.wrap_u64]; omega)
            have Z3 := Lib.hid (wrapI_at (t - m.t) (by omega))
            have Z4 := Lib.hid (show IntKind.u64.wrap (t - m.t) = (Yn : Int) by rw [IntKind.wrap_u64]; omega)
            have Z5 := Lib.hid (show IntKind.u64.wrap ((m.c : Int) + (cn : Int)) = ((m.c + cn : Nat) : Int) by rw [IntKind.wrap_u64]; push_cast; have := HH.out.1.d; omega)
            have Z6 := Lib.hid (wrapI_at ((now : Int) - mj.fr) (by omega))
            have Z7 := Lib.hid (wrapI_at (4611686018427387904 - ((now : Int) - mj.fr)) (by omega))
            have Z8 := Lib.hid (show decide (mj.k > 4611686018427387904 - ((now : Int) - mj.fr)) = false from decide_eq_false (by omega))
            have Z9 := Lib.hid (wrapI_at (mj.k + (now : Int)) (by omega))
            have Z10 := Lib.hid (wrapI_at (mj.k + (now : Int) - mj.fr) (by omega))
            have hf16 : mj.f < 16 := by rw [← HM.out.2.2.2, passM_f]; split; exact HH.out.1.ok.f; decide
            have Z11 := Lib.hid (i64_or_nat mj.f F (by omega) (by have := HH.out.2.2.2.2.1; omega))
            have hct : mj.t = m.t ∧ mj.c = m.c := by rw [← HM.out.2.2.2]; exact ⟨passM_t j, passM_c j⟩
            obtain ⟨xE, hxE⟩ : ∃ xE, tellE s mj now F = xE := ⟨_, rfl⟩
            have hxv : xE = ⟨1, mj.o * s.len, mj.k + now - mj.fr, mj.f ||| F, 0⟩ := hxE.symm
            have HXE := Lib.hid (show passE s m t d F (j + 1) = passE s m t d F j ++ [xE] by rw [← hxE, ← HM.out.2.2.2, ← hnowJ]; rfl)
            have HMn := Lib.hid (show passM s m t d (j + 1) = tellM mj (now : Int) by rw [← HM.out.2.2.2, ← hnowJ]; rfl)
            obtain ⟨en, hen⟩ : ∃ en, enC nr xE = en := ⟨_, rfl⟩
            have HEN := Lib.hid (And.intro hen (show en.size = 42 by rw [← hen]; exact enC_size _ _))
            have HBu := Lib.hid (show Try.prog.built 45 [(0, .int .i64 1), (1, .int .i64 nr), (2, .int .i64 (mj.o * s.len)), (3, .int .i64 (mj.k + (now : Int) - mj.fr)), (7, .int .i64 ((mj.f ||| F : Nat) : Int))] = some en by rw [built_en, ← hen, hxv])
            have HSa := Lib.hid (show ∀ Y, Below wo.heap.size wo Y → (Y.cell? ⟨r, 0, none⟩ = some (.int .i64 nr) ∧ Y.cell? ⟨r, 1, none⟩ = some (.int .u64 (s.num : Int)) ∧ Y.cell? ⟨r, 2, none⟩ = some (.int .u64 (s.den : Int)) ∧ Y.cell? ⟨r, 3, none⟩ = some (.int .u32 (s.bound : Int)) ∧ Y.cell? ⟨r, 4, none⟩ = some (.int .i64 s.gap) ∧ Y.cell? ⟨r, 5, none⟩ = some (.int .i64 s.len) ∧ Y.cell? ⟨r, 7, none⟩ = some (.int .i64 m.t) ∧ Y.cell? ⟨r, 9, none⟩ = some (.int .u64 (m.c : Int)) ∧ Y.cell? ⟨r, 10, none⟩ = some (.int .i64 (mj.o * s.len)) ∧ Y.cell? ⟨r, 11, none⟩ = some (.int .i64 (mj.f : Int)) ∧ Y.cell? ⟨r, 12, none⟩ = some (.int .i64 mj.k) ∧ Y.cell? ⟨r, 13, none⟩ = some (.int .i64 mj.fr)) from fun Y hY => by
              obtain ⟨c0, c1, c2, c3, c4, c5, c6, c7, c8, c9, c10, c11, c12, c13⟩ := (HM.out.1.go hY).cells
              rw [hct.1] at c7
              rw [hct.2] at c9
              exact ⟨c0, c1, c2, c3, c4, c5, c7, c9, c10, c11, c12, c13⟩)
            clear hspn hi2 hii hic htt htb hee hafr hak hanow hasum hacn hXn hYn hcn hcnv hnow hnowJ hq hcy hrm hcc hEr he hf16 hct hxE hxv hen
            go_upto_region 14 with fail
            go_cut [15, 17] from 88 to 107 (fun s15 s17 wx => s15 = .int .u64 (cn : Int) ∧ s17 = .int .i64 0 ∧ Below wo.heap.size wo wx)
            case first =>
              as_aux_lemma =>
              refine wp_region_held_drew (S := (fun Y => Y.cell? ⟨r, 0, none⟩ = some (.int .i64 nr) ∧ Y.cell? ⟨r, 1, none⟩ = some (.int .u64 (s.num : Int)) ∧ Y.cell? ⟨r, 2, none⟩ = some (.int .u64 (s.den : Int)) ∧ Y.cell? ⟨r, 3, none⟩ = some (.int .u32 (s.bound : Int)) ∧ Y.cell? ⟨r, 4, none⟩ = some (.int .i64 s.gap) ∧ Y.cell? ⟨r, 5, none⟩ = some (.int .i64 s.len) ∧ Y.cell? ⟨r, 7, none⟩ = some (.int .i64 m.t) ∧ Y.cell? ⟨r, 9, none⟩ = some (.int .u64 (m.c : Int)) ∧ Y.cell? ⟨r, 10, none⟩ = some (.int .i64 (mj.o * s.len)) ∧ Y.cell? ⟨r, 11, none⟩ = some (.int .i64 (mj.f : Int)) ∧ Y.cell? ⟨r, 12, none⟩ = some (.int .i64 mj.k) ∧ Y.cell? ⟨r, 13, none⟩ = some (.int .i64 mj.fr))) (by kernel_rfl) (HSa.out _ (Below.refl _ wo).drew.drew.drew) (fun hHeld => ?_)
              refine wpAnyH_take (i := 0) (v := ?_) rfl (by kernel_rfl) (by kernel_rfl) (by kernel_rfl) (fun _ _ _ h => h) (Or.inl ⟨by kernel_rfl, ?_⟩) (by assumption) ?_
              rotate_left
              · intro w hSw; (try dsimp only at hSw); go_simp; try with_reducible rfl
              simp only [Act.put, List.getElem_toArray, List.getElem_cons_succ, List.getElem_cons_zero, List.setIfInBounds_toArray, List.set_cons_zero, List.set_cons_succ]
              refine wpAnyH_take (i := 1) (v := ?_) rfl (by kernel_rfl) (by kernel_rfl) (by kernel_rfl) (fun _ _ _ h => h) (Or.inl ⟨by kernel_rfl, ?_⟩) (by assumption) ?_
              rotate_left
              · intro w hSw; (try dsimp only at hSw); go_simp; try with_reducible rfl
              simp only [Act.put, List.getElem_toArray, List.getElem_cons_succ, List.getElem_cons_zero, List.setIfInBounds_toArray, List.set_cons_zero, List.set_cons_succ]
              refine wpAnyH_take (i := 2) (v := ?_) rfl (by kernel_rfl) (by kernel_rfl) (by kernel_rfl) (fun _ _ _ h => h) (Or.inl ⟨by kernel_rfl, ?_⟩) (by assumption) ?_
              rotate_left
              · intro w hSw; (try dsimp only at hSw); go_simp; try with_reducible rfl
              simp only [Act.put, List.getElem_toArray, List.getElem_cons_succ, List.getElem_cons_zero, List.setIfInBounds_toArray, List.set_cons_zero, List.set_cons_succ]
              refine wpAnyH_take (i := 3) (v := ?_) rfl (by kernel_rfl) (by kernel_rfl) (by kernel_rfl) (fun _ _ _ h => h) (Or.inl ⟨by kernel_rfl, ?_⟩) (by assumption) ?_
              rotate_left
              · intro w hSw; (try dsimp only at hSw); go_simp; try with_reducible rfl
              simp only [Act.put, List.getElem_toArray, List.getElem_cons_succ, List.getElem_cons_zero, List.setIfInBounds_toArray, List.set_cons_zero, List.set_cons_succ]
              refine wpAnyH_take (i := 4) (v := ?_) rfl (by kernel_rfl) (by kernel_rfl) (by kernel_rfl) (fun _ _ _ h => h) (Or.inl ⟨by kernel_rfl, ?_⟩) (by assumption) ?_
              rotate_left
              · intro w hSw; (try dsimp only at hSw); go_simp; try with_reducible rfl
              simp only [Act.put, List.getElem_toArray, List.getElem_cons_succ, List.getElem_cons_zero, List.setIfInBounds_toArray, List.set_cons_zero, List.set_cons_succ]
              refine wpAnyH_take (i := 5) (v := ?_) rfl (by kernel_rfl) (by kernel_rfl) (by kernel_rfl) (fun _ _ _ h => h) (Or.inl ⟨by kernel_rfl, ?_⟩) (by assumption) ?_
              rotate_left
              · intro w hSw; (try dsimp only at hSw); go_simp; try with_reducible rfl
              simp only [Act.put, List.getElem_toArray, List.getElem_cons_succ, List.getElem_cons_zero, List.setIfInBounds_toArray, List.set_cons_zero, List.set_cons_succ]
              refine wpAnyH_take (i := 6) (v := .int .i64 (e - m.t)) rfl (by kernel_rfl) (by kernel_rfl) (by kernel_rfl) (fun _ _ _ h => h) (Or.inl ⟨by kernel_rfl, ?_⟩) (by assumption) ?_
              · intro w hSw; (try dsimp only at hSw)
                have z := Z1.out; go_simp
              simp only [Act.put, List.getElem_toArray, List.getElem_cons_succ, List.getElem_cons_zero, List.setIfInBounds_toArray, List.set_cons_zero, List.set_cons_succ]
              refine wpAnyH_take (i := 7) (v := .int .u64 (Xn : Int)) rfl (by kernel_rfl) (by kernel_rfl) (by kernel_rfl) (fun _ _ _ h => h) (Or.inl ⟨by kernel_rfl, ?_⟩) (by assumption) ?_
              · intro w hSw; (try dsimp only at hSw)
                have z := Z2.out; go_simp
              simp only [Act.put, List.getElem_toArray, List.getElem_cons_succ, List.getElem_cons_zero, List.setIfInBounds_toArray, List.set_cons_zero, List.set_cons_succ]
              refine wpAnyH_take (i := 8) (v := ?_) rfl (by kernel_rfl) (by kernel_rfl) (by kernel_rfl) (fun _ _ _ h => h) (Or.inl ⟨by kernel_rfl, ?_⟩) (by assumption) ?_
              rotate_left
              · intro w hSw; (try dsimp only at hSw); go_simp; try with_reducible rfl
              simp only [Act.put, List.getElem_toArray, List.getElem_cons_succ, List.getElem_cons_zero, List.setIfInBounds_toArray, List.set_cons_zero, List.set_cons_succ]
              refine wpAnyH_take (i := 9) (v := ?_) rfl (by kernel_rfl) (by kernel_rfl) (by kernel_rfl) (fun _ _ _ h => h) (Or.inl ⟨by kernel_rfl, ?_⟩) (by assumption) ?_
              rotate_left
              · intro w hSw; (try dsimp only at hSw); go_simp; try with_reducible rfl
              simp only [Act.put, List.getElem_toArray, List.getElem_cons_succ, List.getElem_cons_zero, List.setIfInBounds_toArray, List.set_cons_zero, List.set_cons_succ]
              refine wpAnyH_take (i := 10) (v := ?_) rfl (by kernel_rfl) (by kernel_rfl) (by kernel_rfl) (fun _ _ _ h => h) (Or.inl ⟨by kernel_rfl, ?_⟩) (by assumption) ?_
              rotate_left
              · intro w hSw; (try dsimp only at hSw); go_simp; try with_reducible rfl
              simp only [Act.put, List.getElem_toArray, List.getElem_cons_succ, List.getElem_cons_zero, List.setIfInBounds_toArray, List.set_cons_zero, List.set_cons_succ]
              refine wpAnyH_take (i := 11) (v := ?_) rfl (by kernel_rfl) (by kernel_rfl) (by kernel_rfl) (fun _ _ _ h => h) (Or.inl ⟨by kernel_rfl, ?_⟩) (by assumption) ?_
              rotate_left
              · intro w hSw; (try dsimp only at hSw); go_simp; try with_reducible rfl
              simp only [Act.put, List.getElem_toArray, List.getElem_cons_succ, List.getElem_cons_zero, List.setIfInBounds_toArray, List.set_cons_zero, List.set_cons_succ]
              refine wpAnyH_take (i := 12) (v := ?_) rfl (by kernel_rfl) (by kernel_rfl) (by kernel_rfl) (fun _ _ _ h => h) (Or.inl ⟨by kernel_rfl, ?_⟩) (by assumption) ?_
              rotate_left
              · intro w hSw; (try dsimp only at hSw); go_simp; try with_reducible rfl
              simp only [Act.put, List.getElem_toArray, List.getElem_cons_succ, List.getElem_cons_zero, List.setIfInBounds_toArray, List.set_cons_zero, List.set_cons_succ]
              refine wpAnyH_take (i := 13) (v := .int .i64 (t - m.t)) rfl (by kernel_rfl) (by kernel_rfl) (by kernel_rfl) (fun _ _ _ h => h) (Or.inl ⟨by kernel_rfl, ?_⟩) (by assumption) ?_
              · intro w hSw; (try dsimp only at hSw)
                have z := Z3.out; go_simp
              simp only [Act.put, List.getElem_toArray, List.getElem_cons_succ, List.getElem_cons_zero, List.setIfInBounds_toArray, List.set_cons_zero, List.set_cons_succ]
              refine wpAnyH_take (i := 14) (v := .int .u64 (Yn : Int)) rfl (by kernel_rfl) (by kernel_rfl) (by kernel_rfl) (fun _ _ _ h => h) (Or.inl ⟨by kernel_rfl, ?_⟩) (by assumption) ?_
              · intro w hSw; (try dsimp only at hSw)
                have z := Z4.out; go_simp
              simp only [Act.put, List.getElem_toArray, List.getElem_cons_succ, List.getElem_cons_zero, List.setIfInBounds_toArray, List.set_cons_zero, List.set_cons_succ]
              refine wpAnyH_ready (rs := [15]) (by kernel_rfl) (by simp) ?_
              refine AllReadyH.cons rfl (fun K hK => ?_) AllReadyH.nil
              go_simp
              refine (HCy.out wo.drew.drew.drew).mono ?_
              rintro e w6 ⟨rfl, hb⟩
              have H6 := Lib.hid ((Below.refl wo.heap.size wo).drew.drew.drew.trans (hb.mono (Nat.le_refl _)))
              clear hb
              try go_wp2_with fail
              refine hK.out _ _ (HSa.out _ H6.out) (fun hHeld => ?_)
              clear hK K
              try simp only [Act.put, List.getElem_toArray, List.getElem_cons_succ, List.getElem_cons_zero, List.setIfInBounds_toArray, List.set_cons_zero, List.set_cons_succ]
              refine wpAnyH_take (i := 16) (v := ?_) rfl (by kernel_rfl) (by kernel_rfl) (by kernel_rfl) (fun _ _ _ h => h) (Or.inl ⟨by kernel_rfl, ?_⟩) (by assumption) ?_
              rotate_left
              · intro w hSw; (try dsimp only at hSw); go_simp; try with_reducible rfl
              simp only [Act.put, List.getElem_toArray, List.getElem_cons_succ, List.getElem_cons_zero, List.setIfInBounds_toArray, List.set_cons_zero, List.set_cons_succ]
              refine wpAnyH_take (i := 17) (v := ?_) rfl (by kernel_rfl) (by kernel_rfl) (by kernel_rfl) (fun _ _ _ h => h) (Or.inl ⟨by kernel_rfl, ?_⟩) (by assumption) ?_
              rotate_left
              · intro w hSw; (try dsimp only at hSw); go_simp; try with_reducible rfl
              simp only [Act.put, List.getElem_toArray, List.getElem_cons_succ, List.getElem_cons_zero, List.setIfInBounds_toArray, List.set_cons_zero, List.set_cons_succ]
              refine wpAnyH_take (i := 18) (v := ?_) rfl (by kernel_rfl) (by kernel_rfl) (by kernel_rfl) (fun _ _ _ h => h) (Or.inl ⟨by kernel_rfl, ?_⟩) (by assumption) ?_
              rotate_left
              · intro w hSw; (try dsimp only at hSw); go_simp; try with_reducible rfl
              simp only [Act.put, List.getElem_toArray, List.getElem_cons_succ, List.getElem_cons_zero, List.setIfInBounds_toArray, List.set_cons_zero, List.set_cons_succ]
              refine wpAnyH_take (i := 19) (v := ?_) rfl (by kernel_rfl) (by kernel_rfl) (by kernel_rfl) (fun _ _ _ h => h) (Or.inl ⟨by kernel_rfl, ?_⟩) (by assumption) ?_
              rotate_left
              · intro w hSw; (try dsimp only at hSw); go_simp; try with_reducible rfl
              simp only [Act.put, List.getElem_toArray, List.getElem_cons_succ, List.getElem_cons_zero, List.setIfInBounds_toArray, List.set_cons_zero, List.set_cons_succ]
              refine wpAnyH_take (i := 20) (v := ?_) rfl (by kernel_rfl) (by kernel_rfl) (by kernel_rfl) (fun _ _ _ h => h) (Or.inl ⟨by kernel_rfl, ?_⟩) (by assumption) ?_
              rotate_left
              · intro w hSw; (try dsimp only at hSw); go_simp; try with_reducible rfl
              simp only [Act.put, List.getElem_toArray, List.getElem_cons_succ, List.getElem_cons_zero, List.setIfInBounds_toArray, List.set_cons_zero, List.set_cons_succ]
              refine wpAnyH_take (i := 21) (v := ?_) rfl (by kernel_rfl) (by kernel_rfl) (by kernel_rfl) (fun _ _ _ h => h) (Or.inl ⟨by kernel_rfl, ?_⟩) (by assumption) ?_
              rotate_left
              · intro w hSw; (try dsimp only at hSw); go_simp; try with_reducible rfl
              simp only [Act.put, List.getElem_toArray, List.getElem_cons_succ, List.getElem_cons_zero, List.setIfInBounds_toArray, List.set_cons_zero, List.set_cons_succ]
              refine wpAnyH_take (i := 22) (v := ?_) rfl (by kernel_rfl) (by kernel_rfl) (by kernel_rfl) (fun _ _ _ h => h) (Or.inl ⟨by kernel_rfl, ?_⟩) (by assumption) ?_
              rotate_left
              · intro w hSw; (try dsimp only at hSw); go_simp; try with_reducible rfl
              simp only [Act.put, List.getElem_toArray, List.getElem_cons_succ, List.getElem_cons_zero, List.setIfInBounds_toArray, List.set_cons_zero, List.set_cons_succ]
              refine wpAnyH_done (by kernel_rfl) ?_ _
              go_wp2_with fail
              go_meet
              exact ⟨rfl, rfl, H6.out⟩
            case rest =>
              obtain ⟨rfl, rfl, hb6⟩ := hcut
              obtain ⟨w6, rfl⟩ : ∃ x : World, x = wc := ⟨_, rfl⟩
              have H6 := Lib.hid hb6
              clear hb6
              go_upto_region 15 with fail
              go_cut [18, 19] from 108 to 121 (fun s18 s19 wx => s18 = .int .i64 (now : Int) ∧ s19 = .int .i64 0 ∧ Below wo.heap.size wo wx)
              case first =>
                as_aux_lemma =>
                refine wp_region_held_drew (S := (fun Y => Y.cell? ⟨r, 0, none⟩ = some (.int .i64 nr) ∧ Y.cell? ⟨r, 1, none⟩ = some (.int .u64 (s.num : Int)) ∧ Y.cell? ⟨r, 2, none⟩ = some (.int .u64 (s.den : Int)) ∧ Y.cell? ⟨r, 3, none⟩ = some (.int .u32 (s.bound : Int)) ∧ Y.cell? ⟨r, 4, none⟩ = some (.int .i64 s.gap) ∧ Y.cell? ⟨r, 5, none⟩ = some (.int .i64 s.len) ∧ Y.cell? ⟨r, 7, none⟩ = some (.int .i64 m.t) ∧ Y.cell? ⟨r, 9, none⟩ = some (.int .u64 (m.c : Int)) ∧ Y.cell? ⟨r, 10, none⟩ = some (.int .i64 (mj.o * s.len)) ∧ Y.cell? ⟨r, 11, none⟩ = some (.int .i64 (mj.f : Int)) ∧ Y.cell? ⟨r, 12, none⟩ = some (.int .i64 mj.k) ∧ Y.cell? ⟨r, 13, none⟩ = some (.int .i64 mj.fr))) (by kernel_rfl) (HSa.out _ H6.out.drew) (fun hHeld => ?_)
                refine wpAnyH_take (i := 0) (v := ?_) rfl (by kernel_rfl) (by kernel_rfl) (by kernel_rfl) (fun _ _ _ h => h) (Or.inl ⟨by kernel_rfl, ?_⟩) (by assumption) ?_
                rotate_left
                · intro w hSw; (try dsimp only at hSw); go_simp; try with_reducible rfl
                simp only [Act.put, List.getElem_toArray, List.getElem_cons_succ, List.getElem_cons_zero, List.setIfInBounds_toArray, List.set_cons_zero, List.set_cons_succ]
                refine wpAnyH_take (i := 1) (v := ?_) rfl (by kernel_rfl) (by kernel_rfl) (by kernel_rfl) (fun _ _ _ h => h) (Or.inl ⟨by kernel_rfl, ?_⟩) (by assumption) ?_
                rotate_left
                · intro w hSw; (try dsimp only at hSw); go_simp; try with_reducible rfl
                simp only [Act.put, List.getElem_toArray, List.getElem_cons_succ, List.getElem_cons_zero, List.setIfInBounds_toArray, List.set_cons_zero, List.set_cons_succ]
                refine wpAnyH_take (i := 2) (v := ?_) rfl (by kernel_rfl) (by kernel_rfl) (by kernel_rfl) (fun _ _ _ h => h) (Or.inl ⟨by kernel_rfl, ?_⟩) (by assumption) ?_
                rotate_left
                · intro w hSw; (try dsimp only at hSw); go_simp; try with_reducible rfl
                simp only [Act.put, List.getElem_toArray, List.getElem_cons_succ, List.getElem_cons_zero, List.setIfInBounds_toArray, List.set_cons_zero, List.set_cons_succ]
                refine wpAnyH_take (i := 3) (v := ?_) rfl (by kernel_rfl) (by kernel_rfl) (by kernel_rfl) (fun _ _ _ h => h) (Or.inl ⟨by kernel_rfl, ?_⟩) (by assumption) ?_
                rotate_left
                · intro w hSw; (try dsimp only at hSw); go_simp; try with_reducible rfl
                simp only [Act.put, List.getElem_toArray, List.getElem_cons_succ, List.getElem_cons_zero, List.setIfInBounds_toArray, List.set_cons_zero, List.set_cons_succ]
                refine wpAnyH_take (i := 4) (v := ?_) rfl (by kernel_rfl) (by kernel_rfl) (by kernel_rfl) (fun _ _ _ h => h) (Or.inl ⟨by kernel_rfl, ?_⟩) (by assumption) ?_
                rotate_left
                · intro w hSw; (try dsimp only at hSw); go_simp; try with_reducible rfl
                simp only [Act.put, List.getElem_toArray, List.getElem_cons_succ, List.getElem_cons_zero, List.setIfInBounds_toArray, List.set_cons_zero, List.set_cons_succ]
                refine wpAnyH_take (i := 5) (v := ?_) rfl (by kernel_rfl) (by kernel_rfl) (by kernel_rfl) (fun _ _ _ h => h) (Or.inl ⟨by kernel_rfl, ?_⟩) (by assumption) ?_
                rotate_left
                · intro w hSw; (try dsimp only at hSw); go_simp; try with_reducible rfl
                simp only [Act.put, List.getElem_toArray, List.getElem_cons_succ, List.getElem_cons_zero, List.setIfInBounds_toArray, List.set_cons_zero, List.set_cons_succ]
                refine wpAnyH_take (i := 6) (v := ?_) rfl (by kernel_rfl) (by kernel_rfl) (by kernel_rfl) (fun _ _ _ h => h) (Or.inl ⟨by kernel_rfl, ?_⟩) (by assumption) ?_
                rotate_left
                · intro w hSw; (try dsimp only at hSw); go_simp; try with_reducible rfl
                simp only [Act.put, List.getElem_toArray, List.getElem_cons_succ, List.getElem_cons_zero, List.setIfInBounds_toArray, List.set_cons_zero, List.set_cons_succ]
                refine wpAnyH_take (i := 7) (v := ?_) rfl (by kernel_rfl) (by kernel_rfl) (by kernel_rfl) (fun _ _ _ h => h) (Or.inl ⟨by kernel_rfl, ?_⟩) (by assumption) ?_
                rotate_left
                · intro w hSw; (try dsimp only at hSw); go_simp; try with_reducible rfl
                simp only [Act.put, List.getElem_toArray, List.getElem_cons_succ, List.getElem_cons_zero, List.setIfInBounds_toArray, List.set_cons_zero, List.set_cons_succ]
                refine wpAnyH_take (i := 8) (v := ?_) rfl (by kernel_rfl) (by kernel_rfl) (by kernel_rfl) (fun _ _ _ h => h) (Or.inl ⟨by kernel_rfl, ?_⟩) (by assumption) ?_
                rotate_left
                · intro w hSw; (try dsimp only at hSw); go_simp; try with_reducible rfl
                simp only [Act.put, List.getElem_toArray, List.getElem_cons_succ, List.getElem_cons_zero, List.setIfInBounds_toArray, List.set_cons_zero, List.set_cons_succ]
                refine wpAnyH_take (i := 9) (v := .int .u64 ((m.c + cn : Nat) : Int)) rfl (by kernel_rfl) (by kernel_rfl) (by kernel_rfl) (fun _ _ _ h => h) (Or.inl ⟨by kernel_rfl, ?_⟩) (by assumption) ?_
                · intro w hSw; (try dsimp only at hSw)
                  have z := Z5.out; go_simp
                simp only [Act.put, List.getElem_toArray, List.getElem_cons_succ, List.getElem_cons_zero, List.setIfInBounds_toArray, List.set_cons_zero, List.set_cons_succ]
                refine wpAnyH_ready (rs := [10]) (by kernel_rfl) (by simp) ?_
                refine AllReadyH.cons rfl (fun K hK => ?_) AllReadyH.nil
                go_simp
                refine (HEr.out w6.drew).mono ?_
                rintro e w7 ⟨rfl, hb⟩
                have H7 := Lib.hid (bnext H6.out.drew hb)
                clear hb
                try go_wp2_with fail
                refine hK.out _ _ (HSa.out _ H7.out) (fun hHeld => ?_)
                clear hK K
                try simp only [Act.put, List.getElem_toArray, List.getElem_cons_succ, List.getElem_cons_zero, List.setIfInBounds_toArray, List.set_cons_zero, List.set_cons_succ]
                refine wpAnyH_take (i := 11) (v := ?_) rfl (by kernel_rfl) (by kernel_rfl) (by kernel_rfl) (fun _ _ _ h => h) (Or.inl ⟨by kernel_rfl, ?_⟩) (by assumption) ?_
                rotate_left
                · intro w hSw; (try dsimp only at hSw); go_simp; try with_reducible rfl
                simp only [Act.put, List.getElem_toArray, List.getElem_cons_succ, List.getElem_cons_zero, List.setIfInBounds_toArray, List.set_cons_zero, List.set_cons_succ]
                refine wpAnyH_take (i := 12) (v := ?_) rfl (by kernel_rfl) (by kernel_rfl) (by kernel_rfl) (fun _ _ _ h => h) (Or.inl ⟨by kernel_rfl, ?_⟩) (by assumption) ?_
                rotate_left
                · intro w hSw; (try dsimp only at hSw); go_simp; try with_reducible rfl
                simp only [Act.put, List.getElem_toArray, List.getElem_cons_succ, List.getElem_cons_zero, List.setIfInBounds_toArray, List.set_cons_zero, List.set_cons_succ]
                refine wpAnyH_take (i := 13) (v := ?_) rfl (by kernel_rfl) (by kernel_rfl) (by kernel_rfl) (fun _ _ _ h => h) (Or.inl ⟨by kernel_rfl, ?_⟩) (by assumption) ?_
                rotate_left
                · intro w hSw; (try dsimp only at hSw); go_simp; try with_reducible rfl
                simp only [Act.put, List.getElem_toArray, List.getElem_cons_succ, List.getElem_cons_zero, List.setIfInBounds_toArray, List.set_cons_zero, List.set_cons_succ]
                refine wpAnyH_take (i := 14) (v := ?_) rfl (by kernel_rfl) (by kernel_rfl) (by kernel_rfl) (fun _ _ _ h => h) (Or.inl ⟨by kernel_rfl, ?_⟩) (by assumption) ?_
                rotate_left
                · intro w hSw; (try dsimp only at hSw); go_simp; try with_reducible rfl
                simp only [Act.put, List.getElem_toArray, List.getElem_cons_succ, List.getElem_cons_zero, List.setIfInBounds_toArray, List.set_cons_zero, List.set_cons_succ]
                refine wpAnyH_take (i := 15) (v := ?_) rfl (by kernel_rfl) (by kernel_rfl) (by kernel_rfl) (fun _ _ _ h => h) (Or.inl ⟨by kernel_rfl, ?_⟩) (by assumption) ?_
                rotate_left
                · intro w hSw; (try dsimp only at hSw); go_simp; try with_reducible rfl
                simp only [Act.put, List.getElem_toArray, List.getElem_cons_succ, List.getElem_cons_zero, List.setIfInBounds_toArray, List.set_cons_zero, List.set_cons_succ]
                refine wpAnyH_done (by kernel_rfl) ?_ _
                go_wp2_with fail
                go_meet
                exact ⟨rfl, rfl, H7.out⟩
              case rest =>
                obtain ⟨rfl, rfl, hb7⟩ := hcut
                obtain ⟨w7, rfl⟩ : ∃ x : World, x = wc := ⟨_, rfl⟩
                have H7 := Lib.hid hb7
                clear hb7
                go_upto_region 16 with fail
                go_cut [137] from 122 to 136 (fun s137 wx => s137 = .bool false ∧ w7.drew = wx)
                case first =>
                  as_aux_lemma =>
                  refine wp_region_held_drew (S := (fun Y => Y.cell? ⟨r, 0, none⟩ = some (.int .i64 nr) ∧ Y.cell? ⟨r, 1, none⟩ = some (.int .u64 (s.num : Int)) ∧ Y.cell? ⟨r, 2, none⟩ = some (.int .u64 (s.den : Int)) ∧ Y.cell? ⟨r, 3, none⟩ = some (.int .u32 (s.bound : Int)) ∧ Y.cell? ⟨r, 4, none⟩ = some (.int .i64 s.gap) ∧ Y.cell? ⟨r, 5, none⟩ = some (.int .i64 s.len) ∧ Y.cell? ⟨r, 7, none⟩ = some (.int .i64 m.t) ∧ Y.cell? ⟨r, 9, none⟩ = some (.int .u64 (m.c : Int)) ∧ Y.cell? ⟨r, 10, none⟩ = some (.int .i64 (mj.o * s.len)) ∧ Y.cell? ⟨r, 11, none⟩ = some (.int .i64 (mj.f : Int)) ∧ Y.cell? ⟨r, 12, none⟩ = some (.int .i64 mj.k) ∧ Y.cell? ⟨r, 13, none⟩ = some (.int .i64 mj.fr))) (by kernel_rfl) (HSa.out _ H7.out.drew) (fun hHeld => ?_)
                  refine wpAnyH_take (i := 0) (v := ?_) rfl (by kernel_rfl) (by kernel_rfl) (by kernel_rfl) (fun _ _ _ h => h) (Or.inl ⟨by kernel_rfl, ?_⟩) (by assumption) ?_
                  rotate_left
                  · intro w hSw; (try dsimp only at hSw); go_simp; try with_reducible rfl
                  simp only [Act.put, List.getElem_toArray, List.getElem_cons_succ, List.getElem_cons_zero, List.setIfInBounds_toArray, List.set_cons_zero, List.set_cons_succ]
                  refine wpAnyH_take (i := 1) (v := ?_) rfl (by kernel_rfl) (by kernel_rfl) (by kernel_rfl) (fun _ _ _ h => h) (Or.inl ⟨by kernel_rfl, ?_⟩) (by assumption) ?_
                  rotate_left
                  · intro w hSw; (try dsimp only at hSw); go_simp; try with_reducible rfl
                  simp only [Act.put, List.getElem_toArray, List.getElem_cons_succ, List.getElem_cons_zero, List.setIfInBounds_toArray, List.set_cons_zero, List.set_cons_succ]
                  refine wpAnyH_take (i := 2) (v := ?_) rfl (by kernel_rfl) (by kernel_rfl) (by kernel_rfl) (fun _ _ _ h => h) (Or.inl ⟨by kernel_rfl, ?_⟩) (by assumption) ?_
                  rotate_left
                  · intro w hSw; (try dsimp only at hSw); go_simp; try with_reducible rfl
                  simp only [Act.put, List.getElem_toArray, List.getElem_cons_succ, List.getElem_cons_zero, List.setIfInBounds_toArray, List.set_cons_zero, List.set_cons_succ]
                  refine wpAnyH_take (i := 3) (v := ?_) rfl (by kernel_rfl) (by kernel_rfl) (by kernel_rfl) (fun _ _ _ h => h) (Or.inl ⟨by kernel_rfl, ?_⟩) (by assumption) ?_
                  rotate_left
                  · intro w hSw; (try dsimp only at hSw); go_simp; try with_reducible rfl
                  simp only [Act.put, List.getElem_toArray, List.getElem_cons_succ, List.getElem_cons_zero, List.setIfInBounds_toArray, List.set_cons_zero, List.set_cons_succ]
                  refine wpAnyH_take (i := 4) (v := ?_) rfl (by kernel_rfl) (by kernel_rfl) (by kernel_rfl) (fun _ _ _ h => h) (Or.inl ⟨by kernel_rfl, ?_⟩) (by assumption) ?_
                  rotate_left
                  · intro w hSw; (try dsimp only at hSw); go_simp; try with_reducible rfl
                  simp only [Act.put, List.getElem_toArray, List.getElem_cons_succ, List.getElem_cons_zero, List.setIfInBounds_toArray, List.set_cons_zero, List.set_cons_succ]
                  refine wpAnyH_take (i := 5) (v := ?_) rfl (by kernel_rfl) (by kernel_rfl) (by kernel_rfl) (fun _ _ _ h => h) (Or.inl ⟨by kernel_rfl, ?_⟩) (by assumption) ?_
                  rotate_left
                  · intro w hSw; (try dsimp only at hSw); go_simp; try with_reducible rfl
                  simp only [Act.put, List.getElem_toArray, List.getElem_cons_succ, List.getElem_cons_zero, List.setIfInBounds_toArray, List.set_cons_zero, List.set_cons_succ]
                  refine wpAnyH_take (i := 6) (v := ?_) rfl (by kernel_rfl) (by kernel_rfl) (by kernel_rfl) (fun _ _ _ h => h) (Or.inl ⟨by kernel_rfl, ?_⟩) (by assumption) ?_
                  rotate_left
                  · intro w hSw; (try dsimp only at hSw); go_simp; try with_reducible rfl
                  simp only [Act.put, List.getElem_toArray, List.getElem_cons_succ, List.getElem_cons_zero, List.setIfInBounds_toArray, List.set_cons_zero, List.set_cons_succ]
                  refine wpAnyH_take (i := 7) (v := ?_) rfl (by kernel_rfl) (by kernel_rfl) (by kernel_rfl) (fun _ _ _ h => h) (Or.inl ⟨by kernel_rfl, ?_⟩) (by assumption) ?_
                  rotate_left
                  · intro w hSw; (try dsimp only at hSw); go_simp; try with_reducible rfl
                  simp only [Act.put, List.getElem_toArray, List.getElem_cons_succ, List.getElem_cons_zero, List.setIfInBounds_toArray, List.set_cons_zero, List.set_cons_succ]
                  refine wpAnyH_take (i := 8) (v := ?_) rfl (by kernel_rfl) (by kernel_rfl) (by kernel_rfl) (fun _ _ _ h => h) (Or.inl ⟨by kernel_rfl, ?_⟩) (by assumption) ?_
                  rotate_left
                  · intro w hSw; (try dsimp only at hSw); go_simp; try with_reducible rfl
                  simp only [Act.put, List.getElem_toArray, List.getElem_cons_succ, List.getElem_cons_zero, List.setIfInBounds_toArray, List.set_cons_zero, List.set_cons_succ]
                  refine wpAnyH_take (i := 9) (v := ?_) rfl (by kernel_rfl) (by kernel_rfl) (by kernel_rfl) (fun _ _ _ h => h) (Or.inl ⟨by kernel_rfl, ?_⟩) (by assumption) ?_
                  rotate_left
                  · intro w hSw; (try dsimp only at hSw); go_simp; try with_reducible rfl
                  simp only [Act.put, List.getElem_toArray, List.getElem_cons_succ, List.getElem_cons_zero, List.setIfInBounds_toArray, List.set_cons_zero, List.set_cons_succ]
                  refine wpAnyH_take (i := 10) (v := ?_) rfl (by kernel_rfl) (by kernel_rfl) (by kernel_rfl) (fun _ _ _ h => h) (Or.inl ⟨by kernel_rfl, ?_⟩) (by assumption) ?_
                  rotate_left
                  · intro w hSw; (try dsimp only at hSw); go_simp; try with_reducible rfl
                  simp only [Act.put, List.getElem_toArray, List.getElem_cons_succ, List.getElem_cons_zero, List.setIfInBounds_toArray, List.set_cons_zero, List.set_cons_succ]
                  refine wpAnyH_take (i := 11) (v := ?_) rfl (by kernel_rfl) (by kernel_rfl) (by kernel_rfl) (fun _ _ _ h => h) (Or.inl ⟨by kernel_rfl, ?_⟩) (by assumption) ?_
                  rotate_left
                  · intro w hSw; (try dsimp only at hSw); go_simp; try with_reducible rfl
                  simp only [Act.put, List.getElem_toArray, List.getElem_cons_succ, List.getElem_cons_zero, List.setIfInBounds_toArray, List.set_cons_zero, List.set_cons_succ]
                  refine wpAnyH_take (i := 12) (v := .int .i64 ((now : Int) - mj.fr)) rfl (by kernel_rfl) (by kernel_rfl) (by kernel_rfl) (fun _ _ _ h => h) (Or.inl ⟨by kernel_rfl, ?_⟩) (by assumption) ?_
                  · intro w hSw; (try dsimp only at hSw)
                    have z := Z6.out; go_simp
                  simp only [Act.put, List.getElem_toArray, List.getElem_cons_succ, List.getElem_cons_zero, List.setIfInBounds_toArray, List.set_cons_zero, List.set_cons_succ]
                  refine wpAnyH_take (i := 13) (v := .int .i64 (4611686018427387904 - ((now : Int) - mj.fr))) rfl (by kernel_rfl) (by kernel_rfl) (by kernel_rfl) (fun _ _ _ h => h) (Or.inl ⟨by kernel_rfl, ?_⟩) (by assumption) ?_
                  · intro w hSw; (try dsimp only at hSw)
                    have z := Z7.out; go_simp
                  simp only [Act.put, List.getElem_toArray, List.getElem_cons_succ, List.getElem_cons_zero, List.setIfInBounds_toArray, List.set_cons_zero, List.set_cons_succ]
                  refine wpAnyH_take (i := 14) (v := .bool false) rfl (by kernel_rfl) (by kernel_rfl) (by kernel_rfl) (fun _ _ _ h => h) (Or.inl ⟨by kernel_rfl, ?_⟩) (by assumption) ?_
                  · intro w hSw; (try dsimp only at hSw)
                    have z := Z8.out; go_simp
                  simp only [Act.put, List.getElem_toArray, List.getElem_cons_succ, List.getElem_cons_zero, List.setIfInBounds_toArray, List.set_cons_zero, List.set_cons_succ]
                  refine wpAnyH_take (i := 15) (v := ?_) rfl (by kernel_rfl) (by kernel_rfl) (by kernel_rfl) (fun _ _ _ h => h) (Or.inl ⟨by kernel_rfl, ?_⟩) (by assumption) ?_
                  rotate_left
                  · intro w hSw; (try dsimp only at hSw); go_simp; try with_reducible rfl
                  simp only [Act.put, List.getElem_toArray, List.getElem_cons_succ, List.getElem_cons_zero, List.setIfInBounds_toArray, List.set_cons_zero, List.set_cons_succ]
                  refine wpAnyH_done (by kernel_rfl) ?_ _
                  go_wp2_with fail
                  go_meet
                  exact ⟨rfl, by first | rfl | trivial⟩
                case rest =>
                  obtain ⟨rfl, hw⟩ := hcut
                  subst hw
                  have how7 := own_below HM.out.2.1 H7.out
                  obtain ⟨A2, c2, w8, hrun, how8, hg8, -⟩ := ent_append w7.drew.drew w.heap.size how7 xE (by have h1 := H7.out.size; have h2 := HM.out.2.2.1.size; exact Nat.le_trans h2 h1) (by have := HH.out.2.2.2.2.2.2; have := Hlt.out; omega)
                  rw [HEN.out.1] at hrun hg8
                  have hrlt : r < w.heap.size := HB.out.lt
                  have hk8 : Kept (fun x => x ≠ r ∧ x < w.heap.size) w7 w8 := ((Kept.refl _ w7).drew.drew.trans ((bstep w7.drew.drew _).keptS _)).trans ((grownKept hg8).mono (fun x _ h e => by have := how7.lt x e.symm; omega))
                  have hr8 : RtB w8 r nr s mj := by
                    have h1 : RtB w7 r nr s mj := HM.out.1.go H7.out
                    have h2 := h1.go ((Below.refl w7.heap.size w7).drew.drew.trans (bstep w7.drew.drew (.cells en 45)))
                    exact heap_kept (grownKept hg8) h2 (by intro e; have := how7.lt r e.symm; omega)
                  have HRun := Lib.hid hrun
                  have H8 := Lib.hid (And.intro how8 (And.intro hr8 (And.intro hk8 hrlt)))
                  have HBS := Lib.hid (built_ens en HEN.out.2 w7.drew.drew)
                  have HS8 := Lib.hid (show w8.cell? ⟨r, 0, none⟩ = some (.int .i64 nr) ∧ w8.cell? ⟨r, 10, none⟩ = some (.int .i64 (mj.o * s.len)) ∧ w8.cell? ⟨r, 11, none⟩ = some (.int .i64 (mj.f : Int)) ∧ w8.cell? ⟨r, 12, none⟩ = some (.int .i64 mj.k) ∧ w8.cell? ⟨r, 13, none⟩ = some (.int .i64 mj.fr) by
                    obtain ⟨c0, c1, c2, c3, c4, c5, c6, c7, c8, c9, c10, c11, c12, c13⟩ := hr8.cells
                    exact ⟨c0, c10, c11, c12, c13⟩)
                  have HS7 := Lib.hid (show ∀ Y, Below wo.heap.size wo Y → (Y.cell? ⟨r, 0, none⟩ = some (.int .i64 nr) ∧ Y.cell? ⟨r, 10, none⟩ = some (.int .i64 (mj.o * s.len)) ∧ Y.cell? ⟨r, 11, none⟩ = some (.int .i64 (mj.f : Int)) ∧ Y.cell? ⟨r, 12, none⟩ = some (.int .i64 mj.k) ∧ Y.cell? ⟨r, 13, none⟩ = some (.int .i64 mj.fr)) from fun Y hY => by
                    obtain ⟨c0, c1, c2, c3, c4, c5, c7, c9, c10, c11, c12, c13⟩ := HSa.out Y hY
                    exact ⟨c0, c10, c11, c12, c13⟩)
                  clear how7 hrun how8 hg8 hk8 hr8 hrlt
                  go_upto_region 18 with fail
                  go_cut [13] from 138 to 166 (fun s13 wx => s13 = .slice A2 (j + 1) c2 ∧ w8 = wx)
                  case first =>
                    as_aux_lemma =>
                    refine wp_region_held_drew (S := (fun Y => Y.cell? ⟨r, 0, none⟩ = some (.int .i64 nr) ∧ Y.cell? ⟨r, 10, none⟩ = some (.int .i64 (mj.o * s.len)) ∧ Y.cell? ⟨r, 11, none⟩ = some (.int .i64 (mj.f : Int)) ∧ Y.cell? ⟨r, 12, none⟩ = some (.int .i64 mj.k) ∧ Y.cell? ⟨r, 13, none⟩ = some (.int .i64 mj.fr))) (by kernel_rfl) (HS7.out _ H7.out.drew.drew) (fun hHeld => ?_)
                    refine wpAnyH_take (i := 0) (v := ?_) rfl (by kernel_rfl) (by kernel_rfl) (by kernel_rfl) (fun _ _ _ h => h) (Or.inl ⟨by kernel_rfl, ?_⟩) (by assumption) ?_
                    rotate_left
                    · intro w hSw; (try dsimp only at hSw); go_simp; try with_reducible rfl
                    simp only [Act.put, List.getElem_toArray, List.getElem_cons_succ, List.getElem_cons_zero, List.setIfInBounds_toArray, List.set_cons_zero, List.set_cons_succ]
                    refine wpAnyH_take (i := 1) (v := ?_) rfl (by kernel_rfl) (by kernel_rfl) (by kernel_rfl) (fun _ _ _ h => h) (Or.inl ⟨by kernel_rfl, ?_⟩) (by assumption) ?_
                    rotate_left
                    · intro w hSw; (try dsimp only at hSw); go_simp; try with_reducible rfl
                    simp only [Act.put, List.getElem_toArray, List.getElem_cons_succ, List.getElem_cons_zero, List.setIfInBounds_toArray, List.set_cons_zero, List.set_cons_succ]
                    refine wpAnyH_take (i := 2) (v := ?_) rfl (by kernel_rfl) (by kernel_rfl) (by kernel_rfl) (fun _ _ _ h => h) (Or.inl ⟨by kernel_rfl, ?_⟩) (by assumption) ?_
                    rotate_left
                    · intro w hSw; (try dsimp only at hSw); go_simp; try with_reducible rfl
                    simp only [Act.put, List.getElem_toArray, List.getElem_cons_succ, List.getElem_cons_zero, List.setIfInBounds_toArray, List.set_cons_zero, List.set_cons_succ]
                    refine wpAnyH_take (i := 3) (v := ?_) rfl (by kernel_rfl) (by kernel_rfl) (by kernel_rfl) (fun _ _ _ h => h) (Or.inl ⟨by kernel_rfl, ?_⟩) (by assumption) ?_
                    rotate_left
                    · intro w hSw; (try dsimp only at hSw); go_simp; try with_reducible rfl
                    simp only [Act.put, List.getElem_toArray, List.getElem_cons_succ, List.getElem_cons_zero, List.setIfInBounds_toArray, List.set_cons_zero, List.set_cons_succ]
                    refine wpAnyH_take (i := 4) (v := ?_) rfl (by kernel_rfl) (by kernel_rfl) (by kernel_rfl) (fun _ _ _ h => h) (Or.inl ⟨by kernel_rfl, ?_⟩) (by assumption) ?_
                    rotate_left
                    · intro w hSw; (try dsimp only at hSw); go_simp; try with_reducible rfl
                    simp only [Act.put, List.getElem_toArray, List.getElem_cons_succ, List.getElem_cons_zero, List.setIfInBounds_toArray, List.set_cons_zero, List.set_cons_succ]
                    refine wpAnyH_take (i := 5) (v := ?_) rfl (by kernel_rfl) (by kernel_rfl) (by kernel_rfl) (fun _ _ _ h => h) (Or.inl ⟨by kernel_rfl, ?_⟩) (by assumption) ?_
                    rotate_left
                    · intro w hSw; (try dsimp only at hSw); go_simp; try with_reducible rfl
                    simp only [Act.put, List.getElem_toArray, List.getElem_cons_succ, List.getElem_cons_zero, List.setIfInBounds_toArray, List.set_cons_zero, List.set_cons_succ]
                    refine wpAnyH_take (i := 6) (v := ?_) rfl (by kernel_rfl) (by kernel_rfl) (by kernel_rfl) (fun _ _ _ h => h) (Or.inl ⟨by kernel_rfl, ?_⟩) (by assumption) ?_
                    rotate_left
                    · intro w hSw; (try dsimp only at hSw); go_simp; try with_reducible rfl
                    simp only [Act.put, List.getElem_toArray, List.getElem_cons_succ, List.getElem_cons_zero, List.setIfInBounds_toArray, List.set_cons_zero, List.set_cons_succ]
                    refine wpAnyH_take (i := 7) (v := ?_) rfl (by kernel_rfl) (by kernel_rfl) (by kernel_rfl) (fun _ _ _ h => h) (Or.inl ⟨by kernel_rfl, ?_⟩) (by assumption) ?_
                    rotate_left
                    · intro w hSw; (try dsimp only at hSw); go_simp; try with_reducible rfl
                    simp only [Act.put, List.getElem_toArray, List.getElem_cons_succ, List.getElem_cons_zero, List.setIfInBounds_toArray, List.set_cons_zero, List.set_cons_succ]
                    refine wpAnyH_take (i := 8) (v := ?_) rfl (by kernel_rfl) (by kernel_rfl) (by kernel_rfl) (fun _ _ _ h => h) (Or.inl ⟨by kernel_rfl, ?_⟩) (by assumption) ?_
                    rotate_left
                    · intro w hSw; (try dsimp only at hSw); go_simp; try with_reducible rfl
                    simp only [Act.put, List.getElem_toArray, List.getElem_cons_succ, List.getElem_cons_zero, List.setIfInBounds_toArray, List.set_cons_zero, List.set_cons_succ]
                    refine wpAnyH_take (i := 9) (v := ?_) rfl (by kernel_rfl) (by kernel_rfl) (by kernel_rfl) (fun _ _ _ h => h) (Or.inl ⟨by kernel_rfl, ?_⟩) (by assumption) ?_
                    rotate_left
                    · intro w hSw; (try dsimp only at hSw); go_simp; try with_reducible rfl
                    simp only [Act.put, List.getElem_toArray, List.getElem_cons_succ, List.getElem_cons_zero, List.setIfInBounds_toArray, List.set_cons_zero, List.set_cons_succ]
                    refine wpAnyH_take (i := 10) (v := ?_) rfl (by kernel_rfl) (by kernel_rfl) (by kernel_rfl) (fun _ _ _ h => h) (Or.inl ⟨by kernel_rfl, ?_⟩) (by assumption) ?_
                    rotate_left
                    · intro w hSw; (try dsimp only at hSw); go_simp; try with_reducible rfl
                    simp only [Act.put, List.getElem_toArray, List.getElem_cons_succ, List.getElem_cons_zero, List.setIfInBounds_toArray, List.set_cons_zero, List.set_cons_succ]
                    refine wpAnyH_take (i := 11) (v := ?_) rfl (by kernel_rfl) (by kernel_rfl) (by kernel_rfl) (fun _ _ _ h => h) (Or.inl ⟨by kernel_rfl, ?_⟩) (by assumption) ?_
                    rotate_left
                    · intro w hSw; (try dsimp only at hSw); go_simp; try with_reducible rfl
                    simp only [Act.put, List.getElem_toArray, List.getElem_cons_succ, List.getElem_cons_zero, List.setIfInBounds_toArray, List.set_cons_zero, List.set_cons_succ]
                    refine wpAnyH_take (i := 12) (v := ?_) rfl (by kernel_rfl) (by kernel_rfl) (by kernel_rfl) (fun _ _ _ h => h) (Or.inl ⟨by kernel_rfl, ?_⟩) (by assumption) ?_
                    rotate_left
                    · intro w hSw; (try dsimp only at hSw); go_simp; try with_reducible rfl
                    simp only [Act.put, List.getElem_toArray, List.getElem_cons_succ, List.getElem_cons_zero, List.setIfInBounds_toArray, List.set_cons_zero, List.set_cons_succ]
                    refine wpAnyH_take (i := 13) (v := ?_) rfl (by kernel_rfl) (by kernel_rfl) (by kernel_rfl) (fun _ _ _ h => h) (Or.inl ⟨by kernel_rfl, ?_⟩) (by assumption) ?_
                    rotate_left
                    · intro w hSw; (try dsimp only at hSw); go_simp; try with_reducible rfl
                    simp only [Act.put, List.getElem_toArray, List.getElem_cons_succ, List.getElem_cons_zero, List.setIfInBounds_toArray, List.set_cons_zero, List.set_cons_succ]
                    refine wpAnyH_take (i := 14) (v := .int .i64 (mj.k + (now : Int))) rfl (by kernel_rfl) (by kernel_rfl) (by kernel_rfl) (fun _ _ _ h => h) (Or.inl ⟨by kernel_rfl, ?_⟩) (by assumption) ?_
                    · intro w hSw; (try dsimp only at hSw)
                      have z := Z9.out; go_simp
                    simp only [Act.put, List.getElem_toArray, List.getElem_cons_succ, List.getElem_cons_zero, List.setIfInBounds_toArray, List.set_cons_zero, List.set_cons_succ]
                    refine wpAnyH_take (i := 15) (v := ?_) rfl (by kernel_rfl) (by kernel_rfl) (by kernel_rfl) (fun _ _ _ h => h) (Or.inl ⟨by kernel_rfl, ?_⟩) (by assumption) ?_
                    rotate_left
                    · intro w hSw; (try dsimp only at hSw); go_simp; try with_reducible rfl
                    simp only [Act.put, List.getElem_toArray, List.getElem_cons_succ, List.getElem_cons_zero, List.setIfInBounds_toArray, List.set_cons_zero, List.set_cons_succ]
                    refine wpAnyH_take (i := 16) (v := ?_) rfl (by kernel_rfl) (by kernel_rfl) (by kernel_rfl) (fun _ _ _ h => h) (Or.inl ⟨by kernel_rfl, ?_⟩) (by assumption) ?_
                    rotate_left
                    · intro w hSw; (try dsimp only at hSw); go_simp; try with_reducible rfl
                    simp only [Act.put, List.getElem_toArray, List.getElem_cons_succ, List.getElem_cons_zero, List.setIfInBounds_toArray, List.set_cons_zero, List.set_cons_succ]
                    refine wpAnyH_take (i := 17) (v := ?_) rfl (by kernel_rfl) (by kernel_rfl) (by kernel_rfl) (fun _ _ _ h => h) (Or.inl ⟨by kernel_rfl, ?_⟩) (by assumption) ?_
                    rotate_left
                    · intro w hSw; (try dsimp only at hSw); go_simp; try with_reducible rfl
                    simp only [Act.put, List.getElem_toArray, List.getElem_cons_succ, List.getElem_cons_zero, List.setIfInBounds_toArray, List.set_cons_zero, List.set_cons_succ]
                    refine wpAnyH_take (i := 18) (v := ?_) rfl (by kernel_rfl) (by kernel_rfl) (by kernel_rfl) (fun _ _ _ h => h) (Or.inl ⟨by kernel_rfl, ?_⟩) (by assumption) ?_
                    rotate_left
                    · intro w hSw; (try dsimp only at hSw); go_simp; try with_reducible rfl
                    simp only [Act.put, List.getElem_toArray, List.getElem_cons_succ, List.getElem_cons_zero, List.setIfInBounds_toArray, List.set_cons_zero, List.set_cons_succ]
                    refine wpAnyH_take (i := 19) (v := .int .i64 (mj.k + (now : Int) - mj.fr)) rfl (by kernel_rfl) (by kernel_rfl) (by kernel_rfl) (fun _ _ _ h => h) (Or.inl ⟨by kernel_rfl, ?_⟩) (by assumption) ?_
                    · intro w hSw; (try dsimp only at hSw)
                      have z := Z10.out; go_simp
                    simp only [Act.put, List.getElem_toArray, List.getElem_cons_succ, List.getElem_cons_zero, List.setIfInBounds_toArray, List.set_cons_zero, List.set_cons_succ]
                    refine wpAnyH_take (i := 20) (v := ?_) rfl (by kernel_rfl) (by kernel_rfl) (by kernel_rfl) (fun _ _ _ h => h) (Or.inl ⟨by kernel_rfl, ?_⟩) (by assumption) ?_
                    rotate_left
                    · intro w hSw; (try dsimp only at hSw); go_simp; try with_reducible rfl
                    simp only [Act.put, List.getElem_toArray, List.getElem_cons_succ, List.getElem_cons_zero, List.setIfInBounds_toArray, List.set_cons_zero, List.set_cons_succ]
                    refine wpAnyH_take (i := 21) (v := ?_) rfl (by kernel_rfl) (by kernel_rfl) (by kernel_rfl) (fun _ _ _ h => h) (Or.inl ⟨by kernel_rfl, ?_⟩) (by assumption) ?_
                    rotate_left
                    · intro w hSw; (try dsimp only at hSw); go_simp; try with_reducible rfl
                    simp only [Act.put, List.getElem_toArray, List.getElem_cons_succ, List.getElem_cons_zero, List.setIfInBounds_toArray, List.set_cons_zero, List.set_cons_succ]
                    refine wpAnyH_take (i := 22) (v := ?_) rfl (by kernel_rfl) (by kernel_rfl) (by kernel_rfl) (fun _ _ _ h => h) (Or.inl ⟨by kernel_rfl, ?_⟩) (by assumption) ?_
                    rotate_left
                    · intro w hSw; (try dsimp only at hSw); go_simp; try with_reducible rfl
                    simp only [Act.put, List.getElem_toArray, List.getElem_cons_succ, List.getElem_cons_zero, List.setIfInBounds_toArray, List.set_cons_zero, List.set_cons_succ]
                    refine wpAnyH_take (i := 23) (v := ?_) rfl (by kernel_rfl) (by kernel_rfl) (by kernel_rfl) (fun _ _ _ h => h) (Or.inl ⟨by kernel_rfl, ?_⟩) (by assumption) ?_
                    rotate_left
                    · intro w hSw; (try dsimp only at hSw); go_simp; try with_reducible rfl
                    simp only [Act.put, List.getElem_toArray, List.getElem_cons_succ, List.getElem_cons_zero, List.setIfInBounds_toArray, List.set_cons_zero, List.set_cons_succ]
                    refine wpAnyH_take (i := 24) (v := ?_) rfl (by kernel_rfl) (by kernel_rfl) (by kernel_rfl) (fun _ _ _ h => h) (Or.inl ⟨by kernel_rfl, ?_⟩) (by assumption) ?_
                    rotate_left
                    · intro w hSw; (try dsimp only at hSw); go_simp; try with_reducible rfl
                    simp only [Act.put, List.getElem_toArray, List.getElem_cons_succ, List.getElem_cons_zero, List.setIfInBounds_toArray, List.set_cons_zero, List.set_cons_succ]
                    refine wpAnyH_take (i := 25) (v := .int .i64 ((mj.f ||| F : Nat) : Int)) rfl (by kernel_rfl) (by kernel_rfl) (by kernel_rfl) (fun _ _ _ h => h) (Or.inl ⟨by kernel_rfl, ?_⟩) (by assumption) ?_
                    · intro w hSw; (try dsimp only at hSw)
                      have z := Z11.out; go_simp
                    simp only [Act.put, List.getElem_toArray, List.getElem_cons_succ, List.getElem_cons_zero, List.setIfInBounds_toArray, List.set_cons_zero, List.set_cons_succ]
                    refine wpAnyH_take (i := 26) (v := .agg en) rfl (by kernel_rfl) (by kernel_rfl) (by kernel_rfl) (fun _ _ _ h => h) (Or.inl ⟨by kernel_rfl, ?_⟩) (by assumption) ?_
                    · intro w hSw; (try dsimp only at hSw)
                      exact build_op 45 #[(0, .const (.int .i64 1)), (1, .tmp 142), (2, .tmp 146), (3, .tmp 157), (7, .tmp 163)] (by rfl) _ (by simp only [List.map_toArray, List.map_cons, List.map_nil, Act.eval]; exact HBu.out) w
                    simp only [Act.put, List.getElem_toArray, List.getElem_cons_succ, List.getElem_cons_zero, List.setIfInBounds_toArray, List.set_cons_zero, List.set_cons_succ]
                    refine wpAnyH_ready (rs := [27]) (by kernel_rfl) (by simp) ?_
                    refine AllReadyH.cons rfl (fun K hK => ?_) AllReadyH.nil
                    refine wp_run (v := .slice (some ⟨w7.drew.drew.heap.size, 0, none⟩) 1 1) (buildSlice_op 38 1 #[(0, .tmp 164)] (by rfl) (by simp only [List.map_toArray, List.map_cons, List.map_nil, Act.eval]; exact HBS.out)) ?_
                    refine hK.out _ _ (HS7.out _ (H7.out.drew.drew.trans ((bstep w7.drew.drew _).mono H7.out.size))) (fun hHeld => ?_)
                    clear hK K
                    try simp only [Act.put, List.getElem_toArray, List.getElem_cons_succ, List.getElem_cons_zero, List.setIfInBounds_toArray, List.set_cons_zero, List.set_cons_succ]
                    refine wpAnyH_ready (rs := [28]) (by kernel_rfl) (by simp) ?_
                    refine AllReadyH.cons rfl (fun K hK => ?_) AllReadyH.nil
                    refine wp_run (v := .slice A2 (j + 1) c2) (append_op (by rfl) (by simp only [Act.eval]; exact HRun.out)) ?_
                    refine hK.out _ _ HS8.out (fun hHeld => ?_)
                    clear hK K
                    try simp only [Act.put, List.getElem_toArray, List.getElem_cons_succ, List.getElem_cons_zero, List.setIfInBounds_toArray, List.set_cons_zero, List.set_cons_succ]
                    refine wpAnyH_take (i := 29) (v := ?_) rfl (by kernel_rfl) (by kernel_rfl) (by kernel_rfl) (fun _ _ _ h => h) (Or.inl ⟨by kernel_rfl, ?_⟩) (by assumption) ?_
                    rotate_left
                    · intro w hSw; (try dsimp only at hSw); go_simp; try with_reducible rfl
                    simp only [Act.put, List.getElem_toArray, List.getElem_cons_succ, List.getElem_cons_zero, List.setIfInBounds_toArray, List.set_cons_zero, List.set_cons_succ]
                    refine wpAnyH_done (by kernel_rfl) ?_ _
                    go_wp2_with fail
                    go_meet
                    exact ⟨rfl, by first | rfl | trivial⟩
                  case rest =>
                    obtain ⟨rfl, hw⟩ := hcut
                    subst hw
                    obtain ⟨c0, c1, c2', c3, c4, c5, c6, c7, c8, c9, c10, c11, c12, c13⟩ := H8.out.2.1.cells
                    have f10 := H8.out.2.1.fr 10
                    have f11 := H8.out.2.1.fr 11
                    have f12 := H8.out.2.1.fr 12
                    have f13 := H8.out.2.1.fr 13
                    clear c0 c1 c2' c3 c4 c5 c6 c7 c8 c9
                    go_wp2_with fail
                    have h0 := H8.out.2.1
                    unfold RtB rtC at h0
                    have hfin := bset (bset (bset (bset h0 (i := 10) (.int .i64 e)) (i := 11) (.int .i64 0)) (i := 12) (.int .i64 0)) (i := 13) (.int .i64 (now : Int))
                    simp only [List.setIfInBounds_toArray, List.set_cons_succ, List.set_cons_zero] at hfin
                    have hkf : Kept (fun x => x ≠ r) w8 ((((w8.setCell ⟨r, 10, none⟩ (.int .i64 e)).setCell ⟨r, 11, none⟩ (.int .i64 0)).setCell ⟨r, 12, none⟩ (.int .i64 0)).setCell ⟨r, 13, none⟩ (.int .i64 (now : Int))) := ((((Kept.refl _ w8).setCell (p := ⟨r, 10, none⟩) (fun hh => hh rfl) _).setCell (p := ⟨r, 11, none⟩) (fun hh => hh rfl) _).setCell (p := ⟨r, 12, none⟩) (fun hh => hh rfl) _).setCell (p := ⟨r, 13, none⟩) (fun hh => hh rfl) _
                    have heq : (mj.o + 1) * s.len = e := by rw [Int.add_mul, Int.one_mul]; exact HE5.out.2.2.1
                    refine ⟨⟨j + 1, A2, c2, Hlt.out, rfl, ?_, ?_, ?_⟩, ?_⟩
                    · rw [HXE.out]
                      exact own_keptM H8.out.1 hkf (fun g e => by have := H8.out.1.lt g e; have := H8.out.2.2.2; show g ≠ r; omega)
                    · rw [HMn.out]
                      unfold RtB rtC
                      rw [show (tellM mj (now : Int)).o * s.len = e from heq]
                      exact hfin
                    · exact (Kept.cut (S' := fun x => x ≠ r ∧ x < w.heap.size) (HM.out.2.2.1.trans (H7.out.keptS _)) H8.out.2.2.1 (fun k hk hs => ⟨hs, hk⟩)).trans hkf
                    · have := Hlt.out; simp [lenOf]; omega
          · have hjN : j = N := by omega
            have k0 : decide (e ≤ t) = false := decide_eq_false (by have h := endJ_out (s := s) (m := m) (t' := t) hl.1 hmo.2; rw [hn, ← hjN, he] at h; omega)
            have K0 := Lib.hid k0
            have HjN := Lib.hid hjN
            have hct : mj.t = m.t ∧ mj.c = m.c := by rw [← hmj]; exact ⟨passM_t j, passM_c j⟩
            have hf16 : mj.f < 16 := by rw [← hmj, passM_f]; split; exact HH.out.1.ok.f; decide
            have Z11 := Lib.hid (i64_or_nat mj.f F (by omega) (by have := HH.out.2.2.2.2.1; omega))
            have Z1 := Lib.hid (wrap64_at (m.t + 1) (by have := HH.out.1.ok.t; omega))
            have HPz := Lib.hid (show passZ s m t d fl = { mj with f := if max (m.t + 1) (mj.o * s.len) < t then mj.f ||| F else mj.f, c := m.c + d, t := t } by unfold passZ; rw [hn, HH.out.2.2.2.1, ← hjN, hmj])
            have Hct := Lib.hid hct
            clear hl hmo hn he hmj hoj hmul hmj0 hm htb heb ho hk k0 hlt hj hjN hct hf16
            go_upto_region 12 with fail
            refine wp_region_held_drew (S := (fun Y => Y.cell? ⟨r, 10, none⟩ = some (.int .i64 (mj.o * s.len)) ∧ Y.cell? ⟨r, 5, none⟩ = some (.int .i64 s.len))) (by kernel_rfl) HS12.out (fun hHeld => ?_)
            refine wpAnyH_take (i := 0) (v := ?_) rfl (by kernel_rfl) (by kernel_rfl) (by kernel_rfl) (fun _ _ _ h => h) (Or.inl ⟨by kernel_rfl, ?_⟩) (by assumption) ?_
            rotate_left
            · intro w hSw; (try dsimp only at hSw); go_simp; try with_reducible rfl
            simp only [Act.put, List.getElem_toArray, List.getElem_cons_succ, List.getElem_cons_zero, List.setIfInBounds_toArray, List.set_cons_zero, List.set_cons_succ]
            refine wpAnyH_take (i := 1) (v := ?_) rfl (by kernel_rfl) (by kernel_rfl) (by kernel_rfl) (fun _ _ _ h => h) (Or.inl ⟨by kernel_rfl, ?_⟩) (by assumption) ?_
            rotate_left
            · intro w hSw; (try dsimp only at hSw); go_simp; try with_reducible rfl
            simp only [Act.put, List.getElem_toArray, List.getElem_cons_succ, List.getElem_cons_zero, List.setIfInBounds_toArray, List.set_cons_zero, List.set_cons_succ]
            refine wpAnyH_take (i := 2) (v := ?_) rfl (by kernel_rfl) (by kernel_rfl) (by kernel_rfl) (fun _ _ _ h => h) (Or.inl ⟨by kernel_rfl, ?_⟩) (by assumption) ?_
            rotate_left
            · intro w hSw; (try dsimp only at hSw); go_simp; try with_reducible rfl
            simp only [Act.put, List.getElem_toArray, List.getElem_cons_succ, List.getElem_cons_zero, List.setIfInBounds_toArray, List.set_cons_zero, List.set_cons_succ]
            refine wpAnyH_take (i := 3) (v := ?_) rfl (by kernel_rfl) (by kernel_rfl) (by kernel_rfl) (fun _ _ _ h => h) (Or.inl ⟨by kernel_rfl, ?_⟩) (by assumption) ?_
            rotate_left
            · intro w hSw; (try dsimp only at hSw); go_simp; try with_reducible rfl
            simp only [Act.put, List.getElem_toArray, List.getElem_cons_succ, List.getElem_cons_zero, List.setIfInBounds_toArray, List.set_cons_zero, List.set_cons_succ]
            refine wpAnyH_take (i := 4) (v := ?_) rfl (by kernel_rfl) (by kernel_rfl) (by kernel_rfl) (fun _ _ _ h => h) (Or.inl ⟨by kernel_rfl, ?_⟩) (by assumption) ?_
            rotate_left
            · intro w hSw; (try dsimp only at hSw); go_simp; try with_reducible rfl
            simp only [Act.put, List.getElem_toArray, List.getElem_cons_succ, List.getElem_cons_zero, List.setIfInBounds_toArray, List.set_cons_zero, List.set_cons_succ]
            refine wpAnyH_take (i := 5) (v := ?_) rfl (by kernel_rfl) (by kernel_rfl) (by kernel_rfl) (fun _ _ _ h => h) (Or.inl ⟨by kernel_rfl, ?_⟩) (by assumption) ?_
            rotate_left
            · intro w hSw; (try dsimp only at hSw); go_simp; try with_reducible rfl
            simp only [Act.put, List.getElem_toArray, List.getElem_cons_succ, List.getElem_cons_zero, List.setIfInBounds_toArray, List.set_cons_zero, List.set_cons_succ]
            refine wpAnyH_take (i := 6) (v := ?_) rfl (by kernel_rfl) (by kernel_rfl) (by kernel_rfl) (fun _ _ _ h => h) (Or.inl ⟨by kernel_rfl, ?_⟩) (by assumption) ?_
            rotate_left
            · intro w hSw; (try dsimp only at hSw); go_simp; try with_reducible rfl
            simp only [Act.put, List.getElem_toArray, List.getElem_cons_succ, List.getElem_cons_zero, List.setIfInBounds_toArray, List.set_cons_zero, List.set_cons_succ]
            refine wpAnyH_take (i := 7) (v := ?_) rfl (by kernel_rfl) (by kernel_rfl) (by kernel_rfl) (fun _ _ _ h => h) (Or.inl ⟨by kernel_rfl, ?_⟩) (by assumption) ?_
            rotate_left
            · intro w hSw; (try dsimp only at hSw); go_simp; try with_reducible rfl
            simp only [Act.put, List.getElem_toArray, List.getElem_cons_succ, List.getElem_cons_zero, List.setIfInBounds_toArray, List.set_cons_zero, List.set_cons_succ]
            refine wpAnyH_take (i := 8) (v := ?_) rfl (by kernel_rfl) (by kernel_rfl) (by kernel_rfl) (fun _ _ _ h => h) (Or.inl ⟨by kernel_rfl, ?_⟩) (by assumption) ?_
            rotate_left
            · intro w hSw; (try dsimp only at hSw); go_simp; try with_reducible rfl
            simp only [Act.put, List.getElem_toArray, List.getElem_cons_succ, List.getElem_cons_zero, List.setIfInBounds_toArray, List.set_cons_zero, List.set_cons_succ]
            refine wpAnyH_take (i := 9) (v := .int .i64 e) rfl (by kernel_rfl) (by kernel_rfl) (by kernel_rfl) (fun _ _ _ h => h) (Or.inl ⟨by kernel_rfl, ?_⟩) (by assumption) ?_
            · intro w hSw; (try dsimp only at hSw)
              have x6 := X6.out; go_simp
            simp only [Act.put, List.getElem_toArray, List.getElem_cons_succ, List.getElem_cons_zero, List.setIfInBounds_toArray, List.set_cons_zero, List.set_cons_succ]
            refine wpAnyH_take (i := 10) (v := ?_) rfl (by kernel_rfl) (by kernel_rfl) (by kernel_rfl) (fun _ _ _ h => h) (Or.inl ⟨by kernel_rfl, ?_⟩) (by assumption) ?_
            rotate_left
            · intro w hSw; (try dsimp only at hSw); go_simp; try with_reducible rfl
            simp only [Act.put, List.getElem_toArray, List.getElem_cons_succ, List.getElem_cons_zero, List.setIfInBounds_toArray, List.set_cons_zero, List.set_cons_succ]
            refine wpAnyH_take (i := 11) (v := .bool false) rfl (by kernel_rfl) (by kernel_rfl) (by kernel_rfl) (fun _ _ _ h => h) (Or.inl ⟨by kernel_rfl, ?_⟩) (by assumption) ?_
            · intro w hSw; (try dsimp only at hSw)
              have k0 := K0.out; go_simp
            simp only [Act.put, List.getElem_toArray, List.getElem_cons_succ, List.getElem_cons_zero, List.setIfInBounds_toArray, List.set_cons_zero, List.set_cons_succ]
            refine wpAnyH_done (by kernel_rfl) ?_ _
            clear hHeld
            obtain ⟨d0, d1, d2, d3, d4, d5, d6, d7, d8, d9, d10, d11, d12, d13⟩ := HM.out.1.cells
            rw [Hct.out.1] at d7
            rw [Hct.out.2] at d9
            have f7 := HM.out.1.fr 7
            have f9 := HM.out.1.fr 9
            have f11 := HM.out.1.fr 11
            have x2 := X2.out
            have z11 := Z11.out
            have z1 := Z1.out
            clear d0 d1 d2 d3 d4 d5 d6 d8 d12 d13
            obtain ⟨so, hso⟩ : ∃ so, mj.o * s.len = so := ⟨_, rfl⟩
            rw [hso] at d10 HPz
            have Hso := Lib.hid hso
            clear hso
            obtain ⟨fo, hfo⟩ : ∃ fo : Nat, mj.f ||| F = fo := ⟨_, rfl⟩
            rw [hfo] at z11 HPz
            clear hfo
            by_cases q1 : so > m.t + 1
            · have r1 : decide (so > m.t + 1) = true := decide_eq_true q1
              by_cases q2 : so < t
              · as_aux_lemma =>
                have r2 : decide (so < t) = true := decide_eq_true q2
                have HP2 := Lib.hid (show passZ s m t d fl = { mj with f := fo, c := m.c + d, t := t } by rw [HPz.out, if_pos (by omega)])
                clear q1 q2
                go_wp2_with fail
                go_ret2
                have h0 : RtB wo r nr s mj := HM.out.1
                unfold RtB rtC at h0
                have hfin := bset (bset (bset h0 (i := 11) (.int .i64 (fo : Int))) (i := 9) (.int .u64 ((m.c : Int) + (d : Int)))) (i := 7) (.int .i64 t)
                simp only [List.setIfInBounds_toArray, List.set_cons_succ, List.set_cons_zero] at hfin
                have hkk := Kept.refl (fun x => x ≠ r) wo
                have hkf := ((((hkk).setCell (p := ⟨r, 11, none⟩) (fun hh => hh rfl) (.int .i64 (fo : Int))).setCell (p := ⟨r, 9, none⟩) (fun hh => hh rfl) (.int .u64 ((m.c : Int) + (d : Int)))).setCell (p := ⟨r, 7, none⟩) (fun hh => hh rfl) (.int .i64 t)).drew
                have hjN := HjN.out
                subst hjN
                refine ⟨A, c, rfl, own_keptM HM.out.2.1 hkf (fun g e => by have h1 := HM.out.2.1.lt g e; have h2 := HB.out.lt; show g ≠ r; omega), ?_, HM.out.2.2.1.trans hkf⟩
                rw [HP2.out]
                unfold RtB rtC
                rw [show ((({ mj with f := fo, c := m.c + d, t := t } : M).c : Nat) : Int) = (m.c : Int) + (d : Int) by show ((m.c + d : Nat) : Int) = _; push_cast; rfl]
                exact hfin
              · as_aux_lemma =>
                have r2 : decide (so < t) = false := decide_eq_false q2
                have HP2 := Lib.hid (show passZ s m t d fl = { mj with f := mj.f, c := m.c + d, t := t } by rw [HPz.out, if_neg (by omega)])
                clear q1 q2
                go_wp2_with fail
                go_ret2
                have h0 : RtB wo r nr s mj := HM.out.1
                unfold RtB rtC at h0
                have hfin := bset (bset h0 (i := 9) (.int .u64 ((m.c : Int) + (d : Int)))) (i := 7) (.int .i64 t)
                simp only [List.setIfInBounds_toArray, List.set_cons_succ, List.set_cons_zero] at hfin
                have hkk := Kept.refl (fun x => x ≠ r) wo
                have hkf := (((hkk).setCell (p := ⟨r, 9, none⟩) (fun hh => hh rfl) (.int .u64 ((m.c : Int) + (d : Int)))).setCell (p := ⟨r, 7, none⟩) (fun hh => hh rfl) (.int .i64 t)).drew
                have hjN := HjN.out
                subst hjN
                refine ⟨A, c, rfl, own_keptM HM.out.2.1 hkf (fun g e => by have h1 := HM.out.2.1.lt g e; have h2 := HB.out.lt; show g ≠ r; omega), ?_, HM.out.2.2.1.trans hkf⟩
                rw [HP2.out]
                unfold RtB rtC
                rw [show ((({ mj with f := mj.f, c := m.c + d, t := t } : M).c : Nat) : Int) = (m.c : Int) + (d : Int) by show ((m.c + d : Nat) : Int) = _; push_cast; rfl]
                exact hfin
            
            · have r1 : decide (so > m.t + 1) = false := decide_eq_false q1
              by_cases q2 : m.t + 1 < t
              · as_aux_lemma =>
                have r2 : decide (m.t + 1 < t) = true := decide_eq_true q2
                have HP2 := Lib.hid (show passZ s m t d fl = { mj with f := fo, c := m.c + d, t := t } by rw [HPz.out, if_pos (by omega)])
                clear q1 q2
                go_wp2_with fail
                go_ret2
                have h0 : RtB wo r nr s mj := HM.out.1
                unfold RtB rtC at h0
                have hfin := bset (bset (bset h0 (i := 11) (.int .i64 (fo : Int))) (i := 9) (.int .u64 ((m.c : Int) + (d : Int)))) (i := 7) (.int .i64 t)
                simp only [List.setIfInBounds_toArray, List.set_cons_succ, List.set_cons_zero] at hfin
                have hkk := Kept.refl (fun x => x ≠ r) wo
                have hkf := ((((hkk).setCell (p := ⟨r, 11, none⟩) (fun hh => hh rfl) (.int .i64 (fo : Int))).setCell (p := ⟨r, 9, none⟩) (fun hh => hh rfl) (.int .u64 ((m.c : Int) + (d : Int)))).setCell (p := ⟨r, 7, none⟩) (fun hh => hh rfl) (.int .i64 t)).drew
                have hjN := HjN.out
                subst hjN
                refine ⟨A, c, rfl, own_keptM HM.out.2.1 hkf (fun g e => by have h1 := HM.out.2.1.lt g e; have h2 := HB.out.lt; show g ≠ r; omega), ?_, HM.out.2.2.1.trans hkf⟩
                rw [HP2.out]
                unfold RtB rtC
                rw [show ((({ mj with f := fo, c := m.c + d, t := t } : M).c : Nat) : Int) = (m.c : Int) + (d : Int) by show ((m.c + d : Nat) : Int) = _; push_cast; rfl]
                exact hfin
              · as_aux_lemma =>
                have r2 : decide (m.t + 1 < t) = false := decide_eq_false q2
                have HP2 := Lib.hid (show passZ s m t d fl = { mj with f := mj.f, c := m.c + d, t := t } by rw [HPz.out, if_neg (by omega)])
                clear q1 q2
                go_wp2_with fail
                go_ret2
                have h0 : RtB wo r nr s mj := HM.out.1
                unfold RtB rtC at h0
                have hfin := bset (bset h0 (i := 9) (.int .u64 ((m.c : Int) + (d : Int)))) (i := 7) (.int .i64 t)
                simp only [List.setIfInBounds_toArray, List.set_cons_succ, List.set_cons_zero] at hfin
                have hkk := Kept.refl (fun x => x ≠ r) wo
                have hkf := (((hkk).setCell (p := ⟨r, 9, none⟩) (fun hh => hh rfl) (.int .u64 ((m.c : Int) + (d : Int)))).setCell (p := ⟨r, 7, none⟩) (fun hh => hh rfl) (.int .i64 t)).drew
                have hjN := HjN.out
                subst hjN
                refine ⟨A, c, rfl, own_keptM HM.out.2.1 hkf (fun g e => by have h1 := HM.out.2.1.lt g e; have h2 := HB.out.lt; show g ≠ r; omega), ?_, HM.out.2.2.1.trans hkf⟩
                rw [HP2.out]
                unfold RtB rtC
                rw [show ((({ mj with f := mj.f, c := m.c + d, t := t } : M).c : Nat) : Int) = (m.c : Int) + (d : Int) by show ((m.c + d : Nat) : Int) = _; push_cast; rfl]
                exact hfin
end Go.Proofs.Ytjmkbpgakfeceaa
