/-
  The document's meter in memory: New, begins, passes, walked. Conditions stand at each theorem. (Printed by gen_refm1.py.)
-/
import Derived.Test.YtjmkbpgakfeceaaMt12
import Derived.Deep.CutRange
namespace Go.Proofs.Ytjmkbpgakfeceaa
open Go Go.RowKit Go.Kw Go.Kw.Mt Go.Kw.Nm
set_option linter.unusedVariables false
set_option linter.unusedSimpArgs false

/-- The document's meter: the cells. -/
def rtC (nr : Int) (s : Stp) (m : M) : Array Value := #[.int .i64 nr, .int .u64 (s.num : Int), .int .u64 (s.den : Int), .int .u32 (s.bound : Int), .int .i64 s.gap, .int .i64 s.len, .bool m.bg, .int .i64 m.t, .int .u32 (m.v : Int), .int .u64 (m.c : Int), .int .i64 (m.o * s.len), .int .i64 (m.f : Int), .int .i64 m.k, .int .i64 m.fr]
def RtB (W : World) (r : Nat) (nr : Int) (s : Stp) (m : M) : Prop := W.heap[r]? = some (.cells (rtC nr s m) 65 (0, 0))
section
variable {W W' : World} {r : Nat} {nr : Int} {s : Stp} {m : M}
theorem RtB.cells (h : RtB W r nr s m) : W.cell? ⟨r, 0, none⟩ = some (.int .i64 nr) ∧ W.cell? ⟨r, 1, none⟩ = some (.int .u64 (s.num : Int)) ∧ W.cell? ⟨r, 2, none⟩ = some (.int .u64 (s.den : Int)) ∧ W.cell? ⟨r, 3, none⟩ = some (.int .u32 (s.bound : Int)) ∧ W.cell? ⟨r, 4, none⟩ = some (.int .i64 s.gap) ∧ W.cell? ⟨r, 5, none⟩ = some (.int .i64 s.len) ∧
    W.cell? ⟨r, 6, none⟩ = some (.bool m.bg) ∧ W.cell? ⟨r, 7, none⟩ = some (.int .i64 m.t) ∧ W.cell? ⟨r, 8, none⟩ = some (.int .u32 (m.v : Int)) ∧ W.cell? ⟨r, 9, none⟩ = some (.int .u64 (m.c : Int)) ∧ W.cell? ⟨r, 10, none⟩ = some (.int .i64 (m.o * s.len)) ∧ W.cell? ⟨r, 11, none⟩ = some (.int .i64 (m.f : Int)) ∧ W.cell? ⟨r, 12, none⟩ = some (.int .i64 m.k) ∧ W.cell? ⟨r, 13, none⟩ = some (.int .i64 m.fr) := by
  unfold RtB rtC at h
  exact ⟨blk_cell h 0 rfl, blk_cell h 1 rfl, blk_cell h 2 rfl, blk_cell h 3 rfl, blk_cell h 4 rfl, blk_cell h 5 rfl, blk_cell h 6 rfl, blk_cell h 7 rfl, blk_cell h 8 rfl, blk_cell h 9 rfl, blk_cell h 10 rfl, blk_cell h 11 rfl, blk_cell h 12 rfl, blk_cell h 13 rfl⟩
theorem RtB.fr (h : RtB W r nr s m) (i : Nat) : W.frozen? ⟨r, i, none⟩ = false := blk_frozen h i
theorem RtB.lt (h : RtB W r nr s m) : r < W.heap.size := blk_lt h
theorem RtB.go (h : RtB W r nr s m) (hb : Below W.heap.size W W') : RtB W' r nr s m := blk_below h hb
theorem RtB.kept {S : Nat → Prop} (h : RtB W r nr s m) (hk : Kept S W W') (hs : S r) : RtB W' r nr s m := heap_kept hk h hs
end

set_option maxRecDepth 100000 in
set_option maxHeartbeats 8000000 in
theorem rbegins_calls (w : World) (r : Nat) (nr : Int) (s : Stp) (m : M) (hs : MayS s) (h : RtB w r nr s m) (t : Int) (v : Nat) (ht : 0 ≤ t ∧ t < 253402300800) :
    Calls Try.prog 49 #[.pointer (some ⟨r, 0, none⟩), .int .i64 t, .int .u32 (v : Int)] w fun e w' => (∃ u, e = .returned u) ∧ RtB w' r nr s (beginM s t v) ∧ Kept (fun x => x ≠ r) w w' := by
  have hl := hs.ok.len
  have hz : (s.len == 0) = false := beq_eq_false_iff_ne.2 (by omega)
  have hm1 : (s.len == -1) = false := beq_eq_false_iff_ne.2 (by omega)
  have hz2 : ¬ s.len = 0 := by omega
  have hq := Int.emod_add_mul_ediv t s.len
  have hr0 := Int.emod_nonneg t (show s.len ≠ 0 by omega)
  have hr1 := Int.emod_lt_of_pos t (show 0 < s.len by omega)
  obtain ⟨q, hqq⟩ : ∃ q, t / s.len * s.len = q := ⟨_, rfl⟩
  have hq2 : q + t % s.len = t := by rw [← hqq, Int.mul_comm]; omega
  obtain ⟨rm, hrm⟩ : ∃ rm, t % s.len = rm := ⟨_, rfl⟩
  rw [hrm] at hq2 hr0 hr1
  have HQ2 := Lib.hid (show t.tmod s.len = rm by rw [← hrm]; exact Int.tmod_eq_emod_of_nonneg ht.1)
  have X1 := Lib.hid (show wrap64 (t - rm) = q by rw [wrap64_at _ (by omega)]; omega)
  have HB : ∀ f : Nat, f = (if t % s.len = 0 then 0 else 1) → beginM s t v = ⟨true, t, v, 0, t / s.len, f, 0, 0⟩ := fun f hf => by rw [hf]; rfl
  have HBB := Lib.hid HB
  have Hqq := Lib.hid hqq
  have Hrm := Lib.hid (And.intro hrm hq2)
  obtain ⟨c0, c1, c2, c3, c4, c5, c6, c7, c8, c9, c10, c11, c12, c13⟩ := h.cells
  have f6 := h.fr 6
  have f7 := h.fr 7
  have f8 := h.fr 8
  have f9 := h.fr 9
  have f10 := h.fr 10
  have f11 := h.fr 11
  have f12 := h.fr 12
  have f13 := h.fr 13
  have H0 := Lib.hid h
  clear hs hl hq hr0 hr1 ht HB h
  by_cases h0 : rm = 0
  · have kq : (q != t) = false := bne_eq_false_iff_eq.2 (by omega)
    have H00 := Lib.hid h0
    clear h0 hq2 hrm hqq c0 c1 c2 c3 c4
    have x1 := X1.out
    have x2 := HQ2.out
    go_enter Try.func49, Try.ntmps49
    go_wp2_with fail
    go_end0
    refine ⟨⟨_, rfl⟩, ?_, ?_⟩
    · rw [HBB.out 0 (by rw [Hrm.out.1, if_pos H00.out])]
      have h0 := H0.out
      unfold RtB rtC at h0
      have hfin := bset (bset (bset (bset (bset (bset (bset (bset h0 (i := 6) (.bool true)) (i := 7) (.int .i64 t)) (i := 8) (.int .u32 (v : Int))) (i := 9) (.int .u64 0)) (i := 10) (.int .i64 q)) (i := 11) (.int .i64 0)) (i := 12) (.int .i64 0)) (i := 13) (.int .i64 0)
      simp only [List.setIfInBounds_toArray, List.set_cons_succ, List.set_cons_zero] at hfin
      unfold RtB rtC
      rw [show (⟨true, t, v, 0, t / s.len, 0, 0, 0⟩ : M).o * s.len = q from Hqq.out]
      exact hfin
    · exact ((((((((Kept.refl _ w).setCell (p := ⟨r, 6, none⟩) (fun hh => hh rfl) _).setCell (p := ⟨r, 7, none⟩) (fun hh => hh rfl) _).setCell (p := ⟨r, 8, none⟩) (fun hh => hh rfl) _).setCell (p := ⟨r, 9, none⟩) (fun hh => hh rfl) _).setCell (p := ⟨r, 10, none⟩) (fun hh => hh rfl) _).setCell (p := ⟨r, 11, none⟩) (fun hh => hh rfl) _).setCell (p := ⟨r, 12, none⟩) (fun hh => hh rfl) _).setCell (p := ⟨r, 13, none⟩) (fun hh => hh rfl) _
  · have kq : (q != t) = true := bne_iff_ne.2 (by omega)
    have H00 := Lib.hid h0
    clear h0 hq2 hrm hqq c0 c1 c2 c3 c4
    have x1 := X1.out
    have x2 := HQ2.out
    go_enter Try.func49, Try.ntmps49
    go_wp2_with fail
    go_end0
    refine ⟨⟨_, rfl⟩, ?_, ?_⟩
    · rw [HBB.out 1 (by rw [Hrm.out.1, if_neg H00.out])]
      have h0 := H0.out
      unfold RtB rtC at h0
      have hfin := bset (bset (bset (bset (bset (bset (bset (bset (bset h0 (i := 6) (.bool true)) (i := 7) (.int .i64 t)) (i := 8) (.int .u32 (v : Int))) (i := 9) (.int .u64 0)) (i := 10) (.int .i64 q)) (i := 11) (.int .i64 0)) (i := 11) (.int .i64 1)) (i := 12) (.int .i64 0)) (i := 13) (.int .i64 0)
      simp only [List.setIfInBounds_toArray, List.set_cons_succ, List.set_cons_zero] at hfin
      unfold RtB rtC
      rw [show (⟨true, t, v, 0, t / s.len, 1, 0, 0⟩ : M).o * s.len = q from Hqq.out]
      exact hfin
    · exact (((((((((Kept.refl _ w).setCell (p := ⟨r, 6, none⟩) (fun hh => hh rfl) _).setCell (p := ⟨r, 7, none⟩) (fun hh => hh rfl) _).setCell (p := ⟨r, 8, none⟩) (fun hh => hh rfl) _).setCell (p := ⟨r, 9, none⟩) (fun hh => hh rfl) _).setCell (p := ⟨r, 10, none⟩) (fun hh => hh rfl) _).setCell (p := ⟨r, 11, none⟩) (fun hh => hh rfl) _).setCell (p := ⟨r, 11, none⟩) (fun hh => hh rfl) _).setCell (p := ⟨r, 12, none⟩) (fun hh => hh rfl) _).setCell (p := ⟨r, 13, none⟩) (fun hh => hh rfl) _

end Go.Proofs.Ytjmkbpgakfeceaa
