/-
  An energy, both sides, walked. Conditions stand at each theorem.
-/
import Derived.Test.YtjmkbpgakfeceaaMeterEn
namespace Go.Proofs.Ytjmkbpgakfeceaa
open Go Go.RowKit Go.Kw Go.Kw.Nm
set_option linter.unusedVariables false
set_option linter.unusedSimpArgs false

/-- What an energy is, or the error. -/
def enV (n num den : Nat) (gap len : Int) : Value :=
  if mayP num den gap len then if n * num / den ≤ 4611686018427387904 then .tuple #[.int .i64 ((n * num / den : Nat) : Int), .int .i64 0] else .tuple #[.int .i64 0, .int .i64 10] else .tuple #[.int .i64 0, .int .i64 240]
theorem enV_ok (n num den : Nat) (gap len : Int) (h : mayP num den gap len) (hq : n * num / den ≤ 4611686018427387904) : enV n num den gap len = .tuple #[.int .i64 ((n * num / den : Nat) : Int), .int .i64 0] := by unfold enV; rw [if_pos h, if_pos hq]
theorem enV_over (n num den : Nat) (gap len : Int) (h : mayP num den gap len) (hq : ¬ n * num / den ≤ 4611686018427387904) : enV n num den gap len = .tuple #[.int .i64 0, .int .i64 10] := by unfold enV; rw [if_pos h, if_neg hq]
theorem enV_bad (n num den : Nat) (gap len : Int) (h : ¬ mayP num den gap len) : enV n num den gap len = .tuple #[.int .i64 0, .int .i64 240] := if_neg h
/-- What Carry says, and what an energy then is. -/
theorem en_cases (n num den : Nat) (gap len : Int) (hn : n < 18446744073709551616) (h : mayP num den gap len) :
    (∃ q r : Nat, carryV n num den 0 = .tuple #[.int .u64 q, .int .u64 r, .int .i64 0] ∧ q ≤ 4611686018427387904 ∧ enV n num den gap len = .tuple #[.int .i64 q, .int .i64 0]) ∨
      (∃ q r : Nat, carryV n num den 0 = .tuple #[.int .u64 q, .int .u64 r, .int .i64 0] ∧ 4611686018427387904 < q ∧ enV n num den gap len = .tuple #[.int .i64 0, .int .i64 10]) ∨
      (carryV n num den 0 = .tuple #[.int .u64 0, .int .u64 0, .int .i64 10] ∧ enV n num den gap len = .tuple #[.int .i64 0, .int .i64 10]) := by
  have hm := h
  unfold mayP at hm
  have hd : den ≠ 0 := by omega
  by_cases ho : den ≤ (n * num + 0) / 18446744073709551616
  · refine .inr (.inr ⟨carry_over n num den 0 hd (by omega) ho, enV_over n num den gap len h ?_⟩)
    have h9 : ¬ (n * num + 0) / den < 18446744073709551616 := fun h8 => absurd ((over_iff (n * num + 0) den (by omega)).1 h8) (by omega)
    rw [Nat.add_zero] at h9
    omega
  · have e := carry_fine n num den 0 hd (by omega) (by omega)
    rw [Nat.add_zero] at e
    by_cases hq : n * num / den ≤ 4611686018427387904
    · exact .inl ⟨_, _, e, hq, enV_ok n num den gap len h hq⟩
    · exact .inr (.inl ⟨_, _, e, by omega, enV_over n num den gap len h hq⟩)
theorem row_up {w w1 : World} {b0 : Nat} (h : w.heap.size = b0) {cs : Array Value} {t : TypeId} (hb : Below (w.alloc (.cells cs t)).heap.size (w.alloc (.cells cs t)) w1) : w1.heap[b0]? = some (.cells cs t (0, 0)) := by
  subst h
  have e := World.alloc_heap_new w (.cells cs t)
  exact (hb.block w.heap.size (Array.getElem?_eq_some_iff.1 e).1).trans e
theorem below_up {w w1 : World} {b0 : Nat} (h : w.heap.size = b0) {o : Obj} (hb : Below (w.alloc o).heap.size (w.alloc o) w1) : Below b0 w w1 ∧ b0 ≤ w1.heap.size := by
  subst h
  have st := (Below.refl w.heap.size w).alloc (Nat.le_refl _) o
  exact ⟨st.trans (hb.mono st.size), Nat.le_trans st.size hb.size⟩
set_option maxHeartbeats 4000000 in
theorem energy_calls (n num den : Nat) (bound gap len : Int) (hn : n < 18446744073709551616) (w : World) :
    Calls Try.prog 9 #[setV num den bound gap len, .int .u64 n] w fun e w' => e = .returned (enV n num den gap len) ∧ Below w.heap.size w w' := by
  obtain ⟨b0, hb0⟩ : ∃ b0, w.heap.size = b0 := ⟨_, rfl⟩
  have Hb0 := Lib.hid hb0
  have HK := Lib.hid (check_calls num den bound gap len)
  by_cases hm : mayP num den gap len
  · have hmm := hm
    unfold mayP at hmm
    have hS := scale_calls n num den hn (by omega) (by omega) (by omega)
    rw [if_pos hm] at HK
    have HC := Lib.hid (en_cases n num den gap len hn hm)
    unfold setV at *
    clear hmm hm
    rcases HC.out with ⟨q, r, e1, hq, e2⟩ | ⟨q, r, e1, hq, e2⟩ | ⟨e1, e2⟩
    · rw [e1] at hS
      rw [e2]
      have HS := Lib.hid hS
      clear e1 e2 HC hS
      have k : decide ((q : Int) > 4611686018427387904) = false := by simp; omega
      have k2 : IntKind.i64.wrap (q : Int) = q := by rw [IntKind.wrap_i64]; omega
      have k3 : wrap64 (q : Int) = q := by unfold wrap64; omega
      go_enter Try.func9, Try.ntmps9
      go_wp2_with fail
      refine (HK.out _).mono ?_
      rintro e w1 ⟨rfl, hb1⟩
      have hrow := row_up hb0 hb1
      have HB := Lib.hid (below_up hb0 hb1)
      have c0 := cell_of_row w1 b0 0 _ _ _ hrow
      have c1 := cell_of_row w1 b0 1 _ _ _ hrow
      clear hrow hb1
      go_wp2_with fail
      refine (HS.out _).mono ?_
      rintro e w2 ⟨rfl, hb2⟩
      have HB2 : Hid (Below b0 w w2) := HB.out.1.trans (hb2.mono HB.out.2)
      clear c0 c1 hb2
      go_wp2_with fail
      go_ret2
      exact ⟨rfl, by first | exact HB2.out | (rw [hb0]; exact HB2.out)⟩
    · rw [e1] at hS
      rw [e2]
      have HS := Lib.hid hS
      clear e1 e2 HC hS
      have k : decide ((q : Int) > 4611686018427387904) = true := by simp; omega
      go_enter Try.func9, Try.ntmps9
      go_wp2_with fail
      refine (HK.out _).mono ?_
      rintro e w1 ⟨rfl, hb1⟩
      have hrow := row_up hb0 hb1
      have HB := Lib.hid (below_up hb0 hb1)
      have c0 := cell_of_row w1 b0 0 _ _ _ hrow
      have c1 := cell_of_row w1 b0 1 _ _ _ hrow
      clear hrow hb1
      go_wp2_with fail
      refine (HS.out _).mono ?_
      rintro e w2 ⟨rfl, hb2⟩
      have HB2 : Hid (Below b0 w w2) := HB.out.1.trans (hb2.mono HB.out.2)
      clear c0 c1 hb2
      go_wp2_with fail
      go_ret2
      exact ⟨rfl, by first | exact HB2.out | (rw [hb0]; exact HB2.out)⟩
    · rw [e1] at hS
      rw [e2]
      have HS := Lib.hid hS
      clear e1 e2 HC hS
      go_enter Try.func9, Try.ntmps9
      go_wp2_with fail
      refine (HK.out _).mono ?_
      rintro e w1 ⟨rfl, hb1⟩
      have hrow := row_up hb0 hb1
      have HB := Lib.hid (below_up hb0 hb1)
      have c0 := cell_of_row w1 b0 0 _ _ _ hrow
      have c1 := cell_of_row w1 b0 1 _ _ _ hrow
      clear hrow hb1
      go_wp2_with fail
      refine (HS.out _).mono ?_
      rintro e w2 ⟨rfl, hb2⟩
      have HB2 : Hid (Below b0 w w2) := HB.out.1.trans (hb2.mono HB.out.2)
      clear c0 c1 hb2
      go_wp2_with fail
      go_ret2
      exact ⟨rfl, by first | exact HB2.out | (rw [hb0]; exact HB2.out)⟩
  · rw [enV_bad n num den gap len hm]
    rw [if_neg hm] at HK
    unfold setV at *
    clear hm
    go_enter Try.func9, Try.ntmps9
    go_wp2_with fail
    refine (HK.out _).mono ?_
    rintro e w1 ⟨rfl, hb1⟩
    have HB := Lib.hid (below_up hb0 hb1).1
    go_wp2_with fail
    go_ret2
    exact ⟨rfl, by first | exact HB.out | (rw [hb0]; exact HB.out)⟩
set_option maxHeartbeats 4000000 in
theorem refEnergy_calls (n num den : Nat) (bound gap len : Int) (hn : n < 18446744073709551616) (w : World) :
    Calls Try.prog 10 #[setV num den bound gap len, .int .u64 n] w fun e w' => e = .returned (enV n num den gap len) ∧ Below w.heap.size w w' := by
  obtain ⟨b0, hb0⟩ : ∃ b0, w.heap.size = b0 := ⟨_, rfl⟩
  have Hb0 := Lib.hid hb0
  have HK := Lib.hid (may_calls num den bound gap len)
  by_cases hm : mayP num den gap len
  · have hmm := hm
    unfold mayP at hmm
    have hS := num_carry n num den 0 hn (by omega) (by omega) (by omega) (by omega) (by omega)
    rw [decide_eq_true hm] at HK
    have HC := Lib.hid (en_cases n num den gap len hn hm)
    unfold setV at *
    clear hmm hm
    rcases HC.out with ⟨q, r, e1, hq, e2⟩ | ⟨q, r, e1, hq, e2⟩ | ⟨e1, e2⟩
    · rw [e1] at hS
      rw [e2]
      have HS := Lib.hid hS
      clear e1 e2 HC hS
      have k : decide ((q : Int) > 4611686018427387904) = false := by simp; omega
      have k2 : IntKind.i64.wrap (q : Int) = q := by rw [IntKind.wrap_i64]; omega
      have k3 : wrap64 (q : Int) = q := by unfold wrap64; omega
      go_enter Try.func10, Try.ntmps10
      go_wp2_with fail
      refine (HK.out _).mono ?_
      rintro e w1 ⟨rfl, hb1⟩
      have hrow := row_up hb0 hb1
      have HB := Lib.hid (below_up hb0 hb1)
      have c0 := cell_of_row w1 b0 0 _ _ _ hrow
      have c1 := cell_of_row w1 b0 1 _ _ _ hrow
      clear hrow hb1
      go_wp2_with fail
      refine (HS.out _).mono ?_
      rintro e w2 ⟨rfl, hb2⟩
      have HB2 : Hid (Below b0 w w2) := HB.out.1.trans (hb2.mono HB.out.2)
      clear c0 c1 hb2
      go_wp2_with fail
      go_ret2
      exact ⟨rfl, by first | exact HB2.out | (rw [hb0]; exact HB2.out)⟩
    · rw [e1] at hS
      rw [e2]
      have HS := Lib.hid hS
      clear e1 e2 HC hS
      have k : decide ((q : Int) > 4611686018427387904) = true := by simp; omega
      go_enter Try.func10, Try.ntmps10
      go_wp2_with fail
      refine (HK.out _).mono ?_
      rintro e w1 ⟨rfl, hb1⟩
      have hrow := row_up hb0 hb1
      have HB := Lib.hid (below_up hb0 hb1)
      have c0 := cell_of_row w1 b0 0 _ _ _ hrow
      have c1 := cell_of_row w1 b0 1 _ _ _ hrow
      clear hrow hb1
      go_wp2_with fail
      refine (HS.out _).mono ?_
      rintro e w2 ⟨rfl, hb2⟩
      have HB2 : Hid (Below b0 w w2) := HB.out.1.trans (hb2.mono HB.out.2)
      clear c0 c1 hb2
      go_wp2_with fail
      go_ret2
      exact ⟨rfl, by first | exact HB2.out | (rw [hb0]; exact HB2.out)⟩
    · rw [e1] at hS
      rw [e2]
      have HS := Lib.hid hS
      clear e1 e2 HC hS
      go_enter Try.func10, Try.ntmps10
      go_wp2_with fail
      refine (HK.out _).mono ?_
      rintro e w1 ⟨rfl, hb1⟩
      have hrow := row_up hb0 hb1
      have HB := Lib.hid (below_up hb0 hb1)
      have c0 := cell_of_row w1 b0 0 _ _ _ hrow
      have c1 := cell_of_row w1 b0 1 _ _ _ hrow
      clear hrow hb1
      go_wp2_with fail
      refine (HS.out _).mono ?_
      rintro e w2 ⟨rfl, hb2⟩
      have HB2 : Hid (Below b0 w w2) := HB.out.1.trans (hb2.mono HB.out.2)
      clear c0 c1 hb2
      go_wp2_with fail
      go_ret2
      exact ⟨rfl, by first | exact HB2.out | (rw [hb0]; exact HB2.out)⟩
  · rw [enV_bad n num den gap len hm]
    rw [decide_eq_false hm] at HK
    unfold setV at *
    clear hm
    go_enter Try.func10, Try.ntmps10
    go_wp2_with fail
    refine (HK.out _).mono ?_
    rintro e w1 ⟨rfl, hb1⟩
    have HB := Lib.hid (below_up hb0 hb1).1
    go_wp2_with fail
    go_ret2
    exact ⟨rfl, by first | exact HB.out | (rw [hb0]; exact HB.out)⟩
end Go.Proofs.Ytjmkbpgakfeceaa
