/-
  The first examples of the chapter; the walk of FixqSpreads. Conditions: none beyond the given numbers.
-/
import Derived.Test.YtoollhkpbghodaaRRFixqSum
namespace Go.Proofs.YtoollhkpbghodaaRR
open Go Go.RowKit Go.Kw Go.Shelf
set_option linter.unusedVariables false
set_option linter.unusedSimpArgs false

def iv (l : List Int) : List Value := l.map (fun x => .int .i64 x)
def okN (x : Int) : Int := if inR x then x else 0
def okE (x : Int) : Int := if inR x then 0 else 10
theorem okV_gen (x : Int) : okV x = .tuple #[.int .i64 (okN x), .int .i64 (okE x)] := by unfold okV okN okE; split <;> rfl
theorem rdI_new (w : World) (cs : Array Value) (t : TypeId) (fr : Nat × Nat) (l : List Int) (h : cs.toList = iv l) : RdI (w.alloc (.cells cs t fr)) (w.heap.size + 1) (some ⟨w.heap.size, 0, none⟩) l := by
  refine .inr ⟨w.heap.size, 0, rfl, by omega, fun i hi => ?_⟩
  rw [Nat.zero_add, World.cell?_alloc_mark, ← Array.getElem?_toList, h]
  unfold iv
  rw [List.getElem?_map, List.getElem?_eq_getElem hi]
  simp [hi]
theorem sum_n (A : Option Addr) (c N : Nat) (zs : List Int) (hN : N = zs.length) (hl : zs.length ≤ 1000) (hr : ∀ i, i < zs.length → inR (zs.getD i 0)) (w : World) (hR : RdI w w.heap.size A zs) :
    Calls Try.prog 8 #[.slice A N c] w fun e w' => e = .returned (okV zs.sum) ∧ Below w.heap.size w w' := by
  subst hN; exact sum_calls A c zs hl hr w hR
theorem inR2 {a b : Int} (ha : inR a) (hb : inR b) : ∀ i, i < [a, b].length → inR ([a, b].getD i 0) := by
  intro i hi
  match i, hi with
  | 0, _ => exact ha
  | 1, _ => exact hb
theorem alive_calls (w : World) : Calls Try.prog 5 #[] w fun e w' => e = .returned (.bool true) ∧ Below w.heap.size w w' := by
  have c1 := fun w => add_calls 9223372036854775807 1 (by decide) (by decide) w
  have c2 := fun w => mul_calls (-9223372036854775808) (-1) (by decide) (by decide) w
  rw [okV_out (by decide)] at c1
  rw [okV_out (by decide)] at c2
  have hs : okV ([9223372036854775807, 5, -6] : List Int).sum = .tuple #[.int .i64 9223372036854775806, .int .i64 0] := okV_in (by decide)
  have Hs := Lib.hid hs
  clear hs
  go_enter Try.func5, Try.ntmps5
  go_wp2_with (first
    | (go_at_call 6; refine (c1 _).mono ?_; rintro e w1 ⟨rfl, rfl⟩)
    | (go_at_call 7; refine (c2 _).mono ?_; rintro e w1 ⟨rfl, rfl⟩))
  refine (sum_n _ _ _ [9223372036854775807, 5, -6] rfl (by decide) (by decide) _ (by simpa using rdI_new w1 #[.int .i64 9223372036854775807, .int .i64 5, .int .i64 (-6)] 2 (0, 0) [9223372036854775807, 5, -6] rfl)).mono ?_
  rintro e w2 ⟨rfl, hb2⟩
  rw [Hs.out]
  replace hb2 := (balloc (Below.refl _ w1) _).trans (hb2.mono (by simp))
  go_wp2_with fail
  refine (floor_calls _).mono ?_
  rintro e w3 ⟨rfl, hb3⟩
  replace hb3 := bnext hb2 hb3
  go_wp2_with fail
  go_ret
  exact ⟨rfl, hb3⟩

set_option maxHeartbeats 1000000 in
theorem fixqSpreads_walk (a0 : Int) (a1 : Int) (a2 : Int) (w : World) (w0 : (Lit.int .i64 a0).wf = true) (w1 : (Lit.int .i64 a1).wf = true) (w2 : (Lit.int .i64 a2).wf = true) :
    Calls Try.prog 3 #[.int .i64 a0, .int .i64 a1, .int .i64 a2] w fun e w' => e = .returned (.bool true) ∧ Below w.heap.size w w' := by
  have h0 : inR a0 := Go.bounds_i64 w0
  have h1 : inR a1 := Go.bounds_i64 w1
  have h2 : inR a2 := Go.bounds_i64 w2
  clear w0 w1 w2
  have cs := fun w => add_calls a1 a2 h1 h2 w
  have cp := fun w => mul_calls a0 a1 h0 h1 w
  have cq := fun w => mul_calls a0 a2 h0 h2 w
  by_cases i1 : inR (a1 + a2)
  · by_cases i2 : inR (a0 * a1)
    · by_cases i3 : inR (a0 * a2)
      · have ca := fun w => mul_calls a0 (a1 + a2) h0 i1 w
        have cz := fun w => add_calls (a0 * a1) (a0 * a2) i2 i3 w
        rw [okV_in i1] at cs
        rw [okV_in i2] at cp
        rw [okV_in i3] at cq
        rw [Int.mul_add] at ca
        by_cases i4 : inR (a0 * a1 + a0 * a2)
        · rw [okV_in i4] at ca cz
          clear h0 h1 h2 i1 i2 i3 i4
          go_enter Try.func3, Try.ntmps3
          go_wp2_with fail
          refine (alive_calls _).mono ?_
          rintro e w1 ⟨rfl, hb1⟩
          go_wp2_with fail
          refine (cs _).mono ?_
          rintro e wx ⟨rfl, rfl⟩
          go_wp2_with fail
          refine (cp _).mono ?_
          rintro e wx ⟨rfl, rfl⟩
          go_wp2_with fail
          refine (cq _).mono ?_
          rintro e wx ⟨rfl, rfl⟩
          go_wp2_with fail
          refine (ca _).mono ?_
          rintro e wx ⟨rfl, rfl⟩
          go_wp2_with fail
          refine (cz _).mono ?_
          rintro e wx ⟨rfl, rfl⟩
          go_wp2_with fail
          go_ret
          exact ⟨rfl, hb1⟩
        · rw [okV_out i4] at ca cz
          clear h0 h1 h2 i1 i2 i3 i4
          go_enter Try.func3, Try.ntmps3
          go_wp2_with fail
          refine (alive_calls _).mono ?_
          rintro e w1 ⟨rfl, hb1⟩
          go_wp2_with fail
          refine (cs _).mono ?_
          rintro e wx ⟨rfl, rfl⟩
          go_wp2_with fail
          refine (cp _).mono ?_
          rintro e wx ⟨rfl, rfl⟩
          go_wp2_with fail
          refine (cq _).mono ?_
          rintro e wx ⟨rfl, rfl⟩
          go_wp2_with fail
          refine (ca _).mono ?_
          rintro e wx ⟨rfl, rfl⟩
          go_wp2_with fail
          refine (cz _).mono ?_
          rintro e wx ⟨rfl, rfl⟩
          go_wp2_with fail
          go_ret
          exact ⟨rfl, hb1⟩
      · rw [okV_in i1] at cs
        rw [okV_in i2] at cp
        rw [okV_out i3] at cq
        clear h0 h1 h2 i1 i2 i3
        go_enter Try.func3, Try.ntmps3
        go_wp2_with fail
        refine (alive_calls _).mono ?_
        rintro e w1 ⟨rfl, hb1⟩
        go_wp2_with fail
        refine (cs _).mono ?_
        rintro e wx ⟨rfl, rfl⟩
        go_wp2_with fail
        refine (cp _).mono ?_
        rintro e wx ⟨rfl, rfl⟩
        go_wp2_with fail
        refine (cq _).mono ?_
        rintro e wx ⟨rfl, rfl⟩
        go_wp2_with fail
        go_ret
        exact ⟨rfl, hb1⟩
    · rw [okV_in i1] at cs
      rw [okV_out i2] at cp
      rw [okV_gen] at cq
      clear h0 h1 h2 i1 i2
      go_enter Try.func3, Try.ntmps3
      go_wp2_with fail
      refine (alive_calls _).mono ?_
      rintro e w1 ⟨rfl, hb1⟩
      go_wp2_with fail
      refine (cs _).mono ?_
      rintro e wx ⟨rfl, rfl⟩
      go_wp2_with fail
      refine (cp _).mono ?_
      rintro e wx ⟨rfl, rfl⟩
      go_wp2_with fail
      refine (cq _).mono ?_
      rintro e wx ⟨rfl, rfl⟩
      go_wp2_with fail
      go_ret
      exact ⟨rfl, hb1⟩
  · rw [okV_out i1] at cs
    rw [okV_gen] at cp cq
    clear h0 h1 h2 i1
    go_enter Try.func3, Try.ntmps3
    go_wp2_with fail
    refine (alive_calls _).mono ?_
    rintro e w1 ⟨rfl, hb1⟩
    go_wp2_with fail
    refine (cs _).mono ?_
    rintro e wx ⟨rfl, rfl⟩
    go_wp2_with fail
    refine (cp _).mono ?_
    rintro e wx ⟨rfl, rfl⟩
    go_wp2_with fail
    refine (cq _).mono ?_
    rintro e wx ⟨rfl, rfl⟩
    go_wp2_with fail
    go_ret
    exact ⟨rfl, hb1⟩
end Go.Proofs.YtoollhkpbghodaaRR
