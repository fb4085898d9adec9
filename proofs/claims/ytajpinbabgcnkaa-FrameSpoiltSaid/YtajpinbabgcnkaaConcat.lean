/-
  slices.Grow (of nil) and slices.Concat at bytes, walked; bytes.Equal. Conditions: at most 1,000 pieces, 1,000,000 bytes in all.
-/
import Derived.Test.YtajpinbabgcnkaaKept
import Derived.Test.YtajpinbabgcnkaaBytesLib
import Derived.Lib.AppendZerosOnto
import Derived.Lib.Walk
import Derived.Lib.Hide
import Derived.Lib.SliceRun
namespace Go.Proofs.Ytajpinbabgcnkaa
open Go Go.RowKit Go.Kw
set_option linter.unusedVariables false
set_option linter.unusedSimpArgs false

theorem grow_calls (n : Nat) (hn : n ≤ 1000000) (w : World) :
    Calls Try.prog 29 #[.slice none 0 0, .int .i64 n] w fun e w' => ∃ A c, e = .returned (.slice A 0 c) ∧ w'.ownsRow w.heap.size 5 1 (.slice A 0 c) 0 (bv []) ∧ Below w.heap.size w w' := by
  rcases Nat.eq_zero_or_pos n with h | h
  · subst h
    go_enter Try.func29, Try.ntmps29
    go_wp2
    go_ret
    exact ⟨none, 0, rfl, World.ownsRow_nil _ _ _ _, Below.refl _ _⟩
  · obtain ⟨i0, hi0, hz0, hs0, hb0⟩ := info_parts eb.inf
    have hold : (Builtin.firstCells i0.size 0 (.slice none 0 0)).run Try.prog w.drew = .ok #[] w.drew := run_firstCells_none w.drew i0.size 0 0 0
    have hfit : Builtin.nextslicecap (0 + n) 0 * i0.bytes ≤ 281474976710656 := growslice_fits (by omega) (by rw [hb0]; omega)
    have hrz := fun ty => Lib.run_append_grow_zeros (P := Try.prog) w 23 3 ty 5 i0 (.int .u8 0) .i64 .i64 Try.underlying23 Try.underlying3 hi0 hz0 none 0 0 [] hold n h (by omega) (by omega) (by omega) (by rw [hb0]; omega) hfit
    have hG : 0 + n ≤ grownCap w (0 + n) 0 5 := grownCap_ge w _ _ _
    have hG2 := grownCap_le_maxLen w (0 + n) 0 5 (by unfold maxLen; omega)
    obtain ⟨G, hGe⟩ : ∃ G, G = grownCap w (0 + n) 0 5 := ⟨_, rfl⟩
    rw [← hGe] at hrz hG hG2
    have hsz : (#[] ++ Builtin.zeroCells (Value.int .u8 0).cells n ++ Builtin.zeroCells (Value.int .u8 0).cells (G - (0 + n)) : Array Value).size = G := by
      simp [Builtin.zeroCells, Value.cells]; omega
    have ho : (w.drew.alloc (.cells (#[] ++ Builtin.zeroCells (Value.int .u8 0).cells n ++ Builtin.zeroCells (Value.int .u8 0).cells (G - (0 + n))) 5)).ownsRow w.heap.size 5 1 (.slice (some ⟨w.heap.size, 0, none⟩) 0 G) 0 (bv []) :=
      ⟨rfl, .inr ⟨w.heap.size, G, _, rfl, Nat.le_refl _, World.alloc_heap_new w.drew _, by omega, hG2, by omega, rfl⟩⟩
    have hbb : Below w.heap.size w (w.drew.alloc (.cells (#[] ++ Builtin.zeroCells (Value.int .u8 0).cells n ++ Builtin.zeroCells (Value.int .u8 0).cells (G - (0 + n))) 5)) := (Below.refl _ w).drew.alloc (Nat.le_refl _) _
    generalize w.drew.alloc (.cells (#[] ++ Builtin.zeroCells (Value.int .u8 0).cells n ++ Builtin.zeroCells (Value.int .u8 0).cells (G - (0 + n))) 5) = W at ho hbb hrz
    rw [Nat.zero_add] at hrz hG
    have hn0 : (0 : Int) < (n : Int) := by omega
    clear hold hfit hi0 hz0 hs0 hb0 hsz hGe
    go_enter Try.func29, Try.ntmps29
    go_wp2_with (at_builtin; refine Lib.wpList_append_run _ rfl _ _ _ _ rfl _ _ rfl rfl _ _ (hrz _) ?_)
    all_goals (go_ret; exact ⟨_, _, rfl, ho, hbb⟩)
/-- The pieces one behind the other. -/
def allB (bs : Nat → List UInt8) (k : Nat) : List UInt8 := ((List.range k).map bs).flatten
theorem allB_succ (bs : Nat → List UInt8) (k : Nat) : allB bs (k + 1) = allB bs k ++ bs k := by
  unfold allB; rw [List.range_succ, List.map_append, List.flatten_append]; simp
theorem allB_le (bs : Nat → List UInt8) (k : Nat) : ∀ n, k ≤ n → (allB bs k).length ≤ (allB bs n).length := by
  intro n h
  induction n with
  | zero => obtain rfl : k = 0 := by omega
            exact Nat.le_refl _
  | succ n ih =>
    rcases Nat.lt_or_ge n k with h1 | h1
    · obtain rfl : k = n + 1 := by omega
      exact Nat.le_refl _
    · rw [allB_succ, List.length_append]; have := ih h1; omega

set_option maxHeartbeats 1000000 in
theorem concat_calls (A : Option Addr) (c n : Nat) (p : Nat → Option Addr × Nat) (bs : Nat → List UInt8) (hn : n ≤ 1000) (htot : (allB bs n).length ≤ 1000000) (w : World)
    (hR : Rd w w.heap.size A n (fun i => .slice (p i).1 (bs i).length (p i).2)) (hp : ∀ k, k < n → RdB w w.heap.size (p k).1 (bs k) ∧ ((p k).1 = none → (bs k).length = 0)) :
    Calls Try.prog 22 #[.slice A n c] w fun e w' => ∃ A' c', e = .returned (.slice A' (allB bs n).length c') ∧ w'.ownsRow w.heap.size 5 1 (.slice A' (allB bs n).length c') (allB bs n).length (bv (allB bs n)) ∧ Below w.heap.size w w' := by
  have Hp := Lib.hid hp
  have hle := fun k (h : k ≤ n) => allB_le bs k n h
  have Hle := Lib.hid hle
  have hb0 := Below.refl w.heap.size w
  clear hp hle
  go_enter Try.func22, Try.ntmps22
  go_wp2
  go_loop [3, 11] (fun s i => ∃ k : Nat, k ≤ n ∧ i = .int .i64 k ∧ s = .int .i64 (allB bs k).length) (fun _ i => n - (intOf i).toNat)
  case atStart => exact ⟨0, Nat.zero_le _, rfl, rfl⟩
  case round =>
    obtain ⟨k, hk, rfl, rfl⟩ := hrel
    by_cases hlt : k < n
    · obtain ⟨b, off, rfl, hbs, hc⟩ := Rd.at_ hR hlt
      have Hs : Hid ((allB bs (k + 1)).length = (allB bs k).length + (bs k).length) := by show _ = _; rw [allB_succ, List.length_append]
      have h1 : ((allB bs k).length : Int) + ((bs k).length : Int) ≤ 1000000 := by have := Hs.out; have := Hle.out (k + 1) (by omega); omega
      have h2 : ¬ (((allB bs k).length : Int) + ((bs k).length : Int) < 0) := by omega
      clear hR
      go_wp2
      all_goals
        go_round
        case rel => exact ⟨k + 1, by omega, by go_num, by rw [Hs.out]; go_num⟩
        case measure => simp [intOf]; omega
    · obtain rfl : k = n := by omega
      go_wp2_with fail
      refine (grow_calls _ (by omega) _).mono ?_
      rintro e w1 ⟨A1, c1, rfl, o1, hb1⟩
      go_wp2
      go_loopw [6, 27] (fun s i wr => ∃ k' : Nat, k' ≤ k ∧ i = .int .i64 k' ∧ (∃ A2 c2, s = .slice A2 (allB bs k').length c2 ∧ wr.ownsRow w.heap.size 5 1 (.slice A2 (allB bs k').length c2) (allB bs k').length (bv (allB bs k'))) ∧ Below w.heap.size w wr)
        (fun _ i _ => k - (intOf i).toNat)
      case atStart => exact ⟨0, Nat.zero_le _, rfl, ⟨A1, c1, rfl, o1⟩, hb1⟩
      case round =>
        obtain ⟨j, hj, rfl, ⟨A2, c2, rfl, o2⟩, hb2⟩ := hrel
        by_cases hjk : j < k
        · obtain ⟨b, off, rfl, hbs, hc⟩ := Rd.at_ (hR.below hb2) hjk
          have Hs : Hid ((allB bs (j + 1)).length = (allB bs j).length + (bs j).length) := by show _ = _; rw [allB_succ, List.length_append]
          obtain ⟨A3, c3, w3, hrun, o3, hb3, -, -, -⟩ := append_bytes (P := Try.prog) eb wr w.heap.size o2 (bs j).length (p j).2 ((Hp.out j (by omega)).1.below hb2) rfl (by have := Hs.out; have := Hle.out (j + 1) (by omega); omega) hb2.size (Hp.out j (by omega)).2
          rw [List.length_append] at hrun
          have hb4 := hb2.trans hb3
          clear hR hb1 o1
          go_wp2_with (at_builtin; refine wpList_append_run hrun rfl rfl rfl rfl rfl ?_)
          go_roundw
          case rel => exact ⟨j + 1, by omega, by go_num, ⟨A3, c3, by rw [Hs.out], by rw [Hs.out, allB_succ]; rw [List.length_append] at o3; exact o3⟩, hb4⟩
          case measure => simp [intOf]; omega
        · obtain rfl : j = k := by omega
          clear hR hb1 o1
          go_wp2
          go_ret
          exact ⟨A2, c2, rfl, o2, hb2⟩

end Go.Proofs.Ytajpinbabgcnkaa
