/-
  The iterator of bits, walked: its contract. Conditions: at most 1,000,000 bytes.
-/
import Derived.Test.YtfbeihfpflhdaaaBase
import Derived.Test.YtfbeihfpflhdaaaChecked
import Derived.Shelf.Abstract
import Derived.Shelf.RegionOpen
import Derived.OwnWalkIn
import Derived.TacticsInMore
import Derived.LoopNIn
import Derived.LoopIn
import Derived.Outline
import Derived.Laws.BitsAllLaws
namespace Go.Proofs.Ytfbeihfpflhdaaa
open Go Go.RowKit Go.Kw Go.Shelf
attribute [local go_sem] Oper.semAt_some
set_option linter.unusedVariables false
set_option linter.unusedSimpArgs false

/-- The bit number k of bytes, as the walk spells it. -/
def bitAt (l : List UInt8) (k : Nat) : Int := bits .and .u8 (bAt l (k / 8) / 2 ^ (k % 8)) 1
def bitsL (l : List UInt8) : List Int := (List.range (8 * l.length)).map (bitAt l)
theorem bitsL_get (l : List UInt8) (k m : Nat) (hk : k < l.length) (hm : m < 8) : (bitsL l)[8 * k + m]? = some (bits .and .u8 (bAt l k / 2 ^ m) 1) := by
  have h1 : (8 * k + m) / 8 = k := by omega
  have h2 : (8 * k + m) % 8 = m := by omega
  have h3 : 8 * k + m < 8 * l.length := by omega
  unfold bitsL
  rw [List.getElem?_map, List.getElem?_range h3]
  show some (bitAt l (8 * k + m)) = _
  unfold bitAt
  rw [h1, h2]

theorem and1_u8 (x : Int) (h0 : 0 ≤ x) (h1 : x < 256) : bits .and .u8 x 1 = x % 2 := by
  rw [u8_and x 1 h0 h1 (by omega) (by omega)]
  show ((x.toNat &&& 1 : Nat) : Int) = _
  rw [nat_mask1]; omega
theorem bitAt_eq (l : List UInt8) (k : Nat) : bitAt l k = bAt l (k / 8) / 2 ^ (k % 8) % 2 := by
  unfold bitAt
  have h1 := bAt_lo l (k / 8)
  have h2 := bAt_hi l (k / 8)
  have hp : (0 : Int) < 2 ^ (k % 8) := Int.pow_pos (by omega)
  refine and1_u8 _ (Int.ediv_nonneg h1 (by omega)) ?_
  have := Int.ediv_le_self (2 ^ (k % 8)) h1
  omega
theorem bitsL_bd {l : List UInt8} {k : Nat} {x : Int} (h : (bitsL l)[k]? = some x) : 0 ≤ x ∧ x ≤ 1 := by
  have hm := List.mem_of_getElem? h
  unfold bitsL at hm
  obtain ⟨j, _, rfl⟩ := List.mem_map.1 hm
  rw [bitAt_eq]; omega

set_option maxRecDepth 100000 in
set_option maxHeartbeats 2000000 in
theorem bits_seq (B B0 : Nat) (A : Option Addr) (c : Nat) (l : List UInt8) (hl : l.length ≤ 2000000) :
    SeqW Try.prog 39 #[.pointer (some ⟨B, 0, none⟩)] (fun x : Int => #[.int .u8 x]) (bitsL l) (fun A B => A = B)
      (fun W => W.cell? ⟨B, 0, none⟩ = some (.slice A l.length c) ∧ RdB W B0 A l) (fun _ W => RdB W B0 A l) (fun _ => True) (fun _ _ => True) := by
  intro lo J Jx hJ hJx hY W ⟨hB, hR⟩ h0
  have hF := wide_fn
  refine callsIn_of_wp Try.func39 rfl (hF _) ?_ rfl
  simp only [Try.ntmps39, List.size_toArray, List.length_cons, List.length_nil, Nat.reduceAdd, Nat.reduceSub, Array.replicate_succ, Array.replicate_zero, List.push_toArray, List.append_toArray, List.nil_append, List.cons_append]
  gi_wp2
  gi_loopw [4, 5, 8, 12] (fun _ _ i _ wr => ∃ k : Nat, k ≤ l.length ∧ i = .int .i64 k ∧ J (8 * k) wr ∧ RdB wr B0 A l)
    (fun _ _ i _ _ => l.length - (intOf i).toNat)
  case atStart => exact ⟨0, Nat.zero_le _, rfl, h0, hR⟩
  case round =>
    obtain ⟨k, hk, rfl, hJs, hRs⟩ := hrel
    by_cases hlt : k < l.length
    · obtain ⟨b, off, rfl, hbs, hc⟩ := Rd.at_ hRs hlt
      have hlo := bAt_lo l k
      have hhi := bAt_hi l k
      gi_wp2
      gi_loopw [5, 12] (fun _ j wr2 => ∃ m : Nat, m ≤ 8 ∧ j = .int .i64 m ∧ J (8 * k + m) wr2 ∧ RdB wr2 B0 (some ⟨b, off, none⟩) l)
        (fun _ j _ => 8 - (intOf j).toNat)
      case atStart => exact ⟨0, by omega, rfl, hJs, hRs⟩
      case round =>
        obtain ⟨m, hm, rfl, hJm, hRm⟩ := hrel
        by_cases hm8 : m < 8
        · obtain ⟨fn, tmps, assign, body, hy, hR⟩ := hY (8 * k + m) _ wr (bitsL_get l k m hlt hm8) hJm hRm
          clear hY
          gi_wp2
          refine hR.mono ?_
          rintro e W3 ⟨hR3, (⟨rfl, hJ3⟩ | ⟨rfl, hJx3⟩)⟩
          · gi_wp2
            go_roundw
            case rel => exact ⟨m + 1, by omega, by simp, hJ3, hR3⟩
            case measure => simp [intOf]; omega
          · gi_wp2
            refine bodyPost_ret (results_none rfl _ _ _) rfl ?_
            exact ⟨⟨_, rfl⟩, .inr ⟨8 * k + m, by simp [bitsL]; omega, hJx3, trivial⟩⟩
        · obtain rfl : m = 8 := by omega
          gi_wp2
          go_roundw
          case rel => exact ⟨k + 1, by omega, by simp, by rw [show 8 * (k + 1) = 8 * k + 8 from by omega]; exact hJm, hRm⟩
          case measure => simp [intOf]; omega
    · obtain rfl : k = l.length := by omega
      gi_wp2
      go_end0
      exact ⟨⟨_, rfl⟩, .inl ⟨by simp [bitsL]; exact hJs, trivial⟩⟩
end Go.Proofs.Ytfbeihfpflhdaaa
