/-
  The bytes of a call of the law's list: Bytes of package kilowattlaw12, walked. Conditions stand at each theorem.
-/
import Derived.Test.YtpleaicpkpjkjaaBlk2
import Derived.Test.YtpleaicpkpjkjaaBytesLib
namespace Go.Proofs.Ytpleaicpkpjkjaa
open Go Go.RowKit Go.Kw
set_option linter.unusedVariables false
set_option linter.unusedSimpArgs false

def opX (b : UInt8) (n k : Nat) : List UInt8 := (List.range n).map (fun i => if i < k then b + UInt8.ofNat (i / 16) else 0)
theorem opX_length (b : UInt8) (n k : Nat) : (opX b n k).length = n := by simp [opX]
theorem made_opX (b : UInt8) (n : Nat) : (madeCells (Value.int .u8 0).cells (n * 1)).toList = bv (opX b n 0) := by
  apply List.ext_getElem
  · simp [madeCells, bv, opX]
  · intro i h1 h2
    simp [madeCells, bv, opX, Value.cells, Nat.mod_one]
theorem opX_set (b : UInt8) (n k : Nat) (hk : k < n) : (bv (opX b n k)).set k (.int .u8 ((b + UInt8.ofNat (k / 16)).toNat : Int)) = bv (opX b n (k + 1)) := by
  apply List.ext_getElem
  · simp [bv, opX]
  · intro i h1 h2
    have hi : i < n := by simpa [bv, opX] using h2
    rw [List.getElem_set]
    by_cases h : k = i
    · subst h
      rw [if_pos rfl]
      simp [bv, opX]
    · rw [if_neg h]
      have e : (i < k + 1) = (i < k) := by apply propext; omega
      simp [bv, opX, e]
theorem opX_val (b : UInt8) (k : Nat) : ((b.toNat : Int) + (k : Int) / 16) % 256 = ((b + UInt8.ofNat (k / 16)).toNat : Int) := by
  rw [UInt8.toNat_add, UInt8.toNat_ofNat']
  omega
/-- The bytes of a call. -/
def opN (L : Int) : Nat := if L > 0 then L.toNat else 128
def OpB (w : World) (b : UInt8) (n : Nat) (e : Ending) (w' : World) : Prop := ∃ A', e = .returned (.slice A' n n) ∧ w'.ownsRow w.heap.size 5 1 (.slice A' n n) n (bv (opX b n n)) ∧ Below w.heap.size w w'
set_option maxHeartbeats 8000000 in
theorem opBytes_pos (w : World) (kd N : Int) (b : UInt8) (n : Nat) (hn : 0 < n ∧ n ≤ 300) (KA : Option Addr) (kl kc : Nat) (to at' : Int) :
    Calls Try.prog 11 #[.agg #[.int .i64 kd, .int .i64 N, .int .u8 (b.toNat : Int), .int .i64 (n : Int), .slice KA kl kc, .int .i64 to, .int .i64 at']] w (OpB w b n) := by
  obtain ⟨b0, hb0⟩ : ∃ b0, w.heap.size = b0 := ⟨_, rfl⟩
  have Hb0 := Lib.hid hb0
  obtain ⟨W1, hW1⟩ : ∃ W1, w.alloc (.cells #[.int .i64 kd, .int .i64 N, .int .u8 (b.toNat : Int), .int .i64 (n : Int), .slice KA kl kc, .int .i64 to, .int .i64 at'] 34) = W1 := ⟨_, rfl⟩
  have hst : Below w.heap.size w W1 := hW1 ▸ bstep w _
  have hr : W1.heap[b0]? = some (.cells #[.int .i64 kd, .int .i64 N, .int .u8 (b.toNat : Int), .int .i64 (n : Int), .slice KA kl kc, .int .i64 to, .int .i64 at'] 34 (0, 0)) := by rw [← hb0, ← hW1]; exact World.alloc_heap_new w _
  have kn : decide (0 < n) = true := decide_eq_true hn.1
  have kn2 : decide ((n : Int) > 0) = true := decide_eq_true (by omega)
  obtain ⟨w2, hrun, o2, g2⟩ := runMake (P := Try.prog) W1 W1.heap.size eb n (by omega) (by unfold maxLen; omega) (Nat.le_refl _)
  have o2' : w2.ownsRow W1.heap.size 5 1 (.slice (some ⟨W1.heap.size, 0, none⟩) n n) n (bv (opX b n 0)) := by rw [← made_opX]; exact o2
  have hB2 : Below W1.heap.size W1 w2 := (Below.refl _ _).grown g2 (Nat.le_refl _) (by simp)
  have H := Lib.hid (And.intro o2' (And.intro hB2 (And.intro hr hst)))
  have c3 := cell_of_row W1 b0 3 _ _ _ hr
  clear o2 g2 o2' hB2 hr hst
  go_enter Try.func11, Try.ntmps11
  go_wp2_with (at_make; refine wpList_make_run hrun rfl rfl rfl rfl ?_)
  clear c3 hW1 hrun
  go_loopw [15] (fun iv wr => ∃ k : Nat, k ≤ n ∧ iv = .int .i64 k ∧ wr.ownsRow W1.heap.size 5 1 (.slice (some ⟨W1.heap.size, 0, none⟩) n n) n (bv (opX b n k)) ∧ Below W1.heap.size W1 wr) (fun iv _ => n - (intOf iv).toNat)
  case atStart => exact ⟨0, by omega, rfl, H.out.1, H.out.2.1⟩
  case round =>
    obtain ⟨k, hk, rfl, ok, hBk⟩ := hrel
    by_cases hkn : k < n
    · have c2 := cell_of_row wr b0 2 _ _ _ (blk_below H.out.2.2.1 hBk)
      have hx0 := ok.cellAt k (by omega)
      have hx : ∃ v, wr.cell? ⟨W1.heap.size, k, none⟩ = some v := ⟨_, hx0.trans (List.getElem?_eq_getElem (by rw [bv_length, opX_length]; exact hkn))⟩
      obtain ⟨v, hx⟩ := hx
      have hf := ok.frozenAt k
      have hI : (k : Int) < ((n : Nat) : Int) := by omega
      have hk0 : (0 : Int) ≤ (k : Int) := by omega
      have Hk := Lib.hid (And.intro hkn (And.intro ok hBk))
      clear hx0 hkn ok hBk hk
      go_wp2_with fail
      obtain ⟨hkn, ok, hBk⟩ := Hk.out
      obtain ⟨o3, g3⟩ := ok.stored k (.int .u8 ((b + UInt8.ofNat (k / 16)).toNat : Int))
      rw [opX_set _ _ _ hkn] at o3
      rw [opX_val]
      exact ⟨⟨k + 1, by omega, by push_cast; rfl, o3, hBk.setCell (Nat.le_refl _) _⟩, by simp [intOf]; omega⟩
    · obtain rfl : k = n := by omega
      have HP := Lib.hid (show OpB w b k (.returned (.slice (some ⟨W1.heap.size, 0, none⟩) k k)) wr from ⟨_, rfl, own_mono ok H.out.2.2.2.size, bnext H.out.2.2.2 hBk⟩)
      clear hkn ok hBk hk
      go_wp2_with fail
      go_ret
      exact HP.out
set_option maxHeartbeats 8000000 in
theorem opBytes_dft (w : World) (kd N : Int) (b : UInt8) (L : Int) (hL : ¬ L > 0) (KA : Option Addr) (kl kc : Nat) (to at' : Int) :
    Calls Try.prog 11 #[.agg #[.int .i64 kd, .int .i64 N, .int .u8 (b.toNat : Int), .int .i64 L, .slice KA kl kc, .int .i64 to, .int .i64 at']] w (OpB w b 128) := by
  obtain ⟨b0, hb0⟩ : ∃ b0, w.heap.size = b0 := ⟨_, rfl⟩
  have Hb0 := Lib.hid hb0
  obtain ⟨W1, hW1⟩ : ∃ W1, w.alloc (.cells #[.int .i64 kd, .int .i64 N, .int .u8 (b.toNat : Int), .int .i64 L, .slice KA kl kc, .int .i64 to, .int .i64 at'] 34) = W1 := ⟨_, rfl⟩
  have hst : Below w.heap.size w W1 := hW1 ▸ bstep w _
  have hr : W1.heap[b0]? = some (.cells #[.int .i64 kd, .int .i64 N, .int .u8 (b.toNat : Int), .int .i64 L, .slice KA kl kc, .int .i64 to, .int .i64 at'] 34 (0, 0)) := by rw [← hb0, ← hW1]; exact World.alloc_heap_new w _
  have kn2 : decide (L > 0) = false := decide_eq_false hL
  obtain ⟨w2, hrun, o2, g2⟩ := runMake (P := Try.prog) W1 W1.heap.size eb 128 (by omega) (by unfold maxLen; omega) (Nat.le_refl _)
  have o2' : w2.ownsRow W1.heap.size 5 1 (.slice (some ⟨W1.heap.size, 0, none⟩) 128 128) 128 (bv (opX b 128 0)) := by rw [← made_opX]; exact o2
  have hB2 : Below W1.heap.size W1 w2 := (Below.refl _ _).grown g2 (Nat.le_refl _) (by simp)
  have H := Lib.hid (And.intro o2' (And.intro hB2 (And.intro hr hst)))
  have c3 := cell_of_row W1 b0 3 _ _ _ hr
  clear o2 g2 o2' hB2 hr hst
  go_enter Try.func11, Try.ntmps11
  go_wp2_with (at_make; refine wpList_make_run hrun rfl rfl rfl rfl ?_)
  clear c3 hW1 hrun
  go_loopw [15] (fun iv wr => ∃ k : Nat, k ≤ 128 ∧ iv = .int .i64 k ∧ wr.ownsRow W1.heap.size 5 1 (.slice (some ⟨W1.heap.size, 0, none⟩) 128 128) 128 (bv (opX b 128 k)) ∧ Below W1.heap.size W1 wr) (fun iv _ => 128 - (intOf iv).toNat)
  case atStart => exact ⟨0, by omega, rfl, H.out.1, H.out.2.1⟩
  case round =>
    obtain ⟨k, hk, rfl, ok, hBk⟩ := hrel
    by_cases hkn : k < 128
    · have c2 := cell_of_row wr b0 2 _ _ _ (blk_below H.out.2.2.1 hBk)
      have hx0 := ok.cellAt k (by omega)
      have hx : ∃ v, wr.cell? ⟨W1.heap.size, k, none⟩ = some v := ⟨_, hx0.trans (List.getElem?_eq_getElem (by rw [bv_length, opX_length]; exact hkn))⟩
      obtain ⟨v, hx⟩ := hx
      have hf := ok.frozenAt k
      have hI : (k : Int) < 128 := by omega
      have hk0 : (0 : Int) ≤ (k : Int) := by omega
      have Hk := Lib.hid (And.intro hkn (And.intro ok hBk))
      clear hx0 hkn ok hBk hk
      go_wp2_with fail
      obtain ⟨hkn, ok, hBk⟩ := Hk.out
      obtain ⟨o3, g3⟩ := ok.stored k (.int .u8 ((b + UInt8.ofNat (k / 16)).toNat : Int))
      rw [opX_set _ _ _ hkn] at o3
      rw [opX_val]
      exact ⟨⟨k + 1, by omega, by push_cast; rfl, o3, hBk.setCell (Nat.le_refl _) _⟩, by simp [intOf]; omega⟩
    · obtain rfl : k = 128 := by omega
      have HP := Lib.hid (show OpB w b 128 (.returned (.slice (some ⟨W1.heap.size, 0, none⟩) 128 128)) wr from ⟨_, rfl, own_mono ok H.out.2.2.2.size, bnext H.out.2.2.2 hBk⟩)
      clear hkn ok hBk hk
      go_wp2_with fail
      go_ret
      exact HP.out
end Go.Proofs.Ytpleaicpkpjkjaa
