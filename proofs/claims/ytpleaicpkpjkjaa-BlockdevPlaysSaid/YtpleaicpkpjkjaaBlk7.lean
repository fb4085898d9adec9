/-
  A sector of one byte: full of package kilowattlaw12, walked. Conditions stand at each theorem.
-/
import Derived.Test.YtpleaicpkpjkjaaBlk6
namespace Go.Proofs.Ytpleaicpkpjkjaa
open Go Go.RowKit Go.Kw
set_option linter.unusedVariables false
set_option linter.unusedSimpArgs false

def fuX (b : UInt8) (k : Nat) : List UInt8 := (List.range 128).map (fun i => if i < k then b else 0)
theorem fuX_length (b : UInt8) (k : Nat) : (fuX b k).length = 128 := by simp [fuX]
theorem made_fuX (b : UInt8) : (madeCells (Value.int .u8 0).cells (128 * 1)).toList = bv (fuX b 0) := by
  apply List.ext_getElem
  · simp [madeCells, bv, fuX]
  · intro i h1 h2
    simp [madeCells, bv, fuX, Value.cells, Nat.mod_one]
theorem fuX_set (b : UInt8) (k : Nat) (hk : k < 128) : (bv (fuX b k)).set k (.int .u8 (b.toNat : Int)) = bv (fuX b (k + 1)) := by
  apply List.ext_getElem
  · simp [bv, fuX]
  · intro i h1 h2
    rw [List.getElem_set]
    by_cases h : k = i
    · subst h
      rw [if_pos rfl]
      simp [bv, fuX]
    · rw [if_neg h]
      have e : (i < k + 1) = (i < k) := by apply propext; omega
      simp [bv, fuX, e]
def FuB (w : World) (b : UInt8) (e : Ending) (w' : World) : Prop := ∃ A', e = .returned (.slice A' 128 128) ∧ w'.ownsRow w.heap.size 5 1 (.slice A' 128 128) 128 (bv (fuX b 128)) ∧ Below w.heap.size w w'
set_option maxHeartbeats 8000000 in
theorem full_calls (w : World) (b : UInt8) : Calls Try.prog 26 #[.int .u8 (b.toNat : Int)] w (FuB w b) := by
  obtain ⟨w2, hrun, o2, g2⟩ := runMake (P := Try.prog) w w.heap.size eb 128 (by omega) (by unfold maxLen; omega) (Nat.le_refl _)
  have o2' : w2.ownsRow w.heap.size 5 1 (.slice (some ⟨w.heap.size, 0, none⟩) 128 128) 128 (bv (fuX b 0)) := by rw [← made_fuX]; exact o2
  have hB2 : Below w.heap.size w w2 := (Below.refl _ _).grown g2 (Nat.le_refl _) (by simp)
  have H := Lib.hid (And.intro o2' hB2)
  clear o2 g2 o2' hB2
  go_enter Try.func26, Try.ntmps26
  go_wp2_with (at_make; refine wpList_make_run hrun rfl rfl rfl rfl ?_)
  clear hrun
  go_loopw [8] (fun iv wr => ∃ k : Nat, k ≤ 128 ∧ iv = .int .i64 k ∧ wr.ownsRow w.heap.size 5 1 (.slice (some ⟨w.heap.size, 0, none⟩) 128 128) 128 (bv (fuX b k)) ∧ Below w.heap.size w wr) (fun iv _ => 128 - (intOf iv).toNat)
  case atStart => exact ⟨0, by omega, rfl, H.out.1, H.out.2⟩
  case round =>
    obtain ⟨k, hk, rfl, ok, hBk⟩ := hrel
    by_cases hkn : k < 128
    · have hx0 := ok.cellAt k (by omega)
      have hx : ∃ v, wr.cell? ⟨w.heap.size, k, none⟩ = some v := ⟨_, hx0.trans (List.getElem?_eq_getElem (by rw [bv_length, fuX_length]; exact hkn))⟩
      obtain ⟨v, hx⟩ := hx
      have hf := ok.frozenAt k
      have hI : (k : Int) < 128 := by omega
      have hk0 : (0 : Int) ≤ (k : Int) := by omega
      have Hk := Lib.hid (And.intro hkn (And.intro ok hBk))
      clear hx0 hkn ok hBk hk
      go_wp2_with fail
      obtain ⟨hkn, ok, hBk⟩ := Hk.out
      obtain ⟨o3, g3⟩ := ok.stored k (.int .u8 (b.toNat : Int))
      rw [fuX_set _ _ hkn] at o3
      exact ⟨⟨k + 1, by omega, by push_cast; rfl, o3, hBk.setCell (Nat.le_refl _) _⟩, by simp [intOf]; omega⟩
    · obtain rfl : k = 128 := by omega
      have HP := Lib.hid (show FuB w b (.returned (.slice (some ⟨w.heap.size, 0, none⟩) 128 128)) wr from ⟨_, rfl, ok, hBk⟩)
      clear hkn ok hBk hk
      go_wp2_with fail
      go_ret
      exact HP.out
end Go.Proofs.Ytpleaicpkpjkjaa
