/-
  The walk of MbapNames. Conditions: none (closed).
-/
import Derived.Test.YtmfngkhpaadehaaMbapAlive
namespace Go.Proofs.Ytmfngkhpaadehaa
open Go Go.RowKit Go.Kw Go.Kw.Mb
set_option linter.unusedVariables false
set_option linter.unusedSimpArgs false

theorem en1 : mayF (65536, 0, [1]) = false := by decide +kernel
theorem en2 : mayF (0, 256, [1]) = false := by decide +kernel
theorem en3 : mayF (0, 0, []) = false := by decide +kernel
theorem en4 : mayF (0, 0, List.replicate 254 0) = false := by decide +kernel
theorem en5 : mayF (0, 0, List.replicate 253 0) = true := by decide +kernel
theorem en6 : brk [0, 0, 0, 0, 0, 1] = true := by decide +kernel
theorem en7 : brk [0, 0, 0, 0, 0, 255] = true := by decide +kernel
theorem en8 : brk [0, 0, 0, 0, 0] = false := by decide +kernel
theorem en9 : whl [0, 0, 0, 0, 0] = false := by decide +kernel
theorem en10 : (bytesOf (0, 0, List.replicate 253 0)).length = 260 := by decide +kernel
theorem made_zeros (n : Nat) : (madeCells (Value.int .u8 0).cells (n * 1)).toList = bv (List.replicate n 0) := by
  unfold madeCells bv
  apply List.ext_getElem?
  intro i
  by_cases h : i < n <;> simp [Value.cells, h, List.getElem?_replicate, Nat.mod_one]
theorem bytes_no (f : Fr) (hm : mayF f = false) (A : Option Addr) (n c : Nat) (hn : f.2.2.length = n) (hl : n ≤ 4000) (w : World) (hR : RdB w w.heap.size A f.2.2) (hz : A = none → n = 0) :
    Calls Try.prog 10 #[.agg #[.int .i64 f.1, .int .i64 f.2.1, .slice A n c]] w fun e w' => e = .returned (.tuple #[.slice none 0 0, .int .i64 210]) ∧ Below w.heap.size w w' := by
  subst hn
  have := mbapBytes_calls f A c hl w hR hz
  rw [hm, if_neg (by simp)] at this
  exact this
theorem bytes_yes (f : Fr) (hm : mayF f = true) (A : Option Addr) (n c m : Nat) (hn : f.2.2.length = n) (hl : n ≤ 4000) (hlen : (bytesOf f).length = m) (w : World) (hR : RdB w w.heap.size A f.2.2) (hz : A = none → n = 0) :
    Calls Try.prog 10 #[.agg #[.int .i64 f.1, .int .i64 f.2.1, .slice A n c]] w fun e w' => (∃ A' c', e = .returned (.tuple #[.slice A' m c', .int .i64 0])) ∧ Below w.heap.size w w' := by
  subst hn hlen
  have := mbapBytes_calls f A c hl w hR hz
  rw [hm, if_pos rfl] at this
  exact this.mono fun e w' ⟨⟨A', c', h1, _⟩, h2⟩ => ⟨⟨A', c', h1⟩, h2⟩
theorem read_broken (l : List UInt8) (hb : brk l = true) (A : Option Addr) (n c : Nat) (hn : l.length = n) (hl : n ≤ 1000000) (w : World) (hR : RdB w w.heap.size A l) (hz : A = none → n = 0) (hc : n ≤ c) (hc2 : c ≤ 9223372036854775807) :
    Calls Try.prog 12 #[.slice A n c] w fun e w' => e = .returned (.tuple #[.agg #[.int .i64 0, .int .i64 0, .slice none 0 0], .int .i64 0, .int .i64 210]) ∧ Below w.heap.size w w' := by
  subst hn
  have := read_calls A c l hl w hR hz hc hc2
  rw [hb] at this; exact this
theorem read_short (l : List UInt8) (hb : brk l = false) (hw : whl l = false) (A : Option Addr) (n c : Nat) (hn : l.length = n) (hl : n ≤ 1000000) (w : World) (hR : RdB w w.heap.size A l) (hz : A = none → n = 0) (hc : n ≤ c) (hc2 : c ≤ 9223372036854775807) :
    Calls Try.prog 12 #[.slice A n c] w fun e w' => e = .returned (.tuple #[.agg #[.int .i64 0, .int .i64 0, .slice none 0 0], .int .i64 0, .int .i64 0]) ∧ Below w.heap.size w w' := by
  subst hn
  have := read_calls A c l hl w hR hz hc hc2
  rw [hb, hw] at this; exact this

set_option maxRecDepth 100000 in
set_option maxHeartbeats 4000000 in
theorem mbapNames_walk (w : World) : Calls Try.prog 7 #[] w fun e w' => e = .returned (.bool true) ∧ Below w.heap.size w w' := by
  have hb0 := Below.refl w.heap.size w
  go_enter Try.func7, Try.ntmps7
  go_wp2_with fail
  have r1 := rdB_new w #[.int .u8 1] 5 (0, 0) [1] rfl
  refine (bytes_no (65536, 0, [1]) en1 (some ⟨w.heap.size, 0, none⟩) 1 1 rfl (by omega) _ (by simpa using r1) (by simp)).mono ?_
  rintro e w1 ⟨rfl, hx⟩
  have hb1 := bnext (balloc hb0 _) hx
  clear hx r1
  go_wp2_with fail
  have r1 := rdB_new w1 #[.int .u8 1] 5 (0, 0) [1] rfl
  refine (bytes_no (0, 256, [1]) en2 (some ⟨w1.heap.size, 0, none⟩) 1 1 rfl (by omega) _ (by simpa using r1) (by simp)).mono ?_
  rintro e w2 ⟨rfl, hx⟩
  have hb2 := bnext (balloc hb1 _) hx
  clear hx r1 hb1
  go_wp2_with fail
  refine (bytes_no (0, 0, []) en3 none 0 0 rfl (by omega) _ (.inl rfl) (by simp)).mono ?_
  rintro e w3 ⟨rfl, hx⟩
  have hb3 := bnext hb2 hx
  clear hx hb2
  obtain ⟨w4, hrun, o4, g4⟩ := runMake (P := Try.prog) w3 w3.heap.size eb 254 (by omega) (by unfold maxLen; omega) (Nat.le_refl _)
  rw [made_zeros] at o4
  have hb4 := bnext hb3 ((Below.refl _ w3).grown g4 (Nat.le_refl _) (by simp))
  have hrun' := Lib.hid (show (Instr.makeSlice 22 (.int .i64 254) (.int .i64 254)).run Try.prog w3 = _ from hrun)
  clear g4 hb3 hrun
  go_wp2_with (at_make; refine wpList_make_run hrun'.out rfl rfl rfl rfl ?_)
  refine (bytes_no (0, 0, List.replicate 254 0) en4 (some ⟨w3.heap.size, 0, none⟩) 254 254 (by simp) (by omega) _ (rdB_own o4).1 (by simp)).mono ?_
  rintro e w5 ⟨rfl, hx⟩
  have hb5 := bnext hb4 hx
  clear hx hb4 o4
  obtain ⟨w6, hrun, o6, g6⟩ := runMake (P := Try.prog) w5 w5.heap.size eb 253 (by omega) (by unfold maxLen; omega) (Nat.le_refl _)
  rw [made_zeros] at o6
  have hb6 := bnext hb5 ((Below.refl _ w5).grown g6 (Nat.le_refl _) (by simp))
  have hrun2 := Lib.hid (show (Instr.makeSlice 22 (.int .i64 253) (.int .i64 253)).run Try.prog w5 = _ from hrun)
  clear g6 hb5 hrun
  go_wp2_with (at_make; refine wpList_make_run hrun2.out rfl rfl rfl rfl ?_)
  refine (bytes_yes (0, 0, List.replicate 253 0) en5 (some ⟨w5.heap.size, 0, none⟩) 253 253 260 (by simp) (by omega) en10 _ (rdB_own o6).1 (by simp)).mono ?_
  rintro e w7 ⟨⟨A7, c7, rfl⟩, hx⟩
  have hb7 := bnext hb6 hx
  clear hx hb6 o6
  go_wp2_with fail
  have r1 := rdB_new w7 #[.int .u8 0, .int .u8 0, .int .u8 0, .int .u8 0, .int .u8 0, .int .u8 1] 5 (0, 0) [0, 0, 0, 0, 0, 1] rfl
  refine (read_broken [0, 0, 0, 0, 0, 1] en6 (some ⟨w7.heap.size, 0, none⟩) 6 6 rfl (by omega) _ (by simpa using r1) (by simp) (by omega) (by omega)).mono ?_
  rintro e w8 ⟨rfl, hx⟩
  have hb8 := bnext (balloc hb7 _) hx
  clear hx r1 hb7
  go_wp2_with fail
  have hb8' := balloc hb8 (.cells #[.int .i64 0, .int .i64 0, .slice none 0 0] 24)
  have r1 := rdB_new (w8.alloc (.cells #[.int .i64 0, .int .i64 0, .slice none 0 0] 24)) #[.int .u8 0, .int .u8 0, .int .u8 0, .int .u8 0, .int .u8 0, .int .u8 255] 5 (0, 0) [0, 0, 0, 0, 0, 255] rfl
  refine (read_broken [0, 0, 0, 0, 0, 255] en7 (some ⟨w8.heap.size + 1, 0, none⟩) 6 6 rfl (by omega) _ (by simpa using r1) (by simp) (by omega) (by omega)).mono ?_
  rintro e w9 ⟨rfl, hx⟩
  have hb9 := bnext (balloc hb8' _) hx
  clear hx r1 hb8 hb8'
  go_wp2_with fail
  have hb9' := balloc hb9 (.cells #[.int .i64 0, .int .i64 0, .slice none 0 0] 24)
  have r1 := rdB_new (w9.alloc (.cells #[.int .i64 0, .int .i64 0, .slice none 0 0] 24)) #[.int .u8 0, .int .u8 0, .int .u8 0, .int .u8 0, .int .u8 0] 5 (0, 0) [0, 0, 0, 0, 0] rfl
  refine (read_short [0, 0, 0, 0, 0] en8 en9 (some ⟨w9.heap.size + 1, 0, none⟩) 5 5 rfl (by omega) _ (by simpa using r1) (by simp) (by omega) (by omega)).mono ?_
  rintro e w10 ⟨rfl, hx⟩
  have hb10 := bnext (balloc hb9' _) hx
  clear hx r1 hb9 hb9'
  go_wp2_with fail
  have hb11 := balloc hb10 (.cells #[.int .i64 0, .int .i64 0, .slice none 0 0] 24)
  refine (reset_none _).mono ?_
  rintro e w11 ⟨⟨u, rfl⟩, rfl⟩
  clear hb10
  go_wp2_with fail
  refine (feed_none none 0 0 _).mono ?_
  rintro e w11 ⟨rfl, rfl⟩
  go_wp2_with fail
  refine (alive_calls _).mono ?_
  rintro e w12 ⟨rfl, hx⟩
  have hb12 := bnext hb11 hx
  clear hx hb11
  go_wp2_with fail
  refine (left_none _).mono ?_
  rintro e w13 ⟨rfl, rfl⟩
  go_wp2_with fail
  refine (isBroken_none _).mono ?_
  rintro e w13 ⟨rfl, rfl⟩
  go_wp2_with fail
  go_ret
  exact ⟨rfl, hb12⟩
end Go.Proofs.Ytmfngkhpaadehaa
