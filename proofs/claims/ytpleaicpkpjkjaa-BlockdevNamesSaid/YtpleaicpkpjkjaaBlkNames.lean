/-
  BlockdevNames, walked: the chapter's examples, a full cache, calls on none. Conditions stand at each theorem. (Printed by gen_blknames.py.)
-/
import Derived.Test.YtpleaicpkpjkjaaBlk22
namespace Go.Proofs.Ytpleaicpkpjkjaa
open Go Go.RowKit Go.Kw
set_option linter.unusedVariables false
set_option linter.unusedSimpArgs false

def bC : List UInt8 := fuX 99 128
def bD : List UInt8 := fuX 100 128
theorem bC_len : bC.length = 128 := fuX_length _ _
theorem bD_len : bD.length = 128 := fuX_length _ _
def zS : List UInt8 := List.replicate 128 0
def nmE (S : List (List UInt8)) (C : List (Nat × List UInt8)) (p : Int) (dn : Bool) (k : Int) : Dv := { S := S, C := C, p := p, dn := dn, k := k }
def s0 : List (List UInt8) := List.replicate 4 zS
def s1 : List (List UInt8) := [bB, zS, zS, zS]
def cN (i : Nat) : List (Nat × List UInt8) := List.replicate i (3, bC)
theorem e_rest0 : restV (nmE s0 [] 0 false 0) [] 0 0 = (2, nmE s0 [] 0 false 0) := rfl
theorem e_put4 : putV (nmE s0 [] 0 false 0) 4 bA = (121, nmE s0 [] 0 false 0) := rfl
theorem tail_len : (bA.drop 1).length = 127 := by rw [List.length_drop, bA_len]
theorem e_put127 : putV (nmE s0 [] 0 false 0) 0 (bA.drop 1) = (2, nmE s0 [] 0 false 0) := by
  have h := tail_len
  simp only [putV, putE, h, nmE, s0]; rfl
theorem e_planm : planV (nmE s0 [] 0 false 0) (-1) = (2, nmE s0 [] 0 false 0) := rfl
theorem e_plan2 : planV (nmE s0 [] 0 false 0) 2 = (0, nmE s0 [] 2 false 0) := rfl
theorem e_putA : putV (nmE s0 [] 2 false 0) 0 bA = (0, nmE s0 [(0, bA)] 1 false 1) := by
  have h := bA_len
  simp only [putV, putE, h, nmE, s0]; rfl
theorem e_putB : putV (nmE s0 [(0, bA)] 1 false 1) 0 bB = (120, nmE s0 [(0, bA), (0, bB)] 0 true 2) := by
  have h := bB_len
  simp only [putV, putE, h, nmE, s0]; rfl
theorem e_flushd : flushV (nmE s0 [(0, bA), (0, bB)] 0 true 2) = (120, nmE s0 [(0, bA), (0, bB)] 0 true 2) := rfl
theorem e_pland : planV (nmE s0 [(0, bA), (0, bB)] 0 true 2) 1 = (120, nmE s0 [(0, bA), (0, bB)] 0 true 2) := rfl
theorem e_put9 : putV (nmE s0 [(0, bA), (0, bB)] 0 true 2) 9 [] = (120, nmE s0 [(0, bA), (0, bB)] 0 true 2) := rfl
theorem manyA : many [2] (-1) 0 0 = 0 := by decide
theorem manyB : many [2] (-1) 0 1 = 128 := by decide
theorem e_rest2 : restV (nmE s0 [(0, bA), (0, bB)] 0 true 2) [2] (-1) 0 = (0, nmE s1 [] 0 false 2) := by
  have hb := bB_len
  have e1 : bB.take 128 = bB := by rw [← hb, List.take_length]
  have z1 : zS.length = 128 := by simp [zS]
  simp [restV, nmE, crS, manyA, manyB, List.replicate, e1, s0, s1, z1]
theorem e_seen0 : seenD (nmE s1 [] 0 false 2) 0 = bB := rfl
theorem cN_succ (i : Nat) : cN i ++ [(3, bC)] = cN (i + 1) := by unfold cN; rw [List.replicate_succ']
theorem cN_len (i : Nat) : (cN i).length = i := List.length_replicate
theorem e_putC (i : Nat) (hi : i < 256) (k : Int) : putV (nmE s1 (cN i) 0 false k) 3 bC = (0, nmE s1 (cN (i + 1)) 0 false (k + 1)) := by
  have h := bC_len
  have h2 : ¬ (256 ≤ i) := by omega
  simp [putV, putE, h, nmE, s1, cN_len, h2, cntV, planN, cN_succ]
theorem e_putD1 (k : Int) : putV (nmE s1 (cN 256) 0 false k) 3 bD = (122, nmE s1 (cN 256) 0 false k) := by
  have h := bD_len
  simp [putV, putE, h, nmE, s1, cN_len]
theorem flS_3 (S : List (List UInt8)) (hS : 3 < S.length) : (flS (cN 256) S 256).getD 3 [] = bC := by
  have e : (cN 256).getD 255 default = (3, bC) := by unfold cN; rw [List.getD_eq_getElem?_getD, List.getElem?_replicate, if_pos (by omega)]; rfl
  rw [flS, e, List.getD_eq_getElem?_getD, List.getElem?_set_self (by rw [flS_length]; exact hS)]; rfl
def s2 : List (List UInt8) := flS (cN 256) s1 256
theorem e_flush (k : Int) : flushV (nmE s1 (cN 256) 0 false k) = (0, nmE s2 [] 0 false (k + 1)) := by
  simp [flushV, nmE, cntV, planN, cN_len, s2]
theorem s2_len : s2.length = 4 := by unfold s2; rw [flS_length]; rfl
theorem e_putD2 (k : Int) : putV (nmE s2 [] 0 false k) 3 bD = (0, nmE s2 [(3, bD)] 0 false (k + 1)) := by
  have h := bD_len
  simp [putV, putE, h, nmE, s2_len, cntV, planN]
theorem e_plan1 (k : Int) : planV (nmE s2 [(3, bD)] 0 false k) 1 = (0, nmE s2 [(3, bD)] 1 false k) := by simp [planV, nmE]
theorem e_flushe (k : Int) : flushV (nmE s2 [(3, bD)] 1 false k) = (120, nmE s2 [(3, bD)] 0 true (k + 1)) := by simp [flushV, nmE, cntV]
theorem s2_3 : s2.getD 3 [] = bC := flS_3 s1 (by decide)
set_option maxRecDepth 100000 in
set_option maxHeartbeats 64000000 in
theorem blockdevNames_walk (w : World) : Calls Try.prog 6 #[] w fun e w' => e = .returned (.bool true) ∧ Below w.heap.size w w' := by
  go_enter Try.func6, Try.ntmps6
  have HX := Lib.hid (show Calls Try.prog 9 #[.int .i64 4] w _ from LD_new w w (Below.refl _ _) 4 (by omega) (by omega))
  go_wp2_with fail
  refine HX.out.mono ?_
  rintro e w1 ⟨d, sb, rfl, hS, -⟩
  clear HX
  have hS : LD w d sb 4 (nmE s0 [] 0 false 0) (fun _ => False) w1 := hS
  have HX := Lib.hid (show Calls Try.prog 16 #[.pointer (some ⟨d, 0, none⟩), .agg #[.slice none 0 0, .int .i64 0, .int .i64 0]] w1 (fun e W' => e = .returned (.int .i64 2) ∧ LD w d sb 4 (nmE s0 [] 0 false 0) (fun _ => False) W' ∧ Kept (fun _ => False) w1 W') from by
    have h := hS.restart none 0 [] 0 0 (RdY.nil _ _ _)
    rw [e_rest0] at h
    exact h)
  have HS := Lib.hid hS
  clear hS
  go_wp2_with fail
  refine HX.out.mono ?_
  rintro e w2 ⟨rfl, hS, -⟩
  clear HX HS
  have HX := Lib.hid (show Calls Try.prog 26 #[.int .u8 97] w2 _ from full_calls w2 97)
  have HS := Lib.hid hS
  clear hS
  go_wp2_with fail
  refine HX.out.mono ?_
  rintro e w3 ⟨AA, rfl, ho, hb⟩
  clear HX
  have HX := Lib.hid (show Calls Try.prog 10 #[.pointer (some ⟨d, 0, none⟩), .int .i64 4, .slice AA 128 128] w3 (fun e W' => e = .returned (.int .i64 121) ∧ LD w d sb 4 (nmE s0 [] 0 false 0) (fun _ => False) W' ∧ Kept (fun _ => False) w3 W') from by
    have h := HS.out.write hb (by show (0 : Int) ≤ _ ∧ _ < (4611686018427387904 : Int); decide) (l := bA) ho (4 : Int)
    rw [e_put4] at h
    exact h)
  clear ho hb HS
  go_wp2_with fail
  refine HX.out.mono ?_
  rintro e w4 ⟨rfl, hS, -⟩
  clear HX
  have HX := Lib.hid (show Calls Try.prog 26 #[.int .u8 97] w4 _ from full_calls w4 97)
  have HS := Lib.hid hS
  clear hS
  go_wp2_with fail
  refine HX.out.mono ?_
  rintro e w5 ⟨AA, rfl, ho, hb⟩
  clear HX
  obtain ⟨gA, rfl⟩ := own_some ho (by omega)
  have HX := Lib.hid (show Calls Try.prog 10 #[.pointer (some ⟨d, 0, none⟩), .int .i64 0, .slice (some ⟨gA, 1, none⟩) 127 127] w5 (fun e W' => e = .returned (.int .i64 2) ∧ LD w d sb 4 (nmE s0 [] 0 false 0) (fun _ => False) W' ∧ Kept (fun _ => False) w5 W') from by
    have hR := RdY.drop (off := 0) (RdY.of_own ho (fun b hb => hb)) 1
    have h := HS.out.writeR hb (by show (0 : Int) ≤ _ ∧ _ < (4611686018427387904 : Int); decide) (l := bA.drop 1) (n := 127) (c := 127) tail_len.symm hR 0
    rw [e_put127] at h
    exact h)
  clear ho hb HS
  go_wp2_with fail
  refine HX.out.mono ?_
  rintro e w6 ⟨rfl, hS, -⟩
  clear HX
  have HX := Lib.hid (show Calls Try.prog 18 #[.pointer (some ⟨d, 0, none⟩), .int .i64 (-1)] w6 (fun e W' => e = .returned (.int .i64 2) ∧ LD w d sb 4 (nmE s0 [] 0 false 0) (fun _ => False) W' ∧ Kept (fun _ => False) w6 W') from by
    have h := hS.plan (-1) (by omega)
    rw [e_planm] at h
    exact h)
  have HS := Lib.hid hS
  clear hS
  go_wp2_with fail
  refine HX.out.mono ?_
  rintro e w7 ⟨rfl, hS, -⟩
  clear HX HS
  have HX := Lib.hid (show Calls Try.prog 18 #[.pointer (some ⟨d, 0, none⟩), .int .i64 2] w7 (fun e W' => e = .returned (.int .i64 0) ∧ LD w d sb 4 (nmE s0 [] 2 false 0) (fun _ => False) W' ∧ Kept (fun _ => False) w7 W') from by
    have h := hS.plan 2 (by omega)
    rw [e_plan2] at h
    exact h)
  have HS := Lib.hid hS
  clear hS
  go_wp2_with fail
  refine HX.out.mono ?_
  rintro e w8 ⟨rfl, hS, -⟩
  clear HX HS
  have HX := Lib.hid (show Calls Try.prog 26 #[.int .u8 97] w8 _ from full_calls w8 97)
  have HS := Lib.hid hS
  clear hS
  go_wp2_with fail
  refine HX.out.mono ?_
  rintro e w9 ⟨AA, rfl, ho, hb⟩
  clear HX
  have HX := Lib.hid (show Calls Try.prog 10 #[.pointer (some ⟨d, 0, none⟩), .int .i64 0, .slice AA 128 128] w9 (fun e W' => e = .returned (.int .i64 0) ∧ LD w d sb 4 (nmE s0 [(0, bA)] 1 false 1) (fun _ => False) W' ∧ Kept (fun _ => False) w9 W') from by
    have h := HS.out.write hb (by show (0 : Int) ≤ _ ∧ _ < (4611686018427387904 : Int); decide) (l := bA) ho (0 : Int)
    rw [e_putA] at h
    exact h)
  clear ho hb HS
  go_wp2_with fail
  refine HX.out.mono ?_
  rintro e w10 ⟨rfl, hS, -⟩
  clear HX
  have HX := Lib.hid (show Calls Try.prog 26 #[.int .u8 98] w10 _ from full_calls w10 98)
  have HS := Lib.hid hS
  clear hS
  go_wp2_with fail
  refine HX.out.mono ?_
  rintro e w11 ⟨AA, rfl, ho, hb⟩
  clear HX
  have HX := Lib.hid (show Calls Try.prog 10 #[.pointer (some ⟨d, 0, none⟩), .int .i64 0, .slice AA 128 128] w11 (fun e W' => e = .returned (.int .i64 120) ∧ LD w d sb 4 (nmE s0 [(0, bA), (0, bB)] 0 true 2) (fun _ => False) W' ∧ Kept (fun _ => False) w11 W') from by
    have h := HS.out.write hb (by show (0 : Int) ≤ _ ∧ _ < (4611686018427387904 : Int); decide) (l := bB) ho (0 : Int)
    rw [e_putB] at h
    exact h)
  clear ho hb HS
  go_wp2_with fail
  refine HX.out.mono ?_
  rintro e w12 ⟨rfl, hS, -⟩
  clear HX
  have HX := Lib.hid (show Calls Try.prog 19 #[.pointer (some ⟨d, 0, none⟩)] w12 _ from hS.down)
  have HS := Lib.hid hS
  clear hS
  go_wp2_with fail
  refine HX.out.mono ?_
  rintro e w13 ⟨rfl, hb⟩
  have hS := HS.out.go hb
  clear HX HS hb
  have HX := Lib.hid (show Calls Try.prog 13 #[.pointer (some ⟨d, 0, none⟩), .int .i64 0] w13 _ from hS.readDown rfl 0)
  have HS := Lib.hid hS
  clear hS
  go_wp2_with fail
  refine HX.out.mono ?_
  rintro e w14 ⟨rfl, hb⟩
  have hS := HS.out.go hb
  clear HX HS hb
  have HX := Lib.hid (show Calls Try.prog 12 #[.pointer (some ⟨d, 0, none⟩)] w14 (fun e W' => e = .returned (.int .i64 120) ∧ LD w d sb 4 (nmE s0 [(0, bA), (0, bB)] 0 true 2) (fun _ => False) W' ∧ Kept (fun _ => False) w14 W') from by
    have h := hS.flush (by show (0 : Int) ≤ _ ∧ _ < (4611686018427387904 : Int); decide)
    rw [e_flushd] at h
    exact h)
  have HS := Lib.hid hS
  clear hS
  go_wp2_with fail
  refine HX.out.mono ?_
  rintro e w15 ⟨rfl, hS, -⟩
  clear HX HS
  have HX := Lib.hid (show Calls Try.prog 18 #[.pointer (some ⟨d, 0, none⟩), .int .i64 1] w15 (fun e W' => e = .returned (.int .i64 120) ∧ LD w d sb 4 (nmE s0 [(0, bA), (0, bB)] 0 true 2) (fun _ => False) W' ∧ Kept (fun _ => False) w15 W') from by
    have h := hS.plan 1 (by omega)
    rw [e_pland] at h
    exact h)
  have HS := Lib.hid hS
  clear hS
  go_wp2_with fail
  refine HX.out.mono ?_
  rintro e w16 ⟨rfl, hS, -⟩
  clear HX HS
  have HX := Lib.hid (show Calls Try.prog 10 #[.pointer (some ⟨d, 0, none⟩), .int .i64 9, .slice none 0 0] w16 (fun e W' => e = .returned (.int .i64 120) ∧ LD w d sb 4 (nmE s0 [(0, bA), (0, bB)] 0 true 2) (fun _ => False) W' ∧ Kept (fun _ => False) w16 W') from by
    have h := hS.writeR (Below.refl _ _) (by show (0 : Int) ≤ _ ∧ _ < (4611686018427387904 : Int); decide) (A := none) (n := 0) (c := 0) (l := []) rfl (RdY.nil _ _ _) 9
    rw [e_put9] at h
    exact h)
  have HS := Lib.hid hS
  clear hS
  go_wp2_with fail
  refine HX.out.mono ?_
  rintro e w17 ⟨rfl, hS, -⟩
  clear HX HS
  have hst := bstep w17 (.cells #[.int .u8 2] 5)
  have hrd : RdY (w17.alloc (.cells #[.int .u8 2] 5)) (fun b => b ≠ sb) (some ⟨w17.heap.size, 0, none⟩) [2] := by
    refine .inr ⟨w17.heap.size, 0, rfl, by have := hS.lt.2.1; omega, by simp, fun i hi => ?_⟩
    have hi : i < 1 := hi
    obtain rfl : i = 0 := by omega
    exact blk_cell (blk_new w17 #[.int .u8 2] 5) 0 rfl
  have HX := Lib.hid (show Calls Try.prog 16 #[.pointer (some ⟨d, 0, none⟩), .agg #[.slice (some ⟨w17.heap.size, 0, none⟩) 1 1, .int .i64 (-1), .int .i64 0]] (w17.alloc (.cells #[.int .u8 2] 5)) (fun e W' => e = .returned (.int .i64 0) ∧ LD w d sb 4 (nmE s1 [] 0 false 2) (fun _ => False) W' ∧ Kept (fun _ => False) (w17.alloc (.cells #[.int .u8 2] 5)) W') from by
    have h := (hS.go hst).restart (some ⟨w17.heap.size, 0, none⟩) 1 [2] (-1) 0 hrd
    rw [e_rest2] at h
    exact h)
  clear hS hst hrd
  go_wp2_with fail
  refine HX.out.mono ?_
  rintro e w18 ⟨rfl, hS, -⟩
  clear HX
  have HX := Lib.hid (show Calls Try.prog 26 #[.int .u8 98] w18 _ from full_calls w18 98)
  have HS := Lib.hid hS
  clear hS
  go_wp2_with fail
  refine HX.out.mono ?_
  rintro e w19 ⟨AA, rfl, ho, hb⟩
  clear HX
  have hS := HS.out.go hb
  have HX := Lib.hid (show Calls Try.prog 27 #[.pointer (some ⟨d, 0, none⟩), .int .i64 0, .slice AA 128 128] w19 (fun e W' => e = .returned (.bool true) ∧ Below w19.heap.size w19 W') from by
    obtain ⟨g, rfl⟩ := own_some ho (by omega)
    have h := reads_calls hS 0 (show 0 < 4 by omega) rfl (some ⟨g, 0, none⟩) 128 128 bB rfl (rdB_own ho).1 (fun e => by cases e)
    rw [e_seen0, beq_self_eq_true] at h
    exact h)
  clear ho hb HS
  have HS := Lib.hid hS
  clear hS
  go_wp2_with fail
  refine HX.out.mono ?_
  rintro e w20 ⟨rfl, hb⟩
  have hS := HS.out.go hb
  clear HX HS hb
  have HX := Lib.hid (show Calls Try.prog 17 #[.pointer (some ⟨d, 0, none⟩)] w20 _ from hS.calls)
  have HS := Lib.hid hS
  clear hS
  go_wp2_with fail
  refine HX.out.mono ?_
  rintro e w21 ⟨rfl, hb⟩
  have hS := HS.out.go hb
  clear HX HS hb
  have HS := Lib.hid hS
  clear hS
  go_wp2_with fail
  go_loopw [135] (fun iv wr => ∃ i : Nat, i ≤ 256 ∧ iv = .int .i64 i ∧ LD w d sb 4 (nmE s1 (cN i) 0 false (2 + (i : Int))) (fun _ => False) wr) (fun iv _ => 256 - (intOf iv).toNat)
  case atStart => exact ⟨0, by omega, rfl, HS.out⟩
  case round =>
    obtain ⟨i, hi, rfl, hS⟩ := hrel
    clear HS
    by_cases hlt : i < 256
    · have hI : (i : Int) < 256 := by omega
      have Hi := Lib.hid hlt
      have X1 := Lib.hid (wrap64_in' ((i : Int) + 1) (by omega))
      have HX := Lib.hid (show Calls Try.prog 26 #[.int .u8 99] wr _ from full_calls wr 99)
      have HS := Lib.hid hS
      clear hS hlt hi
      go_wp2_with fail
      refine HX.out.mono ?_
      rintro e u1 ⟨AA, rfl, ho, hb⟩
      clear HX
      have HX := Lib.hid (show Calls Try.prog 10 #[.pointer (some ⟨d, 0, none⟩), .int .i64 3, .slice AA 128 128] u1 (fun e W' => e = .returned (.int .i64 0) ∧ LD w d sb 4 (nmE s1 (cN (i + 1)) 0 false (2 + (i : Int) + 1)) (fun _ => False) W' ∧ Kept (fun _ => False) u1 W') from by
        have h := HS.out.write hb (by show (0 : Int) ≤ 2 + (i : Int) ∧ 2 + (i : Int) < 4611686018427387904; have := Hi.out; omega) (l := bC) ho (3 : Int)
        rw [e_putC i Hi.out] at h
        exact h)
      clear ho hb HS
      go_wp2_with fail
      refine HX.out.mono ?_
      rintro e u2 ⟨rfl, hS, -⟩
      have HS := Lib.hid hS
      clear HX hS
      go_wp2_with fail
      try rw [X1.out]
      exact ⟨⟨i + 1, Hi.out, by push_cast; rfl, by have h := HS.out; rw [show ((2 : Int) + (i : Int) + 1) = 2 + ((i + 1 : Nat) : Int) by push_cast; omega] at h; exact h⟩, by have := Hi.out; simp [intOf]; omega⟩
    · obtain rfl : i = 256 := by omega
      have hS : LD w d sb 4 (nmE s1 (cN 256) 0 false 258) (fun _ => False) wr := hS
      clear hlt hi
      have HX := Lib.hid (show Calls Try.prog 26 #[.int .u8 100] wr _ from full_calls wr 100)
      have HS := Lib.hid hS
      clear hS
      go_wp2_with fail
      refine HX.out.mono ?_
      rintro e w22 ⟨AA, rfl, ho, hb⟩
      clear HX
      have HX := Lib.hid (show Calls Try.prog 10 #[.pointer (some ⟨d, 0, none⟩), .int .i64 3, .slice AA 128 128] w22 (fun e W' => e = .returned (.int .i64 122) ∧ LD w d sb 4 (nmE s1 (cN 256) 0 false 258) (fun _ => False) W' ∧ Kept (fun _ => False) w22 W') from by
        have h := HS.out.write hb (by show (0 : Int) ≤ _ ∧ _ < (4611686018427387904 : Int); decide) (l := bD) ho (3 : Int)
        rw [e_putD1] at h
        exact h)
      clear ho hb HS
      go_wp2_with fail
      refine HX.out.mono ?_
      rintro e w23 ⟨rfl, hS, -⟩
      clear HX
      have HX := Lib.hid (show Calls Try.prog 12 #[.pointer (some ⟨d, 0, none⟩)] w23 (fun e W' => e = .returned (.int .i64 0) ∧ LD w d sb 4 (nmE s2 [] 0 false 259) (fun _ => False) W' ∧ Kept (fun _ => False) w23 W') from by
        have h := hS.flush (by show (0 : Int) ≤ _ ∧ _ < (4611686018427387904 : Int); decide)
        rw [e_flush] at h
        exact h)
      have HS := Lib.hid hS
      clear hS
      go_wp2_with fail
      refine HX.out.mono ?_
      rintro e w24 ⟨rfl, hS, -⟩
      clear HX HS
      have HX := Lib.hid (show Calls Try.prog 26 #[.int .u8 100] w24 _ from full_calls w24 100)
      have HS := Lib.hid hS
      clear hS
      go_wp2_with fail
      refine HX.out.mono ?_
      rintro e w25 ⟨AA, rfl, ho, hb⟩
      clear HX
      have HX := Lib.hid (show Calls Try.prog 10 #[.pointer (some ⟨d, 0, none⟩), .int .i64 3, .slice AA 128 128] w25 (fun e W' => e = .returned (.int .i64 0) ∧ LD w d sb 4 (nmE s2 [(3, bD)] 0 false 260) (fun _ => False) W' ∧ Kept (fun _ => False) w25 W') from by
        have h := HS.out.write hb (by show (0 : Int) ≤ _ ∧ _ < (4611686018427387904 : Int); decide) (l := bD) ho (3 : Int)
        rw [e_putD2] at h
        exact h)
      clear ho hb HS
      go_wp2_with fail
      refine HX.out.mono ?_
      rintro e w26 ⟨rfl, hS, -⟩
      clear HX
      have HX := Lib.hid (show Calls Try.prog 18 #[.pointer (some ⟨d, 0, none⟩), .int .i64 1] w26 (fun e W' => e = .returned (.int .i64 0) ∧ LD w d sb 4 (nmE s2 [(3, bD)] 1 false 260) (fun _ => False) W' ∧ Kept (fun _ => False) w26 W') from by
        have h := hS.plan 1 (by omega)
        rw [e_plan1] at h
        exact h)
      have HS := Lib.hid hS
      clear hS
      go_wp2_with fail
      refine HX.out.mono ?_
      rintro e w27 ⟨rfl, hS, -⟩
      clear HX HS
      have HX := Lib.hid (show Calls Try.prog 12 #[.pointer (some ⟨d, 0, none⟩)] w27 (fun e W' => e = .returned (.int .i64 120) ∧ LD w d sb 4 (nmE s2 [(3, bD)] 0 true 261) (fun _ => False) W' ∧ Kept (fun _ => False) w27 W') from by
        have h := hS.flush (by show (0 : Int) ≤ _ ∧ _ < (4611686018427387904 : Int); decide)
        rw [e_flushe] at h
        exact h)
      have HS := Lib.hid hS
      clear hS
      go_wp2_with fail
      refine HX.out.mono ?_
      rintro e w28 ⟨rfl, hS, -⟩
      clear HX HS
      have HX := Lib.hid (show Calls Try.prog 21 #[.pointer (some ⟨d, 0, none⟩), .int .i64 3] w28 _ from hS.safe 3 (by show 3 < s2.length; rw [s2_len]; omega))
      have HS := Lib.hid hS
      clear hS
      go_wp2_with fail
      refine HX.out.mono ?_
      rintro e w29 ⟨AS, cS, rfl, ho, hb⟩
      obtain ⟨gS, rfl⟩ := own_some ho (by omega)
      rw [show (nmE s2 [(3, bD)] 0 true 261).S.getD 3 [] = bC from s2_3] at ho
      have cs : w29.cell? ⟨gS, 0, none⟩ = some (.int .u8 99) := ho.cellAt 0 (by omega)
      have HB := Lib.hid (bnext HS.out.below hb)
      clear HX HS ho hb
      have HX := Lib.hid (show Calls Try.prog 9 #[.int .i64 0] w29 _ from dNew_bad w29 0 (by omega))
      go_wp2_with fail
      refine HX.out.mono ?_
      rintro e w30 ⟨rfl, hb⟩
      have HB2 := Lib.hid (bnext HB.out hb)
      clear HX HB cs
      have HB := Lib.hid HB2.out
      clear HB2 hb
      have HX := Lib.hid (show Calls Try.prog 9 #[.int .i64 65537] w30 _ from dNew_bad w30 65537 (by omega))
      go_wp2_with fail
      refine HX.out.mono ?_
      rintro e w31 ⟨rfl, hb⟩
      have HB2 := Lib.hid (bnext HB.out hb)
      clear HX HB
      have HB := Lib.hid HB2.out
      clear HB2 hb
      have hz0 : (w31.alloc (.cells #[.slice none 0 0, .slice none 0 0, .int .i64 0, .bool false, .int .i64 0] 67)).heap[w31.heap.size]? = some (.cells #[.slice none 0 0, .slice none 0 0, .int .i64 0, .bool false, .int .i64 0] 67 (0, 0)) := blk_new w31 _ _
      have hst := bstep w31 (.cells #[.slice none 0 0, .slice none 0 0, .int .i64 0, .bool false, .int .i64 0] 67)
      obtain ⟨z, hz⟩ : ∃ z, w31.heap.size = z := ⟨_, rfl⟩
      rw [hz] at hz0
      have Hz := Lib.hid hz0
      have HB2 := Lib.hid (bnext HB.out hst)
      clear HB hz0 hst
      have HB := Lib.hid HB2.out
      clear HB2
      obtain ⟨wz, hwz⟩ : ∃ wz, w31.alloc (.cells #[.slice none 0 0, .slice none 0 0, .int .i64 0, .bool false, .int .i64 0] 67) = wz := ⟨_, rfl⟩
      rw [hwz] at HB Hz
      have HX := Lib.hid (show Calls Try.prog 13 #[.pointer none, .int .i64 0] wz _ from dRead_no wz none 0 1 (by decide) (fun w' _ => dup_nil w' 0))
      go_wp2_with fail
      refine HX.out.mono ?_
      rintro e w32 ⟨rfl, hb⟩
      have HB2 := Lib.hid (bnext HB.out hb)
      have Hz2 := Lib.hid (blk_below Hz.out hb)
      clear HX HB Hz
      have HB := Lib.hid HB2.out
      have Hz := Lib.hid Hz2.out
      clear HB2 Hz2 hb
      have HX := Lib.hid (show Calls Try.prog 21 #[.pointer (some ⟨z, 0, none⟩), .int .i64 0] w32 _ from dSafe_none w32 _ 0 (zero_none Hz.out))
      go_wp2_with fail
      refine HX.out.mono ?_
      rintro e w33 ⟨rfl, hb⟩
      have HB2 := Lib.hid (bnext HB.out hb)
      have Hz2 := Lib.hid (blk_below Hz.out hb)
      clear HX HB Hz hwz hz
      have HB := Lib.hid HB2.out
      have Hz := Lib.hid Hz2.out
      clear HB2 Hz2 hb
      have HX := Lib.hid (show Calls Try.prog 7 #[] w33 _ from alive_calls w33)
      go_wp2_with fail
      refine HX.out.mono ?_
      rintro e w34 ⟨rfl, hb⟩
      have HB2 := Lib.hid (bnext HB.out hb)
      have Hz2 := Lib.hid (blk_below Hz.out hb)
      clear HX HB Hz
      have HB := Lib.hid HB2.out
      have Hz := Lib.hid Hz2.out
      clear HB2 Hz2 hb
      have HX := Lib.hid (show Calls Try.prog 10 #[.pointer none, .int .i64 0, .slice none 0 0] w34 _ from dWrite_no w34 none 0 none 0 0 1 (by decide) (fun _ _ => trivial) (fun w' _ => dup_nil w' 0))
      go_wp2_with fail
      refine HX.out.mono ?_
      rintro e w35 ⟨rfl, hb⟩
      have HB2 := Lib.hid (bnext HB.out hb)
      have Hz2 := Lib.hid (blk_below Hz.out hb)
      clear HX HB Hz
      have HB := Lib.hid HB2.out
      have Hz := Lib.hid Hz2.out
      clear HB2 Hz2 hb
      have HX := Lib.hid (show Calls Try.prog 12 #[.pointer (some ⟨z, 0, none⟩)] w35 _ from dFlush_no w35 (some ⟨z, 0, none⟩) 1 (by decide) (fun w' hb => zero_up (blk_below Hz.out hb) 0))
      go_wp2_with fail
      refine HX.out.mono ?_
      rintro e w36 ⟨rfl, hb⟩
      have HB2 := Lib.hid (bnext HB.out hb)
      have Hz2 := Lib.hid (blk_below Hz.out hb)
      clear HX HB Hz
      have HB := Lib.hid HB2.out
      have Hz := Lib.hid Hz2.out
      clear HB2 Hz2 hb
      have HX := Lib.hid (show Calls Try.prog 18 #[.pointer none, .int .i64 0] w36 _ from dPlan_nil w36 0)
      go_wp2_with fail
      refine HX.out.mono ?_
      rintro e w37 ⟨rfl, hb⟩
      have HB2 := Lib.hid (bnext HB.out hb)
      have Hz2 := Lib.hid (blk_below Hz.out hb)
      clear HX HB Hz
      have HB := Lib.hid HB2.out
      have Hz := Lib.hid Hz2.out
      clear HB2 Hz2 hb
      have HX := Lib.hid (show Calls Try.prog 15 #[.pointer (some ⟨z, 0, none⟩)] w37 _ from dPull_none w37 _ (zero_none Hz.out))
      go_wp2_with fail
      refine HX.out.mono ?_
      rintro e w38 ⟨rfl, hb⟩
      have HB2 := Lib.hid (bnext HB.out hb)
      have Hz2 := Lib.hid (blk_below Hz.out hb)
      clear HX HB Hz
      have HB := Lib.hid HB2.out
      have Hz := Lib.hid Hz2.out
      clear HB2 Hz2 hb
      have HX := Lib.hid (show Calls Try.prog 16 #[.pointer none, .agg #[.slice none 0 0, .int .i64 0, .int .i64 0]] w38 _ from dRest_none w38 none none 0 0 0 0 (fun w' _ => dnone_nil w'))
      go_wp2_with fail
      refine HX.out.mono ?_
      rintro e w39 ⟨rfl, hb⟩
      have HB2 := Lib.hid (bnext HB.out hb)
      have Hz2 := Lib.hid (blk_below Hz.out hb)
      clear HX HB Hz
      have HB := Lib.hid HB2.out
      have Hz := Lib.hid Hz2.out
      clear HB2 Hz2 hb
      have HX := Lib.hid (show Calls Try.prog 19 #[.pointer none] w39 _ from dDown_none w39 _ (dnone_nil _))
      go_wp2_with fail
      refine HX.out.mono ?_
      rintro e w40 ⟨rfl, hb⟩
      have HB2 := Lib.hid (bnext HB.out hb)
      have Hz2 := Lib.hid (blk_below Hz.out hb)
      clear HX HB Hz
      have HB := Lib.hid HB2.out
      have Hz := Lib.hid Hz2.out
      clear HB2 Hz2 hb
      have HX := Lib.hid (show Calls Try.prog 17 #[.pointer (some ⟨z, 0, none⟩)] w40 _ from dCalls_none w40 _ (zero_none Hz.out))
      go_wp2_with fail
      refine HX.out.mono ?_
      rintro e w41 ⟨rfl, hb⟩
      have HB2 := Lib.hid (bnext HB.out hb)
      have Hz2 := Lib.hid (blk_below Hz.out hb)
      clear HX HB Hz
      have HB := Lib.hid HB2.out
      have Hz := Lib.hid Hz2.out
      clear HB2 Hz2 hb
      have HX := Lib.hid (show Calls Try.prog 25 #[.pointer none] w41 _ from dLen_none w41 _ (dnone_nil _))
      go_wp2_with fail
      refine HX.out.mono ?_
      rintro e w42 ⟨rfl, hb⟩
      have HB2 := Lib.hid (bnext HB.out hb)
      have Hz2 := Lib.hid (blk_below Hz.out hb)
      clear HX HB Hz
      have HB := Lib.hid HB2.out
      have Hz := Lib.hid Hz2.out
      clear HB2 Hz2 hb
      have HX := Lib.hid (show Calls Try.prog 20 #[.pointer (some ⟨z, 0, none⟩)] w42 _ from dCached_none w42 _ (zero_none Hz.out))
      go_wp2_with fail
      refine HX.out.mono ?_
      rintro e w43 ⟨rfl, hb⟩
      have HB2 := Lib.hid (bnext HB.out hb)
      have Hz2 := Lib.hid (blk_below Hz.out hb)
      clear HX HB Hz
      have HB := Lib.hid HB2.out
      have Hz := Lib.hid Hz2.out
      clear HB2 Hz2 hb
      have HX := Lib.hid (show Calls Try.prog 14 #[.pointer none] w43 _ from dCopy_none w43 _ (dnone_nil _))
      go_wp2_with fail
      refine HX.out.mono ?_
      rintro e w44 ⟨rfl, hb⟩
      have HB2 := Lib.hid (bnext HB.out hb)
      have Hz2 := Lib.hid (blk_below Hz.out hb)
      clear HX HB Hz
      have HB := Lib.hid HB2.out
      have Hz := Lib.hid Hz2.out
      clear HB2 Hz2 hb
      go_wp2_with fail
      go_ret
      exact ⟨rfl, HB.out⟩
end Go.Proofs.Ytpleaicpkpjkjaa
