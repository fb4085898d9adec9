/-
  The chapter's first examples: alive of package kilowattlaw12, walked. Conditions stand at each theorem. (Printed by gen_blk21.py.)
-/
import Derived.Test.YtpleaicpkpjkjaaBlk20
namespace Go.Proofs.Ytpleaicpkpjkjaa
open Go Go.RowKit Go.Kw
set_option linter.unusedVariables false
set_option linter.unusedSimpArgs false

/-- The device's states in the examples. -/
def dvA (C : List (Nat × List UInt8)) (dn : Bool) (k : Int) : Dv := { S := List.replicate 4 (List.replicate 128 0), C := C, p := 0, dn := dn, k := k }
def bA : List UInt8 := fuX 97 128
def bB : List UInt8 := fuX 98 128
def bM : List UInt8 := bB.take 2 ++ bA.drop 2
def dvE : Dv := { S := [List.replicate 128 0, bM, bA, List.replicate 128 0], C := [], p := 0, dn := false, k := 3 }
theorem bA_len : bA.length = 128 := fuX_length _ _
theorem bB_len : bB.length = 128 := fuX_length _ _
theorem put_dvA (C : List (Nat × List UInt8)) (k : Int) (n : Nat) (hn : n < 4) (l : List UInt8) (hl : l.length = 128) (hC : C.length < 256) : putV (dvA C false k) (n : Int) l = (0, dvA (C ++ [(n, l)]) false (k + 1)) := by
  have h1 : ((n : Int) < 4) := by omega
  have h2 : ¬ (256 ≤ C.length) := by omega
  simp [putV, putE, dvA, cntV, planN, hl, h1, h2]
theorem many0 : many [5] 1 2 0 = 128 := by decide
theorem many1 : many [5] 1 2 1 = 2 := by decide
theorem many2 : many [5] 1 2 2 = 128 := by decide
theorem rest_dvA : restV (dvA [(1, bA), (1, bB), (2, bA)] true 3) [5] 1 2 = (0, dvE) := by
  have ha := bA_len
  have hb := bB_len
  have e1 : bA.take 128 = bA := by rw [← ha, List.take_length]
  have z1 : (List.replicate 128 (0 : UInt8)).drop 128 = [] := by simp
  simp [restV, dvA, crS, many0, many1, many2, List.replicate, e1, dvE, bM]
theorem fuX_0 : fuX 0 128 = List.replicate 128 0 := by decide +kernel
theorem mixed : (bA.set 0 98).set 1 98 = bM := by unfold bM bA bB; decide +kernel
theorem u8_97 : ((97 : UInt8).toNat : Int) = 97 := rfl
theorem seenE1 : seenD dvE 1 = bM := rfl
theorem seenE2 : seenD dvE 2 = bA := rfl
theorem seenE0 : seenD dvE 0 = List.replicate 128 0 := rfl
theorem bv_set (l : List UInt8) (k : Nat) (b : UInt8) : (bv l).set k (.int .u8 (b.toNat : Int)) = bv (l.set k b) := by
  unfold bv; rw [List.map_set]
set_option maxRecDepth 100000 in
set_option maxHeartbeats 16000000 in
theorem alive_calls (w : World) : Calls Try.prog 7 #[] w fun e w' => e = .returned (.bool true) ∧ Below w.heap.size w w' := by
  go_enter Try.func7, Try.ntmps7
  have HX := Lib.hid (show Calls Try.prog 9 #[.int .i64 4] w _ from LD_new w w (Below.refl _ _) 4 (by omega) (by omega))
  go_wp2_with fail
  refine HX.out.mono ?_
  rintro e w1 ⟨d, sb, rfl, hS, -⟩
  clear HX
  have hS : LD w d sb 4 (dvA [] false 0) (fun _ => False) w1 := hS
  have HX := Lib.hid (show Calls Try.prog 26 #[.int .u8 97] w1 _ from full_calls w1 97)
  have HS := Lib.hid hS
  clear hS
  go_wp2_with fail
  refine HX.out.mono ?_
  rintro e w2 ⟨A0, rfl, ho, hb⟩
  clear HX
  have HX := Lib.hid (show Calls Try.prog 10 #[.pointer (some ⟨d, 0, none⟩), .int .i64 1, .slice A0 128 128] w2 (fun e W' => e = .returned (.int .i64 0) ∧ LD w d sb 4 (dvA [(1, bA)] false 1) (fun _ => False) W' ∧ Kept (fun _ => False) w2 W') from by
    have h := HS.out.write hb (by show (0 : Int) ≤ 0 ∧ (0 : Int) < 4611686018427387904; omega) (l := bA) ho (1 : Int)
    rw [show putV (dvA [] false 0) (1 : Int) bA = (0, dvA [(1, bA)] false 1) from put_dvA _ _ 1 (by omega) _ bA_len (by simp)] at h
    exact h)
  clear ho hb HS
  go_wp2_with fail
  refine HX.out.mono ?_
  rintro e w3 ⟨rfl, hS, -⟩
  clear HX
  have HX := Lib.hid (show Calls Try.prog 26 #[.int .u8 98] w3 _ from full_calls w3 98)
  have HS := Lib.hid hS
  clear hS
  go_wp2_with fail
  refine HX.out.mono ?_
  rintro e w4 ⟨A1, rfl, ho, hb⟩
  clear HX
  have HX := Lib.hid (show Calls Try.prog 10 #[.pointer (some ⟨d, 0, none⟩), .int .i64 1, .slice A1 128 128] w4 (fun e W' => e = .returned (.int .i64 0) ∧ LD w d sb 4 (dvA [(1, bA), (1, bB)] false 2) (fun _ => False) W' ∧ Kept (fun _ => False) w4 W') from by
    have h := HS.out.write hb (by show (0 : Int) ≤ 1 ∧ (1 : Int) < 4611686018427387904; omega) (l := bB) ho (1 : Int)
    rw [show putV (dvA [(1, bA)] false 1) (1 : Int) bB = (0, dvA [(1, bA), (1, bB)] false 2) from put_dvA _ _ 1 (by omega) _ bB_len (by simp)] at h
    exact h)
  clear ho hb HS
  go_wp2_with fail
  refine HX.out.mono ?_
  rintro e w5 ⟨rfl, hS, -⟩
  clear HX
  have HX := Lib.hid (show Calls Try.prog 26 #[.int .u8 97] w5 _ from full_calls w5 97)
  have HS := Lib.hid hS
  clear hS
  go_wp2_with fail
  refine HX.out.mono ?_
  rintro e w6 ⟨A2, rfl, ho, hb⟩
  clear HX
  have HX := Lib.hid (show Calls Try.prog 10 #[.pointer (some ⟨d, 0, none⟩), .int .i64 2, .slice A2 128 128] w6 (fun e W' => e = .returned (.int .i64 0) ∧ LD w d sb 4 (dvA [(1, bA), (1, bB), (2, bA)] false 3) (fun _ => False) W' ∧ Kept (fun _ => False) w6 W') from by
    have h := HS.out.write hb (by show (0 : Int) ≤ 2 ∧ (2 : Int) < 4611686018427387904; omega) (l := bA) ho (2 : Int)
    rw [show putV (dvA [(1, bA), (1, bB)] false 2) (2 : Int) bA = (0, dvA [(1, bA), (1, bB), (2, bA)] false 3) from put_dvA _ _ 2 (by omega) _ bA_len (by simp)] at h
    exact h)
  clear ho hb HS
  go_wp2_with fail
  refine HX.out.mono ?_
  rintro e w7 ⟨rfl, hS, -⟩
  clear HX
  have HX := Lib.hid (show Calls Try.prog 20 #[.pointer (some ⟨d, 0, none⟩)] w7 (fun e w' => ∃ A' c', e = .returned (.slice A' 3 c') ∧ w'.ownsRow w7.heap.size 3 1 (.slice A' 3 c') 3 (nv [1, 1, 2]) ∧ Below w7.heap.size w7 w') from hS.cached)
  have HS := Lib.hid hS
  clear hS
  go_wp2_with fail
  refine HX.out.mono ?_
  rintro e w8 ⟨AC, cC, rfl, hC, hb8⟩
  clear HX
  have hS := HS.out.more hb8
  clear HS
  obtain ⟨X, hX⟩ : ∃ X : Nat → Prop, (fun b => False ∨ w7.heap.size ≤ b ∧ b < w8.heap.size) = X := ⟨_, rfl⟩
  rw [hX] at hS
  have hXC : ∀ g, (Value.slice AC 3 cC).ownBlock = some g → X g := fun g hg => by rw [← hX]; have := hC.lt g hg; exact .inr this
  have HXC := Lib.hid hXC
  clear hb8 hXC hX
  have HC := Lib.hid hC
  clear hC
  have HX := Lib.hid hS.pull
  clear hS
  go_wp2_with fail
  refine HX.out.mono ?_
  rintro e w9 ⟨rfl, hS, hk9⟩
  clear HX
  have hC := own_keptV HC.out hk9 HXC.out
  clear HC hk9
  have hS : LD w d sb 4 (dvA [(1, bA), (1, bB), (2, bA)] true 3) X w9 := hS
  have hst := bstep w9 (.cells #[.int .u8 5] 5)
  have hrd : RdY (w9.alloc (.cells #[.int .u8 5] 5)) (fun b => b ≠ sb) (some ⟨w9.heap.size, 0, none⟩) [5] := by
    refine .inr ⟨w9.heap.size, 0, rfl, by have := hS.lt.2.1; omega, by simp, fun i hi => ?_⟩
    have hi : i < 1 := hi
    obtain rfl : i = 0 := by omega
    exact blk_cell (blk_new w9 #[.int .u8 5] 5) 0 rfl
  have HX := Lib.hid (show Calls Try.prog 16 #[.pointer (some ⟨d, 0, none⟩), .agg #[.slice (some ⟨w9.heap.size, 0, none⟩) 1 1, .int .i64 1, .int .i64 2]] (w9.alloc (.cells #[.int .u8 5] 5)) (fun e W' => e = .returned (.int .i64 0) ∧ LD w d sb 4 dvE X W' ∧ Kept X (w9.alloc (.cells #[.int .u8 5] 5)) W') from by
    have h := (hS.go hst).restart (some ⟨w9.heap.size, 0, none⟩) 1 [5] 1 2 hrd
    rw [rest_dvA] at h
    exact h)
  have HC := Lib.hid (own_below hC hst)
  clear hS hst hrd hC
  go_wp2_with fail
  refine HX.out.mono ?_
  rintro e w10 ⟨rfl, hS, hk10⟩
  clear HX
  have hC := own_keptV HC.out hk10 HXC.out
  clear HC hk10
  have HX := Lib.hid (show Calls Try.prog 26 #[.int .u8 97] w10 _ from full_calls w10 97)
  have HS := Lib.hid (And.intro hS hC)
  clear hS hC
  go_wp2_with fail
  refine HX.out.mono ?_
  rintro e w11 ⟨AM, rfl, hM, hb11⟩
  clear HX
  obtain ⟨gM, rfl⟩ := own_some hM (by omega)
  have hgM := hM.lt gM rfl
  have m0 : w11.cell? ⟨gM, 0, none⟩ = some (.int .u8 97) := hM.cellAt 0 (by omega)
  have f0 := hM.frozenAt 0
  obtain ⟨hM1, -⟩ := hM.stored 0 (.int .u8 98)
  have m1 : (w11.setCell ⟨gM, 0, none⟩ (.int .u8 98)).cell? ⟨gM, 1, none⟩ = some (.int .u8 97) := (hM1.cellAt 1 (by omega)).trans rfl
  have f1 := hM1.frozenAt 1
  obtain ⟨hM2, -⟩ := hM1.stored 1 (.int .u8 98)
  have hM3 : ((w11.setCell ⟨gM, 0, none⟩ (.int .u8 98)).setCell ⟨gM, 1, none⟩ (.int .u8 98)).ownsRow w10.heap.size 5 1 (.slice (some ⟨gM, 0, none⟩) 128 128) 128 (bv bM) := by
    have e1 := bv_set bA 0 98
    have e2 := bv_set (bA.set 0 98) 1 98
    rw [← mixed, ← e2, ← e1]
    exact hM2
  have hb12 : Below w10.heap.size w10 ((w11.setCell ⟨gM, 0, none⟩ (.int .u8 98)).setCell ⟨gM, 1, none⟩ (.int .u8 98)) := (hb11.setCell (p := ⟨gM, 0, none⟩) hgM.1 _).setCell (p := ⟨gM, 1, none⟩) hgM.1 _
  obtain ⟨w12, hw12⟩ : ∃ w12, (w11.setCell ⟨gM, 0, none⟩ (.int .u8 98)).setCell ⟨gM, 1, none⟩ (.int .u8 98) = w12 := ⟨_, rfl⟩
  have Hw := Lib.hid hw12
  rw [hw12] at hM3 hb12
  have hS := HS.out.1.go hb12
  have hC := own_below HS.out.2 hb12
  have HM := Lib.hid hM3
  have HC := Lib.hid hC
  have HS2 := Lib.hid hS
  obtain ⟨gC, rfl⟩ := own_some hC (by omega)
  have cC0 : w12.cell? ⟨gC, 0, none⟩ = some (.int .i64 1) := hC.cellAt 0 (by omega)
  have cC1 : w12.cell? ⟨gC, 1, none⟩ = some (.int .i64 1) := hC.cellAt 1 (by omega)
  have cC2 : w12.cell? ⟨gC, 2, none⟩ = some (.int .i64 2) := hC.cellAt 2 (by omega)
  have HX := Lib.hid (show Calls Try.prog 27 #[.pointer (some ⟨d, 0, none⟩), .int .i64 1, .slice (some ⟨gM, 0, none⟩) 128 128] w12 (fun e W' => e = .returned (.bool true) ∧ Below w12.heap.size w12 W') from by
    have h := reads_calls hS 1 (show 1 < 4 by omega) rfl (some ⟨gM, 0, none⟩) 128 128 bM rfl (rdB_own hM3).1 (fun e => by cases e)
    rw [seenE1, beq_self_eq_true] at h
    exact h)
  clear HS hM hM1 hM2 hM3 hb11 hb12 hgM hS hC
  go_wp2_with fail
  refine HX.out.mono ?_
  rintro e w13 ⟨rfl, hb13⟩
  have hS := HS2.out.go hb13
  clear HX hb13 cC0 cC1 cC2 m0 m1 f0 f1
  have HX := Lib.hid (show Calls Try.prog 26 #[.int .u8 97] w13 _ from full_calls w13 97)
  have HS := Lib.hid hS
  clear hS
  go_wp2_with fail
  refine HX.out.mono ?_
  rintro e w14 ⟨A14, rfl, hM, hb14⟩
  clear HX
  have hS := HS.out.go hb14
  have HX := Lib.hid (show Calls Try.prog 27 #[.pointer (some ⟨d, 0, none⟩), .int .i64 2, .slice A14 128 128] w14 (fun e W' => e = .returned (.bool true) ∧ Below w14.heap.size w14 W') from by
    obtain ⟨g, rfl⟩ := own_some hM (by omega)
    have h := reads_calls hS 2 (show 2 < 4 by omega) rfl (some ⟨g, 0, none⟩) 128 128 bA rfl (rdB_own hM).1 (fun e => by cases e)
    rw [seenE2, beq_self_eq_true] at h
    exact h)
  clear HS hM hb14
  have HS := Lib.hid hS
  clear hS
  go_wp2_with fail
  refine HX.out.mono ?_
  rintro e w15 ⟨rfl, hb15⟩
  have hS := HS.out.go hb15
  clear HX hb15 HS
  have HX := Lib.hid (show Calls Try.prog 26 #[.int .u8 0] w15 _ from full_calls w15 0)
  have HS := Lib.hid hS
  clear hS
  go_wp2_with fail
  refine HX.out.mono ?_
  rintro e w16 ⟨A16, rfl, hM, hb16⟩
  clear HX
  have hS := HS.out.go hb16
  have HX := Lib.hid (show Calls Try.prog 27 #[.pointer (some ⟨d, 0, none⟩), .int .i64 0, .slice A16 128 128] w16 (fun e W' => e = .returned (.bool true) ∧ Below w16.heap.size w16 W') from by
    obtain ⟨g, rfl⟩ := own_some hM (by omega)
    have h := reads_calls hS 0 (show 0 < 4 by omega) rfl (some ⟨g, 0, none⟩) 128 128 (fuX 0 128) rfl (rdB_own hM).1 (fun e => by cases e)
    rw [seenE0, fuX_0, beq_self_eq_true] at h
    exact h)
  clear HS hM hb16
  have HS := Lib.hid hS
  clear hS
  go_wp2_with fail
  refine HX.out.mono ?_
  rintro e w17 ⟨rfl, hb17⟩
  have HB := Lib.hid (bnext HS.out.below hb17)
  clear HX hb17 HS
  go_wp2_with fail
  go_ret
  exact ⟨rfl, HB.out⟩
end Go.Proofs.Ytpleaicpkpjkjaa
