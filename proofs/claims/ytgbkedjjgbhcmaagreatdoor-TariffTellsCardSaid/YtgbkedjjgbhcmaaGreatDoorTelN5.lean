/-
  Texts that the proof leans on, merged by program, part 5. Conditions stand at each theorem.
-/
import Derived.Test.YtgbkedjjgbhcmaaGreatDoorTelN1
import Derived.Test.YtgbkedjjgbhcmaaGreatDoorZoneFns
import Derived.OrdersHeld
import Derived.Deep.RegionHeld3
/-
  Versions of prices: rates.may and its closure, slices.IndexFunc and ContainsFunc at it, rates.goes, walked. Conditions stand at each theorem.
-/
namespace Go.Proofs.YtgbkedjjgbhcmaaGreatDoor
open Go Go.RowKit Go.Kw Go.Kw.Cv Go.Shelf
set_option linter.unusedVariables false
set_option linter.unusedSimpArgs false

set_option maxRecDepth 100000 in
set_option maxHeartbeats 8000000 in
theorem may1_calls (p : Int) (w : World) : Calls Tryz.prog 71 #[.int .i64 p] w fun e w' => e = .returned (.bool (prNo p)) ∧ Below w.heap.size w w' := by
  have hst := Below.refl w.heap.size w
  obtain ⟨a, ha⟩ : ∃ a, decide (p < 0) = a := ⟨_, rfl⟩
  obtain ⟨b, hb⟩ : ∃ b, decide (p > 1073741824) = b := ⟨_, rfl⟩
  unfold prNo
  rw [ha, hb]
  cases a <;> cases b
  all_goals
    go_enter Tryz.func71, Tryz.ntmps71
    go_wp2_with fail
    go_ret
    exact ⟨rfl, hst⟩

set_option maxRecDepth 100000 in
set_option maxHeartbeats 8000000 in
theorem idxPr_calls (A : Option Addr) (n c : Nat) (p : Nat → Int) (w : World) (hR : IRows 1 kI w A n c (fun j _ => p j)) :
    Calls Tryz.prog 82 #[.slice A n c, .func (.func 71) #[] #[]] w fun e w' => e = .returned (.int .i64 (idxI (fun k => prNo (p k)) n)) ∧ Below w.heap.size w w' := by
  obtain ⟨b0, hb0⟩ : ∃ b0, w.heap.size = b0 := ⟨_, rfl⟩
  have Hb0 := Lib.hid hb0
  have HR := Lib.hid hR
  have hla := hR.1
  have hca := hR.2.1
  have hmx : maxLen = 9223372036854775807 := rfl
  have Hlen := Lib.hid (show n ≤ 9223372036854775807 by omega)
  obtain ⟨P, hP⟩ : ∃ P : Nat → Bool, (fun k => prNo (p k)) = P := ⟨_, rfl⟩
  have HPd := Lib.hid hP
  have hB0 := Below.refl b0 w
  rw [hP]
  clear hR hla hca hmx hP
  go_enter Tryz.func82, Tryz.ntmps82
  go_wp2_with fail
  go_loopw [5, 8] (fun s5 i wr => ∃ k : Nat, k ≤ n ∧ i = .int .i64 k ∧ (∀ j, j < k → P j = false) ∧ Below b0 w wr) (fun _ i _ => n - (intOf i).toNat)
  case atStart => exact ⟨0, by omega, rfl, fun j hj => absurd hj (by omega), hB0⟩
  case round =>
    obtain ⟨k, hk, rfl, hA, hB⟩ := hrel
    clear hB0
    by_cases hlt : k < n
    · have hI : (k : Int) < n := by omega
      obtain ⟨sb, off, rfl, hsb, q0⟩ := prices_at (x := (A, n, c)) HR.out hlt
      have hc := trivial
      have hsb0 : sb < b0 := by have := Hb0.out; omega
      have c0 : wr.cell? ⟨sb, off + k, none⟩ = some (.int .i64 (p k)) := (hB.cell (p := ⟨sb, off + k, none⟩) hsb0).trans q0
      have HO := may1_calls (p k) wr
      obtain ⟨V, hV⟩ : ∃ V, (fun k => prNo (p k)) k = V := ⟨_, rfl⟩
      have hV2 : P k = V := by rw [← HPd.out]; exact hV
      dsimp only at hV
      rw [hV] at HO
      replace HO := Lib.hid HO
      have HV := Lib.hid hV2
      have w1 : IntKind.i64.wrap ((k : Int) + 1) = (k : Int) + 1 := i64_same _ (by have := Hlen.out; omega)
      have X1 := Lib.hid (wrap64_in ((k : Int) + 1) (by have := Hlen.out; omega))
      have Hk := Lib.hid (show k + 1 ≤ n from hlt)
      have Hlt := Lib.hid hlt
      have HA := Lib.hid hA
      have HB := Lib.hid hB
      clear hc q0 hA hB hk hlt hV hV2
      cases V with
      | true =>
        go_wp2_with fail
        refine HO.out.mono ?_
        rintro e w4 ⟨rfl, hb4⟩
        go_wp2_with fail
        go_ret
        have hF : fstI P n = k := fstI_unique P n k (by have := Hlt.out; omega) (fun _ => HV.out) HA.out
        have hlt := Hlt.out
        have hv : idxI P n = (k : Int) := by unfold idxI; rw [hF, if_pos hlt]
        rw [hv]
        have hZ := HB.out.trans (hb4.mono (Hb0.out ▸ HB.out.size))
        exact ⟨rfl, by first | exact hZ | (rw [Hb0.out]; exact hZ)⟩
      | false =>
        have x1 := X1.out
        go_wp2_with fail
        refine HO.out.mono ?_
        rintro e w4 ⟨rfl, hb4⟩
        go_wp2_with fail
        clear x1
        exact ⟨⟨k + 1, Hk.out, by push_cast; rfl, fst_step HV.out HA.out, HB.out.trans (hb4.mono (Hb0.out ▸ HB.out.size))⟩, meas_z n k Hk.out⟩
    · obtain rfl : k = n := by omega
      have hI : ¬ ((k : Int) < k) := by omega
      have HBq := Lib.hid hB
      have hF : fstI P k = k := fstI_unique P k k (Nat.le_refl _) (fun h => absurd h (Nat.lt_irrefl _)) hA
      have hv : idxI P k = -1 := by unfold idxI; rw [hF, if_neg (Nat.lt_irrefl _)]
      have Hv := Lib.hid hv
      clear hA hk hlt hB hF hv
      go_wp2_with fail
      go_ret
      rw [Hv.out]
      exact ⟨rfl, by first | exact HBq.out | (rw [Hb0.out]; exact HBq.out)⟩

set_option maxRecDepth 100000 in
set_option maxHeartbeats 8000000 in
theorem containsPr_calls (A : Option Addr) (n c : Nat) (p : Nat → Int) (w : World) (hR : IRows 1 kI w A n c (fun j _ => p j)) :
    Calls Tryz.prog 70 #[.slice A n c, .func (.func 71) #[] #[]] w fun e w' => e = .returned (.bool (anyI (fun k => prNo (p k)) n)) ∧ Below w.heap.size w w' := by
  have HI := idxPr_calls A n c p w hR
  obtain ⟨I, hI⟩ : ∃ I, idxI (fun k => prNo (p k)) n = I := ⟨_, rfl⟩
  obtain ⟨B, hB⟩ : ∃ B, anyI (fun k => prNo (p k)) n = B := ⟨_, rfl⟩
  have hIB : decide (I ≥ 0) = B := by rw [← hI, ← hB]; exact idxI_any _ _
  rw [hI] at HI
  rw [hB]
  replace HI := Lib.hid HI
  clear hI hB hR
  go_enter Tryz.func70, Tryz.ntmps70
  go_wp2_with fail
  refine HI.out.mono ?_
  rintro e w2 ⟨rfl, hb⟩
  go_wp2_with fail
  go_ret
  exact ⟨rfl, hb⟩

set_option maxRecDepth 100000 in
set_option maxHeartbeats 8000000 in
theorem rMay_calls (f : Int) (A : Option Addr) (n c : Nat) (p : Nat → Int) (w : World) (hR : IRows 1 kI w A n c (fun j _ => p j)) :
    Calls Tryz.prog 47 #[.agg #[.int .i64 f, .slice A n c]] w fun e w' => e = .returned (.bool (decide (ver1 f n p))) ∧ Below w.heap.size w w' := by
  obtain ⟨b0, hb0⟩ : ∃ b0, w.heap.size = b0 := ⟨_, rfl⟩
  have Hb0 := Lib.hid hb0
  obtain ⟨W1, hW1⟩ : ∃ W1, w.alloc (.cells #[.int .i64 f, .slice A n c] 52) = W1 := ⟨_, rfl⟩
  have hst : Below w.heap.size w W1 := hW1 ▸ bstep w _
  have hr : W1.heap[b0]? = some (.cells #[.int .i64 f, .slice A n c] 52 (0, 0)) := by rw [← hb0, ← hW1]; exact World.alloc_heap_new w _
  have d0 := cell_of_row W1 b0 0 _ _ _ hr
  have d1 := cell_of_row W1 b0 1 _ _ _ hr
  have HC := Lib.hid (containsPr_calls A n c p W1 (hR.go hst))
  have HB := Lib.hid hst
  obtain ⟨V, hV⟩ : ∃ V, decide (ver1 f n p) = V := ⟨_, rfl⟩
  have HV : Hid (ver1 f n p ↔ V = true) := by show _ ↔ _; rw [← hV, decide_eq_true_eq]
  rw [hV]
  clear hst hr hV hR
  by_cases h0 : 0 ≤ f
  case neg =>
    have z0 : decide (f ≥ 0) = false := decide_eq_false (by omega)
    have HVV := Lib.hid (show V = false from Bool.eq_false_iff.2 (fun q => by have q9 := (HV.out.2 q).1; omega))
    clear HV HC h0
    go_enter Tryz.func47, Tryz.ntmps47
    go_wp2_with fail
    try go_quiet (fail)
    try go_wp2_with fail
    go_ret
    rw [HVV.out]
    exact ⟨rfl, by first | exact HB.out | exact HB.out.drewN _ | (rw [Hb0.out]; exact HB.out) | (rw [Hb0.out]; exact HB.out.drewN _) | (rw [← Hb0.out]; exact HB.out) | (rw [← Hb0.out]; exact HB.out.drewN _)⟩
  have z0 : decide (f ≥ 0) = true := decide_eq_true (by omega)
  by_cases h1 : f < 253402300800
  case neg =>
    have z1 : decide (f < 253402300800) = false := decide_eq_false (by omega)
    have HVV := Lib.hid (show V = false from Bool.eq_false_iff.2 (fun q => by have q9 := (HV.out.2 q).1; omega))
    clear HV HC h0 h1
    go_enter Tryz.func47, Tryz.ntmps47
    go_wp2_with fail
    try go_quiet (fail)
    try go_wp2_with fail
    go_ret
    rw [HVV.out]
    exact ⟨rfl, by first | exact HB.out | exact HB.out.drewN _ | (rw [Hb0.out]; exact HB.out) | (rw [Hb0.out]; exact HB.out.drewN _) | (rw [← Hb0.out]; exact HB.out) | (rw [← Hb0.out]; exact HB.out.drewN _)⟩
  have z1 : decide (f < 253402300800) = true := decide_eq_true (by omega)
  by_cases h2 : 1 ≤ n
  case neg =>
    have z2 : decide ((n : Int) ≥ 1) = false := decide_eq_false (by omega)
    have HVV := Lib.hid (show V = false from Bool.eq_false_iff.2 (fun q => by have q9 := (HV.out.2 q).1; omega))
    clear HV HC h0 h1 h2
    go_enter Tryz.func47, Tryz.ntmps47
    go_wp2_with fail
    try go_quiet (fail)
    try go_wp2_with fail
    go_ret
    rw [HVV.out]
    exact ⟨rfl, by first | exact HB.out | exact HB.out.drewN _ | (rw [Hb0.out]; exact HB.out) | (rw [Hb0.out]; exact HB.out.drewN _) | (rw [← Hb0.out]; exact HB.out) | (rw [← Hb0.out]; exact HB.out.drewN _)⟩
  have z2 : decide ((n : Int) ≥ 1) = true := decide_eq_true (by omega)
  by_cases h3 : n ≤ 16
  case neg =>
    have z3 : decide ((n : Int) ≤ 16) = false := decide_eq_false (by omega)
    have HVV := Lib.hid (show V = false from Bool.eq_false_iff.2 (fun q => by have q9 := (HV.out.2 q).1; omega))
    clear HV HC h0 h1 h2 h3
    go_enter Tryz.func47, Tryz.ntmps47
    go_wp2_with fail
    try go_quiet (fail)
    try go_wp2_with fail
    go_ret
    rw [HVV.out]
    exact ⟨rfl, by first | exact HB.out | exact HB.out.drewN _ | (rw [Hb0.out]; exact HB.out) | (rw [Hb0.out]; exact HB.out.drewN _) | (rw [← Hb0.out]; exact HB.out) | (rw [← Hb0.out]; exact HB.out.drewN _)⟩
  have z3 : decide ((n : Int) ≤ 16) = true := decide_eq_true (by omega)
  obtain ⟨Q, hQ⟩ : ∃ Q, anyI (fun k => prNo (p k)) n = Q := ⟨_, rfl⟩
  have HVV := Lib.hid (show V = !Q by
    cases Q with
    | true =>
      refine Bool.eq_false_iff.2 (fun q => ?_)
      have q9 := (prs_ok n p).2 (HV.out.2 q).2
      rw [hQ] at q9; cases q9
    | false => exact HV.out.1 ⟨⟨h0, h1, h2, h3⟩, (prs_ok n p).1 hQ⟩)
  rw [hQ] at HC
  clear HV hQ h0 h1 h2 h3
  go_enter Tryz.func47, Tryz.ntmps47
  go_wp2_with fail
  refine HC.out.mono ?_
  rintro e w2 ⟨rfl, hb2⟩
  have HB2 := Lib.hid (bnext HB.out hb2)
  clear hb2
  go_wp2_with fail
  go_ret
  rw [HVV.out]
  exact ⟨rfl, by first | exact HB2.out | exact HB2.out.drewN _ | (rw [Hb0.out]; exact HB2.out) | (rw [Hb0.out]; exact HB2.out.drewN _) | (rw [← Hb0.out]; exact HB2.out) | (rw [← Hb0.out]; exact HB2.out.drewN _)⟩
set_option maxRecDepth 100000 in
set_option maxHeartbeats 8000000 in
theorem goes_calls (f f2 : Int) (A B : Option Addr) (n c m d : Nat) (w : World) :
    Calls Tryz.prog 48 #[.agg #[.int .i64 f, .slice A n c], .agg #[.int .i64 f2, .slice B m d]] w fun e w' => e = .returned (.bool (decide (f2 < f ∧ n = m))) ∧ Below w.heap.size w w' := by
  obtain ⟨b0, hb0⟩ : ∃ b0, w.heap.size = b0 := ⟨_, rfl⟩
  have Hb0 := Lib.hid hb0
  obtain ⟨W1, hW1⟩ : ∃ W1, w.alloc (.cells #[.int .i64 f, .slice A n c] 52) = W1 := ⟨_, rfl⟩
  have hst1 : Below w.heap.size w W1 := hW1 ▸ bstep w _
  have hr1 : W1.heap[b0]? = some (.cells #[.int .i64 f, .slice A n c] 52 (0, 0)) := by rw [← hb0, ← hW1]; exact World.alloc_heap_new w _
  have hs1 : W1.heap.size = b0 + 1 := by rw [← hW1, ← hb0]; simp
  obtain ⟨W2, hW2⟩ : ∃ W2, W1.alloc (.cells #[.int .i64 f2, .slice B m d] 52) = W2 := ⟨_, rfl⟩
  have hst2 : Below W1.heap.size W1 W2 := hW2 ▸ bstep W1 _
  have hr2 : W2.heap[b0 + 1]? = some (.cells #[.int .i64 f2, .slice B m d] 52 (0, 0)) := by rw [← hs1, ← hW2]; exact World.alloc_heap_new W1 _
  have hr1' := blk_below hr1 hst2
  have d0 := cell_of_row W2 b0 0 _ _ _ hr1'
  have d1 := cell_of_row W2 b0 1 _ _ _ hr1'
  have e0 := cell_of_row W2 (b0 + 1) 0 _ _ _ hr2
  have e1 := cell_of_row W2 (b0 + 1) 1 _ _ _ hr2
  have HB := Lib.hid (bnext hst1 hst2)
  obtain ⟨V, hV⟩ : ∃ V, decide (f2 < f ∧ n = m) = V := ⟨_, rfl⟩
  have HV : Hid ((f2 < f ∧ n = m) ↔ V = true) := by show _ ↔ _; rw [← hV, decide_eq_true_eq]
  rw [hV]
  clear hst1 hst2 hr1 hr2 hr1' hV
  by_cases h0 : f2 < f
  · have z0 : decide (f > f2) = true := decide_eq_true h0
    by_cases h1 : n = m
    · have z1 : ((n : Int) == (m : Int)) = true := beq_iff_eq.2 (by omega)
      have HVV := Lib.hid (show V = true from HV.out.1 ⟨h0, h1⟩)
      clear HV h0 h1
      go_enter Tryz.func48, Tryz.ntmps48
      go_wp2_with fail
      go_ret
      rw [HVV.out]
      exact ⟨rfl, by first | exact HB.out | exact HB.out.drewN _ | (rw [Hb0.out]; exact HB.out) | (rw [Hb0.out]; exact HB.out.drewN _) | (rw [← Hb0.out]; exact HB.out) | (rw [← Hb0.out]; exact HB.out.drewN _)⟩
    · have z1 : ((n : Int) == (m : Int)) = false := beq_eq_false_iff_ne.2 (by omega)
      have HVV := Lib.hid (show V = false from Bool.eq_false_iff.2 (fun q => h1 (HV.out.2 q).2))
      clear HV h0 h1
      go_enter Tryz.func48, Tryz.ntmps48
      go_wp2_with fail
      go_ret
      rw [HVV.out]
      exact ⟨rfl, by first | exact HB.out | exact HB.out.drewN _ | (rw [Hb0.out]; exact HB.out) | (rw [Hb0.out]; exact HB.out.drewN _) | (rw [← Hb0.out]; exact HB.out) | (rw [← Hb0.out]; exact HB.out.drewN _)⟩
  · have z0 : decide (f > f2) = false := decide_eq_false h0
    have HVV := Lib.hid (show V = false from Bool.eq_false_iff.2 (fun q => h0 (HV.out.2 q).1))
    clear HV h0
    go_enter Tryz.func48, Tryz.ntmps48
    go_wp2_with fail
    go_ret
    rw [HVV.out]
    exact ⟨rfl, by first | exact HB.out | exact HB.out.drewN _ | (rw [Hb0.out]; exact HB.out) | (rw [Hb0.out]; exact HB.out.drewN _) | (rw [← Hb0.out]; exact HB.out) | (rw [← Hb0.out]; exact HB.out.drewN _)⟩
end Go.Proofs.YtgbkedjjgbhcmaaGreatDoor

/-
  Whether a table of prices may be: rates.Check, walked. Conditions stand at each theorem.
-/
namespace Go.Proofs.YtgbkedjjgbhcmaaGreatDoor
open Go Go.RowKit Go.Kw Go.Kw.Cv Go.Shelf
set_option linter.unusedVariables false
set_option linter.unusedSimpArgs false

theorem cell_go {W W' : World} {a : Addr} {v : Value} (h : W.cell? a = some v) (hb : Below W.heap.size W W') : W'.cell? a = some v := (hb.cell (p := a) (block_lt h)).trans h
theorem rat_step {P : Nat → Prop} {k : Nat} (h : P k) (hA : ∀ j, j < k → P j) : ∀ j, j < k + 1 → P j := fun j hj => by
  by_cases e : j = k
  · rw [e]; exact h
  · exact hA j (by omega)
/-- The sum of the findings on k versions. -/
def RatV (nv : Nat) (f : Nat → Int) (ln : Nat → Nat) (p : Nat → Nat → Int) (k : Nat) (V : Bool) : Prop := V = true ↔ nv ≤ 200 ∧ ∀ j, j < k → verOk f ln p j ∧ goB f ln j
theorem ratV_no {nv : Nat} {f : Nat → Int} {ln : Nat → Nat} {p : Nat → Nat → Int} {k : Nat} (h : RatV nv f ln p k false) : RatV nv f ln p (k + 1) false := by
  constructor
  · intro h; cases h
  · rintro ⟨h1, h2⟩; exact absurd (h.2 ⟨h1, fun j hj => h2 j (by omega)⟩) (by simp)
theorem ratV_bad {nv : Nat} {f : Nat → Int} {ln : Nat → Nat} {p : Nat → Nat → Int} {k : Nat} (h : ¬ (verOk f ln p k ∧ goB f ln k)) : RatV nv f ln p (k + 1) false := by
  constructor
  · intro h; cases h
  · rintro ⟨h1, h2⟩; exact absurd (h2 k (by omega)) h
theorem ratV_ok {nv : Nat} {f : Nat → Int} {ln : Nat → Nat} {p : Nat → Nat → Int} {k : Nat} (h : RatV nv f ln p k true) (h1 : verOk f ln p k ∧ goB f ln k) : RatV nv f ln p (k + 1) true :=
  ⟨fun _ => ⟨(h.1 rfl).1, rat_step h1 (h.1 rfl).2⟩, fun _ => rfl⟩

set_option maxRecDepth 100000 in
set_option maxHeartbeats 16000000 in
theorem ratCheck_calls (A : Option Addr) (nv cv : Nat) (f : Nat → Int) (F : Nat → SlX) (p : Nat → Nat → Int) (w : World) (hR : RdRt w A nv cv f F p) :
    Calls Tryz.prog 18 #[.slice A nv cv] w fun e w' => e = .returned (.int .i64 (ratE nv f (fun i => (F i).2.1) p)) ∧ Below w.heap.size w w' := by
  obtain ⟨b0, hb0⟩ : ∃ b0, w.heap.size = b0 := ⟨_, rfl⟩
  have Hb0 := Lib.hid hb0
  have HR := Lib.hid hR
  have hla := hR.1
  have hca := hR.2.1
  have hmx : maxLen = 9223372036854775807 := rfl
  have Hlen := Lib.hid (show nv ≤ 9223372036854775807 by omega)
  have hlen0 : nv ≤ 9223372036854775806 ∨ nv = 9223372036854775807 := by omega
  obtain ⟨ln, hln⟩ : ∃ ln : Nat → Nat, (fun i => (F i).2.1) = ln := ⟨_, rfl⟩
  have HLn := Lib.hid (show ∀ i, (F i).2.1 = ln i from fun i => by rw [← hln])
  rw [hln]
  obtain ⟨E, hE⟩ : ∃ E, ratE nv f ln p = E := ⟨_, rfl⟩
  have HE := Lib.hid hE
  rw [hE]
  obtain ⟨V0, hV0⟩ : ∃ V0, decide ((nv : Int) ≤ 200) = V0 := ⟨_, rfl⟩
  have HV0 := Lib.hid (show RatV nv f ln p 0 V0 by
    unfold RatV
    rw [← hV0, decide_eq_true_eq]
    exact ⟨fun h => ⟨by omega, fun j hj => absurd hj (by omega)⟩, fun h => by have := h.1; omega⟩)
  have hst := Below.refl b0 w
  have hbs0 : b0 ≤ w.heap.size := by omega
  clear hR hla hca hmx hln hE hlen0
  go_enter Tryz.func18, Tryz.ntmps18
  go_wp2_with fail
  clear hV0
  go_loopw [3, 11] (fun fv iv wr => ∃ k : Nat, k ≤ nv ∧ iv = .int .i64 k ∧ (∃ V, fv = .bool V ∧ RatV nv f ln p k V) ∧ Below b0 w wr ∧ b0 ≤ wr.heap.size) (fun _ iv _ => nv - (intOf iv).toNat)
  case atStart => exact ⟨0, by omega, rfl, ⟨V0, rfl, HV0.out⟩, hst, hbs0⟩
  case round =>
    obtain ⟨k, hk, rfl, ⟨V, rfl, hV⟩, hB, hbs⟩ := hrel
    clear hst hbs0
    by_cases hlt : k < nv
    · have hI : (k : Int) < nv := by omega
      have hk0 : (0 : Int) ≤ (k : Int) := by omega
      have hRw : RdRt wr A nv cv f F p := HR.out.go (by rw [Hb0.out]; exact hB)
      obtain ⟨sb, off, rfl, hsb, q0, q1⟩ := hRw.at_ hlt
      have hPk := hRw.2.2.2.2 k hlt
      have hLk := HLn.out k
      unfold slV at q1
      obtain ⟨P1, hP1⟩ : ∃ x, (F k).1 = x := ⟨_, rfl⟩
      obtain ⟨P2, hP2⟩ : ∃ x, (F k).2.1 = x := ⟨_, rfl⟩
      obtain ⟨P3, hP3⟩ : ∃ x, (F k).2.2 = x := ⟨_, rfl⟩
      rw [hP1, hP2, hP3] at q1 hPk
      rw [hP2] at hLk
      obtain ⟨fk, hfk⟩ : ∃ x, f k = x := ⟨_, rfl⟩
      rw [hfk] at q0
      have HF := Lib.hid (And.intro hfk hLk)
      obtain ⟨W1, hW1⟩ : ∃ W1, wr.alloc (.cells #[.int .i64 fk, .slice P1 P2 P3] 52) = W1 := ⟨_, rfl⟩
      obtain ⟨z, hz⟩ : ∃ z, wr.heap.size = z := ⟨_, rfl⟩
      have hst1 : Below wr.heap.size wr W1 := hW1 ▸ bstep wr _
      have hr1 : W1.heap[z]? = some (.cells #[.int .i64 fk, .slice P1 P2 P3] 52 (0, 0)) := by rw [← hz, ← hW1]; exact World.alloc_heap_new wr _
      have d0 := cell_of_row W1 z 0 _ _ _ hr1
      have d1 := cell_of_row W1 z 1 _ _ _ hr1
      have hB1 : Below b0 w W1 := hB.trans (hst1.mono hbs)
      have hbs1 : b0 ≤ W1.heap.size := Nat.le_trans hbs hst1.size
      have HB1 := Lib.hid (And.intro hB1 hbs1)
      have hR1 : RdRt W1 (some ⟨sb, off, none⟩) nv cv f F p := hRw.go hst1
      have HR1 := Lib.hid hR1
      have w1 : IntKind.i64.wrap ((k : Int) + 1) = (k : Int) + 1 := i64_same _ (by have := Hlen.out; omega)
      have X1 := Lib.hid (wrap64_in ((k : Int) + 1) (by have := Hlen.out; omega))
      have Hlt := Lib.hid hlt
      have HV := Lib.hid hV
      clear hRw hP1 hP2 hP3 hLk hfk hst1 hr1 hB1 hbs1 hR1 hlt hV hB hbs hk hsb
      cases V with
      | false =>
        clear hPk
        have x1 := X1.out
        go_wp2_with fail
        go_quiet (fail)
        go_wp2_with fail
        clear x1
        exact ⟨⟨k + 1, Hlt.out, by push_cast; rfl, ⟨false, rfl, ratV_no HV.out⟩, HB1.out.1.drewN _, HB1.out.2⟩, meas_z nv k Hlt.out⟩
      | true =>
        have hMay : ∀ W', Below W1.heap.size W1 W' → Calls Tryz.prog 47 #[.agg #[.int .i64 fk, .slice P1 P2 P3]] W' fun e w'' => e = .returned (.bool (decide (ver1 fk P2 (p k)))) ∧ Below W'.heap.size W' w'' :=
          fun W' hb => rMay_calls fk P1 P2 P3 (p k) W' ((hPk.go (by rw [← hW1]; exact bstep wr _)).go hb)
        obtain ⟨M, hM⟩ : ∃ M, decide (ver1 fk P2 (p k)) = M := ⟨_, rfl⟩
        have HM := Lib.hid (show ver1 fk P2 (p k) ↔ M = true by rw [← hM, decide_eq_true_eq])
        rw [hM] at hMay
        have HMay := Lib.hid hMay
        have HSS := Lib.hid (show ∀ W', Below W1.heap.size W1 W' → (W'.cell? ⟨z, 0, none⟩ = some (.int .i64 fk) ∧ W'.cell? ⟨z, 1, none⟩ = some (.slice P1 P2 P3)) ∧ Below W1.heap.size W1 W' from fun W' hb => ⟨⟨cell_go d0 hb, cell_go d1 hb⟩, hb⟩)
        have HbB := Lib.hid (show ∀ W', Below W1.heap.size W1 W' → Below b0 w W' ∧ b0 ≤ W'.heap.size from fun W' hb => ⟨HB1.out.1.trans (hb.mono HB1.out.2), Nat.le_trans HB1.out.2 hb.size⟩)
        clear hPk hM hMay
        cases M with
        | false =>
          have x1 := X1.out
          go_wp2_with fail
          try rw [hW1]

          refine wp_region_held_drew (S := (fun W => (W.cell? ⟨z, 0, none⟩ = some (.int .i64 fk) ∧ W.cell? ⟨z, 1, none⟩ = some (.slice P1 P2 P3)) ∧ Below W1.heap.size W1 W)) (by kernel_rfl) (HSS.out _ (Below.refl _ _).drew) (fun hHeld => ?_)
          refine wpAnyH_take (i := 0) (v := ?_) rfl (by kernel_rfl) (by kernel_rfl) (by kernel_rfl) (fun _ _ _ h => h) (Or.inl ⟨by kernel_rfl, ?_⟩) (by assumption) ?_
          rotate_left
          · intro w hSw; (try dsimp only at hSw); go_simp; try with_reducible rfl
          simp only [Act.put, List.getElem_toArray, List.getElem_cons_succ, List.getElem_cons_zero, List.setIfInBounds_toArray, List.set_cons_zero, List.set_cons_succ]
          refine wpAnyH_take (i := 1) (v := ?_) rfl (by kernel_rfl) (by kernel_rfl) (by kernel_rfl) (fun _ _ _ h => h) (Or.inl ⟨by kernel_rfl, ?_⟩) (by assumption) ?_
          rotate_left
          · intro w hSw; (try dsimp only at hSw); go_simp; try with_reducible rfl
          simp only [Act.put, List.getElem_toArray, List.getElem_cons_succ, List.getElem_cons_zero, List.setIfInBounds_toArray, List.set_cons_zero, List.set_cons_succ]
          refine wpAnyH_take (i := 2) (v := ?_) rfl (by kernel_rfl) (by kernel_rfl) (by kernel_rfl) (fun _ _ _ h => h) (Or.inl ⟨by kernel_rfl, ?_⟩) (by assumption) ?_
          rotate_left
          · intro w hSw; (try dsimp only at hSw); go_simp; try with_reducible rfl
          simp only [Act.put, List.getElem_toArray, List.getElem_cons_succ, List.getElem_cons_zero, List.setIfInBounds_toArray, List.set_cons_zero, List.set_cons_succ]
          refine wpAnyH_ready (rs := [3]) (by kernel_rfl) (by simp) ?_
          refine AllReadyH.cons rfl (fun K hK => ?_) AllReadyH.nil
          go_simp
          refine (HMay.out _ hHeld.2).mono ?_
          rintro e w4 ⟨rfl, hb4⟩
          have hb5 := bnext hHeld.2 hb4
          clear hHeld
          try go_wp2_with fail
          refine hK.out _ _ (HSS.out _ hb5) (fun hHeld => ?_)
          clear hK K
          try simp only [Act.put, List.getElem_toArray, List.getElem_cons_succ, List.getElem_cons_zero, List.setIfInBounds_toArray, List.set_cons_zero, List.set_cons_succ]
          refine wpAnyH_take (i := 4) (v := ?_) rfl (by kernel_rfl) (by kernel_rfl) (by kernel_rfl) (fun _ _ _ h => h) (Or.inl ⟨by kernel_rfl, ?_⟩) (by assumption) ?_
          rotate_left
          · intro w hSw; (try dsimp only at hSw); go_simp; try with_reducible rfl
          simp only [Act.put, List.getElem_toArray, List.getElem_cons_succ, List.getElem_cons_zero, List.setIfInBounds_toArray, List.set_cons_zero, List.set_cons_succ]
          refine wpAnyH_take (i := 5) (v := ?_) rfl (by kernel_rfl) (by kernel_rfl) (by kernel_rfl) (fun _ _ _ h => h) (Or.inl ⟨by kernel_rfl, ?_⟩) (by assumption) ?_
          rotate_left
          · intro w hSw; (try dsimp only at hSw); go_simp; try with_reducible rfl
          simp only [Act.put, List.getElem_toArray, List.getElem_cons_succ, List.getElem_cons_zero, List.setIfInBounds_toArray, List.set_cons_zero, List.set_cons_succ]
          refine wpAnyH_take (i := 6) (v := undef) rfl (by kernel_rfl) (by kernel_rfl) (by kernel_rfl) (fun _ _ _ h => h) (Or.inr ⟨by kernel_rfl, rfl⟩) (by assumption) ?_
          simp only [Act.put, List.getElem_toArray, List.getElem_cons_succ, List.getElem_cons_zero, List.setIfInBounds_toArray, List.set_cons_zero, List.set_cons_succ]
          refine wpAnyH_take (i := 7) (v := undef) rfl (by kernel_rfl) (by kernel_rfl) (by kernel_rfl) (fun _ _ _ h => h) (Or.inr ⟨by kernel_rfl, rfl⟩) (by assumption) ?_
          simp only [Act.put, List.getElem_toArray, List.getElem_cons_succ, List.getElem_cons_zero, List.setIfInBounds_toArray, List.set_cons_zero, List.set_cons_succ]
          refine wpAnyH_take (i := 8) (v := undef) rfl (by kernel_rfl) (by kernel_rfl) (by kernel_rfl) (fun _ _ _ h => h) (Or.inr ⟨by kernel_rfl, rfl⟩) (by assumption) ?_
          simp only [Act.put, List.getElem_toArray, List.getElem_cons_succ, List.getElem_cons_zero, List.setIfInBounds_toArray, List.set_cons_zero, List.set_cons_succ]
          refine wpAnyH_take (i := 9) (v := undef) rfl (by kernel_rfl) (by kernel_rfl) (by kernel_rfl) (fun _ _ _ h => h) (Or.inr ⟨by kernel_rfl, rfl⟩) (by assumption) ?_
          simp only [Act.put, List.getElem_toArray, List.getElem_cons_succ, List.getElem_cons_zero, List.setIfInBounds_toArray, List.set_cons_zero, List.set_cons_succ]
          refine wpAnyH_take (i := 10) (v := undef) rfl (by kernel_rfl) (by kernel_rfl) (by kernel_rfl) (fun _ _ _ h => h) (Or.inr ⟨by kernel_rfl, rfl⟩) (by assumption) ?_
          simp only [Act.put, List.getElem_toArray, List.getElem_cons_succ, List.getElem_cons_zero, List.setIfInBounds_toArray, List.set_cons_zero, List.set_cons_succ]
          refine wpAnyH_take (i := 11) (v := undef) rfl (by kernel_rfl) (by kernel_rfl) (by kernel_rfl) (fun _ _ _ h => h) (Or.inr ⟨by kernel_rfl, rfl⟩) (by assumption) ?_
          simp only [Act.put, List.getElem_toArray, List.getElem_cons_succ, List.getElem_cons_zero, List.setIfInBounds_toArray, List.set_cons_zero, List.set_cons_succ]
          refine wpAnyH_take (i := 12) (v := undef) rfl (by kernel_rfl) (by kernel_rfl) (by kernel_rfl) (fun _ _ _ h => h) (Or.inr ⟨by kernel_rfl, rfl⟩) (by assumption) ?_
          simp only [Act.put, List.getElem_toArray, List.getElem_cons_succ, List.getElem_cons_zero, List.setIfInBounds_toArray, List.set_cons_zero, List.set_cons_succ]
          refine wpAnyH_take (i := 13) (v := undef) rfl (by kernel_rfl) (by kernel_rfl) (by kernel_rfl) (fun _ _ _ h => h) (Or.inr ⟨by kernel_rfl, rfl⟩) (by assumption) ?_
          simp only [Act.put, List.getElem_toArray, List.getElem_cons_succ, List.getElem_cons_zero, List.setIfInBounds_toArray, List.set_cons_zero, List.set_cons_succ]
          refine wpAnyH_take (i := 14) (v := undef) rfl (by kernel_rfl) (by kernel_rfl) (by kernel_rfl) (fun _ _ _ h => h) (Or.inr ⟨by kernel_rfl, rfl⟩) (by assumption) ?_
          simp only [Act.put, List.getElem_toArray, List.getElem_cons_succ, List.getElem_cons_zero, List.setIfInBounds_toArray, List.set_cons_zero, List.set_cons_succ]
          refine wpAnyH_take (i := 15) (v := undef) rfl (by kernel_rfl) (by kernel_rfl) (by kernel_rfl) (fun _ _ _ h => h) (Or.inr ⟨by kernel_rfl, rfl⟩) (by assumption) ?_
          simp only [Act.put, List.getElem_toArray, List.getElem_cons_succ, List.getElem_cons_zero, List.setIfInBounds_toArray, List.set_cons_zero, List.set_cons_succ]
          refine wpAnyH_take (i := 16) (v := undef) rfl (by kernel_rfl) (by kernel_rfl) (by kernel_rfl) (fun _ _ _ h => h) (Or.inr ⟨by kernel_rfl, rfl⟩) (by assumption) ?_
          simp only [Act.put, List.getElem_toArray, List.getElem_cons_succ, List.getElem_cons_zero, List.setIfInBounds_toArray, List.set_cons_zero, List.set_cons_succ]
          refine wpAnyH_take (i := 17) (v := ?_) rfl (by kernel_rfl) (by kernel_rfl) (by kernel_rfl) (fun _ _ _ h => h) (Or.inl ⟨by kernel_rfl, ?_⟩) (by assumption) ?_
          rotate_left
          · intro w hSw; (try dsimp only at hSw); go_simp; try with_reducible rfl
          simp only [Act.put, List.getElem_toArray, List.getElem_cons_succ, List.getElem_cons_zero, List.setIfInBounds_toArray, List.set_cons_zero, List.set_cons_succ]
          refine wpAnyH_take (i := 18) (v := ?_) rfl (by kernel_rfl) (by kernel_rfl) (by kernel_rfl) (fun _ _ _ h => h) (Or.inl ⟨by kernel_rfl, ?_⟩) (by assumption) ?_
          rotate_left
          · intro w hSw; (try dsimp only at hSw); go_simp; try with_reducible rfl
          simp only [Act.put, List.getElem_toArray, List.getElem_cons_succ, List.getElem_cons_zero, List.setIfInBounds_toArray, List.set_cons_zero, List.set_cons_succ]
          refine wpAnyH_done (by kernel_rfl) ?_ _
          go_wp2_with fail
          clear x1
          exact ⟨⟨k + 1, Hlt.out, by push_cast; rfl, ⟨false, rfl, ratV_bad (fun h => by have h1 := HM.out.1 (by have := h.1; unfold verOk at this; rw [HF.out.1, ← HF.out.2] at this; exact this); cases h1)⟩, (HbB.out _ hb5).1, (HbB.out _ hb5).2⟩, meas_z nv k Hlt.out⟩
        | true =>
          by_cases h0 : k = 0
          · have kz : ((k : Int) == 0) = true := beq_iff_eq.2 (by omega)
            have H0 := Lib.hid h0
            clear h0
            have x1 := X1.out
            go_wp2_with fail
            try rw [hW1]

            refine wp_region_held_drew (S := (fun W => (W.cell? ⟨z, 0, none⟩ = some (.int .i64 fk) ∧ W.cell? ⟨z, 1, none⟩ = some (.slice P1 P2 P3)) ∧ Below W1.heap.size W1 W)) (by kernel_rfl) (HSS.out _ (Below.refl _ _).drew) (fun hHeld => ?_)
            refine wpAnyH_take (i := 0) (v := ?_) rfl (by kernel_rfl) (by kernel_rfl) (by kernel_rfl) (fun _ _ _ h => h) (Or.inl ⟨by kernel_rfl, ?_⟩) (by assumption) ?_
            rotate_left
            · intro w hSw; (try dsimp only at hSw); go_simp; try with_reducible rfl
            simp only [Act.put, List.getElem_toArray, List.getElem_cons_succ, List.getElem_cons_zero, List.setIfInBounds_toArray, List.set_cons_zero, List.set_cons_succ]
            refine wpAnyH_take (i := 1) (v := ?_) rfl (by kernel_rfl) (by kernel_rfl) (by kernel_rfl) (fun _ _ _ h => h) (Or.inl ⟨by kernel_rfl, ?_⟩) (by assumption) ?_
            rotate_left
            · intro w hSw; (try dsimp only at hSw); go_simp; try with_reducible rfl
            simp only [Act.put, List.getElem_toArray, List.getElem_cons_succ, List.getElem_cons_zero, List.setIfInBounds_toArray, List.set_cons_zero, List.set_cons_succ]
            refine wpAnyH_take (i := 2) (v := ?_) rfl (by kernel_rfl) (by kernel_rfl) (by kernel_rfl) (fun _ _ _ h => h) (Or.inl ⟨by kernel_rfl, ?_⟩) (by assumption) ?_
            rotate_left
            · intro w hSw; (try dsimp only at hSw); go_simp; try with_reducible rfl
            simp only [Act.put, List.getElem_toArray, List.getElem_cons_succ, List.getElem_cons_zero, List.setIfInBounds_toArray, List.set_cons_zero, List.set_cons_succ]
            refine wpAnyH_ready (rs := [3]) (by kernel_rfl) (by simp) ?_
            refine AllReadyH.cons rfl (fun K hK => ?_) AllReadyH.nil
            go_simp
            refine (HMay.out _ hHeld.2).mono ?_
            rintro e w4 ⟨rfl, hb4⟩
            have hb5 := bnext hHeld.2 hb4
            clear hHeld
            try go_wp2_with fail
            refine hK.out _ _ (HSS.out _ hb5) (fun hHeld => ?_)
            clear hK K
            try simp only [Act.put, List.getElem_toArray, List.getElem_cons_succ, List.getElem_cons_zero, List.setIfInBounds_toArray, List.set_cons_zero, List.set_cons_succ]
            refine wpAnyH_take (i := 4) (v := ?_) rfl (by kernel_rfl) (by kernel_rfl) (by kernel_rfl) (fun _ _ _ h => h) (Or.inl ⟨by kernel_rfl, ?_⟩) (by assumption) ?_
            rotate_left
            · intro w hSw; (try dsimp only at hSw); go_simp; try with_reducible rfl
            simp only [Act.put, List.getElem_toArray, List.getElem_cons_succ, List.getElem_cons_zero, List.setIfInBounds_toArray, List.set_cons_zero, List.set_cons_succ]
            refine wpAnyH_take (i := 5) (v := ?_) rfl (by kernel_rfl) (by kernel_rfl) (by kernel_rfl) (fun _ _ _ h => h) (Or.inl ⟨by kernel_rfl, ?_⟩) (by assumption) ?_
            rotate_left
            · intro w hSw; (try dsimp only at hSw); go_simp; try with_reducible rfl
            simp only [Act.put, List.getElem_toArray, List.getElem_cons_succ, List.getElem_cons_zero, List.setIfInBounds_toArray, List.set_cons_zero, List.set_cons_succ]
            refine wpAnyH_take (i := 6) (v := ?_) rfl (by kernel_rfl) (by kernel_rfl) (by kernel_rfl) (fun _ _ _ h => h) (Or.inl ⟨by kernel_rfl, ?_⟩) (by assumption) ?_
            rotate_left
            · intro w hSw; (try dsimp only at hSw); go_simp; try with_reducible rfl
            simp only [Act.put, List.getElem_toArray, List.getElem_cons_succ, List.getElem_cons_zero, List.setIfInBounds_toArray, List.set_cons_zero, List.set_cons_succ]
            refine wpAnyH_take (i := 7) (v := ?_) rfl (by kernel_rfl) (by kernel_rfl) (by kernel_rfl) (fun _ _ _ h => h) (Or.inl ⟨by kernel_rfl, ?_⟩) (by assumption) ?_
            rotate_left
            · intro w hSw; (try dsimp only at hSw); go_simp; try with_reducible rfl
            simp only [Act.put, List.getElem_toArray, List.getElem_cons_succ, List.getElem_cons_zero, List.setIfInBounds_toArray, List.set_cons_zero, List.set_cons_succ]
            refine wpAnyH_take (i := 8) (v := ?_) rfl (by kernel_rfl) (by kernel_rfl) (by kernel_rfl) (fun _ _ _ h => h) (Or.inl ⟨by kernel_rfl, ?_⟩) (by assumption) ?_
            rotate_left
            · intro w hSw; (try dsimp only at hSw); go_simp; try with_reducible rfl
            simp only [Act.put, List.getElem_toArray, List.getElem_cons_succ, List.getElem_cons_zero, List.setIfInBounds_toArray, List.set_cons_zero, List.set_cons_succ]
            refine wpAnyH_take (i := 9) (v := undef) rfl (by kernel_rfl) (by kernel_rfl) (by kernel_rfl) (fun _ _ _ h => h) (Or.inr ⟨by kernel_rfl, rfl⟩) (by assumption) ?_
            simp only [Act.put, List.getElem_toArray, List.getElem_cons_succ, List.getElem_cons_zero, List.setIfInBounds_toArray, List.set_cons_zero, List.set_cons_succ]
            refine wpAnyH_take (i := 10) (v := undef) rfl (by kernel_rfl) (by kernel_rfl) (by kernel_rfl) (fun _ _ _ h => h) (Or.inr ⟨by kernel_rfl, rfl⟩) (by assumption) ?_
            simp only [Act.put, List.getElem_toArray, List.getElem_cons_succ, List.getElem_cons_zero, List.setIfInBounds_toArray, List.set_cons_zero, List.set_cons_succ]
            refine wpAnyH_take (i := 11) (v := undef) rfl (by kernel_rfl) (by kernel_rfl) (by kernel_rfl) (fun _ _ _ h => h) (Or.inr ⟨by kernel_rfl, rfl⟩) (by assumption) ?_
            simp only [Act.put, List.getElem_toArray, List.getElem_cons_succ, List.getElem_cons_zero, List.setIfInBounds_toArray, List.set_cons_zero, List.set_cons_succ]
            refine wpAnyH_take (i := 12) (v := undef) rfl (by kernel_rfl) (by kernel_rfl) (by kernel_rfl) (fun _ _ _ h => h) (Or.inr ⟨by kernel_rfl, rfl⟩) (by assumption) ?_
            simp only [Act.put, List.getElem_toArray, List.getElem_cons_succ, List.getElem_cons_zero, List.setIfInBounds_toArray, List.set_cons_zero, List.set_cons_succ]
            refine wpAnyH_take (i := 13) (v := undef) rfl (by kernel_rfl) (by kernel_rfl) (by kernel_rfl) (fun _ _ _ h => h) (Or.inr ⟨by kernel_rfl, rfl⟩) (by assumption) ?_
            simp only [Act.put, List.getElem_toArray, List.getElem_cons_succ, List.getElem_cons_zero, List.setIfInBounds_toArray, List.set_cons_zero, List.set_cons_succ]
            refine wpAnyH_take (i := 14) (v := undef) rfl (by kernel_rfl) (by kernel_rfl) (by kernel_rfl) (fun _ _ _ h => h) (Or.inr ⟨by kernel_rfl, rfl⟩) (by assumption) ?_
            simp only [Act.put, List.getElem_toArray, List.getElem_cons_succ, List.getElem_cons_zero, List.setIfInBounds_toArray, List.set_cons_zero, List.set_cons_succ]
            refine wpAnyH_take (i := 15) (v := undef) rfl (by kernel_rfl) (by kernel_rfl) (by kernel_rfl) (fun _ _ _ h => h) (Or.inr ⟨by kernel_rfl, rfl⟩) (by assumption) ?_
            simp only [Act.put, List.getElem_toArray, List.getElem_cons_succ, List.getElem_cons_zero, List.setIfInBounds_toArray, List.set_cons_zero, List.set_cons_succ]
            refine wpAnyH_take (i := 16) (v := ?_) rfl (by kernel_rfl) (by kernel_rfl) (by kernel_rfl) (fun _ _ _ h => h) (Or.inl ⟨by kernel_rfl, ?_⟩) (by assumption) ?_
            rotate_left
            · intro w hSw; (try dsimp only at hSw); go_simp; try with_reducible rfl
            simp only [Act.put, List.getElem_toArray, List.getElem_cons_succ, List.getElem_cons_zero, List.setIfInBounds_toArray, List.set_cons_zero, List.set_cons_succ]
            refine wpAnyH_take (i := 17) (v := ?_) rfl (by kernel_rfl) (by kernel_rfl) (by kernel_rfl) (fun _ _ _ h => h) (Or.inl ⟨by kernel_rfl, ?_⟩) (by assumption) ?_
            rotate_left
            · intro w hSw; (try dsimp only at hSw); go_simp; try with_reducible rfl
            simp only [Act.put, List.getElem_toArray, List.getElem_cons_succ, List.getElem_cons_zero, List.setIfInBounds_toArray, List.set_cons_zero, List.set_cons_succ]
            refine wpAnyH_take (i := 18) (v := ?_) rfl (by kernel_rfl) (by kernel_rfl) (by kernel_rfl) (fun _ _ _ h => h) (Or.inl ⟨by kernel_rfl, ?_⟩) (by assumption) ?_
            rotate_left
            · intro w hSw; (try dsimp only at hSw); go_simp; try with_reducible rfl
            simp only [Act.put, List.getElem_toArray, List.getElem_cons_succ, List.getElem_cons_zero, List.setIfInBounds_toArray, List.set_cons_zero, List.set_cons_succ]
            refine wpAnyH_done (by kernel_rfl) ?_ _
            go_wp2_with fail
            clear x1
            exact ⟨⟨k + 1, Hlt.out, by push_cast; rfl, ⟨true, rfl, ratV_ok HV.out ⟨by unfold verOk; rw [HF.out.1, ← HF.out.2]; first | exact HM.out.2 rfl | exact HM.out.2 trivial, fun h => by have := H0.out; omega⟩⟩, (HbB.out _ hb5).1, (HbB.out _ hb5).2⟩, meas_z nv k Hlt.out⟩
          · obtain ⟨q, hq⟩ : ∃ q : Nat, k = q + 1 := ⟨k - 1, by omega⟩
            have kz : ((k : Int) == 0) = false := beq_eq_false_iff_ne.2 (by omega)
            have hqn : q < nv := by have := Hlt.out; omega
            obtain ⟨sb2, off2, e2, hsb2, r0, r1⟩ := HR1.out.at_ hqn
            injection e2 with e2
            injection e2 with e3 e4
            subst e3 e4
            have hLq := HLn.out q
            unfold slV at r1
            obtain ⟨Q1, hQ1⟩ : ∃ x, (F q).1 = x := ⟨_, rfl⟩
            obtain ⟨Q2, hQ2⟩ : ∃ x, (F q).2.1 = x := ⟨_, rfl⟩
            obtain ⟨Q3, hQ3⟩ : ∃ x, (F q).2.2 = x := ⟨_, rfl⟩
            rw [hQ1, hQ2, hQ3] at r1
            rw [hQ2] at hLq
            obtain ⟨fq, hfq⟩ : ∃ x, f q = x := ⟨_, rfl⟩
            rw [hfq] at r0
            have hw0 : IntKind.i64.wrap ((k : Int) - 1) = (q : Int) := by rw [show (k : Int) - 1 = (q : Int) by omega]; exact i64_same _ (by have := Hlen.out; omega)
            have hq0 : (0 : Int) ≤ (q : Int) := by omega
            have hq1 : (q : Int) < (nv : Int) := by omega
            have HQ := Lib.hid (And.intro hq (And.intro hfq hLq))
            obtain ⟨G, hG⟩ : ∃ G, decide (fq < fk ∧ P2 = Q2) = G := ⟨_, rfl⟩
            have HG := Lib.hid (show (fq < fk ∧ P2 = Q2) ↔ G = true by rw [← hG, decide_eq_true_eq])
            have hGo : ∀ W', Calls Tryz.prog 48 #[.agg #[.int .i64 fk, .slice P1 P2 P3], .agg #[.int .i64 fq, .slice Q1 Q2 Q3]] W' fun e w'' => e = .returned (.bool (decide (fq < fk ∧ P2 = Q2))) ∧ Below W'.heap.size W' w'' := fun W' => goes_calls fk fq P1 Q1 P2 P3 Q2 Q3 W'
            rw [hG] at hGo
            have HGo := Lib.hid hGo
            have HS4 := Lib.hid (show ∀ W', Below W1.heap.size W1 W' → W'.cell? ⟨z, 0, none⟩ = some (.int .i64 fk) ∧ W'.cell? ⟨z, 1, none⟩ = some (.slice P1 P2 P3) ∧ W'.cell? ⟨sb, off + q * 2, none⟩ = some (.int .i64 fq) ∧ W'.cell? ⟨sb, off + q * 2 + 1, none⟩ = some (.slice Q1 Q2 Q3) from fun W' hb => ⟨cell_go d0 hb, cell_go d1 hb, cell_go r0 hb, cell_go r1 hb⟩)
            have HFin := Lib.hid (show RatV nv f ln p (k + 1) G by
              have hb : goB f ln k ↔ G = true := by
                rw [← HG.out]
                unfold goB
                rw [HQ.out.1, show q + 1 - 1 = q by omega, HQ.out.2.1, ← HQ.out.2.2, ← HQ.out.1, HF.out.1, ← HF.out.2]
                exact ⟨fun h => h (by omega), fun h _ => h⟩
              cases G with
              | true => exact ratV_ok HV.out ⟨by unfold verOk; rw [HF.out.1, ← HF.out.2]; first | exact HM.out.2 rfl | exact HM.out.2 trivial, hb.2 rfl⟩
              | false => exact ratV_bad (fun h => by have := hb.1 h.2; cases this))
            clear h0 hq hqn hsb2 hLq hQ1 hQ2 hQ3 hfq hG hGo
            have x1 := X1.out
            go_wp2_with fail
            go_region_held3 (fun W => W.cell? ⟨z, 0, none⟩ = some (.int .i64 fk) ∧ W.cell? ⟨z, 1, none⟩ = some (.slice P1 P2 P3) ∧ W.cell? ⟨sb, off + q * 2, none⟩ = some (.int .i64 fq) ∧ W.cell? ⟨sb, off + q * 2 + 1, none⟩ = some (.slice Q1 Q2 Q3))
              (first | exact HS4.out _ ((Below.refl _ _).drew) | exact HS4.out _ hb5 | exact HS4.out _ hb7)
              (first
                | (go_at_call 47; refine (HMay.out _ ((Below.refl _ _).drew)).mono ?_; rintro e w4 ⟨rfl, hb4⟩; have hb5 := bnext ((Below.refl _ _).drew) hb4)
                | (go_at_call 48; refine (HGo.out _).mono ?_; rintro e w6 ⟨rfl, hb6⟩; have hb7 := bnext hb5 hb6))
            all_goals
              go_wp2_with fail
              clear x1
              exact ⟨⟨k + 1, Hlt.out, by push_cast; rfl, ⟨G, rfl, HFin.out⟩, (HbB.out _ hb7).1, (HbB.out _ hb7).2⟩, meas_z nv k Hlt.out⟩

    · obtain rfl : k = nv := by omega
      have hI : ¬ ((k : Int) < k) := by omega
      have HB := Lib.hid hB
      cases V with
      | true =>
        have Hyes := Lib.hid (show E = 0 by rw [← HE.out]; exact if_pos (hV.1 rfl))
        clear hV hB hk hlt hbs
        go_wp2_with fail
        go_ret
        rw [Hyes.out]
        exact ⟨rfl, by first | exact HB.out | (rw [Hb0.out]; exact HB.out)⟩
      | false =>
        have Hno := Lib.hid (show E = 100 by rw [← HE.out]; exact if_neg (fun h => by have := hV.2 h; cases this))
        clear hV hB hk hlt hbs
        go_wp2_with fail
        go_ret
        rw [Hno.out]
        exact ⟨rfl, by first | exact HB.out | (rw [Hb0.out]; exact HB.out)⟩

end Go.Proofs.YtgbkedjjgbhcmaaGreatDoor

/-
  The version of an instant and its price: rates.behind, slices.BinarySearchFunc at its closure, rates.At, rates.Price of a table that may be, walked. Conditions stand at each theorem.
-/
namespace Go.Proofs.YtgbkedjjgbhcmaaGreatDoor
open Go Go.RowKit Go.Kw Go.Kw.Cv Go.Shelf
set_option linter.unusedVariables false
set_option linter.unusedSimpArgs false

def bhV (f t : Int) : Int := if f ≤ t then -1 else 1
set_option maxRecDepth 100000 in
set_option maxHeartbeats 8000000 in
theorem behind1_calls (f : Int) (A : Option Addr) (n c : Nat) (t : Int) (w : World) :
    Calls Tryz.prog 90 #[.agg #[.int .i64 f, .slice A n c], .int .i64 t] w fun e w' => e = .returned (.int .i64 (bhV f t)) ∧ Below w.heap.size w w' := by
  have hst := bstep w (.cells #[.int .i64 f, .slice A n c] 52)
  unfold bhV
  by_cases h : f ≤ t
  · have k0 : decide (f ≤ t) = true := decide_eq_true h
    rw [if_pos h]
    clear h
    go_enter Tryz.func90, Tryz.ntmps90
    go_wp2_with fail
    go_ret
    exact ⟨rfl, hst⟩
  · have k0 : decide (f ≤ t) = false := decide_eq_false h
    rw [if_neg h]
    clear h
    go_enter Tryz.func90, Tryz.ntmps90
    go_wp2_with fail
    go_ret
    exact ⟨rfl, hst⟩
theorem mid_in {a b : Nat} (h : a < b) : a ≤ (a + b) / 2 ∧ (a + b) / 2 < b := by omega
set_option maxRecDepth 100000 in
set_option maxHeartbeats 8000000 in
theorem bsearch_calls (A : Option Addr) (nv cv : Nat) (f : Nat → Int) (F : Nat → SlX) (p : Nat → Nat → Int) (t : Int) (hok : ratOk nv f (fun i => (F i).2.1) p) (w : World) (hR : RdRt w A nv cv f F p) :
    Calls Tryz.prog 89 #[.slice A nv cv, .int .i64 t, .func (.func 90) #[] #[]] w fun e w' => e = .returned (.tuple #[.int .i64 (verN f t nv : Int), .bool false]) ∧ Below w.heap.size w w' := by
  obtain ⟨b0, hb0⟩ : ∃ b0, w.heap.size = b0 := ⟨_, rfl⟩
  have Hb0 := Lib.hid hb0
  have HR := Lib.hid hR
  have Hok := Lib.hid hok
  have hn := hok.1
  have Hn := Lib.hid hn
  have hst := Below.refl b0 w
  obtain ⟨V, hV⟩ : ∃ V, verN f t nv = V := ⟨_, rfl⟩
  have HV := Lib.hid hV
  rw [hV]
  clear hR hok hV hn
  go_enter Tryz.func89, Tryz.ntmps89
  go_wp2_with fail
  go_loopw [9, 10] (fun iv jv wr => ∃ a b : Nat, a ≤ b ∧ b ≤ nv ∧ iv = .int .i64 a ∧ jv = .int .i64 b ∧ (∀ x, x < a → f x ≤ t) ∧ (∀ x, b ≤ x → x < nv → t < f x) ∧ Below b0 w wr) (fun iv jv _ => (intOf jv).toNat - (intOf iv).toNat)
  case atStart => exact ⟨0, nv, by omega, by omega, rfl, rfl, fun x hx => absurd hx (by omega), fun x h1 h2 => absurd h1 (by omega), hst⟩
  case round =>
    obtain ⟨a, b, hab, hbn, rfl, rfl, hA, hZ, hB⟩ := hrel
    clear hst
    by_cases hlt : a < b
    · have hI : (a : Int) < b := by omega
      obtain ⟨h, hh⟩ : ∃ h, (a + b) / 2 = h := ⟨_, rfl⟩
      have hm := mid_in hlt
      rw [hh] at hm
      have hnn := Hn.out
      have X0 := Lib.hid (And.intro (i64_same ((a : Int) + (b : Int)) (by omega)) (wrap64_in ((a : Int) + (b : Int)) (by omega)))
      have hmi : ((a : Int) + (b : Int)) / 2 = (h : Int) := by omega
      have hh0 : (0 : Int) ≤ (h : Int) := by omega
      have hb200 : (b : Int) ≤ 200 := by omega
      have hhn : (h : Int) < (nv : Int) := by omega
      have hRw : RdRt wr A nv cv f F p := HR.out.go (by rw [Hb0.out]; exact hB)
      obtain ⟨sb, off, rfl, hsb, q0, q1⟩ := hRw.at_ (show h < nv by omega)
      unfold slV at q1
      obtain ⟨P1, hP1⟩ : ∃ x, (F h).1 = x := ⟨_, rfl⟩
      obtain ⟨P2, hP2⟩ : ∃ x, (F h).2.1 = x := ⟨_, rfl⟩
      obtain ⟨P3, hP3⟩ : ∃ x, (F h).2.2 = x := ⟨_, rfl⟩
      rw [hP1, hP2, hP3] at q1
      obtain ⟨fh, hfh⟩ : ∃ x, f h = x := ⟨_, rfl⟩
      rw [hfh] at q0
      have HX := behind1_calls fh P1 P2 P3 t wr
      obtain ⟨C, hC⟩ : ∃ C, bhV fh t = C := ⟨_, rfl⟩
      rw [hC] at HX
      replace HX := Lib.hid HX
      have HC := Lib.hid (And.intro hfh hC)
      have HA := Lib.hid hA
      have HZ := Lib.hid hZ
      have HB := Lib.hid hB
      have Hm := Lib.hid (And.intro hm (And.intro hbn hlt))
      have X1 := Lib.hid (And.intro (i64_same ((h : Int) + 1) (by omega)) (And.intro (wrap64_in (h : Int) (by omega)) (wrap64_in ((h : Int) + 1) (by omega))))
      clear hRw hP1 hP2 hP3 hfh hC hA hZ hB hm hlt hbn hab hsb hh hnn
      by_cases hc : C < 0
      · have kc : decide (C < 0) = true := decide_eq_true hc
        have Hle := Lib.hid (show f h ≤ t by
          rw [HC.out.1]
          have := HC.out.2
          unfold bhV at this
          split at this
          · assumption
          · omega)
        clear hc
        have w0 := trivial
        obtain ⟨w1, -, x1⟩ := X1.out
        go_wp2_with fail
        refine HX.out.mono ?_
        rintro e w4 ⟨rfl, hb4⟩
        go_wp2_with fail
        clear w0 w1 x1
        have hm := Hm.out
        refine ⟨⟨h + 1, b, by omega, hm.2.1, by push_cast; rfl, rfl, fun x hx => ?_, HZ.out, HB.out.trans (hb4.mono (Hb0.out ▸ HB.out.size))⟩, ?_⟩
        · by_cases e : x = h
          · rw [e]; exact Hle.out
          · have := rat_sorted Hok.out (show x < h by omega) (by omega)
            have := Hle.out
            omega
        · simp [intOf]
          omega
      · have kc : decide (C < 0) = false := decide_eq_false hc
        have Hgt := Lib.hid (show t < f h by
          rw [HC.out.1]
          have := HC.out.2
          unfold bhV at this
          split at this
          · omega
          · omega)
        clear hc
        have w0 := trivial
        obtain ⟨w1, -, x1⟩ := X1.out
        go_wp2_with fail
        refine HX.out.mono ?_
        rintro e w4 ⟨rfl, hb4⟩
        go_wp2_with fail
        clear w0 w1 x1
        have hm := Hm.out
        refine ⟨⟨a, h, by omega, by omega, rfl, rfl, HA.out, fun x h1 h2 => ?_, HB.out.trans (hb4.mono (Hb0.out ▸ HB.out.size))⟩, ?_⟩
        · by_cases e : x = h
          · rw [e]; exact Hgt.out
          · have := rat_sorted Hok.out (show h < x by omega) h2
            have := Hgt.out
            omega
        · simp [intOf]
          omega
    · obtain rfl : a = b := by omega
      have hI : ¬ ((a : Int) < a) := by omega
      have hva : verN f t nv = a := verN_unique Hok.out t a hbn hA hZ
      rw [HV.out] at hva
      subst hva
      have HB := Lib.hid hB
      have hRw : RdRt wr A nv cv f F p := HR.out.go (by rw [Hb0.out]; exact hB)
      by_cases hl : V < nv
      · have kl : decide ((V : Int) < (nv : Int)) = true := decide_eq_true (by omega)
        have hv0 : (0 : Int) ≤ (V : Int) := by omega
        have hvn : (V : Int) < (nv : Int) := by omega
        obtain ⟨sb, off, rfl, hsb, q0, q1⟩ := hRw.at_ hl
        unfold slV at q1
        obtain ⟨P1, hP1⟩ : ∃ x, (F V).1 = x := ⟨_, rfl⟩
        obtain ⟨P2, hP2⟩ : ∃ x, (F V).2.1 = x := ⟨_, rfl⟩
        obtain ⟨P3, hP3⟩ : ∃ x, (F V).2.2 = x := ⟨_, rfl⟩
        rw [hP1, hP2, hP3] at q1
        obtain ⟨fh, hfh⟩ : ∃ x, f V = x := ⟨_, rfl⟩
        rw [hfh] at q0
        have HX := behind1_calls fh P1 P2 P3 t wr
        have hC : bhV fh t = 1 := by
          have := hZ V (Nat.le_refl _) hl
          rw [hfh] at this
          exact if_neg (by omega)
        rw [hC] at HX
        replace HX := Lib.hid HX
        clear hRw hP1 hP2 hP3 hfh hC hA hZ hB hlt hbn hab hsb hl
        go_wp2_with fail
        refine HX.out.mono ?_
        rintro e w4 ⟨rfl, hb4⟩
        have HB4 := Lib.hid (HB.out.trans (hb4.mono (Hb0.out ▸ HB.out.size)))
        clear hb4
        go_wp2_with fail
        go_ret2
        exact ⟨rfl, by first | exact HB4.out | (rw [Hb0.out]; exact HB4.out)⟩
      · have kl : decide ((V : Int) < (nv : Int)) = false := decide_eq_false (by omega)
        have kl2 : decide (V < nv) = false := decide_eq_false (by omega)
        clear hRw hA hZ hB hlt hbn hab hl
        go_wp2_with fail
        go_ret2
        exact ⟨rfl, by first | exact HB.out | (rw [Hb0.out]; exact HB.out)⟩
set_option maxRecDepth 100000 in
set_option maxHeartbeats 8000000 in
theorem rbehind_calls (A : Option Addr) (nv cv : Nat) (f : Nat → Int) (F : Nat → SlX) (p : Nat → Nat → Int) (t : Int) (hok : ratOk nv f (fun i => (F i).2.1) p) (w : World) (hR : RdRt w A nv cv f F p) :
    Calls Tryz.prog 77 #[.slice A nv cv, .int .i64 t] w fun e w' => e = .returned (.int .i64 (verN f t nv : Int)) ∧ Below w.heap.size w w' := by
  have HX := Lib.hid (bsearch_calls A nv cv f F p t hok w hR)
  clear hok hR
  go_enter Tryz.func77, Tryz.ntmps77
  go_wp2_with fail
  refine HX.out.mono ?_
  rintro e w2 ⟨rfl, hb⟩
  have HB := Lib.hid hb
  clear hb
  go_wp2_with fail

  go_ret
  exact ⟨rfl, HB.out⟩
def atI (f : Nat → Int) (t : Int) (nv : Nat) : Int := ((verN f t nv - 1 : Nat) : Int)
def atB (f : Nat → Int) (t : Int) (nv : Nat) : Bool := decide (0 < verN f t nv)
set_option maxRecDepth 100000 in
set_option maxHeartbeats 8000000 in
theorem ratAt_calls (A : Option Addr) (nv cv : Nat) (f : Nat → Int) (F : Nat → SlX) (p : Nat → Nat → Int) (t : Int) (hok : ratOk nv f (fun i => (F i).2.1) p) (w : World) (hR : RdRt w A nv cv f F p) :
    Calls Tryz.prog 62 #[.slice A nv cv, .int .i64 t] w fun e w' => e = .returned (.tuple #[.int .i64 (atI f t nv), .bool (atB f t nv)]) ∧ Below w.heap.size w w' := by
  have hC := ratCheck_calls A nv cv f F p w hR
  rw [show ratE nv f (fun i => (F i).2.1) p = 0 from if_pos hok] at hC
  have HC := Lib.hid hC
  have HR := Lib.hid hR
  have Hok := Lib.hid hok
  have hvn := verN_le f t nv
  have hn := hok.1
  unfold atI atB
  obtain ⟨V, hV⟩ : ∃ V, verN f t nv = V := ⟨_, rfl⟩
  have HV := Lib.hid hV
  rw [hV]
  rw [hV] at hvn
  clear hC hR hok hV
  rcases V with _ | q
  · clear hvn hn
    go_enter Tryz.func62, Tryz.ntmps62
    go_wp2_with fail
    refine HC.out.mono ?_
    rintro e w2 ⟨rfl, hb⟩
    have hX := rbehind_calls A nv cv f F p t Hok.out w2 (HR.out.go hb)
    rw [HV.out] at hX
    have HX := Lib.hid hX
    have HB := Lib.hid hb
    clear hX hb
    go_wp2_with fail
    refine HX.out.mono ?_
    rintro e w3 ⟨rfl, hb3⟩
    have HB3 := Lib.hid (bnext HB.out hb3)
    clear hb3
    go_wp2_with fail
    go_ret2
    exact ⟨rfl, HB3.out⟩
  · have w1 : IntKind.i64.wrap (((q + 1 : Nat) : Int) - 1) = (q : Int) := by rw [show ((q + 1 : Nat) : Int) - 1 = (q : Int) by omega]; exact i64_same _ (by omega)
    have w2 : wrap64 (((q + 1 : Nat) : Int) - 1) = (q : Int) := by rw [show ((q + 1 : Nat) : Int) - 1 = (q : Int) by omega]; exact wrap64_in _ (by omega)
    obtain ⟨m, hm⟩ : ∃ m : Int, ((q + 1 : Nat) : Int) = m := ⟨_, rfl⟩
    rw [hm] at w1 w2
    have kq : decide ((q : Int) < 0) = false := decide_eq_false (by omega)
    have kq2 : decide ((q : Int) > 0) = decide ((q : Int) > 0) := rfl
    have km : decide (m > 0) = true := decide_eq_true (by omega)
    have e1 : decide (0 < q + 1) = true := decide_eq_true (by omega)
    have e2 : q + 1 - 1 = q := by omega
    rw [e1, e2]
    have HV2 := Lib.hid (show (verN f t nv : Int) = m by rw [HV.out]; exact hm)
    have hq0 : (0 : Int) ≤ (q : Int) := by omega
    clear hvn hn e1 e2 hm kq2
    go_enter Tryz.func62, Tryz.ntmps62
    go_wp2_with fail
    refine HC.out.mono ?_
    rintro e w2 ⟨rfl, hb⟩
    have hX := rbehind_calls A nv cv f F p t Hok.out w2 (HR.out.go hb)
    rw [HV2.out] at hX
    have HX := Lib.hid hX
    have HB := Lib.hid hb
    clear hX hb
    go_wp2_with fail
    refine HX.out.mono ?_
    rintro e w3 ⟨rfl, hb3⟩
    have HB3 := Lib.hid (bnext HB.out hb3)
    clear hb3
    go_wp2_with fail
    go_ret2
    exact ⟨rfl, HB3.out⟩
/-- An instant's price; is there one? -/
def priV (f : Nat → Int) (p : Nat → Nat → Int) (t : Int) (nv : Nat) (band : Int) : Int := if 0 < verN f t nv then p (verN f t nv - 1) band.toNat else 0
set_option maxRecDepth 100000 in
set_option maxHeartbeats 8000000 in
theorem price_calls (A : Option Addr) (nv cv : Nat) (f : Nat → Int) (F : Nat → SlX) (p : Nat → Nat → Int) (t band : Int) (hok : ratOk nv f (fun i => (F i).2.1) p) (hln : ∀ i, i < nv → (F i).2.1 = 8) (hb : 0 ≤ band ∧ band ≤ 7) (w : World) (hR : RdRt w A nv cv f F p) :
    Calls Tryz.prog 31 #[.slice A nv cv, .int .i64 t, .int .i64 band] w fun e w' => e = .returned (.tuple #[.int .i64 (priV f p t nv band), .bool (atB f t nv)]) ∧ Below w.heap.size w w' := by
  have hA := ratAt_calls A nv cv f F p t hok w hR
  have hvn := verN_le f t nv
  unfold priV atB
  unfold atI atB at hA
  obtain ⟨V, hV⟩ : ∃ V, verN f t nv = V := ⟨_, rfl⟩
  rw [hV] at hA hvn ⊢
  have HR := Lib.hid hR
  clear hok hR hV
  rcases V with _ | q
  · rw [show decide (0 < 0) = false from rfl] at hA ⊢
    rw [if_neg (by omega)]
    have HA := Lib.hid hA
    clear hA hvn hln hb
    go_enter Tryz.func31, Tryz.ntmps31
    go_wp2_with fail
    refine HA.out.mono ?_
    rintro e w2 ⟨rfl, hb2⟩
    have HB := Lib.hid hb2
    clear hb2
    go_wp2_with fail
    try go_quiet (fail)
    try go_wp2_with fail
    go_ret2
    exact ⟨rfl, by first | exact HB.out | exact HB.out.drewN _⟩
  · have e1 : decide (0 < q + 1) = true := decide_eq_true (by omega)
    have e2 : q + 1 - 1 = q := by omega
    rw [e1, e2] at hA ⊢
    rw [if_pos (by omega)]
    have HA := Lib.hid hA
    have hqn : q < nv := by omega
    have hF8 := hln q hqn
    have hq0 : (0 : Int) ≤ (q : Int) := by omega
    have hq1 : (q : Int) < (nv : Int) := by omega
    have hb0 := hb.1
    have hb1 : band < 8 := by omega
    have k0 : decide (band < 0) = false := decide_eq_false (by omega)
    have k1 : decide (band ≥ 8) = false := decide_eq_false (by omega)
    have HQ := Lib.hid (And.intro hqn hF8)
    clear hA e1 e2 hvn hln hb hqn hF8
    go_enter Tryz.func31, Tryz.ntmps31
    go_wp2_with fail
    refine HA.out.mono ?_
    rintro e w2 ⟨rfl, hb2⟩
    have hR2 := HR.out.go hb2
    obtain ⟨sb, off, rfl, hsb, q0, q1⟩ := hR2.at_ HQ.out.1
    have hpr := hR2.2.2.2.2 q HQ.out.1
    have h8 := HQ.out.2
    unfold slV at q1
    obtain ⟨P1, hP1⟩ : ∃ x, (F q).1 = x := ⟨_, rfl⟩
    obtain ⟨P3, hP3⟩ : ∃ x, (F q).2.2 = x := ⟨_, rfl⟩
    rw [hP1, h8, hP3] at q1
    obtain ⟨pb, po, hpe, hpl, hpc⟩ := prices_at (x := F q) hpr (j := band.toNat) (by rw [h8]; omega)
    rw [hP1] at hpe
    subst hpe
    have HB := Lib.hid hb2
    clear hb2 hR2 hP1 hP3 hpr h8 hsb hpl
    go_wp2_with fail
    try go_quiet (fail)
    try go_wp2_with fail
    go_ret2
    exact ⟨rfl, by first | exact HB.out | exact HB.out.drewN _⟩
end Go.Proofs.YtgbkedjjgbhcmaaGreatDoor
