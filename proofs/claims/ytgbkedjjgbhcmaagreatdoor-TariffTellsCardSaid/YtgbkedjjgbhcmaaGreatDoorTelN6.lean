/-
  Texts that the proof leans on, merged by program, part 6. Conditions stand at each theorem.
-/
import Derived.Test.YtgbkedjjgbhcmaaGreatDoorTelN5
import Derived.Test.YtgbkedjjgbhcmaaGreatDoorTelN3
import Derived.Test.YtgbkedjjgbhcmaaGreatDoorDays3
import Derived.Test.YtgbkedjjgbhcmaaGreatDoorFixqSum
import Derived.Laws.EntriesVeiled
import Derived.OpenShut
import Derived.Lib.SmallJoins
import Derived.Deep.Matrix
/-
  Whether a tariff may be: tariff.Check and its closures, walked. Conditions stand at each theorem.
-/
namespace Go.Proofs.YtgbkedjjgbhcmaaGreatDoor
open Go Go.RowKit Go.Kw Go.Kw.Cv Go.Shelf
set_option linter.unusedVariables false
set_option linter.unusedSimpArgs false

/-- A tariff's parts: zone, calendar, bands, prices: where they lie, and what they say. -/
structure Tar where
  o : Int
  zA : Option Addr
  lr : Nat
  cr : Nat
  zg : Nat → Nat → Int
  hA : Option Addr
  la : Nat
  ca : Nat
  gh : Nat → Nat → Int
  sA : Option Addr
  lb : Nat
  cb : Nat
  gs : Nat → Nat → Int
  pA : Option Addr
  np : Nat
  cp : Nat
  pF : Nat → SlX
  gp : Nat → Nat → Nat → Int
  rA : Option Addr
  nr : Nat
  rc : Nat
  rr : Nat → Nat → Int
  vA : Option Addr
  nv : Nat
  cv : Nat
  vf : Nat → Int
  vF : Nat → SlX
  vp : Nat → Nat → Int
def tarRow (x : Tar) : Array Value := #[.int .i64 x.o, .slice x.zA x.lr x.cr, .slice x.hA x.la x.ca, .slice x.sA x.lb x.cb, .slice x.pA x.np x.cp, .slice x.rA x.nr x.rc, .slice x.vA x.nv x.cv]
def tarV (x : Tar) : Value := .agg (tarRow x)
def RdTar (W : World) (x : Tar) : Prop := RdZ W x.zA x.lr x.cr x.zg ∧ RdCal W x.hA x.la x.ca x.gh x.sA x.lb x.cb x.gs ∧ RdPl W x.pA x.np x.cp x.pF x.gp ∧ IRows 3 kI W x.rA x.nr x.rc x.rr ∧ RdRt W x.vA x.nv x.cv x.vf x.vF x.vp
theorem RdTar.go {W W' : World} {x : Tar} (h : RdTar W x) (hb : Below W.heap.size W W') : RdTar W' x := ⟨h.1.go hb, h.2.1.go hb, h.2.2.1.go hb, h.2.2.2.1.go hb, h.2.2.2.2.go hb⟩
noncomputable def tE1 (x : Tar) : Int := zonE x.o x.lr x.zg
noncomputable def tE2 (x : Tar) : Int := calE x.la x.gh x.lb x.gs
noncomputable def tE3 (x : Tar) : Int := tabE x.np (fun i => (x.pF i).2.1) x.gp x.nr x.rr
noncomputable def tE4 (x : Tar) : Int := ratE x.nv x.vf (fun i => (x.vF i).2.1) x.vp
/-- Is a version of another number of prices? -/
def noEight (x : Tar) : Bool := anyI (fun k => (((x.vF k).2.1 : Int) != 8)) x.nv
def tE5 (x : Tar) : Int := if x.nv = 0 then 110 else if noEight x = true then 110 else 0
noncomputable def tarE (x : Tar) : Int := if tE1 x ≠ 0 then tE1 x else if tE2 x ≠ 0 then tE2 x else if tE3 x ≠ 0 then tE3 x else if tE4 x ≠ 0 then tE4 x else tE5 x
/-- May a tariff be? -/
def TarOk (x : Tar) : Prop := zonOk x.o x.lr x.zg ∧ calOk x.la x.gh x.lb x.gs ∧ tabOk x.np (fun i => (x.pF i).2.1) x.gp x.nr x.rr ∧ ratOk x.nv x.vf (fun i => (x.vF i).2.1) x.vp ∧ 0 < x.nv ∧ ∀ i, i < x.nv → (x.vF i).2.1 = 8
theorem noEight_iff (x : Tar) : noEight x = false ↔ ∀ i, i < x.nv → (x.vF i).2.1 = 8 := by
  unfold noEight
  rw [← Bool.not_eq_true, anyI_iff]
  constructor
  · intro h i hi
    exact Classical.byContradiction fun q => h ⟨i, hi, bne_iff_ne.2 (by omega)⟩
  · rintro h ⟨i, hi, q⟩
    have := bne_iff_ne.1 q
    have := h i hi
    omega
theorem tarE_ok (x : Tar) : tarE x = 0 ↔ TarOk x := by
  have z1 : tE1 x = 0 ↔ zonOk x.o x.lr x.zg := by unfold tE1 zonE; split <;> simp [*]
  have z2 : tE2 x = 0 ↔ calOk x.la x.gh x.lb x.gs := by unfold tE2 calE; split <;> simp [*]
  have z3 : tE3 x = 0 ↔ tabOk x.np (fun i => (x.pF i).2.1) x.gp x.nr x.rr := by unfold tE3 tabE; split <;> simp [*]
  have z4 : tE4 x = 0 ↔ ratOk x.nv x.vf (fun i => (x.vF i).2.1) x.vp := by unfold tE4 ratE; split <;> simp [*]
  have z5 : tE5 x = 0 ↔ 0 < x.nv ∧ ∀ i, i < x.nv → (x.vF i).2.1 = 8 := by
    rw [← noEight_iff]
    unfold tE5
    split
    · simp; omega
    · split
      · simp [*]
      · simp [*]; omega
  unfold TarOk
  rw [← z1, ← z2, ← z3, ← z4, ← z5]
  unfold tarE
  by_cases h1 : tE1 x = 0
  · rw [if_neg (by simp [h1])]
    by_cases h2 : tE2 x = 0
    · rw [if_neg (by simp [h2])]
      by_cases h3 : tE3 x = 0
      · rw [if_neg (by simp [h3])]
        by_cases h4 : tE4 x = 0
        · rw [if_neg (by simp [h4])]; simp [h1, h2, h3, h4]
        · rw [if_pos h4]; simp [h4]
      · rw [if_pos h3]; simp [h3]
    · rw [if_pos h2]; simp [h2]
  · rw [if_pos h1]; simp [h1]

set_option maxRecDepth 100000 in
set_option maxHeartbeats 8000000 in
theorem tC1_calls (x : Tar) (b : Nat) (w : World) (hT : RdTar w x) (hL : Lens w) (hb : w.heap[b]? = some (.cells (tarRow x) 35 (0, 0))) :
    Calls Tryz.prog 11 #[.pointer (some ⟨b, 0, none⟩)] w fun e w' => e = .returned (.int .i64 (tE1 x)) ∧ Below w.heap.size w w' := by
  have hC := zCheck_calls x.o x.zA x.lr x.cr x.zg w hT.1
  try unfold zonC at hC
  try unfold calC at hC
  have HC := Lib.hid hC
  unfold tarRow at hb
  have c0 := cell_of_row w b 0 _ _ _ hb
  have c1 := cell_of_row w b 1 _ _ _ hb
  clear hC hT hL hb
  go_enter Tryz.func11, Tryz.ntmps11
  go_wp2_with fail
  refine HC.out.mono ?_
  rintro e w2 ⟨rfl, hb2⟩
  have HB := Lib.hid hb2
  clear hb2
  go_wp2_with fail
  go_ret
  exact ⟨rfl, HB.out⟩

set_option maxRecDepth 100000 in
set_option maxHeartbeats 8000000 in
theorem tC2_calls (x : Tar) (b : Nat) (w : World) (hT : RdTar w x) (hL : Lens w) (hb : w.heap[b]? = some (.cells (tarRow x) 35 (0, 0))) :
    Calls Tryz.prog 13 #[.pointer (some ⟨b, 0, none⟩)] w fun e w' => e = .returned (.int .i64 (tE2 x)) ∧ Below w.heap.size w w' := by
  have hC := daysCheck_calls x.hA x.la x.ca x.gh x.sA x.lb x.cb x.gs w hT.2.1 hL
  try unfold zonC at hC
  try unfold calC at hC
  have HC := Lib.hid hC
  unfold tarRow at hb
  have c2 := cell_of_row w b 2 _ _ _ hb
  have c3 := cell_of_row w b 3 _ _ _ hb
  clear hC hT hL hb
  go_enter Tryz.func13, Tryz.ntmps13
  go_wp2_with fail
  refine HC.out.mono ?_
  rintro e w2 ⟨rfl, hb2⟩
  have HB := Lib.hid hb2
  clear hb2
  go_wp2_with fail
  go_ret
  exact ⟨rfl, HB.out⟩

set_option maxRecDepth 100000 in
set_option maxHeartbeats 8000000 in
theorem tC3_calls (x : Tar) (b : Nat) (w : World) (hT : RdTar w x) (hL : Lens w) (hb : w.heap[b]? = some (.cells (tarRow x) 35 (0, 0))) :
    Calls Tryz.prog 15 #[.pointer (some ⟨b, 0, none⟩)] w fun e w' => e = .returned (.int .i64 (tE3 x)) ∧ Below w.heap.size w w' := by
  have hC := bandsCheck_calls x.pA x.np x.cp x.pF x.gp x.rA x.nr x.rc x.rr w hT.2.2.1 hT.2.2.2.1
  try unfold zonC at hC
  try unfold calC at hC
  have HC := Lib.hid hC
  unfold tarRow at hb
  have c4 := cell_of_row w b 4 _ _ _ hb
  have c5 := cell_of_row w b 5 _ _ _ hb
  clear hC hT hL hb
  go_enter Tryz.func15, Tryz.ntmps15
  go_wp2_with fail
  refine HC.out.mono ?_
  rintro e w2 ⟨rfl, hb2⟩
  have HB := Lib.hid hb2
  clear hb2
  go_wp2_with fail
  go_ret
  exact ⟨rfl, HB.out⟩

set_option maxRecDepth 100000 in
set_option maxHeartbeats 8000000 in
theorem tC4_calls (x : Tar) (b : Nat) (w : World) (hT : RdTar w x) (hL : Lens w) (hb : w.heap[b]? = some (.cells (tarRow x) 35 (0, 0))) :
    Calls Tryz.prog 17 #[.pointer (some ⟨b, 0, none⟩)] w fun e w' => e = .returned (.int .i64 (tE4 x)) ∧ Below w.heap.size w w' := by
  have hC := ratCheck_calls x.vA x.nv x.cv x.vf x.vF x.vp w hT.2.2.2.2
  try unfold zonC at hC
  try unfold calC at hC
  have HC := Lib.hid hC
  unfold tarRow at hb
  have c6 := cell_of_row w b 6 _ _ _ hb
  clear hC hT hL hb
  go_enter Tryz.func17, Tryz.ntmps17
  go_wp2_with fail
  refine HC.out.mono ?_
  rintro e w2 ⟨rfl, hb2⟩
  have HB := Lib.hid hb2
  clear hb2
  go_wp2_with fail
  go_ret
  exact ⟨rfl, HB.out⟩

set_option maxRecDepth 100000 in
set_option maxHeartbeats 8000000 in
theorem tC5_calls (f : Int) (A : Option Addr) (n c : Nat) (w : World) :
    Calls Tryz.prog 20 #[.agg #[.int .i64 f, .slice A n c]] w fun e w' => e = .returned (.bool ((n : Int) != 8)) ∧ Below w.heap.size w w' := by
  have hst := bstep w (.cells #[.int .i64 f, .slice A n c] 52)
  obtain ⟨V, hV⟩ : ∃ V, ((n : Int) != 8) = V := ⟨_, rfl⟩
  have hV2 : ((n : Int) == 8) = !V := by rw [← hV]; simp [bne]
  rw [hV]
  go_enter Tryz.func20, Tryz.ntmps20
  go_wp2_with fail
  go_ret
  exact ⟨rfl, hst⟩

set_option maxRecDepth 100000 in
set_option maxHeartbeats 8000000 in
theorem idxEight_calls (A : Option Addr) (n c : Nat) (f : Nat → Int) (F : Nat → SlX) (p : Nat → Nat → Int) (w : World) (hR : RdRt w A n c f F p) :
    Calls Tryz.prog 49 #[.slice A n c, .func (.func 20) #[] #[]] w fun e w' => e = .returned (.int .i64 (idxI (fun k => (((F k).2.1 : Int) != 8)) n)) ∧ Below w.heap.size w w' := by
  obtain ⟨b0, hb0⟩ : ∃ b0, w.heap.size = b0 := ⟨_, rfl⟩
  have Hb0 := Lib.hid hb0
  have HR := Lib.hid hR
  have hla := hR.1
  have hca := hR.2.1
  have hmx : maxLen = 9223372036854775807 := rfl
  have Hlen := Lib.hid (show n ≤ 9223372036854775807 by omega)
  obtain ⟨P, hP⟩ : ∃ P : Nat → Bool, (fun k => (((F k).2.1 : Int) != 8)) = P := ⟨_, rfl⟩
  have HPd := Lib.hid hP
  have hB0 := Below.refl b0 w
  rw [hP]
  clear hR hla hca hmx hP
  go_enter Tryz.func49, Tryz.ntmps49
  go_wp2_with fail
  go_loopw [5, 8] (fun s5 i wr => ∃ k : Nat, k ≤ n ∧ i = .int .i64 k ∧ (∀ j, j < k → P j = false) ∧ Below b0 w wr) (fun _ i _ => n - (intOf i).toNat)
  case atStart => exact ⟨0, by omega, rfl, fun j hj => absurd hj (by omega), hB0⟩
  case round =>
    obtain ⟨k, hk, rfl, hA, hB⟩ := hrel
    clear hB0
    by_cases hlt : k < n
    · have hI : (k : Int) < n := by omega
      have hRw : RdRt wr A n c f F p := HR.out.go (by rw [Hb0.out]; exact hB)
      obtain ⟨sb, off, rfl, hsb, q0, q1⟩ := hRw.at_ hlt
      unfold slV at q1
      obtain ⟨P1, hP1⟩ : ∃ x, (F k).1 = x := ⟨_, rfl⟩
      obtain ⟨P2, hP2⟩ : ∃ x, (F k).2.1 = x := ⟨_, rfl⟩
      obtain ⟨P3, hP3⟩ : ∃ x, (F k).2.2 = x := ⟨_, rfl⟩
      rw [hP1, hP2, hP3] at q1
      have hc := hsb

      have HO := tC5_calls (f k) P1 P2 P3 wr
      obtain ⟨V, hV⟩ : ∃ V, (fun k => (((F k).2.1 : Int) != 8)) k = V := ⟨_, rfl⟩
      have hV2 : P k = V := by rw [← HPd.out]; exact hV
      dsimp only at hV
      rw [hP2] at hV
      rw [hV] at HO
      replace HO := Lib.hid HO
      have HV := Lib.hid hV2
      have w1 : IntKind.i64.wrap ((k : Int) + 1) = (k : Int) + 1 := i64_same _ (by have := Hlen.out; omega)
      have X1 := Lib.hid (wrap64_in ((k : Int) + 1) (by have := Hlen.out; omega))
      have Hk := Lib.hid (show k + 1 ≤ n from hlt)
      have Hlt := Lib.hid hlt
      have HA := Lib.hid hA
      have HB := Lib.hid hB
      clear hc hRw hP1 hP2 hP3 hA hB hk hlt hV hV2
      cases V with
      | true =>
        go_wp2_with fail
        refine HO.out.mono ?_
        rintro e w4 ⟨rfl, hb4⟩
        go_wp2_with fail
        go_ret
        have hF : fstI P n = k := fstI_unique P n k (by have := Hlt.out; omega) (fun _ => HV.out) HA.out
        have hlt := Hlt.out
        have hv : idxI P n = (k : Int) := by unfold idxI; rw [hF, if_pos hlt]
        rw [hv]
        have hZ := HB.out.trans (hb4.mono (Hb0.out ▸ HB.out.size))
        exact ⟨rfl, by first | exact hZ | (rw [Hb0.out]; exact hZ)⟩
      | false =>
        have x1 := X1.out
        go_wp2_with fail
        refine HO.out.mono ?_
        rintro e w4 ⟨rfl, hb4⟩
        go_wp2_with fail
        clear x1
        exact ⟨⟨k + 1, Hk.out, by push_cast; rfl, fst_step HV.out HA.out, HB.out.trans (hb4.mono (Hb0.out ▸ HB.out.size))⟩, meas_z n k Hk.out⟩
    · obtain rfl : k = n := by omega
      have hI : ¬ ((k : Int) < k) := by omega
      have HBq := Lib.hid hB
      have hF : fstI P k = k := fstI_unique P k k (Nat.le_refl _) (fun h => absurd h (Nat.lt_irrefl _)) hA
      have hv : idxI P k = -1 := by unfold idxI; rw [hF, if_neg (Nat.lt_irrefl _)]
      have Hv := Lib.hid hv
      clear hA hk hlt hB hF hv
      go_wp2_with fail
      go_ret
      rw [Hv.out]
      exact ⟨rfl, by first | exact HBq.out | (rw [Hb0.out]; exact HBq.out)⟩

set_option maxRecDepth 100000 in
set_option maxHeartbeats 8000000 in
theorem containsEight_calls (A : Option Addr) (n c : Nat) (f : Nat → Int) (F : Nat → SlX) (p : Nat → Nat → Int) (w : World) (hR : RdRt w A n c f F p) :
    Calls Tryz.prog 19 #[.slice A n c, .func (.func 20) #[] #[]] w fun e w' => e = .returned (.bool (anyI (fun k => (((F k).2.1 : Int) != 8)) n)) ∧ Below w.heap.size w w' := by
  have HI := idxEight_calls A n c f F p w hR
  obtain ⟨I, hI⟩ : ∃ I, idxI (fun k => (((F k).2.1 : Int) != 8)) n = I := ⟨_, rfl⟩
  obtain ⟨B, hB⟩ : ∃ B, anyI (fun k => (((F k).2.1 : Int) != 8)) n = B := ⟨_, rfl⟩
  have hIB : decide (I ≥ 0) = B := by rw [← hI, ← hB]; exact idxI_any _ _
  rw [hI] at HI
  rw [hB]
  replace HI := Lib.hid HI
  clear hI hB hR
  go_enter Tryz.func19, Tryz.ntmps19
  go_wp2_with fail
  refine HI.out.mono ?_
  rintro e w2 ⟨rfl, hb⟩
  go_wp2_with fail
  go_ret
  exact ⟨rfl, hb⟩

end Go.Proofs.YtgbkedjjgbhcmaaGreatDoor

/-
  A tariff that comes in, opened; Great, walked. Conditions stand at each theorem.
-/
namespace Go.Proofs.YtgbkedjjgbhcmaaGreatDoor
open Go Go.RowKit Go.Kw Go.Kw.Cv Go.Joins Go.ChangeShapes Go.WideShapes Go.ChangeAt Go.Deep
set_option linter.unusedVariables false
set_option linter.unusedSimpArgs false

theorem rd_congr {w : World} {B : Nat} {A : Option Addr} {n : Nat} {f g : Nat → Value} (h : Rd w B A n f) (e : ∀ i, i < n → f i = g i) : Rd w B A n g := by
  rcases h with h | ⟨b, off, ha, hb, hc⟩
  · exact .inl h
  · exact .inr ⟨b, off, ha, hb, fun i hi => (hc i hi).trans (by rw [e i hi])⟩
theorem irows1 {w : World} {A : Option Addr} {n c : Nat} {g : Nat → Nat → Int} (h : IRows 1 kI w A n c g) : IRows 1 kI w A n c (fun j _ => g j 0) :=
  ⟨h.1, h.2.1, h.2.2.1, rd_congr h.2.2.2.1 (fun i hi => by rw [show i % 1 = 0 by omega]), fun r j h1 h2 => by
    obtain rfl : j = 0 := by omega
    exact h.2.2.2.2 r 0 h1 h2⟩
/-- A slice whose elements are opened one by one. -/
theorem open_rowsQ {H : Type} {enc : TypeId × Value → H} {P : Program} {W : World} {fuel : Nat} {t e : TypeId} {cs : List Value} {x : DataW H × List MemPlace} {n : Nat} {β : Type} [Inhabited β] (en : β → List Value) (Q : β → Prop) (hn : 0 < n)
    (ht : P.underlying t = some (.slice e)) (hc : P.cellsOf e = n) (hen : ∀ z, (en z).length = n)
    (hel : ∀ (fuel : Nat) (cs : List Value) (y : DataW H × List MemPlace), DataW.trod enc P W 0 (fun _ => true) true fuel e cs = some y → ∃ z, cs = en z ∧ Q z)
    (h : DataW.trod enc P W 0 (fun _ => true) true fuel t cs = some x) :
    ∃ (A : Option Addr) (len cap : Nat) (F : Nat → β), cs = [Value.slice A len cap] ∧ len ≤ cap ∧ cap ≤ maxLen ∧ (A = none → len = 0) ∧ Rd W W.heap.size A (len * n) (fun i => (en (F (i / n))).getD (i % n) undef) ∧ ∀ i, i < len → Q (F i) := by
  rcases open_slice ht h with ⟨hcs, hx⟩ | ⟨a', len', cap', m, k, D, Pl, hcs, hb0, hl, hm, hmm, hx, hr⟩
  · exact ⟨none, 0, 0, fun _ => default, hcs, Nat.le_refl _, Nat.zero_le _, fun _ => rfl, .inl (by omega), fun i hi => absurd hi (by omega)⟩
  · simp only [if_true] at hmm
    subst hmm
    have each : ∀ r, r < m → ∃ z : β, (∀ j, j < n → W.cell? (a'.add (r * n + j)) = some ((en z).getD j undef)) ∧ Q z := fun r hlt => by
      obtain ⟨cs', h1, h2⟩ := hr r hlt
      rw [hc] at h1
      obtain ⟨-, hlen, hget⟩ := World.cells?_some h1
      obtain ⟨z, hz, hq⟩ := hel _ _ _ h2
      refine ⟨z, fun j hj => ?_, hq⟩
      have g0 := hget j (by omega)
      rw [add_add] at g0
      rw [g0, hz, List.getD_eq_getElem?_getD, List.getElem?_eq_getElem (by rw [hen]; exact hj)]; rfl
    obtain ⟨F, hF⟩ : ∃ F : Nat → β, ∀ r, r < m → (∀ j, j < n → W.cell? (a'.add (r * n + j)) = some ((en (F r)).getD j undef)) ∧ Q (F r) := by
      refine ⟨fun r => if h : r < m then (each r h).choose else default, fun r h => ?_⟩
      simp only [dif_pos h]
      exact (each r h).choose_spec
    refine ⟨some a', len', m, F, hcs, hl, hm, (fun h => by cases h), ?_, fun i hi => (hF i (by omega)).2⟩
    rcases Nat.eq_zero_or_pos len' with h0 | h0
    · exact .inl (by subst h0; omega)
    · have hcell : ∀ i, i < len' * n → W.cell? (a'.add i) = some ((en (F (i / n))).getD (i % n) undef) := fun i hi => by
        have h1 : i / n < len' := Nat.div_lt_of_lt_mul (by rw [Nat.mul_comm]; exact hi)
        have h2 := Nat.mod_lt i hn
        have := (hF (i / n) (by omega)).1 (i % n) h2
        rw [Nat.mul_comm, Nat.div_add_mod] at this
        exact this
      have hp : 0 < len' * n := Nat.mul_pos h0 hn
      obtain ⟨b, off, spot⟩ := a'
      have hspot : spot = none := by simpa [Addr.add] using World.cell?_spot (hcell 0 hp)
      subst hspot
      have hc : ∀ i, i < len' * n → W.cell? ⟨b, off + i, none⟩ = some ((en (F (i / n))).getD (i % n) undef) := fun j hj => by rw [← Go.WideShapes.add_plain]; exact hcell j hj
      exact .inr ⟨b, off, rfl, block_lt (hc 0 hp), hc⟩
section
variable {H : Type} {enc : TypeId × Value → H} {W : World} {fuel : Nat} {cs : List Value} {y : DataW H × List MemPlace}
set_option maxRecDepth 100000 in
theorem one_int {t : TypeId} {k : IntKind} (ht : Tryz.prog.underlying t = some (.int k)) (h : DataW.trod enc Tryz.prog W 0 (fun _ => true) true fuel t cs = some y) : IntCells 1 (fun _ => k) cs := by
  obtain ⟨z, rfl, -, hw⟩ := DataW.trod_int ht h
  exact ⟨rfl, fun _ => z, fun j hj => by
    obtain rfl : j = 0 := by omega
    exact ⟨rfl, hw⟩⟩
set_option maxRecDepth 100000 in
theorem sw_cells (h : DataW.trod enc Tryz.prog W 0 (fun _ => true) true fuel 110 cs = some y) : IntCells 2 kI cs := by
  refine struct_ints (fs := _) kI Tryz.underlying110 (by kernel_rfl) (by kernel_rfl) ?_ h
  intro j hj
  rcases (by omega : j = 0 ∨ j = 1) with rfl | rfl
  all_goals exact ⟨_, rfl, rfl, by kernel_rfl, Tryz.underlying3⟩
set_option maxRecDepth 100000 in
theorem br_cells (h : DataW.trod enc Tryz.prog W 0 (fun _ => true) true fuel 100 cs = some y) : IntCells 3 kI cs := by
  refine struct_ints (fs := _) kI Tryz.underlying100 (by kernel_rfl) (by kernel_rfl) ?_ h
  intro j hj
  rcases (by omega : j = 0 ∨ j = 1 ∨ j = 2) with rfl | rfl | rfl
  all_goals exact ⟨_, rfl, rfl, by kernel_rfl, Tryz.underlying3⟩
set_option maxRecDepth 100000 in
theorem thol_cells (h : DataW.trod enc Tryz.prog W 0 (fun _ => true) true fuel 93 cs = some y) : IntCells 6 kInt cs := by
  refine struct_ints (fs := _) kInt Tryz.underlying93 (by kernel_rfl) (by kernel_rfl) ?_ h
  intro j hj
  rcases (by omega : j = 0 ∨ j = 1 ∨ j = 2 ∨ j = 3 ∨ j = 4 ∨ j = 5) with rfl | rfl | rfl | rfl | rfl | rfl
  all_goals exact ⟨_, rfl, rfl, by kernel_rfl, Tryz.underlying3⟩
set_option maxRecDepth 100000 in
theorem tsea_cells (h : DataW.trod enc Tryz.prog W 0 (fun _ => true) true fuel 97 cs = some y) : IntCells 3 kInt cs := by
  refine struct_ints (fs := _) kInt Tryz.underlying97 (by kernel_rfl) (by kernel_rfl) ?_ h
  intro j hj
  rcases (by omega : j = 0 ∨ j = 1 ∨ j = 2) with rfl | rfl | rfl
  all_goals exact ⟨_, rfl, rfl, by kernel_rfl, Tryz.underlying3⟩
set_option maxRecDepth 100000 in
theorem open_plans (h : DataW.trod enc Tryz.prog W 0 (fun _ => true) true fuel 29 cs = some y) : ∃ (A : Option Addr) (np cp : Nat) (F : Nat → SlX) (g : Nat → Nat → Nat → Int), cs = [.slice A np cp] ∧ RdPl W A np cp F g := by
  obtain ⟨A, np, cp, F, e, h1, h2, h3, h4, h5⟩ := open_rowsQ (n := 1) (β := SlX × (Nat → Nat → Int)) (fun z => [slV z.1]) (fun z => IRows 2 kI W z.1.1 z.1.2.1 z.1.2.2 z.2) (by omega) Tryz.underlying29 (show Tryz.prog.cellsOf 50 = 1 by kernel_rfl) (fun _ => rfl)
    (fun fuel cs y h => by
      obtain ⟨A, n, c, g, e, r⟩ := open_irows (by omega) Tryz.underlying50 (show Tryz.prog.cellsOf 110 = 2 by kernel_rfl) (fun _ _ _ h => sw_cells h) h
      exact ⟨((A, n, c), g), e, r⟩) h
  refine ⟨A, np, cp, fun i => (F i).1, fun i => (F i).2, e, h1, h2, h3, ?_, h5⟩
  rw [Nat.mul_one] at h4
  exact rd_congr h4 (fun i hi => by rw [Nat.div_one, show i % 1 = 0 by omega]; rfl)
set_option maxRecDepth 100000 in
theorem open_versions (h : DataW.trod enc Tryz.prog W 0 (fun _ => true) true fuel 33 cs = some y) : ∃ (A : Option Addr) (nv cv : Nat) (f : Nat → Int) (F : Nat → SlX) (p : Nat → Nat → Int), cs = [.slice A nv cv] ∧ RdRt W A nv cv f F p := by
  obtain ⟨A, nv, cv, F, e, h1, h2, h3, h4, h5⟩ := open_rowsQ (n := 2) (β := Int × SlX × (Nat → Nat → Int)) (fun z => [.int .i64 z.1, slV z.2.1]) (fun z => IRows 1 kI W z.2.1.1 z.2.1.2.1 z.2.1.2.2 z.2.2) (by omega) Tryz.underlying33 (show Tryz.prog.cellsOf 52 = 2 by kernel_rfl) (fun _ => rfl)
    (fun fuel cs y h => by
      obtain ⟨xs, m, rfl, hx, hl, hxl, hall⟩ := DataW.trod_struct Tryz.underlying52 h
      rw [show Tryz.prog.cellsOf 52 = 2 by kernel_rfl] at hl
      match cs, hl, xs, hxl with
      | [c0, c1], _, [y0, y1], _ =>
        have t0 := hall 0 _ rfl
        have t1 := hall 1 _ rfl
        simp only [show Tryz.prog.cellsOf 2 = 1 by kernel_rfl, show Tryz.prog.cellsOf 36 = 1 by kernel_rfl, List.drop, List.take, List.getElem?_cons_zero, List.getElem?_cons_succ] at t0 t1
        obtain ⟨a0, e0, -, -⟩ := DataW.trod_int Tryz.underlying2 t0
        obtain ⟨A, n, c, g, e1, r⟩ := open_irows (by omega) Tryz.underlying36 (show Tryz.prog.cellsOf 2 = 1 by kernel_rfl) (fun _ _ _ h => one_int Tryz.underlying2 h) t1
        simp [show Tryz.prog.cellsOf 2 = 1 by kernel_rfl, show Tryz.prog.cellsOf 36 = 1 by kernel_rfl] at e0 e1
        subst e0 e1
        exact ⟨(a0, (A, n, c), g), rfl, r⟩) h
  refine ⟨A, nv, cv, fun i => (F i).1, fun i => (F i).2.1, fun i j => (F i).2.2 j 0, e, h1, h2, h3, ?_, fun i hi => irows1 (h5 i hi)⟩
  refine rd_congr h4 (fun i hi => ?_)
  by_cases h0 : i % 2 = 0
  · rw [h0, if_pos rfl]; rfl
  · rw [if_neg h0, show i % 2 = 1 by omega]; rfl
end
theorem array7 {α : Type} {cs : Array α} (h : cs.size = 7) : ∃ c0 c1 c2 c3 c4 c5 c6, cs = #[c0, c1, c2, c3, c4, c5, c6] := by
  obtain ⟨l⟩ := cs
  match l, h with
  | [c0, c1, c2, c3, c4, c5, c6], _ => exact ⟨c0, c1, c2, c3, c4, c5, c6, rfl⟩
def zero_t35 : Value := .agg #[.int .i64 0, .slice none 0 0, .slice none 0 0, .slice none 0 0, .slice none 0 0, .slice none 0 0, .slice none 0 0]
set_option maxRecDepth 100000 in
theorem open_t35 {H : Type} {enc : TypeId × Value → H} {W : World} {base : Nat} {v : Value} {d : DataW H} {p : List MemPlace} (hv : Value.okWide Tryz.prog W .any base 35 v) (h : DataW.Trod enc Tryz.prog W 0 (fun _ => true) true 35 v d p) :
    ∃ x : Tar, v = tarV x ∧ RdTar W x := by
  obtain ⟨cs, rfl, hsz⟩ := okWide_struct Tryz.underlying35 hv
  obtain ⟨c0, c1, c2, c3, c4, c5, c6, rfl⟩ := array7 (hsz.trans (show Tryz.prog.cellsOf 35 = 7 by kernel_rfl))
  obtain ⟨fuel, hf⟩ := h
  obtain ⟨xs, n, rfl, hx, hl, hxl, hall⟩ := DataW.trod_struct Tryz.underlying35 hf
  have kz : Tryz.prog.cellsOf 24 = 2 := by kernel_rfl
  have kc : Tryz.prog.cellsOf 28 = 2 := by kernel_rfl
  have kb : Tryz.prog.cellsOf 32 = 2 := by kernel_rfl
  have kr : Tryz.prog.cellsOf 33 = 1 := by kernel_rfl
  have ki : Tryz.prog.cellsOf 3 = 1 := by kernel_rfl
  have s1 : Tryz.prog.cellsOf 22 = 1 := by kernel_rfl
  have s2 : Tryz.prog.cellsOf 25 = 1 := by kernel_rfl
  have s3 : Tryz.prog.cellsOf 26 = 1 := by kernel_rfl
  have s4 : Tryz.prog.cellsOf 29 = 1 := by kernel_rfl
  have s5 : Tryz.prog.cellsOf 30 = 1 := by kernel_rfl
  match xs, hxl with
  | [y0, y1, y2, y3], _ =>
    have t0 := hall 0 _ rfl
    have t1 := hall 1 _ rfl
    have t2 := hall 2 _ rfl
    have t3 := hall 3 _ rfl
    simp only [kz, kc, kb, kr, Value.cells, List.drop, List.take, List.getElem?_cons_zero, List.getElem?_cons_succ] at t0 t1 t2 t3
    obtain ⟨A7, nv, cv, vf, vF, vp, e6, r6⟩ := open_versions t3
    obtain ⟨xa, na, rfl, -, -, hla, ha⟩ := DataW.trod_struct Tryz.underlying24 t0
    obtain ⟨xb, nb, hnb, -, -, hlb, hb⟩ := DataW.trod_struct Tryz.underlying28 t1
    obtain ⟨xc, nc, hnc, -, -, hlc, hc⟩ := DataW.trod_struct Tryz.underlying32 t2
    obtain rfl : na = nb := by omega
    obtain rfl : na = nc := by omega
    match xa, hla, xb, hlb, xc, hlc with
    | [a0, a1], _, [b0, b1], _, [d0, d1], _ =>
      have u0 := ha 0 _ rfl
      have u1 := ha 1 _ rfl
      have u2 := hb 0 _ rfl
      have u3 := hb 1 _ rfl
      have u4 := hc 0 _ rfl
      have u5 := hc 1 _ rfl
      simp [ki, s1, s2, s3, s4, s5] at u0 u1 u2 u3 u4 u5
      obtain ⟨o, e0, -, w0⟩ := DataW.trod_int Tryz.underlying3 u0
      obtain ⟨A1, lr, cr, zg, e1, r1⟩ := open_irows (by omega) Tryz.underlying22 (show Tryz.prog.cellsOf 90 = 11 by kernel_rfl) (fun _ _ _ h => rul_cells h) u1
      obtain ⟨A2, la, ca, gh, e2, r2⟩ := open_irows (by omega) Tryz.underlying25 (show Tryz.prog.cellsOf 93 = 6 by kernel_rfl) (fun _ _ _ h => thol_cells h) u2
      obtain ⟨A3, lb, cb, gs, e3, r3⟩ := open_irows (by omega) Tryz.underlying26 (show Tryz.prog.cellsOf 97 = 3 by kernel_rfl) (fun _ _ _ h => tsea_cells h) u3
      obtain ⟨A4, np, cp, pF, gp, e4, r4⟩ := open_plans u4
      obtain ⟨A5, nr, rc, rr, e5, r5⟩ := open_irows (by omega) Tryz.underlying30 (show Tryz.prog.cellsOf 100 = 3 by kernel_rfl) (fun _ _ _ h => br_cells h) u5
      simp [kz, kc, kb, kr] at e0 e1 e2 e3 e4 e5 e6
      subst e0 e1 e2 e3 e4 e5 e6
      exact ⟨⟨o, A1, lr, cr, zg, A2, la, ca, gh, A3, lb, cb, gs, A4, np, cp, pF, gp, A5, nr, rc, rr, A7, nv, cv, vf, vF, vp⟩, rfl, r1, ⟨r2, r3⟩, r4, r5, r6⟩
/-- Whatever Great says, it is 0 or 1. -/
def GreatOut (w : World) (e : Ending) (w' : World) : Prop := ∃ V : Int, (V = 0 ∨ V = 1) ∧ e = .returned (.int .i64 V) ∧ Below w.heap.size w w'
theorem great0 {w w' : World} (h : Below w.heap.size w w') : GreatOut w (.returned (.int .i64 0)) w' := ⟨0, .inl rfl, rfl, h⟩
theorem great1 {w w' : World} (h : Below w.heap.size w w') : GreatOut w (.returned (.int .i64 1)) w' := ⟨1, .inr rfl, rfl, h⟩
set_option maxRecDepth 100000 in
set_option maxHeartbeats 16000000 in
theorem tgreat_calls (x : Tar) (w : World) (hT : RdTar w x) : Calls Tryz.prog 4 #[tarV x] w (GreatOut w) := by
  obtain ⟨b0, hb0⟩ : ∃ b0, w.heap.size = b0 := ⟨_, rfl⟩
  have Hb0 := Lib.hid hb0
  obtain ⟨W1, hW1⟩ : ∃ W1, w.alloc (.cells (tarRow x) 35) = W1 := ⟨_, rfl⟩
  have hst : Below w.heap.size w W1 := hW1 ▸ bstep w _
  have hr : W1.heap[b0]? = some (.cells (tarRow x) 35 (0, 0)) := by rw [← hb0, ← hW1]; exact World.alloc_heap_new w _
  have HT := Lib.hid (hT.go hst)
  have hB := hst
  have HB := Lib.hid hB
  unfold tarRow at hW1 hr
  have c1 := cell_of_row W1 b0 1 _ _ _ hr
  have c2 := cell_of_row W1 b0 2 _ _ _ hr
  have c3 := cell_of_row W1 b0 3 _ _ _ hr
  have c4 := cell_of_row W1 b0 4 _ _ _ hr
  have c5 := cell_of_row W1 b0 5 _ _ _ hr
  have c6 := cell_of_row W1 b0 6 _ _ _ hr
  have Hnp := Lib.hid (And.intro hT.2.2.1.1 (And.intro hT.2.2.1.2.1 (And.intro hT.2.2.2.2.1 hT.2.2.2.2.2.1)))
  have hmx : maxLen = 9223372036854775807 := rfl
  have Hmx := Lib.hid hmx
  unfold tarV tarRow
  clear hst hr hT hB hmx
  go_enter Tryz.func4, Tryz.ntmps4
  go_wp2_with fail
  all_goals first
    | (go_ret; exact great1 (by first | exact HB.out | (rw [Hb0.out]; exact HB.out)))
    | skip
  go_loop [48] (fun i => ∃ k : Nat, k ≤ x.np ∧ i = .int .i64 k) (fun i => x.np - (intOf i).toNat)
  case atStart => exact ⟨0, by omega, rfl⟩
  case round =>
    obtain ⟨k, hk, rfl⟩ := hrel
    by_cases hlt : k < x.np
    · have hI0 : (k : Int) < (x.np : Int) := by omega
      obtain ⟨sb, off, hpa, hpl, hpc⟩ := HT.out.2.2.1.2.2.2.1.at_ hlt
      unfold slV at hpc
      obtain ⟨P1, hP1⟩ : ∃ z, (x.pF k).1 = z := ⟨_, rfl⟩
      obtain ⟨P2, hP2⟩ : ∃ z, (x.pF k).2.1 = z := ⟨_, rfl⟩
      obtain ⟨P3, hP3⟩ : ∃ z, (x.pF k).2.2 = z := ⟨_, rfl⟩
      rw [hP1, hP2, hP3] at hpc
      rw [hpa] at c4
      have wk : IntKind.i64.wrap ((k : Int) + 1) = (k : Int) + 1 := i64_same _ (by have := Hnp.out; have := Hmx.out; omega)
      have X := Lib.hid (wrap64_in ((k : Int) + 1) (by have := Hnp.out; have := Hmx.out; omega))
      have Hlt := Lib.hid hlt
      clear hpa hpl hP1 hP2 hP3 hlt hk
      by_cases hg : (P2 : Int) > 60
      · have kg : decide ((P2 : Int) > 60) = true := decide_eq_true hg
        clear hg
        go_wp2_with fail
        go_ret
        exact great1 (by first | exact HB.out | (rw [Hb0.out]; exact HB.out))
      · have kg : decide ((P2 : Int) > 60) = false := decide_eq_false hg
        have xk := X.out
        clear hg
        go_wp2_with fail
        clear xk
        exact ⟨⟨k + 1, Hlt.out, by push_cast; rfl⟩, meas_z x.np k Hlt.out⟩
    · obtain rfl : k = x.np := by omega
      have hI0 : ¬ ((x.np : Int) < (x.np : Int)) := by omega
      clear hlt hk
      go_wp2_with fail
      go_loop [63] (fun i => ∃ k : Nat, k ≤ x.nv ∧ i = .int .i64 k) (fun i => x.nv - (intOf i).toNat)
      case atStart => exact ⟨0, by omega, rfl⟩
      case round =>
        obtain ⟨k, hk, rfl⟩ := hrel
        by_cases hlt : k < x.nv
        · have hI1 : (k : Int) < (x.nv : Int) := by omega
          obtain ⟨sb, off, hpa, hpl, -, hpc⟩ := HT.out.2.2.2.2.at_ hlt
          unfold slV at hpc
          obtain ⟨P1, hP1⟩ : ∃ z, (x.vF k).1 = z := ⟨_, rfl⟩
          obtain ⟨P2, hP2⟩ : ∃ z, (x.vF k).2.1 = z := ⟨_, rfl⟩
          obtain ⟨P3, hP3⟩ : ∃ z, (x.vF k).2.2 = z := ⟨_, rfl⟩
          rw [hP1, hP2, hP3] at hpc
          rw [hpa] at c6
          have wk : IntKind.i64.wrap ((k : Int) + 1) = (k : Int) + 1 := i64_same _ (by have := Hnp.out; have := Hmx.out; omega)
          have X := Lib.hid (wrap64_in ((k : Int) + 1) (by have := Hnp.out; have := Hmx.out; omega))
          have Hlt := Lib.hid hlt
          clear hpa hpl hP1 hP2 hP3 hlt hk
          by_cases hg : (P2 : Int) > 20
          · have kg : decide ((P2 : Int) > 20) = true := decide_eq_true hg
            clear hg
            go_wp2_with fail
            go_ret
            exact great1 (by first | exact HB.out | (rw [Hb0.out]; exact HB.out))
          · have kg : decide ((P2 : Int) > 20) = false := decide_eq_false hg
            have xk := X.out
            clear hg
            go_wp2_with fail
            clear xk
            exact ⟨⟨k + 1, Hlt.out, by push_cast; rfl⟩, meas_z x.nv k Hlt.out⟩
        · obtain rfl : k = x.nv := by omega
          have hI1 : ¬ ((x.nv : Int) < (x.nv : Int)) := by omega
          clear hlt hk
          go_wp2_with fail
          go_ret
          exact great0 (by first | exact HB.out | (rw [Hb0.out]; exact HB.out))
end Go.Proofs.YtgbkedjjgbhcmaaGreatDoor

/-
  Great of a tariff: what its 0 tells, walked. Conditions stand at each theorem.
-/
namespace Go.Proofs.YtgbkedjjgbhcmaaGreatDoor
open Go Go.RowKit Go.Kw Go.Kw.Cv Go.Joins Go.ChangeShapes Go.WideShapes Go.ChangeAt Go.Deep
set_option linter.unusedVariables false
set_option linter.unusedSimpArgs false

/-- What a tariff that is not great is. -/
def SmallT (x : Tar) : Prop := x.np ≤ 60 ∧ x.nr ≤ 110 ∧ x.nv ≤ 210 ∧ ∀ i, i < x.np → (x.pF i).2.1 ≤ 60
/-- Whatever Great says, it is 0 or 1. -/
def GreatOut2 (x : Tar) (w : World) (e : Ending) (w' : World) : Prop := ∃ V : Int, ((V = 0 ∧ SmallT x) ∨ V = 1) ∧ e = .returned (.int .i64 V) ∧ Below w.heap.size w w'
theorem great20 {x : Tar} {w w' : World} (h : Below w.heap.size w w') (hs : SmallT x) : GreatOut2 x w (.returned (.int .i64 0)) w' := ⟨0, .inl ⟨rfl, hs⟩, rfl, h⟩
theorem great21 {x : Tar} {w w' : World} (h : Below w.heap.size w w') : GreatOut2 x w (.returned (.int .i64 1)) w' := ⟨1, .inr rfl, rfl, h⟩
set_option maxRecDepth 100000 in
set_option maxHeartbeats 16000000 in
theorem tgreat2_calls (x : Tar) (w : World) (hT : RdTar w x) : Calls Tryz.prog 4 #[tarV x] w (GreatOut2 x w) := by
  obtain ⟨b0, hb0⟩ : ∃ b0, w.heap.size = b0 := ⟨_, rfl⟩
  have Hb0 := Lib.hid hb0
  obtain ⟨W1, hW1⟩ : ∃ W1, w.alloc (.cells (tarRow x) 35) = W1 := ⟨_, rfl⟩
  have hst : Below w.heap.size w W1 := hW1 ▸ bstep w _
  have hr : W1.heap[b0]? = some (.cells (tarRow x) 35 (0, 0)) := by rw [← hb0, ← hW1]; exact World.alloc_heap_new w _
  have HT := Lib.hid (hT.go hst)
  have hB := hst
  have HB := Lib.hid hB
  unfold tarRow at hW1 hr
  have c1 := cell_of_row W1 b0 1 _ _ _ hr
  have c2 := cell_of_row W1 b0 2 _ _ _ hr
  have c3 := cell_of_row W1 b0 3 _ _ _ hr
  have c4 := cell_of_row W1 b0 4 _ _ _ hr
  have c5 := cell_of_row W1 b0 5 _ _ _ hr
  have c6 := cell_of_row W1 b0 6 _ _ _ hr
  have Hnp := Lib.hid (And.intro hT.2.2.1.1 (And.intro hT.2.2.1.2.1 (And.intro hT.2.2.2.2.1 hT.2.2.2.2.2.1)))
  have hmx : maxLen = 9223372036854775807 := rfl
  have Hmx := Lib.hid hmx
  unfold tarV tarRow
  clear hst hr hT hB hmx
  by_cases hbig : x.lr > 30 ∨ x.la > 120 ∨ x.lb > 30 ∨ x.np > 60 ∨ x.nr > 110 ∨ x.nv > 210
  · have Hbig := Lib.hid hbig
    clear hbig
    go_enter Tryz.func4, Tryz.ntmps4
    go_wp2_with fail
    all_goals first
      | (go_ret; exact great21 (by first | exact HB.out | (rw [Hb0.out]; exact HB.out)))
      | (exfalso; have := Hbig.out; omega)
  have kg1 : decide ((x.lr : Int) > 30) = false := decide_eq_false (by omega)
  have kg2 : decide ((x.la : Int) > 120) = false := decide_eq_false (by omega)
  have kg3 : decide ((x.lb : Int) > 30) = false := decide_eq_false (by omega)
  have kg4 : decide ((x.np : Int) > 60) = false := decide_eq_false (by omega)
  have kg5 : decide ((x.nr : Int) > 110) = false := decide_eq_false (by omega)
  have kg6 : decide ((x.nv : Int) > 210) = false := decide_eq_false (by omega)
  have Hs := Lib.hid (show x.np ≤ 60 ∧ x.nr ≤ 110 ∧ x.nv ≤ 210 by omega)
  clear hbig
  go_enter Tryz.func4, Tryz.ntmps4
  go_wp2_with fail
  go_loop [48] (fun i => ∃ k : Nat, k ≤ x.np ∧ i = .int .i64 k ∧ ∀ j, j < k → (x.pF j).2.1 ≤ 60) (fun i => x.np - (intOf i).toNat)
  case atStart => exact ⟨0, by omega, rfl, fun j hj => absurd hj (by omega)⟩
  case round =>
    obtain ⟨k, hk, rfl, hA⟩ := hrel
    have HA := Lib.hid hA
    clear hA
    by_cases hlt : k < x.np
    · have hI0 : (k : Int) < (x.np : Int) := by omega
      obtain ⟨sb, off, hpa, hpl, hpc⟩ := HT.out.2.2.1.2.2.2.1.at_ hlt
      unfold slV at hpc
      obtain ⟨P1, hP1⟩ : ∃ z, (x.pF k).1 = z := ⟨_, rfl⟩
      obtain ⟨P2, hP2⟩ : ∃ z, (x.pF k).2.1 = z := ⟨_, rfl⟩
      obtain ⟨P3, hP3⟩ : ∃ z, (x.pF k).2.2 = z := ⟨_, rfl⟩
      rw [hP1, hP2, hP3] at hpc
      have HP2 := Lib.hid hP2
      rw [hpa] at c4
      have wk : IntKind.i64.wrap ((k : Int) + 1) = (k : Int) + 1 := i64_same _ (by have := Hnp.out; have := Hmx.out; omega)
      have X := Lib.hid (wrap64_in ((k : Int) + 1) (by have := Hnp.out; have := Hmx.out; omega))
      have Hlt := Lib.hid hlt
      clear hpa hpl hP1 hP2 hP3 hlt hk
      by_cases hg : (P2 : Int) > 60
      · have kg : decide ((P2 : Int) > 60) = true := decide_eq_true hg
        clear hg
        go_wp2_with fail
        go_ret
        exact great21 (by first | exact HB.out | (rw [Hb0.out]; exact HB.out))
      · have kg : decide ((P2 : Int) > 60) = false := decide_eq_false hg
        have Hstep := Lib.hid (show ∀ j, j < k + 1 → (x.pF j).2.1 ≤ 60 from fun j hj => by
          by_cases e : j = k
          · rw [e, HP2.out]; omega
          · exact HA.out j (by omega))
        have xk := X.out
        clear hg
        go_wp2_with fail
        clear xk
        exact ⟨⟨k + 1, Hlt.out, by push_cast; rfl, Hstep.out⟩, meas_z x.np k Hlt.out⟩
    · obtain rfl : k = x.np := by omega
      have HPl := HA
      have hI0 : ¬ ((x.np : Int) < (x.np : Int)) := by omega
      clear hlt hk
      go_wp2_with fail
      go_loop [63] (fun i => ∃ k : Nat, k ≤ x.nv ∧ i = .int .i64 k) (fun i => x.nv - (intOf i).toNat)
      case atStart => exact ⟨0, by omega, rfl⟩
      case round =>
        obtain ⟨k, hk, rfl⟩ := hrel
        by_cases hlt : k < x.nv
        · have hI1 : (k : Int) < (x.nv : Int) := by omega
          obtain ⟨sb, off, hpa, hpl, -, hpc⟩ := HT.out.2.2.2.2.at_ hlt
          unfold slV at hpc
          obtain ⟨P1, hP1⟩ : ∃ z, (x.vF k).1 = z := ⟨_, rfl⟩
          obtain ⟨P2, hP2⟩ : ∃ z, (x.vF k).2.1 = z := ⟨_, rfl⟩
          obtain ⟨P3, hP3⟩ : ∃ z, (x.vF k).2.2 = z := ⟨_, rfl⟩
          rw [hP1, hP2, hP3] at hpc
          rw [hpa] at c6
          have wk : IntKind.i64.wrap ((k : Int) + 1) = (k : Int) + 1 := i64_same _ (by have := Hnp.out; have := Hmx.out; omega)
          have X := Lib.hid (wrap64_in ((k : Int) + 1) (by have := Hnp.out; have := Hmx.out; omega))
          have Hlt := Lib.hid hlt
          clear hpa hpl hP1 hP2 hP3 hlt hk
          by_cases hg : (P2 : Int) > 20
          · have kg : decide ((P2 : Int) > 20) = true := decide_eq_true hg
            clear hg
            go_wp2_with fail
            go_ret
            exact great21 (by first | exact HB.out | (rw [Hb0.out]; exact HB.out))
          · have kg : decide ((P2 : Int) > 20) = false := decide_eq_false hg
            have xk := X.out
            clear hg
            go_wp2_with fail
            clear xk
            exact ⟨⟨k + 1, Hlt.out, by push_cast; rfl⟩, meas_z x.nv k Hlt.out⟩
        · obtain rfl : k = x.nv := by omega
          have hI1 : ¬ ((x.nv : Int) < (x.nv : Int)) := by omega
          clear hlt hk
          go_wp2_with fail
          go_ret
          exact great20 (by first | exact HB.out | (rw [Hb0.out]; exact HB.out)) ⟨Hs.out.1, Hs.out.2.1, Hs.out.2.2, HPl.out⟩
end Go.Proofs.YtgbkedjjgbhcmaaGreatDoor

/-
  Whether a tariff may be: tariff.Check, walked. Conditions stand at each theorem.
-/
namespace Go.Proofs.YtgbkedjjgbhcmaaGreatDoor
open Go Go.RowKit Go.Kw Go.Kw.Cv Go.Shelf
set_option linter.unusedVariables false
set_option linter.unusedSimpArgs false

def tcF (b : Nat) (f : Nat) : Value := .func (.func f) #[] #[.pointer (some ⟨b, 0, none⟩)]
/-- Where the loop over the parts stands. -/
def TcI (x : Tar) (z : Int) : Prop := (z = 0) ∨ (z = 1 ∧ tE1 x = 0) ∨ (z = 2 ∧ tE1 x = 0 ∧ tE2 x = 0) ∨ (z = 3 ∧ tE1 x = 0 ∧ tE2 x = 0 ∧ tE3 x = 0) ∨ (z = 4 ∧ tE1 x = 0 ∧ tE2 x = 0 ∧ tE3 x = 0 ∧ tE4 x = 0)
set_option maxRecDepth 100000 in
set_option maxHeartbeats 16000000 in
theorem tarCheck_calls (x : Tar) (w : World) (hT : RdTar w x) (hL : Lens w) :
    Calls Tryz.prog 5 #[tarV x] w fun e w' => e = .returned (.int .i64 (tarE x)) ∧ Below w.heap.size w w' := by
  obtain ⟨b0, hb0⟩ : ∃ b0, w.heap.size = b0 := ⟨_, rfl⟩
  have Hb0 := Lib.hid hb0
  obtain ⟨W1, hW1⟩ : ∃ W1, w.alloc (.cells (tarRow x) 35) = W1 := ⟨_, rfl⟩
  have hst : Below w.heap.size w W1 := hW1 ▸ bstep w _
  have hr : W1.heap[b0]? = some (.cells (tarRow x) 35 (0, 0)) := by rw [← hb0, ← hW1]; exact World.alloc_heap_new w _
  have hz1 : W1.heap.size = b0 + 1 := by rw [← hW1]; simp [hb0]
  obtain ⟨W2, hW2⟩ : ∃ W2, W1.alloc (.cells #[tcF b0 11, tcF b0 13, tcF b0 15, tcF b0 17] 54) = W2 := ⟨_, rfl⟩
  have hst2 : Below W1.heap.size W1 W2 := hW2 ▸ bstep W1 _
  have hF : W2.heap[b0 + 1]? = some (.cells #[tcF b0 11, tcF b0 13, tcF b0 15, tcF b0 17] 54 (0, 0)) := by rw [← hz1, ← hW2]; exact World.alloc_heap_new W1 _
  have hz2 : W2.heap.size = b0 + 1 + 1 := by rw [← hW2]; simp [hz1]
  have hb2 := bnext hst hst2
  have HX := Lib.hid (And.intro (hT.go hb2) (And.intro (hL.go hb2) (And.intro (blk_below hr hst2) (And.intro hF hb2))))
  unfold tarRow at hW1
  unfold tcF at hW2
  unfold tarV tarRow
  obtain ⟨E, hE⟩ : ∃ E, tarE x = E := ⟨_, rfl⟩
  have HE := Lib.hid hE
  rw [hE]
  have hB0 := Below.refl W2.heap.size W2
  clear hst hr hst2 hF hb2 hT hL hE
  go_enter Tryz.func5, Tryz.ntmps5
  go_wp2_with fail
  clear hW1 hW2
  go_loopw [12] (fun iv wr => ∃ z : Int, iv = .int .i64 z ∧ TcI x z ∧ Below W2.heap.size W2 wr) (fun iv _ => 4 - (intOf iv).toNat)
  case atStart => exact ⟨0, rfl, .inl rfl, hB0⟩
  case round =>
    obtain ⟨z, rfl, hz, hB⟩ := hrel
    clear hB0
    obtain ⟨x1, x2, x3, x4, x5⟩ := HX.out
    have y3 := blk_below x3 hB
    have y4 := blk_below x4 hB
    have hT := x1.go hB
    have hL := x2.go hB
    have HB := Lib.hid (And.intro hB (bnext x5 hB))
    clear x1 x2 x3 x4 x5 hB
    rcases hz with rfl | ⟨rfl, e1⟩ | ⟨rfl, e1, e2⟩ | ⟨rfl, e1, e2, e3⟩ | ⟨rfl, e1, e2, e3, e4⟩
    · have c0 := cell_of_row wr (b0 + 1) 0 _ _ _ y4
      have hC := tC1_calls x b0 wr hT hL y3
      obtain ⟨X, hX⟩ : ∃ X, tE1 x = X := ⟨_, rfl⟩
      rw [hX] at hC
      have HC := Lib.hid hC
      have HEs := Lib.hid hX
      unfold tcF at c0
      clear hC hX hT hL y3 y4 
      by_cases h0 : X = 0
      · have k0 : (X != 0) = false := by simp [h0]
        have Hz := Lib.hid (show TcI x 1 by
          obtain hX := HEs.out
          rw [h0] at hX
          unfold TcI
          simp [hX])
        clear h0
        go_wp2_with fail
        refine HC.out.mono ?_
        rintro e w4 ⟨rfl, hb4⟩
        have HB4 := Lib.hid (HB.out.1.trans (hb4.mono HB.out.1.size))
        clear hb4
        go_wp2_with fail
        exact ⟨⟨1, rfl, Hz.out, HB4.out⟩, by first | decide | (simp [intOf]; done) | (simp [intOf]; omega)⟩
      · have k0 : (X != 0) = true := by simp [h0]
        have Hno := Lib.hid (show E = X by
          obtain hX := HEs.out
          rw [← HE.out]
          unfold tarE
          simp [hX, h0])
        clear h0
        go_wp2_with fail
        refine HC.out.mono ?_
        rintro e w4 ⟨rfl, hb4⟩
        have HB4 := Lib.hid (bnext HB.out.2 hb4)
        clear hb4
        go_wp2_with fail
        go_ret
        rw [Hno.out]
        exact ⟨rfl, by first | exact HB4.out | (rw [Hb0.out]; exact HB4.out)⟩
    · have c0 := cell_of_row wr (b0 + 1) 1 _ _ _ y4
      have hC := tC2_calls x b0 wr hT hL y3
      obtain ⟨X, hX⟩ : ∃ X, tE2 x = X := ⟨_, rfl⟩
      rw [hX] at hC
      have HC := Lib.hid hC
      have HEs := Lib.hid (And.intro e1 (hX))
      unfold tcF at c0
      clear hC hX hT hL y3 y4 e1
      by_cases h0 : X = 0
      · have k0 : (X != 0) = false := by simp [h0]
        have Hz := Lib.hid (show TcI x 2 by
          obtain ⟨e1, hX⟩ := HEs.out
          rw [h0] at hX
          unfold TcI
          simp [e1, hX])
        clear h0
        go_wp2_with fail
        refine HC.out.mono ?_
        rintro e w4 ⟨rfl, hb4⟩
        have HB4 := Lib.hid (HB.out.1.trans (hb4.mono HB.out.1.size))
        clear hb4
        go_wp2_with fail
        exact ⟨⟨2, rfl, Hz.out, HB4.out⟩, by first | decide | (simp [intOf]; done) | (simp [intOf]; omega)⟩
      · have k0 : (X != 0) = true := by simp [h0]
        have Hno := Lib.hid (show E = X by
          obtain ⟨e1, hX⟩ := HEs.out
          rw [← HE.out]
          unfold tarE
          simp [e1, hX, h0])
        clear h0
        go_wp2_with fail
        refine HC.out.mono ?_
        rintro e w4 ⟨rfl, hb4⟩
        have HB4 := Lib.hid (bnext HB.out.2 hb4)
        clear hb4
        go_wp2_with fail
        go_ret
        rw [Hno.out]
        exact ⟨rfl, by first | exact HB4.out | (rw [Hb0.out]; exact HB4.out)⟩
    · have c0 := cell_of_row wr (b0 + 1) 2 _ _ _ y4
      have hC := tC3_calls x b0 wr hT hL y3
      obtain ⟨X, hX⟩ : ∃ X, tE3 x = X := ⟨_, rfl⟩
      rw [hX] at hC
      have HC := Lib.hid hC
      have HEs := Lib.hid (And.intro e1 (And.intro e2 (hX)))
      unfold tcF at c0
      clear hC hX hT hL y3 y4 e1 e2
      by_cases h0 : X = 0
      · have k0 : (X != 0) = false := by simp [h0]
        have Hz := Lib.hid (show TcI x 3 by
          obtain ⟨e1, e2, hX⟩ := HEs.out
          rw [h0] at hX
          unfold TcI
          simp [e1, e2, hX])
        clear h0
        go_wp2_with fail
        refine HC.out.mono ?_
        rintro e w4 ⟨rfl, hb4⟩
        have HB4 := Lib.hid (HB.out.1.trans (hb4.mono HB.out.1.size))
        clear hb4
        go_wp2_with fail
        exact ⟨⟨3, rfl, Hz.out, HB4.out⟩, by first | decide | (simp [intOf]; done) | (simp [intOf]; omega)⟩
      · have k0 : (X != 0) = true := by simp [h0]
        have Hno := Lib.hid (show E = X by
          obtain ⟨e1, e2, hX⟩ := HEs.out
          rw [← HE.out]
          unfold tarE
          simp [e1, e2, hX, h0])
        clear h0
        go_wp2_with fail
        refine HC.out.mono ?_
        rintro e w4 ⟨rfl, hb4⟩
        have HB4 := Lib.hid (bnext HB.out.2 hb4)
        clear hb4
        go_wp2_with fail
        go_ret
        rw [Hno.out]
        exact ⟨rfl, by first | exact HB4.out | (rw [Hb0.out]; exact HB4.out)⟩
    · have c0 := cell_of_row wr (b0 + 1) 3 _ _ _ y4
      have hC := tC4_calls x b0 wr hT hL y3
      obtain ⟨X, hX⟩ : ∃ X, tE4 x = X := ⟨_, rfl⟩
      rw [hX] at hC
      have HC := Lib.hid hC
      have HEs := Lib.hid (And.intro e1 (And.intro e2 (And.intro e3 (hX))))
      unfold tcF at c0
      clear hC hX hT hL y3 y4 e1 e2 e3
      by_cases h0 : X = 0
      · have k0 : (X != 0) = false := by simp [h0]
        have Hz := Lib.hid (show TcI x 4 by
          obtain ⟨e1, e2, e3, hX⟩ := HEs.out
          rw [h0] at hX
          unfold TcI
          simp [e1, e2, e3, hX])
        clear h0
        go_wp2_with fail
        refine HC.out.mono ?_
        rintro e w4 ⟨rfl, hb4⟩
        have HB4 := Lib.hid (HB.out.1.trans (hb4.mono HB.out.1.size))
        clear hb4
        go_wp2_with fail
        exact ⟨⟨4, rfl, Hz.out, HB4.out⟩, by first | decide | (simp [intOf]; done) | (simp [intOf]; omega)⟩
      · have k0 : (X != 0) = true := by simp [h0]
        have Hno := Lib.hid (show E = X by
          obtain ⟨e1, e2, e3, hX⟩ := HEs.out
          rw [← HE.out]
          unfold tarE
          simp [e1, e2, e3, hX, h0])
        clear h0
        go_wp2_with fail
        refine HC.out.mono ?_
        rintro e w4 ⟨rfl, hb4⟩
        have HB4 := Lib.hid (bnext HB.out.2 hb4)
        clear hb4
        go_wp2_with fail
        go_ret
        rw [Hno.out]
        exact ⟨rfl, by first | exact HB4.out | (rw [Hb0.out]; exact HB4.out)⟩
    · have hE5 : E = tE5 x := by
        rw [← HE.out]
        unfold tarE
        simp [e1, e2, e3, e4]
      have hC := containsEight_calls x.vA x.nv x.cv x.vf x.vF x.vp wr hT.2.2.2.2
      have h5 : tE5 x = if x.nv = 0 then 110 else if noEight x = true then 110 else 0 := rfl
      unfold noEight at h5
      obtain ⟨V, hV⟩ : ∃ V, anyI (fun k => (((x.vF k).2.1 : Int) != 8)) x.nv = V := ⟨_, rfl⟩
      rw [hV] at hC h5
      have HC := Lib.hid hC
      unfold tarRow at y3
      have c6 := cell_of_row wr b0 6 _ _ _ y3
      clear hC hV hT hL y3 y4 e1 e2 e3 e4
      by_cases h0 : x.nv = 0
      · have k0 : ((x.nv : Int) == 0) = true := beq_iff_eq.2 (by omega)
        have Hno := Lib.hid (show E = 110 by rw [hE5, h5, if_pos h0])
        clear h0 hE5 h5
        go_wp2_with fail
        try go_quiet (fail)
        try go_wp2_with fail
        go_ret
        rw [Hno.out]
        exact ⟨rfl, by first | exact HB.out.2 | exact HB.out.2.drewN _ | (rw [Hb0.out]; exact HB.out.2) | (rw [Hb0.out]; exact HB.out.2.drewN _)⟩
      · have k0 : ((x.nv : Int) == 0) = false := beq_eq_false_iff_ne.2 (by omega)
        have Hno := Lib.hid (show E = if V = true then 110 else 0 by rw [hE5, h5, if_neg h0])
        clear h0 hE5 h5
        cases V
        all_goals
          go_wp2_with fail
          refine HC.out.mono ?_
          rintro e w4 ⟨rfl, hb4⟩
          have HB4 := Lib.hid (bnext HB.out.2 hb4)
          clear hb4
          go_wp2_with fail
          go_ret
          rw [Hno.out]
          exact ⟨rfl, by first | exact HB4.out | (rw [Hb0.out]; exact HB4.out)⟩
end Go.Proofs.YtgbkedjjgbhcmaaGreatDoor
