/-
  The law ZoneNames, walked. Conditions stand at each theorem.
-/
import Derived.Test.YtoipmhmghcngcaaDoorInstsNo
import Derived.Test.YtoipmhmghcngcaaDoorZoneAlive
import Derived.Deep.RegionHeld3
namespace Go.Proofs.YtoipmhmghcngcaaDoor
open Go Go.RowKit Go.Kw Go.Kw.Cv Go.Shelf
set_option linter.unusedVariables false
set_option linter.unusedSimpArgs false

/-- What stands of the chapter's zone: its box, its rule. -/
def StN (bz b : Nat) (w W : World) : Prop := W.heap[bz]? = some (.cells #[.int .i64 3600, .slice (some ⟨b, 0, none⟩) 1 1] 24 (0, 0)) ∧ W.heap[b]? = some (.cells (rulC euL) 31 (0, 0)) ∧ Lens W ∧ Below w.heap.size w W
section
variable {bz b : Nat} {w W W' : World}
theorem StN.go (h : StN bz b w W) (hb : Below W.heap.size W W') : StN bz b w W' := ⟨blk_below h.1 hb, blk_below h.2.1 hb, h.2.2.1.go hb, bnext h.2.2.2 hb⟩
theorem StN.c0 (h : StN bz b w W) : W.cell? ⟨bz, 0, none⟩ = some (.int .i64 3600) := cell_of_row W bz 0 _ _ _ h.1
theorem StN.c1 (h : StN bz b w W) : W.cell? ⟨bz, 1, none⟩ = some (.slice (some ⟨b, 0, none⟩) 1 1) := cell_of_row W bz 1 _ _ _ h.1
theorem StN.rd (h : StN bz b w W) : RdZ W (some ⟨b, 0, none⟩) 1 1 (rulG euL) := eu_rd h.2.1
end
theorem nm_i1 : instV 2026 3 29 2 30 0 = 1774751400 := by decide
theorem nm_i2 : instV 2026 10 25 2 30 0 = 1792895400 := by decide
theorem nm_i3 : instV 2026 7 1 0 0 0 = 1782864000 := by decide
theorem nm_i4 : instV 2026 1 1 0 0 0 = 1767225600 := by decide
theorem nm_l1 : instL 3600 1 (rulG euL) 1774751400 = [] := by
  refine inst_none (out_no ?_) (out_no ?_)
  · rw [eu_ext _ (by omega), if_pos (by omega)]; omega
  · rw [show rulG euL 0 10 = 3600 from rfl, eu_ext _ (by omega), if_neg (by omega)]; omega
theorem nm_l2 : instL 3600 1 (rulG euL) 1792895400 = [1792888200, 1792891800] := by
  have h := inst_both (o := 3600) (g := rulG euL) (x := 1792895400) (out_is eu_ok (by unfold secOk; omega) (by rw [eu_ext _ (by omega), if_neg (by omega)]) (by unfold secOk; omega))
    (by rw [show rulG euL 0 10 = 3600 from rfl]; exact out_is eu_ok (by unfold secOk; omega) (by rw [eu_ext _ (by omega), if_pos (by omega)]) (by unfold secOk; omega)) (by decide)
  rw [show rulG euL 0 10 = 3600 from rfl] at h
  rw [h]
  rfl
theorem nm_o1 : offV 3600 1 (rulG euL) 1782864000 = 7200 ∧ offE 3600 1 (rulG euL) 1782864000 = 0 := (eu_sum _ (by omega)).symm
theorem nm_o2 : offV 3600 1 (rulG euL) 1767225600 = 3600 ∧ offE 3600 1 (rulG euL) 1767225600 = 0 := (eu_win _ (by omega)).symm
theorem nm_o3 : offV 3600 1 (rulG euL) (-3601) = 0 ∧ offE 3600 1 (rulG euL) (-3601) = 60 := by
  have h : offE 3600 1 (rulG euL) (-3601) = 60 := by unfold offE; rw [if_pos eu_ok, if_neg (fun h => by have := h.1; unfold secOk at this; omega)]
  exact ⟨off_v _ _ _ _ _ h (by decide), h⟩
theorem nm_1970 : extV (rulG euL) 1 0 = 0 := by
  have a1 : ahd 1970 = 0 := ahd_1970
  have a2 : ahd (1970 + 1) = 365 := by decide
  rw [ext_at (y := 1970) (by rw [a1, a2]; omega) (by unfold secOk; omega), if_neg (by decide)]
theorem nm_o4 : offV 3600 1 (rulG euL) (-3600) = 3600 ∧ offE 3600 1 (rulG euL) (-3600) = 0 :=
  (off_is (e := 0) eu_ok (by unfold secOk; omega) (by rw [show (-3600 : Int) + 3600 = 0 by omega]; exact nm_1970) (by unfold secOk; omega)).symm
theorem nm_o5 (g : Nat → Nat → Int) : offV 50401 0 g 0 = 0 ∧ offE 50401 0 g 0 = 70 := by
  have h : offE 50401 0 g 0 = 70 := if_neg (fun h => by have := h.2.1; omega)
  exact ⟨off_v _ _ _ _ _ h (by decide), h⟩
theorem nm_of : ¬ OfIs 3600 1 (rulG euL) 1995 := fun h => by
  have := h.2
  rw [show rulF (rulG euL) 1995 1 = 1 by decide] at this
  omega
theorem nm_bad : zonE 3600 1 (rulG badL) = 70 := if_neg (fun h => by
  have := (h.2.2.2 0 (by omega)).2.2.2.1
  rw [show rulG badL 0 10 = 0 from rfl] at this
  omega)
theorem nz_nil (W : World) (g : Nat → Nat → Int) : RdZ W none 0 0 g := ⟨Nat.le_refl _, Nat.zero_le _, fun _ => rfl, .inl rfl, fun r j hr => absurd hr (Nat.not_lt_zero _)⟩
set_option maxRecDepth 100000 in
set_option maxHeartbeats 32000000 in
theorem zoneNames_walk (w : World) (hL : Lens w) :
    Calls Tryd.prog 5 #[] w fun e w' => e = .returned (.bool true) ∧ Below w.heap.size w w' := by
  have Hb0 : Hid (w.heap.size = w.heap.size) := rfl
  have HL := Lib.hid hL
  clear hL
  go_enter Tryd.func5, Tryd.ntmps5
  go_wp2_with fail
  refine (europe_calls _).mono ?_
  rintro e w1 ⟨b, rfl, hbs, hr, h1⟩
  have hS : StN w1.heap.size b w (w1.alloc (.cells #[.int .i64 3600, .slice (some ⟨b, 0, none⟩) 1 1] 24)) := ⟨World.alloc_heap_new w1 _, blk_below hr (bstep w1 _), (HL.out.go h1).go (bstep w1 _), bnext h1 (bstep w1 _)⟩
  unfold zonC
  clear hbs hr h1 HL
  have c0 := hS.c0
  have c1 := hS.c1
  have HX := (by have h := insts_ok 3600 (some ⟨b, 0, none⟩) 1 1 (rulG euL) 2026 3 29 2 30 0 eu_ok (by decide) (by decide) _ hS.rd hS.2.2.1; rw [nm_i1, nm_l1] at h; exact h)
  try unfold zonC at HX
  replace HX := Lib.hid HX
  have HT := Lib.hid hS
  clear hS
  try clear hb
  go_wp2_with fail
  refine HX.out.mono ?_
  rintro e w2 ⟨⟨B1, q1, rfl, -⟩, hb⟩
  have hS := HT.out.go hb
  clear HX HT c0 c1
  rw [show ([] : List Int).length = 0 from rfl]
  have c0 := hS.c0
  have c1 := hS.c1
  have HX := (by have h := insts_ok 3600 (some ⟨b, 0, none⟩) 1 1 (rulG euL) 2026 10 25 2 30 0 eu_ok (by decide) (by decide) w2 hS.rd hS.2.2.1; rw [nm_i2, nm_l2] at h; exact h)
  try unfold zonC at HX
  replace HX := Lib.hid HX
  have HT := Lib.hid hS
  clear hS
  try clear hb
  go_wp2_with fail
  refine HX.out.mono ?_
  rintro e w3 ⟨⟨B2, q2, rfl, hRd⟩, hb⟩
  have hS := HT.out.go hb
  clear HX HT c0 c1
  rw [show ([1792888200, 1792891800] : List Int).length = 2 from rfl]
  obtain ⟨lb, lo, rfl, hlb, hl0⟩ := hRd.at_ (k := 0) (by show 0 < 2; omega)
  obtain ⟨lb2, lo2, he2, -, hl1⟩ := hRd.at_ (k := 1) (by show 1 < 2; omega)
  injection he2 with he2
  injection he2 with e7 e8
  subst e7 e8
  rw [Nat.add_zero, show ([1792888200, 1792891800] : List Int).getD 0 0 = 1792888200 from rfl] at hl0
  rw [show ([1792888200, 1792891800] : List Int).getD 1 0 = 1792891800 from rfl] at hl1
  have HLs : Hid (∀ W, Below w3.heap.size w3 W → W.cell? ⟨lb, lo, none⟩ = some (.int .i64 1792888200) ∧ W.cell? ⟨lb, lo + 1, none⟩ = some (.int .i64 1792891800)) := fun W hh => ⟨(hh.cell (p := ⟨lb, lo, none⟩) hlb).trans hl0, (hh.cell (p := ⟨lb, lo + 1, none⟩) hlb).trans hl1⟩
  have hB3 := Below.refl w3.heap.size w3
  clear hRd hlb hl0 hl1 hb
  have HT := Lib.hid hS
  have HB3 := Lib.hid hB3
  have HC : Hid (∀ W, Below w3.heap.size w3 W → W.cell? ⟨w1.heap.size, 0, none⟩ = some (.int .i64 3600) ∧ W.cell? ⟨w1.heap.size, 1, none⟩ = some (.slice (some ⟨b, 0, none⟩) 1 1)) := fun W hh => ⟨(HT.out.go hh).c0, (HT.out.go hh).c1⟩
  have c0 := hS.c0
  have c1 := hS.c1
  have HW := Lib.hid (fun W (hh : Below w3.heap.size w3 W) => (by have h := when_calls 2026 7 1 0 0 0 W (HT.out.go hh).2.2.1; rw [nm_i3] at h; exact h))
  have HO := Lib.hid (fun W (hh : Below w3.heap.size w3 W) => (by have h := zOffset_calls 3600 (some ⟨b, 0, none⟩) 1 1 (rulG euL) (1782864000) W (HT.out.go hh).rd (HT.out.go hh).2.2.1; rw [nm_o1.1, nm_o1.2] at h; unfold zonC at h; exact h))
  clear hS hB3
  go_upto_region 4 with fail
  clear c0 c1
  go_region_held3 (fun W => W.cell? ⟨w1.heap.size, 0, none⟩ = some (.int .i64 3600) ∧ W.cell? ⟨w1.heap.size, 1, none⟩ = some (.slice (some ⟨b, 0, none⟩) 1 1))
    ((refine HC.out _ ?_; first | (with_reducible assumption) | (with_reducible apply Below.drew; with_reducible apply Below.refl)))
    (first
      | (go_at_call 26; refine (HW.out _ (by with_reducible apply Below.drew; with_reducible apply Below.refl)).mono ?_; rintro e w4a ⟨rfl, hbA⟩; have hbC : Below w3.heap.size w3 w4a := (by refine bnext ?_ hbA; with_reducible apply Below.drew; with_reducible apply Below.refl))
      | (go_at_call 13; refine (HO.out _ (by with_reducible assumption)).mono ?_; rintro e w4 ⟨rfl, hbB⟩; have hbD : Below w3.heap.size w3 w4 := bnext hbC hbB))
  have hS := HT.out.go hbD
  have hB3 := bnext HB3.out hbD
  clear HT HB3 HC HW HO hbA hbC hbB hbD
  have HT := Lib.hid hS
  have HB3 := Lib.hid hB3
  have HC : Hid (∀ W, Below w4.heap.size w4 W → W.cell? ⟨w1.heap.size, 0, none⟩ = some (.int .i64 3600) ∧ W.cell? ⟨w1.heap.size, 1, none⟩ = some (.slice (some ⟨b, 0, none⟩) 1 1)) := fun W hh => ⟨(HT.out.go hh).c0, (HT.out.go hh).c1⟩
  have c0 := hS.c0
  have c1 := hS.c1
  have HW := Lib.hid (fun W (hh : Below w4.heap.size w4 W) => (by have h := when_calls 2026 1 1 0 0 0 W (HT.out.go hh).2.2.1; rw [nm_i4] at h; exact h))
  have HO := Lib.hid (fun W (hh : Below w4.heap.size w4 W) => (by have h := zOffset_calls 3600 (some ⟨b, 0, none⟩) 1 1 (rulG euL) (1767225600) W (HT.out.go hh).rd (HT.out.go hh).2.2.1; rw [nm_o2.1, nm_o2.2] at h; unfold zonC at h; exact h))
  clear hS hB3
  go_upto_region 5 with fail
  clear c0 c1
  go_region_held3 (fun W => W.cell? ⟨w1.heap.size, 0, none⟩ = some (.int .i64 3600) ∧ W.cell? ⟨w1.heap.size, 1, none⟩ = some (.slice (some ⟨b, 0, none⟩) 1 1))
    ((refine HC.out _ ?_; first | (with_reducible assumption) | (with_reducible apply Below.drew; with_reducible apply Below.refl)))
    (first
      | (go_at_call 26; refine (HW.out _ (by with_reducible apply Below.drew; with_reducible apply Below.refl)).mono ?_; rintro e w5a ⟨rfl, hbA⟩; have hbC : Below w4.heap.size w4 w5a := (by refine bnext ?_ hbA; with_reducible apply Below.drew; with_reducible apply Below.refl))
      | (go_at_call 13; refine (HO.out _ (by with_reducible assumption)).mono ?_; rintro e w5 ⟨rfl, hbB⟩; have hbD : Below w4.heap.size w4 w5 := bnext hbC hbB))
  have hS := HT.out.go hbD
  have hB3 := bnext HB3.out hbD
  clear HT HB3 HC HW HO hbA hbC hbB hbD
  have HB3 := Lib.hid hB3
  clear hB3
  have c0 := hS.c0
  have c1 := hS.c1
  have HX := (by have h := zOffset_calls 3600 (some ⟨b, 0, none⟩) 1 1 (rulG euL) (-3601) w5 hS.rd hS.2.2.1; rw [nm_o3.1, nm_o3.2] at h; exact h)
  try unfold zonC at HX
  replace HX := Lib.hid HX
  have HT := Lib.hid hS
  clear hS
  try clear hb
  go_wp2_with fail
  refine HX.out.mono ?_
  rintro e w6 ⟨rfl, hb⟩
  have hS := HT.out.go hb
  clear HX HT c0 c1
  replace HB3 := Lib.hid (bnext HB3.out hb)
  have c0 := hS.c0
  have c1 := hS.c1
  have HX := (by have h := zOffset_calls 3600 (some ⟨b, 0, none⟩) 1 1 (rulG euL) (-3600) w6 hS.rd hS.2.2.1; rw [nm_o4.1, nm_o4.2] at h; exact h)
  try unfold zonC at HX
  replace HX := Lib.hid HX
  have HT := Lib.hid hS
  clear hS
  try clear hb
  go_wp2_with fail
  refine HX.out.mono ?_
  rintro e w7 ⟨rfl, hb⟩
  have hS := HT.out.go hb
  clear HX HT c0 c1
  replace HB3 := Lib.hid (bnext HB3.out hb)
  have c0 := hS.c0
  have c1 := hS.c1
  have HX := (by have h := zOffset_calls 50401 none 0 0 (rulG euL) 0 w7 (nz_nil _ _) hS.2.2.1; rw [(nm_o5 _).1, (nm_o5 _).2] at h; exact h)
  try unfold zonC at HX
  replace HX := Lib.hid HX
  have HT := Lib.hid hS
  clear hS
  try clear hb
  go_wp2_with fail
  refine HX.out.mono ?_
  rintro e w8 ⟨rfl, hb⟩
  have hS := HT.out.go hb
  clear HX HT c0 c1
  replace HB3 := Lib.hid (bnext HB3.out hb)
  have c0 := hS.c0
  have c1 := hS.c1
  have HX := (by have h := zOf_calls 3600 (some ⟨b, 0, none⟩) 1 1 (rulG euL) 1995 w8 hS.rd; rw [(of_not nm_of).1, (of_not nm_of).2] at h; unfold rulV at h; exact h)
  try unfold zonC at HX
  replace HX := Lib.hid HX
  have HT := Lib.hid hS
  clear hS
  try clear hb
  go_wp2_with fail
  refine HX.out.mono ?_
  rintro e w9 ⟨rfl, hb⟩
  have hS := HT.out.go hb
  clear HX HT c0 c1
  replace HB3 := Lib.hid (bnext HB3.out hb)
  have hst := bstep w9 (.cells #[.int .i64 0, .int .i64 0, .int .i64 0, .int .i64 0, .int .i64 0, .int .i64 0, .int .i64 0, .int .i64 0, .int .i64 0, .int .i64 0, .int .i64 0] 31)
  have hS := hS.go hst
  clear hst
  have HB9 : Hid (w3.heap.size ≤ _) := (bnext HB3.out (bstep w9 (.cells #[.int .i64 0, .int .i64 0, .int .i64 0, .int .i64 0, .int .i64 0, .int .i64 0, .int .i64 0, .int .i64 0, .int .i64 0, .int .i64 0, .int .i64 0] 31))).size
  replace HB3 := Lib.hid (bnext HB3.out (bstep w9 (.cells #[.int .i64 0, .int .i64 0, .int .i64 0, .int .i64 0, .int .i64 0, .int .i64 0, .int .i64 0, .int .i64 0, .int .i64 0, .int .i64 0, .int .i64 0] 31)))
  have hbl := (Array.getElem?_eq_some_iff.1 hS.2.1).1
  have hlow := hS.2.2.1.low
  have HT := Lib.hid (And.intro hS (And.intro hbl hlow))
  clear hS hb hbl hlow
  go_wp2_with fail
  refine (europe_calls _).mono ?_
  rintro e wa ⟨b2, rfl, hbs, hr, hb⟩
  have hlow := HT.out.2.2
  have hS := HT.out.1.go hb
  replace HB3 := Lib.hid (bnext HB3.out hb)
  unfold zonC
  have hst := bstep wa (.cells #[.int .i64 3600, .slice (some ⟨b2, 0, none⟩) 1 1] 24)
  have hrz := World.alloc_heap_new wa (.cells #[.int .i64 3600, .slice (some ⟨b2, 0, none⟩) 1 1] 24)
  have hS := hS.go hst
  have hw1 := HT.out.1.2.2.2.size
  replace HB3 := Lib.hid (bnext HB3.out hst)
  have hr2 := blk_below hr hst
  have hba : b2 < wa.heap.size := (Array.getElem?_eq_some_iff.1 hr).1
  have hb3 : w3.heap.size ≤ b2 := Nat.le_trans HB9.out hbs
  obtain ⟨V, hV⟩ : ∃ V, wa.alloc (.cells #[.int .i64 3600, .slice (some ⟨b2, 0, none⟩) 1 1] 24) = V := ⟨_, rfl⟩
  rw [hV] at hst hrz hS HB3 hr2
  have z0 := cell_of_row V wa.heap.size 0 _ _ _ hrz
  have z1 := cell_of_row V wa.heap.size 1 _ _ _ hrz
  have d10 : V.cell? ⟨b2, 10, none⟩ = some (Value.int .i64 3600) := cell_of_row V b2 10 _ _ _ hr2
  have f10 := blk_frozen hr2 10
  have hr3 := heap_setCell_same _ b2 10 _ _ (Value.int .i64 0) hr2
  have hrz3 := (heap_setCell_other V ⟨b2, 10, none⟩ wa.heap.size (Value.int .i64 0) (by show wa.heap.size ≠ b2; omega)).trans hrz
  have hLb : Lens (V.setCell ⟨b2, 10, none⟩ (.int .i64 0)) := hS.2.2.1.below (B := b2) ((Below.refl b2 V).setCell (p := ⟨b2, 10, none⟩) (Nat.le_refl _) _) (by omega)
  have hBb : Below w.heap.size w (V.setCell ⟨b2, 10, none⟩ (.int .i64 0)) := hS.2.2.2.setCell (p := ⟨b2, 10, none⟩) (by show w.heap.size ≤ b2; omega) _
  have hB3 : Below w3.heap.size w3 (V.setCell ⟨b2, 10, none⟩ (.int .i64 0)) := HB3.out.setCell (p := ⟨b2, 10, none⟩) hb3 _
  obtain ⟨X, hXe⟩ : ∃ X, V.setCell ⟨b2, 10, none⟩ (.int .i64 0) = X := ⟨_, rfl⟩
  rw [hXe] at hr3 hrz3 hLb hBb hB3
  have HA := Lib.hid (fun W (hh : Below X.heap.size X W) => alive_calls W (hLb.go hh))
  have HC := Lib.hid (fun W (hh : Below X.heap.size X W) => (by have h := zCheck_calls 3600 (some ⟨b2, 0, none⟩) 1 1 (rulG badL) W (rul_rd (l := badL) rfl (blk_below hr3 hh) (by decide)); rw [nm_bad] at h; unfold zonC at h; exact h))
  have HS : Hid (∀ W, Below X.heap.size X W → W.cell? ⟨wa.heap.size, 0, none⟩ = some (.int .i64 3600) ∧ W.cell? ⟨wa.heap.size, 1, none⟩ = some (.slice (some ⟨b2, 0, none⟩) 1 1) ∧ W.cell? ⟨lb, lo, none⟩ = some (.int .i64 1792888200) ∧ W.cell? ⟨lb, lo + 1, none⟩ = some (.int .i64 1792891800)) := fun W hh => ⟨cell_of_row W wa.heap.size 0 _ _ _ (blk_below hrz3 hh), cell_of_row W wa.heap.size 1 _ _ _ (blk_below hrz3 hh), HLs.out W (bnext hB3 hh)⟩
  have HB := Lib.hid hBb
  clear hst hrz hS HB3 hr2 hba hb3 hr3 hrz3 hLb hBb hB3 hw1 hlow HT hbs hr hb HB9
  go_upto_region 12 with fail
  clear z0 z1 d10 f10 hV
  simp only [List.append_eq, List.cons_append, List.nil_append]
  go_region_held3 (fun W => W.cell? ⟨wa.heap.size, 0, none⟩ = some (.int .i64 3600) ∧ W.cell? ⟨wa.heap.size, 1, none⟩ = some (.slice (some ⟨b2, 0, none⟩) 1 1) ∧ W.cell? ⟨lb, lo, none⟩ = some (.int .i64 1792888200) ∧ W.cell? ⟨lb, lo + 1, none⟩ = some (.int .i64 1792891800))
    ((refine HS.out _ ?_; first | (with_reducible assumption) | (with_reducible apply Below.drew; with_reducible apply Below.refl)))
    (first
      | (go_at_call 27; refine (HA.out _ (by with_reducible apply Below.drew; with_reducible apply Below.refl)).mono ?_; rintro e wc ⟨rfl, hbA⟩; have hbC : Below X.heap.size X wc := (by refine bnext ?_ hbA; with_reducible apply Below.drew; with_reducible apply Below.refl))
      | (go_at_call 10; refine (HC.out _ (by with_reducible assumption)).mono ?_; rintro e wd ⟨rfl, hbB⟩; have hbD : Below X.heap.size X wd := bnext hbC hbB))
  have HB2 := Lib.hid (bnext HB.out hbD)
  clear hbA hbB hbC hbD
  go_wp2_with fail
  go_ret
  exact ⟨rfl, by first | exact HB2.out | exact HB2.out.drewN _⟩
end Go.Proofs.YtoipmhmghcngcaaDoor
