/-
  The law ZoneOffsets: a case of a zone that may be, walked. Conditions stand at each theorem.
-/
import Derived.Test.YtoipmhmghcngcaaDoorZoneOffs0
namespace Go.Proofs.YtoipmhmghcngcaaDoor
open Go Go.RowKit Go.Kw Go.Kw.Cv Go.Shelf
set_option linter.unusedVariables false
set_option linter.unusedSimpArgs false

attribute [local go_sem] eq_rul eq_mom
set_option maxRecDepth 100000 in
set_option maxHeartbeats 32000000 in
theorem zo_good4 (o : Int) (A : Option Addr) (lr cr : Nat) (g : Nat → Nat → Int) (y t : Int) (w : World) (hR : RdZ w A lr cr g) (hl : lr ≤ 100) (hok : zonOk o lr g) (hi : ¬ OfIs o lr g y) (he : offE o lr g t ≠ 0) (hL : Lens w) :
    Calls Tryd.prog 3 #[.agg #[.int .i64 o, .slice A lr cr], .int .i64 y, .int .i64 t] w fun e w' => e = .returned (.bool true) ∧ Below w.heap.size w w' := by
  obtain ⟨b0, hb0⟩ : ∃ b0, w.heap.size = b0 := ⟨_, rfl⟩
  have Hb0 := Lib.hid hb0
  have hS : StZ b0 w o A lr cr g (w.alloc (.cells #[.int .i64 o, .slice A lr cr] 24)) := hb0 ▸ StZ.new hR hL
  obtain ⟨W1, hW1⟩ : ∃ W1, w.alloc (.cells #[.int .i64 o, .slice A lr cr] 24) = W1 := ⟨_, rfl⟩
  rw [hW1] at hS
  clear hR hL
  have kl : decide ((lr : Int) > 100) = false := decide_eq_false (by omega)
  have Hv := Lib.hid (show decide (zonOk o lr g) = true ∧ zonE o lr g = 0 from ⟨decide_eq_true hok, if_pos hok⟩)
  have Hok := Lib.hid hok
  clear hl hok
  go_enter Tryd.func3, Tryd.ntmps3
  have c0 := hS.c0
  have c1 := hS.c1
  have HX := (by have h := refMayZ_calls o A lr cr g W1 hS.2.1; rw [Hv.out.1] at h; exact h)
  unfold zonC at HX
  replace HX := Lib.hid HX
  have HT := Lib.hid hS
  clear hS
  try clear hb
  go_wp2_with fail
  refine HX.out.mono ?_
  rintro e w2 ⟨rfl, hb⟩
  have hS := HT.out.go hb
  clear HX HT c0 c1
  have c0 := hS.c0
  have c1 := hS.c1
  have HX := (by have h := zCheck_calls o A lr cr g w2 hS.2.1; rw [Hv.out.2] at h; exact h)
  unfold zonC at HX
  replace HX := Lib.hid HX
  have HT := Lib.hid hS
  clear hS
  try clear hb
  go_wp2_with fail
  refine HX.out.mono ?_
  rintro e w3 ⟨rfl, hb⟩
  have hS := HT.out.go hb
  clear HX HT c0 c1
  clear Hv
  have c0 := hS.c0
  have c1 := hS.c1
  have HT := Lib.hid hS
  clear hS hb
  go_upto_region 5 with fail
  clear c0 c1
  have hS := HT.out
  clear HT
  obtain ⟨q1, q2⟩ := of_not hi
  have hni : ¬ rulF g y lr < lr := fun h => hi ⟨Hok.out, h⟩
  have v1 : edA o lr g y = 0 := if_neg hi
  have v2 : edB o lr g y = 0 := if_neg hi
  have v3 : reA lr g y = 0 := if_neg hni
  have v4 : reB lr g y = 0 := if_neg hni
  have v5 : idxV lr g y = -1 := if_neg hni
  have Hv := Lib.hid (And.intro q1 (And.intro q2 (And.intro v1 (And.intro v2 (And.intro v3 (And.intro v4 v5))))))
  clear q1 q2 v1 v2 v3 v4 v5 hi hni
  have c0 := hS.c0
  have c1 := hS.c1
  have HX := (by have h := zOf_calls o A lr cr g y w3 hS.2.1; rw [Hv.out.1, Hv.out.2.1] at h; unfold rulV at h; exact h)
  unfold zonC at HX
  replace HX := Lib.hid HX
  have HT := Lib.hid hS
  clear hS
  try clear hb
  go_wp2_with fail
  refine HX.out.mono ?_
  rintro e w4 ⟨rfl, hb⟩
  have hS := HT.out.go hb
  clear HX HT c0 c1
  have hrr : (w4.alloc (.cells #[.int .i64 0, .int .i64 0, .int .i64 0, .int .i64 0, .int .i64 0, .int .i64 0, .int .i64 0, .int .i64 0, .int .i64 0, .int .i64 0, .int .i64 0] 31)).heap[w4.heap.size]? = some (.cells #[.int .i64 0, .int .i64 0, .int .i64 0, .int .i64 0, .int .i64 0, .int .i64 0, .int .i64 0, .int .i64 0, .int .i64 0, .int .i64 0, .int .i64 0] 31 (0, 0)) := World.alloc_heap_new w4 _
  have hS := hS.go (bstep w4 (.cells #[.int .i64 0, .int .i64 0, .int .i64 0, .int .i64 0, .int .i64 0, .int .i64 0, .int .i64 0, .int .i64 0, .int .i64 0, .int .i64 0, .int .i64 0] 31))
  have c0 := hS.c0
  have c1 := hS.c1
  have HX := (by have h := zEdges_calls o A lr cr g y _ hS.2.1 hS.2.2.1; rw [Hv.out.2.1, Hv.out.2.2.1, Hv.out.2.2.2.1] at h; exact h)
  unfold zonC at HX
  replace HX := Lib.hid HX
  have HT := Lib.hid hS
  clear hS
  try clear hb
  go_wp2_with fail
  refine HX.out.mono ?_
  rintro e w5 ⟨rfl, hb⟩
  have hS := HT.out.go hb
  clear HX HT c0 c1
  have hrr := blk_below hrr hb
  have c0 := hS.c0
  have c1 := hS.c1
  have HX := (by have h := refRule_calls o A lr cr g y w5 hS.2.1; rw [Hv.out.2.2.2.2.2.2] at h; exact h)
  unfold zonC at HX
  replace HX := Lib.hid HX
  have HT := Lib.hid hS
  clear hS
  try clear hb
  go_wp2_with fail
  refine HX.out.mono ?_
  rintro e w6 ⟨rfl, hb⟩
  have hS := HT.out.go hb
  clear HX HT c0 c1
  have hrr := blk_below hrr hb
  have c0 := hS.c0
  have c1 := hS.c1
  have HX := (by have h := refEdges_calls o A lr cr g y Hok.out w6 hS.2.1; rw [Hv.out.2.1, Hv.out.2.2.2.2.1, Hv.out.2.2.2.2.2.1] at h; exact h)
  unfold zonC at HX
  replace HX := Lib.hid HX
  have HT := Lib.hid hS
  clear hS
  try clear hb
  go_wp2_with fail
  refine HX.out.mono ?_
  rintro e w7 ⟨rfl, hb⟩
  have hS := HT.out.go hb
  clear HX HT c0 c1
  have hrr := blk_below hrr hb
  have c0 := hS.c0
  have c1 := hS.c1
  have HT := Lib.hid hS
  clear hS hb hrr
  go_upto_region 12 with fail
  go_quiet (fail)
  clear c0 c1
  have hS := HT.out.go ((Below.refl w7.heap.size w7).drewN nq)
  clear HT
  have hv : offV o lr g t = 0 := if_neg he
  have u1 : locV o lr g t = mom0 := if_neg he
  have u2 : locS o lr g t = false := if_neg he
  have u3 : dayQ o lr g t = 0 := if_neg he
  have u4 : minQ o lr g t = 0 := if_neg he
  unfold mom0 at u1
  obtain ⟨E, hE⟩ : ∃ E, offE o lr g t = E := ⟨_, rfl⟩
  rw [hE] at he
  have kE : (E == 0) = false := beq_eq_false_iff_ne.2 he
  have HU := Lib.hid (And.intro u1 (And.intro u2 (And.intro u3 (And.intro u4 (And.intro hE hv)))))
  clear u1 u2 u3 u4 hE hv he
  have c0 := hS.c0
  have c1 := hS.c1
  have HX := (by have h := zOffset_calls o A lr cr g t _ hS.2.1 hS.2.2.1; rw [HU.out.2.2.2.2.1, HU.out.2.2.2.2.2] at h; exact h)
  unfold zonC at HX
  replace HX := Lib.hid HX
  have HT := Lib.hid hS
  clear hS
  try clear hb
  go_wp2_with fail
  refine HX.out.mono ?_
  rintro e wa ⟨rfl, hb⟩
  have hS := HT.out.go hb
  clear HX HT c0 c1
  have c0 := hS.c0
  have c1 := hS.c1
  have HX := (by have h := refOffset_calls o A lr cr g t wa hS.2.1; rw [HU.out.2.2.2.2.1, HU.out.2.2.2.2.2] at h; exact h)
  unfold zonC at HX
  replace HX := Lib.hid HX
  have HT := Lib.hid hS
  clear hS
  try clear hb
  go_wp2_with fail
  refine HX.out.mono ?_
  rintro e wb ⟨rfl, hb⟩
  have hS := HT.out.go hb
  clear HX HT c0 c1
  have c0 := hS.c0
  have c1 := hS.c1
  have HX := (by have h := zLocal_calls o A lr cr g t wb hS.2.1 hS.2.2.1; rw [HU.out.2.2.2.2.1, HU.out.1, HU.out.2.1] at h; exact h)
  unfold zonC at HX
  replace HX := Lib.hid HX
  have HT := Lib.hid hS
  clear hS
  try clear hb
  go_wp2_with fail
  refine HX.out.mono ?_
  rintro e wd ⟨rfl, hb⟩
  have hS := HT.out.go hb
  clear HX HT c0 c1
  have hrm : (wd.alloc (.cells #[.int .i64 0, .int .i64 0, .int .i64 0, .int .i64 0, .int .i64 0, .int .i64 0] 44)).heap[wd.heap.size]? = some (.cells #[.int .i64 0, .int .i64 0, .int .i64 0, .int .i64 0, .int .i64 0, .int .i64 0] 44 (0, 0)) := World.alloc_heap_new wd _
  have hS := hS.go (bstep wd (.cells #[.int .i64 0, .int .i64 0, .int .i64 0, .int .i64 0, .int .i64 0, .int .i64 0] 44))
  have c0 := hS.c0
  have c1 := hS.c1
  have HX := (by have h := zDay_calls o A lr cr g t _ hS.2.1 hS.2.2.1; rw [HU.out.2.2.2.2.1, HU.out.2.2.1, HU.out.2.2.2.1] at h; exact h)
  unfold zonC at HX
  replace HX := Lib.hid HX
  have HT := Lib.hid hS
  clear hS
  try clear hb
  go_wp2_with fail
  refine HX.out.mono ?_
  rintro e we ⟨rfl, hb⟩
  have hS := HT.out.go hb
  clear HX HT c0 c1
  have hrm := blk_below hrm hb
  have p0 := cell_of_row we wd.heap.size 0 _ _ _ hrm
  have p1 := cell_of_row we wd.heap.size 1 _ _ _ hrm
  have p2 := cell_of_row we wd.heap.size 2 _ _ _ hrm
  have p3 := cell_of_row we wd.heap.size 3 _ _ _ hrm
  have p4 := cell_of_row we wd.heap.size 4 _ _ _ hrm
  have p5 := cell_of_row we wd.heap.size 5 _ _ _ hrm
  have HB := Lib.hid hS.2.2.2
  clear hS hb hrm
  go_wp2_with fail
  go_ret
  exact ⟨rfl, HB.out⟩
end Go.Proofs.YtoipmhmghcngcaaDoor
