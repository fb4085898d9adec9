/-
  The law ZoneInstants, walked. Conditions stand at each theorem.
-/
import Derived.Test.YtoipmhmghcngcaaDoorInstsNo
import Derived.Test.YtoipmhmghcngcaaDoorRefInsts
import Derived.Test.YtoipmhmghcngcaaDoorMomOpen
import Derived.Test.YtoipmhmghcngcaaDoorZoneOffs0
namespace Go.Proofs.YtoipmhmghcngcaaDoor
open Go Go.RowKit Go.Kw Go.Kw.Cv Go.Shelf
set_option linter.unusedVariables false
set_option linter.unusedSimpArgs false

/-- What stands of a law's zone, boxed at b0, and its moment, boxed behind it. -/
def StM (b0 : Nat) (w : World) (o : Int) (A : Option Addr) (lr cr : Nat) (g : Nat → Nat → Int) (y m d h i s : Int) (W : World) : Prop :=
  StZ b0 w o A lr cr g W ∧ W.heap[b0 + 1]? = some (.cells #[.int .i64 y, .int .i64 m, .int .i64 d, .int .i64 h, .int .i64 i, .int .i64 s] 44 (0, 0))
section
variable {b0 : Nat} {w : World} {o : Int} {A : Option Addr} {lr cr : Nat} {g : Nat → Nat → Int} {y m d h i s : Int} {W W' : World}
theorem StM.go (hh : StM b0 w o A lr cr g y m d h i s W) (hb : Below W.heap.size W W') : StM b0 w o A lr cr g y m d h i s W' := ⟨hh.1.go hb, blk_below hh.2 hb⟩
theorem StM.new (hR : RdZ w A lr cr g) (hL : Lens w) : StM w.heap.size w o A lr cr g y m d h i s ((w.alloc (.cells #[.int .i64 o, .slice A lr cr] 24)).alloc (.cells #[.int .i64 y, .int .i64 m, .int .i64 d, .int .i64 h, .int .i64 i, .int .i64 s] 44)) := by
  refine ⟨(StZ.new hR hL).go (bstep _ _), ?_⟩
  have := World.alloc_heap_new (w.alloc (.cells #[.int .i64 o, .slice A lr cr] 24)) (.cells #[.int .i64 y, .int .i64 m, .int .i64 d, .int .i64 h, .int .i64 i, .int .i64 s] 44)
  rwa [World.size_alloc] at this
theorem StM.m0 (hh : StM b0 w o A lr cr g y m d h i s W) : W.cell? ⟨b0 + 1, 0, none⟩ = some (.int .i64 y) := cell_of_row W (b0 + 1) 0 _ _ _ hh.2
theorem StM.m1 (hh : StM b0 w o A lr cr g y m d h i s W) : W.cell? ⟨b0 + 1, 1, none⟩ = some (.int .i64 m) := cell_of_row W (b0 + 1) 1 _ _ _ hh.2
theorem StM.m2 (hh : StM b0 w o A lr cr g y m d h i s W) : W.cell? ⟨b0 + 1, 2, none⟩ = some (.int .i64 d) := cell_of_row W (b0 + 1) 2 _ _ _ hh.2
theorem StM.m3 (hh : StM b0 w o A lr cr g y m d h i s W) : W.cell? ⟨b0 + 1, 3, none⟩ = some (.int .i64 h) := cell_of_row W (b0 + 1) 3 _ _ _ hh.2
theorem StM.m4 (hh : StM b0 w o A lr cr g y m d h i s W) : W.cell? ⟨b0 + 1, 4, none⟩ = some (.int .i64 i) := cell_of_row W (b0 + 1) 4 _ _ _ hh.2
theorem StM.m5 (hh : StM b0 w o A lr cr g y m d h i s W) : W.cell? ⟨b0 + 1, 5, none⟩ = some (.int .i64 s) := cell_of_row W (b0 + 1) 5 _ _ _ hh.2
end
theorem inst_form {y m d h i s : Int} (h1 : okD y m d) (h2 : clkOk h i s) : ∃ D, dayN y m d = D ∧ 0 ≤ D ∧ D ≤ 2932896 ∧ (0 ≤ h ∧ h ≤ 23 ∧ 0 ≤ i ∧ i ≤ 59 ∧ 0 ≤ s ∧ s ≤ 59) ∧ instV y m d h i s = D * 86400 + h * 3600 + i * 60 + s ∧ secOk (instV y m d h i s) := by
  obtain ⟨-, e, q⟩ := inst_ok h1 h2
  have hd := day_range h1
  exact ⟨_, rfl, hd.1, hd.2, h2, by rw [e]; omega, q⟩
set_option maxRecDepth 100000 in
set_option maxHeartbeats 32000000 in
theorem zi_many (o : Int) (A : Option Addr) (lr cr : Nat) (g : Nat → Nat → Int) (y m d h i s : Int) (w : World) (hR : RdZ w A lr cr g) (hl : 100 < lr) (hL : Lens w) :
    Calls Tryd.prog 4 #[.agg #[.int .i64 o, .slice A lr cr], .agg #[.int .i64 y, .int .i64 m, .int .i64 d, .int .i64 h, .int .i64 i, .int .i64 s]] w fun e w' => e = .returned (.bool true) ∧ Below w.heap.size w w' := by
  obtain ⟨b0, hb0⟩ : ∃ b0, w.heap.size = b0 := ⟨_, rfl⟩
  have Hb0 := Lib.hid hb0
  have hS : StM b0 w o A lr cr g y m d h i s ((w.alloc (.cells #[.int .i64 o, .slice A lr cr] 24)).alloc (.cells #[.int .i64 y, .int .i64 m, .int .i64 d, .int .i64 h, .int .i64 i, .int .i64 s] 44)) := hb0 ▸ StM.new hR hL
  obtain ⟨W0, hW0⟩ : ∃ W0, w.alloc (.cells #[.int .i64 o, .slice A lr cr] 24) = W0 := ⟨_, rfl⟩
  have hsz0 : W0.heap.size = b0 + 1 := by rw [← hW0, ← hb0]; simp
  rw [hW0] at hS
  obtain ⟨W1, hW1⟩ : ∃ W1, W0.alloc (.cells #[.int .i64 y, .int .i64 m, .int .i64 d, .int .i64 h, .int .i64 i, .int .i64 s] 44) = W1 := ⟨_, rfl⟩
  rw [hW1] at hS
  have kl : decide ((lr : Int) > 100) = true := decide_eq_true (by omega)
  clear hR hL hl
  go_enter Tryd.func4, Tryd.ntmps4
  have c0 := hS.1.c0
  have c1 := hS.1.c1
  have m0 := hS.m0
  have m1 := hS.m1
  have m2 := hS.m2
  have m3 := hS.m3
  have m4 := hS.m4
  have m5 := hS.m5
  have HB := Lib.hid hS.1.2.2.2
  clear hS
  try clear hb
  go_wp2_with fail
  go_ret
  exact ⟨rfl, by first | exact HB.out | exact HB.out.drewN _⟩
set_option maxRecDepth 100000 in
set_option maxHeartbeats 32000000 in
theorem zi_bad (o : Int) (A : Option Addr) (lr cr : Nat) (g : Nat → Nat → Int) (y m d h i s : Int) (w : World) (hR : RdZ w A lr cr g) (hl : lr ≤ 100) (hn : ¬ zonOk o lr g) (hL : Lens w) :
    Calls Tryd.prog 4 #[.agg #[.int .i64 o, .slice A lr cr], .agg #[.int .i64 y, .int .i64 m, .int .i64 d, .int .i64 h, .int .i64 i, .int .i64 s]] w fun e w' => e = .returned (.bool true) ∧ Below w.heap.size w w' := by
  obtain ⟨b0, hb0⟩ : ∃ b0, w.heap.size = b0 := ⟨_, rfl⟩
  have Hb0 := Lib.hid hb0
  have hS : StM b0 w o A lr cr g y m d h i s ((w.alloc (.cells #[.int .i64 o, .slice A lr cr] 24)).alloc (.cells #[.int .i64 y, .int .i64 m, .int .i64 d, .int .i64 h, .int .i64 i, .int .i64 s] 44)) := hb0 ▸ StM.new hR hL
  obtain ⟨W0, hW0⟩ : ∃ W0, w.alloc (.cells #[.int .i64 o, .slice A lr cr] 24) = W0 := ⟨_, rfl⟩
  have hsz0 : W0.heap.size = b0 + 1 := by rw [← hW0, ← hb0]; simp
  rw [hW0] at hS
  obtain ⟨W1, hW1⟩ : ∃ W1, W0.alloc (.cells #[.int .i64 y, .int .i64 m, .int .i64 d, .int .i64 h, .int .i64 i, .int .i64 s] 44) = W1 := ⟨_, rfl⟩
  rw [hW1] at hS
  have kl : decide ((lr : Int) > 100) = false := decide_eq_false (by omega)
  have Hv := Lib.hid (show decide (zonOk o lr g) = false from decide_eq_false hn)
  have Hn := Lib.hid hn
  clear hR hL hl hn
  go_enter Tryd.func4, Tryd.ntmps4
  have c0 := hS.1.c0
  have c1 := hS.1.c1
  have m0 := hS.m0
  have m1 := hS.m1
  have m2 := hS.m2
  have m3 := hS.m3
  have m4 := hS.m4
  have m5 := hS.m5
  have HX := (by have h := insts_nozone o A lr cr g y m d h i s Hn.out W1 hS.1.2.1; exact h)
  try unfold zonC at HX
  replace HX := Lib.hid HX
  have HT := Lib.hid hS
  clear hS
  try clear hb
  go_wp2_with fail
  refine HX.out.mono ?_
  rintro e w2 ⟨rfl, hb⟩
  have hS := HT.out.go hb
  clear HX HT c0 c1 m0 m1 m2 m3 m4 m5
  have c0 := hS.1.c0
  have c1 := hS.1.c1
  have m0 := hS.m0
  have m1 := hS.m1
  have m2 := hS.m2
  have m3 := hS.m3
  have m4 := hS.m4
  have m5 := hS.m5
  have HX := (by have h := refMayZ_calls o A lr cr g w2 hS.1.2.1; rw [Hv.out] at h; exact h)
  try unfold zonC at HX
  replace HX := Lib.hid HX
  have HT := Lib.hid hS
  clear hS
  try clear hb
  go_wp2_with fail
  refine HX.out.mono ?_
  rintro e w3 ⟨rfl, hb⟩
  have hS := HT.out.go hb
  clear HX HT c0 c1 m0 m1 m2 m3 m4 m5
  have c0 := hS.1.c0
  have c1 := hS.1.c1
  have m0 := hS.m0
  have m1 := hS.m1
  have m2 := hS.m2
  have m3 := hS.m3
  have m4 := hS.m4
  have m5 := hS.m5
  have HX := (by have h := refDay_calls y m d w3; exact h)
  try unfold zonC at HX
  replace HX := Lib.hid HX
  have HT := Lib.hid hS
  clear hS
  try clear hb
  go_wp2_with fail
  refine HX.out.mono ?_
  rintro e w4 ⟨rfl, rfl⟩
  have hS := HT.out
  clear HX HT c0 c1 m0 m1 m2 m3 m4 m5
  have c0 := hS.1.c0
  have c1 := hS.1.c1
  have m0 := hS.m0
  have m1 := hS.m1
  have m2 := hS.m2
  have m3 := hS.m3
  have m4 := hS.m4
  have m5 := hS.m5
  have HB := Lib.hid hS.1.2.2.2
  clear hS
  try clear hb
  go_wp2_with fail
  go_ret
  exact ⟨rfl, by first | exact HB.out | exact HB.out.drewN _⟩
set_option maxRecDepth 100000 in
set_option maxHeartbeats 32000000 in
theorem zi_noday (o : Int) (A : Option Addr) (lr cr : Nat) (g : Nat → Nat → Int) (y m d h i s : Int) (w : World) (hR : RdZ w A lr cr g) (hl : lr ≤ 100) (hok : zonOk o lr g) (hn : ¬ okD y m d) (hL : Lens w) :
    Calls Tryd.prog 4 #[.agg #[.int .i64 o, .slice A lr cr], .agg #[.int .i64 y, .int .i64 m, .int .i64 d, .int .i64 h, .int .i64 i, .int .i64 s]] w fun e w' => e = .returned (.bool true) ∧ Below w.heap.size w w' := by
  obtain ⟨b0, hb0⟩ : ∃ b0, w.heap.size = b0 := ⟨_, rfl⟩
  have Hb0 := Lib.hid hb0
  have hS : StM b0 w o A lr cr g y m d h i s ((w.alloc (.cells #[.int .i64 o, .slice A lr cr] 24)).alloc (.cells #[.int .i64 y, .int .i64 m, .int .i64 d, .int .i64 h, .int .i64 i, .int .i64 s] 44)) := hb0 ▸ StM.new hR hL
  obtain ⟨W0, hW0⟩ : ∃ W0, w.alloc (.cells #[.int .i64 o, .slice A lr cr] 24) = W0 := ⟨_, rfl⟩
  have hsz0 : W0.heap.size = b0 + 1 := by rw [← hW0, ← hb0]; simp
  rw [hW0] at hS
  obtain ⟨W1, hW1⟩ : ∃ W1, W0.alloc (.cells #[.int .i64 y, .int .i64 m, .int .i64 d, .int .i64 h, .int .i64 i, .int .i64 s] 44) = W1 := ⟨_, rfl⟩
  rw [hW1] at hS
  have kl : decide ((lr : Int) > 100) = false := decide_eq_false (by omega)
  have Hv := Lib.hid (show decide (zonOk o lr g) = true ∧ dayE y m d = 0 ∧ chkV y m d = 60 from ⟨decide_eq_true hok, if_neg hn, if_neg hn⟩)
  have Hn := Lib.hid (And.intro hok (show ¬ (okD y m d ∧ clkOk h i s) from fun q => hn q.1))
  clear hR hL hl hok hn
  go_enter Tryd.func4, Tryd.ntmps4
  have c0 := hS.1.c0
  have c1 := hS.1.c1
  have m0 := hS.m0
  have m1 := hS.m1
  have m2 := hS.m2
  have m3 := hS.m3
  have m4 := hS.m4
  have m5 := hS.m5
  have HX := (by have h := insts_nomom o A lr cr g y m d h i s Hn.out.1 Hn.out.2 W1 hS.1.2.1 hS.1.2.2.1; exact h)
  try unfold zonC at HX
  replace HX := Lib.hid HX
  have HT := Lib.hid hS
  clear hS
  try clear hb
  go_wp2_with fail
  refine HX.out.mono ?_
  rintro e w2 ⟨rfl, hb⟩
  have hS := HT.out.go hb
  clear HX HT c0 c1 m0 m1 m2 m3 m4 m5
  have c0 := hS.1.c0
  have c1 := hS.1.c1
  have m0 := hS.m0
  have m1 := hS.m1
  have m2 := hS.m2
  have m3 := hS.m3
  have m4 := hS.m4
  have m5 := hS.m5
  have HX := (by have h := refMayZ_calls o A lr cr g w2 hS.1.2.1; rw [Hv.out.1] at h; exact h)
  try unfold zonC at HX
  replace HX := Lib.hid HX
  have HT := Lib.hid hS
  clear hS
  try clear hb
  go_wp2_with fail
  refine HX.out.mono ?_
  rintro e w3 ⟨rfl, hb⟩
  have hS := HT.out.go hb
  clear HX HT c0 c1 m0 m1 m2 m3 m4 m5
  have c0 := hS.1.c0
  have c1 := hS.1.c1
  have m0 := hS.m0
  have m1 := hS.m1
  have m2 := hS.m2
  have m3 := hS.m3
  have m4 := hS.m4
  have m5 := hS.m5
  have HX := (by have h := refDay_calls y m d w3; rw [Hv.out.2.1, Hv.out.2.2] at h; exact h)
  try unfold zonC at HX
  replace HX := Lib.hid HX
  have HT := Lib.hid hS
  clear hS
  try clear hb
  go_wp2_with fail
  refine HX.out.mono ?_
  rintro e w4 ⟨rfl, rfl⟩
  have hS := HT.out
  clear HX HT c0 c1 m0 m1 m2 m3 m4 m5
  have c0 := hS.1.c0
  have c1 := hS.1.c1
  have m0 := hS.m0
  have m1 := hS.m1
  have m2 := hS.m2
  have m3 := hS.m3
  have m4 := hS.m4
  have m5 := hS.m5
  have HB := Lib.hid hS.1.2.2.2
  clear hS
  try clear hb
  go_wp2_with fail
  go_ret
  exact ⟨rfl, by first | exact HB.out | exact HB.out.drewN _⟩
set_option maxRecDepth 100000 in
set_option maxHeartbeats 32000000 in
theorem zi_noclk (o : Int) (A : Option Addr) (lr cr : Nat) (g : Nat → Nat → Int) (y m d h i s : Int) (w : World) (hR : RdZ w A lr cr g) (hl : lr ≤ 100) (hok : zonOk o lr g) (hd : okD y m d) (hn : ¬ clkOk h i s) (hL : Lens w) :
    Calls Tryd.prog 4 #[.agg #[.int .i64 o, .slice A lr cr], .agg #[.int .i64 y, .int .i64 m, .int .i64 d, .int .i64 h, .int .i64 i, .int .i64 s]] w fun e w' => e = .returned (.bool true) ∧ Below w.heap.size w w' := by
  obtain ⟨b0, hb0⟩ : ∃ b0, w.heap.size = b0 := ⟨_, rfl⟩
  have Hb0 := Lib.hid hb0
  have hS : StM b0 w o A lr cr g y m d h i s ((w.alloc (.cells #[.int .i64 o, .slice A lr cr] 24)).alloc (.cells #[.int .i64 y, .int .i64 m, .int .i64 d, .int .i64 h, .int .i64 i, .int .i64 s] 44)) := hb0 ▸ StM.new hR hL
  obtain ⟨W0, hW0⟩ : ∃ W0, w.alloc (.cells #[.int .i64 o, .slice A lr cr] 24) = W0 := ⟨_, rfl⟩
  have hsz0 : W0.heap.size = b0 + 1 := by rw [← hW0, ← hb0]; simp
  rw [hW0] at hS
  obtain ⟨W1, hW1⟩ : ∃ W1, W0.alloc (.cells #[.int .i64 y, .int .i64 m, .int .i64 d, .int .i64 h, .int .i64 i, .int .i64 s] 44) = W1 := ⟨_, rfl⟩
  rw [hW1] at hS
  have kl : decide ((lr : Int) > 100) = false := decide_eq_false (by omega)
  have Hv := Lib.hid (show decide (zonOk o lr g) = true ∧ dayE y m d = dayN y m d ∧ chkV y m d = 0 ∧ decide (clkOk h i s) = false from ⟨decide_eq_true hok, if_pos hd, if_pos hd, decide_eq_false hn⟩)
  have Hn := Lib.hid (And.intro hok (show ¬ (okD y m d ∧ clkOk h i s) from fun q => hn q.2))
  clear hR hL hl hok hd hn
  go_enter Tryd.func4, Tryd.ntmps4
  have c0 := hS.1.c0
  have c1 := hS.1.c1
  have m0 := hS.m0
  have m1 := hS.m1
  have m2 := hS.m2
  have m3 := hS.m3
  have m4 := hS.m4
  have m5 := hS.m5
  have HX := (by have h := insts_nomom o A lr cr g y m d h i s Hn.out.1 Hn.out.2 W1 hS.1.2.1 hS.1.2.2.1; exact h)
  try unfold zonC at HX
  replace HX := Lib.hid HX
  have HT := Lib.hid hS
  clear hS
  try clear hb
  go_wp2_with fail
  refine HX.out.mono ?_
  rintro e w2 ⟨rfl, hb⟩
  have hS := HT.out.go hb
  clear HX HT c0 c1 m0 m1 m2 m3 m4 m5
  have c0 := hS.1.c0
  have c1 := hS.1.c1
  have m0 := hS.m0
  have m1 := hS.m1
  have m2 := hS.m2
  have m3 := hS.m3
  have m4 := hS.m4
  have m5 := hS.m5
  have HX := (by have h := refMayZ_calls o A lr cr g w2 hS.1.2.1; rw [Hv.out.1] at h; exact h)
  try unfold zonC at HX
  replace HX := Lib.hid HX
  have HT := Lib.hid hS
  clear hS
  try clear hb
  go_wp2_with fail
  refine HX.out.mono ?_
  rintro e w3 ⟨rfl, hb⟩
  have hS := HT.out.go hb
  clear HX HT c0 c1 m0 m1 m2 m3 m4 m5
  have c0 := hS.1.c0
  have c1 := hS.1.c1
  have m0 := hS.m0
  have m1 := hS.m1
  have m2 := hS.m2
  have m3 := hS.m3
  have m4 := hS.m4
  have m5 := hS.m5
  have HX := (by have h := refDay_calls y m d w3; rw [Hv.out.2.1, Hv.out.2.2.1] at h; exact h)
  try unfold zonC at HX
  replace HX := Lib.hid HX
  have HT := Lib.hid hS
  clear hS
  try clear hb
  go_wp2_with fail
  refine HX.out.mono ?_
  rintro e w4 ⟨rfl, rfl⟩
  have hS := HT.out
  clear HX HT c0 c1 m0 m1 m2 m3 m4 m5
  have c0 := hS.1.c0
  have c1 := hS.1.c1
  have m0 := hS.m0
  have m1 := hS.m1
  have m2 := hS.m2
  have m3 := hS.m3
  have m4 := hS.m4
  have m5 := hS.m5
  have HX := (by have h := refClock_calls h i s w4; rw [Hv.out.2.2.2] at h; exact h)
  try unfold zonC at HX
  replace HX := Lib.hid HX
  have HT := Lib.hid hS
  clear hS
  try clear hb
  go_wp2_with fail
  refine HX.out.mono ?_
  rintro e w5 ⟨rfl, rfl⟩
  have hS := HT.out
  clear HX HT c0 c1 m0 m1 m2 m3 m4 m5
  have c0 := hS.1.c0
  have c1 := hS.1.c1
  have m0 := hS.m0
  have m1 := hS.m1
  have m2 := hS.m2
  have m3 := hS.m3
  have m4 := hS.m4
  have m5 := hS.m5
  have HB := Lib.hid hS.1.2.2.2
  clear hS
  try clear hb
  go_wp2_with fail
  go_ret
  exact ⟨rfl, by first | exact HB.out | exact HB.out.drewN _⟩
set_option maxRecDepth 100000 in
set_option maxHeartbeats 32000000 in
theorem zi_good (o : Int) (A : Option Addr) (lr cr : Nat) (g : Nat → Nat → Int) (y m d h i s : Int) (w : World) (hR : RdZ w A lr cr g) (hl : lr ≤ 100) (hok : zonOk o lr g) (hd : okD y m d) (hc : clkOk h i s) (hL : Lens w) :
    Calls Tryd.prog 4 #[.agg #[.int .i64 o, .slice A lr cr], .agg #[.int .i64 y, .int .i64 m, .int .i64 d, .int .i64 h, .int .i64 i, .int .i64 s]] w fun e w' => e = .returned (.bool true) ∧ Below w.heap.size w w' := by
  obtain ⟨b0, hb0⟩ : ∃ b0, w.heap.size = b0 := ⟨_, rfl⟩
  have Hb0 := Lib.hid hb0
  have hS : StM b0 w o A lr cr g y m d h i s ((w.alloc (.cells #[.int .i64 o, .slice A lr cr] 24)).alloc (.cells #[.int .i64 y, .int .i64 m, .int .i64 d, .int .i64 h, .int .i64 i, .int .i64 s] 44)) := hb0 ▸ StM.new hR hL
  obtain ⟨W0, hW0⟩ : ∃ W0, w.alloc (.cells #[.int .i64 o, .slice A lr cr] 24) = W0 := ⟨_, rfl⟩
  have hsz0 : W0.heap.size = b0 + 1 := by rw [← hW0, ← hb0]; simp
  rw [hW0] at hS
  obtain ⟨W1, hW1⟩ : ∃ W1, W0.alloc (.cells #[.int .i64 y, .int .i64 m, .int .i64 d, .int .i64 h, .int .i64 i, .int .i64 s] 44) = W1 := ⟨_, rfl⟩
  rw [hW1] at hS
  have kl : decide ((lr : Int) > 100) = false := decide_eq_false (by omega)
  have Hv := Lib.hid (show decide (zonOk o lr g) = true ∧ dayE y m d = dayN y m d ∧ chkV y m d = 0 ∧ decide (clkOk h i s) = true from ⟨decide_eq_true hok, if_pos hd, if_pos hd, decide_eq_true hc⟩)
  have Hn := Lib.hid (And.intro hok (And.intro hd hc))
  clear hR hL hl hok hd hc
  go_enter Tryd.func4, Tryd.ntmps4
  have c0 := hS.1.c0
  have c1 := hS.1.c1
  have m0 := hS.m0
  have m1 := hS.m1
  have m2 := hS.m2
  have m3 := hS.m3
  have m4 := hS.m4
  have m5 := hS.m5
  have HX := Lib.hid (insts_ok o A lr cr g y m d h i s Hn.out.1 Hn.out.2.1 Hn.out.2.2 W1 hS.1.2.1 hS.1.2.2.1)
  have HX2 := HX.out
  unfold zonC at HX2
  replace HX := Lib.hid HX2
  clear HX2
  have HT := Lib.hid hS
  clear hS
  go_wp2_with fail
  refine HX.out.mono ?_
  rintro e w2 ⟨⟨B, c, rfl, hRd⟩, hb⟩
  have hS := HT.out.go hb
  clear HX HT c0 c1 m0 m1 m2 m3 m4 m5
  obtain ⟨D, hD, hD1, hD2, hck, hV, hsec⟩ := inst_form Hn.out.2.1 Hn.out.2.2
  obtain ⟨V, hVe⟩ : ∃ V, instV y m d h i s = V := ⟨_, rfl⟩
  rw [hVe] at hRd hV hsec ⊢
  obtain ⟨n, hn⟩ : ∃ n, (instL o lr g V).length = n := ⟨_, rfl⟩
  rw [hn]
  have HN := Lib.hid (And.intro hn (And.intro hD (And.intro hsec hVe)))
  have HRd := Lib.hid hRd
  have w1 : IntKind.i64.wrap (D * 86400) = D * 86400 := i64_same _ (by omega)
  have w2' : IntKind.i64.wrap (h * 3600) = h * 3600 := i64_same _ (by omega)
  have w3' : IntKind.i64.wrap (D * 86400 + h * 3600) = D * 86400 + h * 3600 := i64_same _ (by omega)
  have w4' : IntKind.i64.wrap (i * 60) = i * 60 := i64_same _ (by omega)
  have w5' : IntKind.i64.wrap (D * 86400 + h * 3600 + i * 60) = D * 86400 + h * 3600 + i * 60 := i64_same _ (by omega)
  have w6' : IntKind.i64.wrap (D * 86400 + h * 3600 + i * 60 + s) = D * 86400 + h * 3600 + i * 60 + s := i64_same _ (by omega)
  have HW := Lib.hid (And.intro (wrap64_in (D * 86400) (by omega)) (And.intro (wrap64_in (h * 3600) (by omega)) (And.intro (wrap64_in (D * 86400 + h * 3600) (by omega)) (And.intro (wrap64_in (i * 60) (by omega)) (And.intro (wrap64_in (D * 86400 + h * 3600 + i * 60) (by omega)) (wrap64_in (D * 86400 + h * 3600 + i * 60 + s) (by omega)))))))
  have HV := Lib.hid hV
  clear hn hD hD1 hD2 hck hV hsec hVe hRd
  have c0 := hS.1.c0
  have c1 := hS.1.c1
  have m0 := hS.m0
  have m1 := hS.m1
  have m2 := hS.m2
  have m3 := hS.m3
  have m4 := hS.m4
  have m5 := hS.m5
  have HX := (by have h := refMayZ_calls o A lr cr g w2 hS.1.2.1; rw [Hv.out.1] at h; exact h)
  try unfold zonC at HX
  replace HX := Lib.hid HX
  have HT := Lib.hid hS
  clear hS
  try clear hb
  go_wp2_with fail
  refine HX.out.mono ?_
  rintro e w3 ⟨rfl, hb⟩
  have hS := HT.out.go hb
  clear HX HT c0 c1 m0 m1 m2 m3 m4 m5
  have hRd3 := Rd.go HRd.out hb
  clear HRd
  have HRd := Lib.hid hRd3
  clear hRd3
  have c0 := hS.1.c0
  have c1 := hS.1.c1
  have m0 := hS.m0
  have m1 := hS.m1
  have m2 := hS.m2
  have m3 := hS.m3
  have m4 := hS.m4
  have m5 := hS.m5
  have HX := (by have h := refDay_calls y m d w3; rw [Hv.out.2.1, Hv.out.2.2.1, HN.out.2.1] at h; exact h)
  try unfold zonC at HX
  replace HX := Lib.hid HX
  have HT := Lib.hid hS
  clear hS
  try clear hb
  go_wp2_with fail
  refine HX.out.mono ?_
  rintro e w4 ⟨rfl, rfl⟩
  have hS := HT.out
  clear HX HT c0 c1 m0 m1 m2 m3 m4 m5
  have c0 := hS.1.c0
  have c1 := hS.1.c1
  have m0 := hS.m0
  have m1 := hS.m1
  have m2 := hS.m2
  have m3 := hS.m3
  have m4 := hS.m4
  have m5 := hS.m5
  have HX := (by have h := refClock_calls h i s w4; rw [Hv.out.2.2.2] at h; exact h)
  try unfold zonC at HX
  replace HX := Lib.hid HX
  have HT := Lib.hid hS
  clear hS
  try clear hb
  go_wp2_with fail
  refine HX.out.mono ?_
  rintro e w5 ⟨rfl, rfl⟩
  have hS := HT.out
  clear HX HT c0 c1 m0 m1 m2 m3 m4 m5
  obtain ⟨z1, z2, z3, z4, z5, z6⟩ := HW.out
  have c0 := hS.1.c0
  have c1 := hS.1.c1
  have m0 := hS.m0
  have m1 := hS.m1
  have m2 := hS.m2
  have m3 := hS.m3
  have m4 := hS.m4
  have m5 := hS.m5
  have HX := refInsts_calls o A lr cr g V Hn.out.1 HN.out.2.2.1 w5 hS.1.2.1
  rw [HV.out] at HX
  unfold zonC at HX
  replace HX := Lib.hid HX
  have HT := Lib.hid hS
  clear hS
  go_wp2_with fail
  refine HX.out.mono ?_
  rintro e w6 ⟨⟨B2, c2, rfl, hRd2⟩, hb6⟩
  have hS := HT.out.go hb6
  clear HX HT c0 c1 m0 m1 m2 m3 m4 m5 z1 z2 z3 z4 z5 z6
  rw [← HV.out] at hRd2 ⊢
  have HX := refSame_true B B2 c c2 (instL o lr g V) (by unfold instL outRaw; rw [List.length_mergeSort, List.length_map]; exact Nat.le_trans (List.length_filter_le _ _) (Nat.le_trans (exL_len g lr) (by have := Hn.out.1.2.2.1; omega))) w6 (Rd.go HRd.out hb6) hRd2
  rw [HN.out.1] at HX ⊢
  replace HX := Lib.hid HX
  have HB := Lib.hid hS.1.2.2.2
  clear hS hRd2
  go_wp2_with fail
  refine HX.out.mono ?_
  rintro e w7 ⟨rfl, hb7⟩
  have HB2 := Lib.hid (bnext HB.out hb7)
  clear hb7
  go_wp2_with fail
  go_ret
  exact ⟨rfl, by first | exact HB2.out | exact HB2.out.drewN _⟩
theorem zoneInstants_walk (v : Value) (x : ZX) (v2 : Value) (x2 : MX) (w : World) (hx : v = .agg #[.int .i64 x.1, .slice x.2.1 x.2.2.1 x.2.2.2.1] ∧ RdZ w x.2.1 x.2.2.1 x.2.2.2.1 x.2.2.2.2 ∧ (Lit.int .i64 x.1).wf = true) (hx2 : v2 = momX x2) (hL : Lens w) :
    Calls Tryd.prog 4 #[v, v2] w fun e w' => e = .returned (.bool true) ∧ Below w.heap.size w w' := by
  obtain ⟨rfl, hR, -⟩ := hx
  subst hx2
  by_cases hl : x.2.2.1 ≤ 100
  · by_cases hok : zonOk x.1 x.2.2.1 x.2.2.2.2
    · by_cases hd : okD x2.1 x2.2.1 x2.2.2.1
      · by_cases hc : clkOk x2.2.2.2.1 x2.2.2.2.2.1 x2.2.2.2.2.2
        · exact zi_good _ _ _ _ _ _ _ _ _ _ _ w hR hl hok hd hc hL
        · exact zi_noclk _ _ _ _ _ _ _ _ _ _ _ w hR hl hok hd hc hL
      · exact zi_noday _ _ _ _ _ _ _ _ _ _ _ w hR hl hok hd hL
    · exact zi_bad _ _ _ _ _ _ _ _ _ _ _ w hR hl hok hL
  · exact zi_many _ _ _ _ _ _ _ _ _ _ _ w hR (by omega) hL
end Go.Proofs.YtoipmhmghcngcaaDoor
