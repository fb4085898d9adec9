/-
  The law ZoneEdges, walked. Conditions stand at each theorem.
-/
import Derived.Test.YtoipmhmghcngcaaDoorInstsNo
import Derived.Test.YtoipmhmghcngcaaDoorZoneAlive
import Derived.Test.YtoipmhmghcngcaaDoorZoneOffs0
namespace Go.Proofs.YtoipmhmghcngcaaDoor
open Go Go.RowKit Go.Kw Go.Kw.Cv Go.Shelf
set_option linter.unusedVariables false
set_option linter.unusedSimpArgs false

/-- A moment's numbers, and its instant. -/
structure MomA (t : Int) (a : Nat → Int) : Prop where
  v : momV t = .agg #[.int .i64 (a 0), .int .i64 (a 1), .int .i64 (a 2), .int .i64 (a 3), .int .i64 (a 4), .int .i64 (a 5)]
  d : okD (a 0) (a 1) (a 2)
  c : clkOk (a 3) (a 4) (a 5)
  t : instV (a 0) (a 1) (a 2) (a 3) (a 4) (a 5) = t
  e : instE (a 0) (a 1) (a 2) (a 3) (a 4) (a 5) = 0
theorem mom_ex {t : Int} (hs : secOk t) : ∃ a : Nat → Int, MomA t a := by
  obtain ⟨d1, d2, d3⟩ := mom_inst t hs
  obtain ⟨i1, -, -⟩ := inst_ok d1 d2
  exact ⟨fun j => if j = 0 then (zD (t / 86400)).1 else if j = 1 then (zD (t / 86400)).2.1 else if j = 2 then (zD (t / 86400)).2.2 else if j = 3 then t % 86400 / 3600 else if j = 4 then t % 86400 / 60 % 60 else t % 86400 % 60, rfl, d1, d2, d3, i1⟩
theorem day_one {y : Int} (h : 1970 ≤ y ∧ y ≤ 9999) : instV y 1 3 0 0 0 = dayN y 1 3 * 86400 ∧ instV y 12 29 0 0 0 = dayN y 12 29 * 86400 ∧ 0 ≤ dayN y 1 3 ∧ dayN y 1 3 ≤ 2932896 ∧ 0 ≤ dayN y 12 29 ∧ dayN y 12 29 ≤ 2932896 := by
  have h1 : okD y 1 3 := ⟨h.1, h.2, by omega, by have := dim_lo y 1 (by omega); omega⟩
  have h2 : okD y 12 29 := ⟨h.1, h.2, by omega, by show (29 : Int) ≤ 31; omega⟩
  have c : clkOk 0 0 0 := by decide
  obtain ⟨-, e1, -⟩ := inst_ok h1 c
  obtain ⟨-, e2, -⟩ := inst_ok h2 c
  have r1 := day_range h1
  have r2 := day_range h2
  exact ⟨by rw [e1]; omega, by rw [e2]; omega, r1.1, r1.2, r2.1, r2.2⟩
set_option maxRecDepth 100000 in
set_option maxHeartbeats 32000000 in
theorem ze_many (o : Int) (A : Option Addr) (lr cr : Nat) (g : Nat → Nat → Int) (y : Int) (w : World) (hR : RdZ w A lr cr g) (hl : lr ≠ 1) (hL : Lens w) :
    Calls Tryd.prog 8 #[.agg #[.int .i64 o, .slice A lr cr], .int .i64 y] w fun e w' => e = .returned (.bool true) ∧ Below w.heap.size w w' := by
  obtain ⟨b0, hb0⟩ : ∃ b0, w.heap.size = b0 := ⟨_, rfl⟩
  have Hb0 := Lib.hid hb0
  have hS : StZ b0 w o A lr cr g (w.alloc (.cells #[.int .i64 o, .slice A lr cr] 24)) := hb0 ▸ StZ.new hR hL
  obtain ⟨W1, hW1⟩ : ∃ W1, w.alloc (.cells #[.int .i64 o, .slice A lr cr] 24) = W1 := ⟨_, rfl⟩
  rw [hW1] at hS
  have kl : ((lr : Int) != 1) = true := by
    show (!((lr : Int) == 1)) = true
    rw [beq_eq_false_iff_ne.2 (by omega)]; rfl
  clear hR hL hl
  go_enter Tryd.func8, Tryd.ntmps8
  have c0 := hS.c0
  have c1 := hS.c1
  have HX := (by have h := alive_calls W1 hS.2.2.1; exact h)
  try unfold zonC at HX
  replace HX := Lib.hid HX
  have HT := Lib.hid hS
  clear hS
  try clear hb
  go_wp2_with fail
  refine HX.out.mono ?_
  rintro e w2 ⟨rfl, hb⟩
  have hS := HT.out.go hb
  clear HX HT c0 c1
  have c0 := hS.c0
  have c1 := hS.c1
  have HB := Lib.hid hS.2.2.2
  clear hS
  try clear hb
  go_wp2_with fail
  go_ret
  exact ⟨rfl, by first | exact HB.out | exact HB.out.drewN _⟩
set_option maxRecDepth 100000 in
set_option maxHeartbeats 32000000 in
theorem ze_no (o : Int) (A : Option Addr) (cr : Nat) (g : Nat → Nat → Int) (y : Int) (w : World) (hR : RdZ w A 1 cr g) (hn : ¬ OfIs o 1 g y) (hL : Lens w) :
    Calls Tryd.prog 8 #[.agg #[.int .i64 o, .slice A 1 cr], .int .i64 y] w fun e w' => e = .returned (.bool true) ∧ Below w.heap.size w w' := by
  obtain ⟨b0, hb0⟩ : ∃ b0, w.heap.size = b0 := ⟨_, rfl⟩
  have Hb0 := Lib.hid hb0
  have hS : StZ b0 w o A 1 cr g (w.alloc (.cells #[.int .i64 o, .slice A 1 cr] 24)) := hb0 ▸ StZ.new hR hL
  obtain ⟨W1, hW1⟩ : ∃ W1, w.alloc (.cells #[.int .i64 o, .slice A 1 cr] 24) = W1 := ⟨_, rfl⟩
  rw [hW1] at hS
  have q := of_not hn
  have Hv := Lib.hid (show edA o 1 g y = 0 ∧ edB o 1 g y = 0 ∧ ofB o 1 g y = false from ⟨if_neg hn, if_neg hn, q.2⟩)
  clear hR hL hn q
  go_enter Tryd.func8, Tryd.ntmps8
  have c0 := hS.c0
  have c1 := hS.c1
  have HX := (by have h := alive_calls W1 hS.2.2.1; exact h)
  try unfold zonC at HX
  replace HX := Lib.hid HX
  have HT := Lib.hid hS
  clear hS
  try clear hb
  go_wp2_with fail
  refine HX.out.mono ?_
  rintro e w2 ⟨rfl, hb⟩
  have hS := HT.out.go hb
  clear HX HT c0 c1
  have c0 := hS.c0
  have c1 := hS.c1
  have HX := (by have h := zEdges_calls o A 1 cr g y w2 hS.2.1 hS.2.2.1; rw [Hv.out.1, Hv.out.2.1, Hv.out.2.2] at h; exact h)
  try unfold zonC at HX
  replace HX := Lib.hid HX
  have HT := Lib.hid hS
  clear hS
  try clear hb
  go_wp2_with fail
  refine HX.out.mono ?_
  rintro e w3 ⟨rfl, hb⟩
  have hS := HT.out.go hb
  clear HX HT c0 c1
  have c0 := hS.c0
  have c1 := hS.c1
  have HB := Lib.hid hS.2.2.2
  clear hS
  try clear hb
  go_wp2_with fail
  go_ret
  exact ⟨rfl, by first | exact HB.out | exact HB.out.drewN _⟩
set_option maxRecDepth 100000 in
set_option maxHeartbeats 32000000 in
theorem ze_late (o : Int) (A : Option Addr) (cr : Nat) (g : Nat → Nat → Int) (y : Int) (w : World) (hR : RdZ w A 1 cr g) (hi : OfIs o 1 g y) (hy : 9999 ≤ y) (hL : Lens w) :
    Calls Tryd.prog 8 #[.agg #[.int .i64 o, .slice A 1 cr], .int .i64 y] w fun e w' => e = .returned (.bool true) ∧ Below w.heap.size w w' := by
  obtain ⟨b0, hb0⟩ : ∃ b0, w.heap.size = b0 := ⟨_, rfl⟩
  have Hb0 := Lib.hid hb0
  have hS : StZ b0 w o A 1 cr g (w.alloc (.cells #[.int .i64 o, .slice A 1 cr] 24)) := hb0 ▸ StZ.new hR hL
  obtain ⟨W1, hW1⟩ : ∃ W1, w.alloc (.cells #[.int .i64 o, .slice A 1 cr] 24) = W1 := ⟨_, rfl⟩
  rw [hW1] at hS
  obtain ⟨T1, hT1⟩ : ∃ T, onT g 0 y = T := ⟨_, rfl⟩
  obtain ⟨T2, hT2⟩ : ∃ T, offT g 0 y = T := ⟨_, rfl⟩
  have hF0 : rulF g y 1 = 0 := by have := hi.2; omega
  have v1 : edA o 1 g y = T1 - o := by rw [← hT1, ← hF0]; exact if_pos hi
  have v2 : edB o 1 g y = T2 - o := by rw [← hT2, ← hF0]; exact if_pos hi
  have Hv := Lib.hid (And.intro v1 (And.intro v2 (of_yes hi).2))
  have k1 : decide (y ≥ 9999) = true := decide_eq_true hy
  clear hR hL hi hT1 hT2 hF0 v1 v2 hy
  go_enter Tryd.func8, Tryd.ntmps8
  have c0 := hS.c0
  have c1 := hS.c1
  have HX := (by have h := alive_calls W1 hS.2.2.1; exact h)
  try unfold zonC at HX
  replace HX := Lib.hid HX
  have HT := Lib.hid hS
  clear hS
  try clear hb
  go_wp2_with fail
  refine HX.out.mono ?_
  rintro e w2 ⟨rfl, hb⟩
  have hS := HT.out.go hb
  clear HX HT c0 c1
  have c0 := hS.c0
  have c1 := hS.c1
  have HX := (by have h := zEdges_calls o A 1 cr g y w2 hS.2.1 hS.2.2.1; rw [Hv.out.1, Hv.out.2.1, Hv.out.2.2] at h; exact h)
  try unfold zonC at HX
  replace HX := Lib.hid HX
  have HT := Lib.hid hS
  clear hS
  try clear hb
  go_wp2_with fail
  refine HX.out.mono ?_
  rintro e w3 ⟨rfl, hb⟩
  have hS := HT.out.go hb
  clear HX HT c0 c1
  have c0 := hS.c0
  have c1 := hS.c1
  have HB := Lib.hid hS.2.2.2
  clear hS
  try clear hb
  go_wp2_with fail
  go_ret
  exact ⟨rfl, by first | exact HB.out | exact HB.out.drewN _⟩
set_option maxRecDepth 100000 in
set_option maxHeartbeats 32000000 in
theorem ze_early (o : Int) (A : Option Addr) (cr : Nat) (g : Nat → Nat → Int) (y : Int) (w : World) (hR : RdZ w A 1 cr g) (hi : OfIs o 1 g y) (hy1 : ¬ 9999 ≤ y) (hy : y ≤ 1970) (hL : Lens w) :
    Calls Tryd.prog 8 #[.agg #[.int .i64 o, .slice A 1 cr], .int .i64 y] w fun e w' => e = .returned (.bool true) ∧ Below w.heap.size w w' := by
  obtain ⟨b0, hb0⟩ : ∃ b0, w.heap.size = b0 := ⟨_, rfl⟩
  have Hb0 := Lib.hid hb0
  have hS : StZ b0 w o A 1 cr g (w.alloc (.cells #[.int .i64 o, .slice A 1 cr] 24)) := hb0 ▸ StZ.new hR hL
  obtain ⟨W1, hW1⟩ : ∃ W1, w.alloc (.cells #[.int .i64 o, .slice A 1 cr] 24) = W1 := ⟨_, rfl⟩
  rw [hW1] at hS
  obtain ⟨T1, hT1⟩ : ∃ T, onT g 0 y = T := ⟨_, rfl⟩
  obtain ⟨T2, hT2⟩ : ∃ T, offT g 0 y = T := ⟨_, rfl⟩
  have hF0 : rulF g y 1 = 0 := by have := hi.2; omega
  have v1 : edA o 1 g y = T1 - o := by rw [← hT1, ← hF0]; exact if_pos hi
  have v2 : edB o 1 g y = T2 - o := by rw [← hT2, ← hF0]; exact if_pos hi
  have Hv := Lib.hid (And.intro v1 (And.intro v2 (of_yes hi).2))
  have k1 : decide (y ≥ 9999) = false := decide_eq_false hy1
  have k2 : decide (y ≤ 1970) = true := decide_eq_true hy
  clear hR hL hi hT1 hT2 hF0 v1 v2 hy hy1
  go_enter Tryd.func8, Tryd.ntmps8
  have c0 := hS.c0
  have c1 := hS.c1
  have HX := (by have h := alive_calls W1 hS.2.2.1; exact h)
  try unfold zonC at HX
  replace HX := Lib.hid HX
  have HT := Lib.hid hS
  clear hS
  try clear hb
  go_wp2_with fail
  refine HX.out.mono ?_
  rintro e w2 ⟨rfl, hb⟩
  have hS := HT.out.go hb
  clear HX HT c0 c1
  have c0 := hS.c0
  have c1 := hS.c1
  have HX := (by have h := zEdges_calls o A 1 cr g y w2 hS.2.1 hS.2.2.1; rw [Hv.out.1, Hv.out.2.1, Hv.out.2.2] at h; exact h)
  try unfold zonC at HX
  replace HX := Lib.hid HX
  have HT := Lib.hid hS
  clear hS
  try clear hb
  go_wp2_with fail
  refine HX.out.mono ?_
  rintro e w3 ⟨rfl, hb⟩
  have hS := HT.out.go hb
  clear HX HT c0 c1
  have c0 := hS.c0
  have c1 := hS.c1
  have HB := Lib.hid hS.2.2.2
  clear hS
  try clear hb
  go_wp2_with fail
  go_ret
  exact ⟨rfl, by first | exact HB.out | exact HB.out.drewN _⟩
set_option maxRecDepth 100000 in
set_option maxHeartbeats 32000000 in
theorem ze_a (o : Int) (A : Option Addr) (cr : Nat) (g : Nat → Nat → Int) (y : Int) (w : World) (hR : RdZ w A 1 cr g) (hi : OfIs o 1 g y) (hy : 1970 < y ∧ y < 9999) (hg : onT g 0 y - o < dayN y 1 3 * 86400) (hL : Lens w) :
    Calls Tryd.prog 8 #[.agg #[.int .i64 o, .slice A 1 cr], .int .i64 y] w fun e w' => e = .returned (.bool true) ∧ Below w.heap.size w w' := by
  obtain ⟨b0, hb0⟩ : ∃ b0, w.heap.size = b0 := ⟨_, rfl⟩
  have Hb0 := Lib.hid hb0
  have hS : StZ b0 w o A 1 cr g (w.alloc (.cells #[.int .i64 o, .slice A 1 cr] 24)) := hb0 ▸ StZ.new hR hL
  obtain ⟨W1, hW1⟩ : ∃ W1, w.alloc (.cells #[.int .i64 o, .slice A 1 cr] 24) = W1 := ⟨_, rfl⟩
  rw [hW1] at hS
  obtain ⟨T1, hT1⟩ : ∃ T, onT g 0 y = T := ⟨_, rfl⟩
  obtain ⟨T2, hT2⟩ : ∃ T, offT g 0 y = T := ⟨_, rfl⟩
  have hF0 : rulF g y 1 = 0 := by have := hi.2; omega
  have v1 : edA o 1 g y = T1 - o := by rw [← hT1, ← hF0]; exact if_pos hi
  have v2 : edB o 1 g y = T2 - o := by rw [← hT2, ← hF0]; exact if_pos hi
  have Hv := Lib.hid (And.intro v1 (And.intro v2 (of_yes hi).2))
  have k1 : decide (y ≥ 9999) = false := decide_eq_false (by omega)
  have k2 : decide (y ≤ 1970) = false := decide_eq_false (by omega)
  obtain ⟨D1, hD1⟩ : ∃ D, dayN y 1 3 * 86400 = D := ⟨_, rfl⟩
  obtain ⟨D2, hD2⟩ : ∃ D, dayN y 12 29 * 86400 = D := ⟨_, rfl⟩
  have hdo := day_one (y := y) (by omega)
  rw [hD1, hD2] at hdo
  have ho := hi.1
  have hr := ho.2.2.2 0 (by omega)
  unfold rulOk at hr
  have t1 : 0 ≤ T1 ∧ T1 ≤ 253402300799 := by rw [← hT1]; exact chgT_range hr.2.2.2.2.2.1 (by omega)
  have t2 : 0 ≤ T2 ∧ T2 ≤ 253402300799 := by rw [← hT2]; exact chgT_range hr.2.2.2.2.2.2 (by omega)
  have HD := Lib.hid (And.intro hdo.1 hdo.2.1)
  have ho1 := ho.1
  have ho2 := ho.2.1
  have w1 : IntKind.i64.wrap (T2 - o - (T1 - o)) = T2 - o - (T1 - o) := i64_same _ (by omega)
  have x1 := wrap64_in (T2 - o - (T1 - o)) (by omega)
  rw [hT1, hD1] at hg
  have k3 : decide (T1 - o < D1) = true := decide_eq_true hg
  clear hR hL hi hT1 hT2 hF0 v1 v2 hy hD1 hD2 hdo ho hr t1 t2 ho1 ho2 hg
  go_enter Tryd.func8, Tryd.ntmps8
  have c0 := hS.c0
  have c1 := hS.c1
  have HX := (by have h := alive_calls W1 hS.2.2.1; exact h)
  try unfold zonC at HX
  replace HX := Lib.hid HX
  have HT := Lib.hid hS
  clear hS
  try clear hb
  go_wp2_with fail
  refine HX.out.mono ?_
  rintro e w2 ⟨rfl, hb⟩
  have hS := HT.out.go hb
  clear HX HT c0 c1
  have c0 := hS.c0
  have c1 := hS.c1
  have HX := (by have h := zEdges_calls o A 1 cr g y w2 hS.2.1 hS.2.2.1; rw [Hv.out.1, Hv.out.2.1, Hv.out.2.2] at h; exact h)
  try unfold zonC at HX
  replace HX := Lib.hid HX
  have HT := Lib.hid hS
  clear hS
  try clear hb
  go_wp2_with fail
  refine HX.out.mono ?_
  rintro e w3 ⟨rfl, hb⟩
  have hS := HT.out.go hb
  clear HX HT c0 c1
  have c0 := hS.c0
  have c1 := hS.c1
  have HX := (by have h := when_calls y 1 3 0 0 0 w3 hS.2.2.1; rw [HD.out.1] at h; exact h)
  try unfold zonC at HX
  replace HX := Lib.hid HX
  have HT := Lib.hid hS
  clear hS
  try clear hb
  go_wp2_with fail
  refine HX.out.mono ?_
  rintro e w4 ⟨rfl, hb⟩
  have hS := HT.out.go hb
  clear HX HT c0 c1
  have c0 := hS.c0
  have c1 := hS.c1
  have HX := (by have h := when_calls y 12 29 0 0 0 w4 hS.2.2.1; rw [HD.out.2] at h; exact h)
  try unfold zonC at HX
  replace HX := Lib.hid HX
  have HT := Lib.hid hS
  clear hS
  try clear hb
  go_wp2_with fail
  refine HX.out.mono ?_
  rintro e w5 ⟨rfl, hb⟩
  have hS := HT.out.go hb
  clear HX HT c0 c1
  have c0 := hS.c0
  have c1 := hS.c1
  have HB := Lib.hid hS.2.2.2
  clear hS
  try clear hb
  go_wp2_with fail
  go_ret
  exact ⟨rfl, by first | exact HB.out | exact HB.out.drewN _⟩
set_option maxRecDepth 100000 in
set_option maxHeartbeats 32000000 in
theorem ze_b (o : Int) (A : Option Addr) (cr : Nat) (g : Nat → Nat → Int) (y : Int) (w : World) (hR : RdZ w A 1 cr g) (hi : OfIs o 1 g y) (hy : 1970 < y ∧ y < 9999) (hg1 : ¬ onT g 0 y - o < dayN y 1 3 * 86400) (hg : dayN y 12 29 * 86400 < offT g 0 y - o) (hL : Lens w) :
    Calls Tryd.prog 8 #[.agg #[.int .i64 o, .slice A 1 cr], .int .i64 y] w fun e w' => e = .returned (.bool true) ∧ Below w.heap.size w w' := by
  obtain ⟨b0, hb0⟩ : ∃ b0, w.heap.size = b0 := ⟨_, rfl⟩
  have Hb0 := Lib.hid hb0
  have hS : StZ b0 w o A 1 cr g (w.alloc (.cells #[.int .i64 o, .slice A 1 cr] 24)) := hb0 ▸ StZ.new hR hL
  obtain ⟨W1, hW1⟩ : ∃ W1, w.alloc (.cells #[.int .i64 o, .slice A 1 cr] 24) = W1 := ⟨_, rfl⟩
  rw [hW1] at hS
  obtain ⟨T1, hT1⟩ : ∃ T, onT g 0 y = T := ⟨_, rfl⟩
  obtain ⟨T2, hT2⟩ : ∃ T, offT g 0 y = T := ⟨_, rfl⟩
  have hF0 : rulF g y 1 = 0 := by have := hi.2; omega
  have v1 : edA o 1 g y = T1 - o := by rw [← hT1, ← hF0]; exact if_pos hi
  have v2 : edB o 1 g y = T2 - o := by rw [← hT2, ← hF0]; exact if_pos hi
  have Hv := Lib.hid (And.intro v1 (And.intro v2 (of_yes hi).2))
  have k1 : decide (y ≥ 9999) = false := decide_eq_false (by omega)
  have k2 : decide (y ≤ 1970) = false := decide_eq_false (by omega)
  obtain ⟨D1, hD1⟩ : ∃ D, dayN y 1 3 * 86400 = D := ⟨_, rfl⟩
  obtain ⟨D2, hD2⟩ : ∃ D, dayN y 12 29 * 86400 = D := ⟨_, rfl⟩
  have hdo := day_one (y := y) (by omega)
  rw [hD1, hD2] at hdo
  have ho := hi.1
  have hr := ho.2.2.2 0 (by omega)
  unfold rulOk at hr
  have t1 : 0 ≤ T1 ∧ T1 ≤ 253402300799 := by rw [← hT1]; exact chgT_range hr.2.2.2.2.2.1 (by omega)
  have t2 : 0 ≤ T2 ∧ T2 ≤ 253402300799 := by rw [← hT2]; exact chgT_range hr.2.2.2.2.2.2 (by omega)
  have HD := Lib.hid (And.intro hdo.1 hdo.2.1)
  have ho1 := ho.1
  have ho2 := ho.2.1
  have w1 : IntKind.i64.wrap (T2 - o - (T1 - o)) = T2 - o - (T1 - o) := i64_same _ (by omega)
  have x1 := wrap64_in (T2 - o - (T1 - o)) (by omega)
  rw [hT1, hD1] at hg1
  rw [hT2, hD2] at hg
  have k3 : decide (T1 - o < D1) = false := decide_eq_false hg1
  have k4 : decide (T2 - o > D2) = true := decide_eq_true hg
  clear hR hL hi hT1 hT2 hF0 v1 v2 hy hD1 hD2 hdo ho hr t1 t2 ho1 ho2 hg hg1
  go_enter Tryd.func8, Tryd.ntmps8
  have c0 := hS.c0
  have c1 := hS.c1
  have HX := (by have h := alive_calls W1 hS.2.2.1; exact h)
  try unfold zonC at HX
  replace HX := Lib.hid HX
  have HT := Lib.hid hS
  clear hS
  try clear hb
  go_wp2_with fail
  refine HX.out.mono ?_
  rintro e w2 ⟨rfl, hb⟩
  have hS := HT.out.go hb
  clear HX HT c0 c1
  have c0 := hS.c0
  have c1 := hS.c1
  have HX := (by have h := zEdges_calls o A 1 cr g y w2 hS.2.1 hS.2.2.1; rw [Hv.out.1, Hv.out.2.1, Hv.out.2.2] at h; exact h)
  try unfold zonC at HX
  replace HX := Lib.hid HX
  have HT := Lib.hid hS
  clear hS
  try clear hb
  go_wp2_with fail
  refine HX.out.mono ?_
  rintro e w3 ⟨rfl, hb⟩
  have hS := HT.out.go hb
  clear HX HT c0 c1
  have c0 := hS.c0
  have c1 := hS.c1
  have HX := (by have h := when_calls y 1 3 0 0 0 w3 hS.2.2.1; rw [HD.out.1] at h; exact h)
  try unfold zonC at HX
  replace HX := Lib.hid HX
  have HT := Lib.hid hS
  clear hS
  try clear hb
  go_wp2_with fail
  refine HX.out.mono ?_
  rintro e w4 ⟨rfl, hb⟩
  have hS := HT.out.go hb
  clear HX HT c0 c1
  have c0 := hS.c0
  have c1 := hS.c1
  have HX := (by have h := when_calls y 12 29 0 0 0 w4 hS.2.2.1; rw [HD.out.2] at h; exact h)
  try unfold zonC at HX
  replace HX := Lib.hid HX
  have HT := Lib.hid hS
  clear hS
  try clear hb
  go_wp2_with fail
  refine HX.out.mono ?_
  rintro e w5 ⟨rfl, hb⟩
  have hS := HT.out.go hb
  clear HX HT c0 c1
  have c0 := hS.c0
  have c1 := hS.c1
  have HB := Lib.hid hS.2.2.2
  clear hS
  try clear hb
  go_wp2_with fail
  go_ret
  exact ⟨rfl, by first | exact HB.out | exact HB.out.drewN _⟩
set_option maxRecDepth 100000 in
set_option maxHeartbeats 32000000 in
theorem ze_c (o : Int) (A : Option Addr) (cr : Nat) (g : Nat → Nat → Int) (y : Int) (w : World) (hR : RdZ w A 1 cr g) (hi : OfIs o 1 g y) (hy : 1970 < y ∧ y < 9999) (hg1 : ¬ onT g 0 y - o < dayN y 1 3 * 86400) (hg2 : ¬ dayN y 12 29 * 86400 < offT g 0 y - o) (hg : offT g 0 y - o - (onT g 0 y - o) < 86400) (hL : Lens w) :
    Calls Tryd.prog 8 #[.agg #[.int .i64 o, .slice A 1 cr], .int .i64 y] w fun e w' => e = .returned (.bool true) ∧ Below w.heap.size w w' := by
  obtain ⟨b0, hb0⟩ : ∃ b0, w.heap.size = b0 := ⟨_, rfl⟩
  have Hb0 := Lib.hid hb0
  have hS : StZ b0 w o A 1 cr g (w.alloc (.cells #[.int .i64 o, .slice A 1 cr] 24)) := hb0 ▸ StZ.new hR hL
  obtain ⟨W1, hW1⟩ : ∃ W1, w.alloc (.cells #[.int .i64 o, .slice A 1 cr] 24) = W1 := ⟨_, rfl⟩
  rw [hW1] at hS
  obtain ⟨T1, hT1⟩ : ∃ T, onT g 0 y = T := ⟨_, rfl⟩
  obtain ⟨T2, hT2⟩ : ∃ T, offT g 0 y = T := ⟨_, rfl⟩
  have hF0 : rulF g y 1 = 0 := by have := hi.2; omega
  have v1 : edA o 1 g y = T1 - o := by rw [← hT1, ← hF0]; exact if_pos hi
  have v2 : edB o 1 g y = T2 - o := by rw [← hT2, ← hF0]; exact if_pos hi
  have Hv := Lib.hid (And.intro v1 (And.intro v2 (of_yes hi).2))
  have k1 : decide (y ≥ 9999) = false := decide_eq_false (by omega)
  have k2 : decide (y ≤ 1970) = false := decide_eq_false (by omega)
  obtain ⟨D1, hD1⟩ : ∃ D, dayN y 1 3 * 86400 = D := ⟨_, rfl⟩
  obtain ⟨D2, hD2⟩ : ∃ D, dayN y 12 29 * 86400 = D := ⟨_, rfl⟩
  have hdo := day_one (y := y) (by omega)
  rw [hD1, hD2] at hdo
  have ho := hi.1
  have hr := ho.2.2.2 0 (by omega)
  unfold rulOk at hr
  have t1 : 0 ≤ T1 ∧ T1 ≤ 253402300799 := by rw [← hT1]; exact chgT_range hr.2.2.2.2.2.1 (by omega)
  have t2 : 0 ≤ T2 ∧ T2 ≤ 253402300799 := by rw [← hT2]; exact chgT_range hr.2.2.2.2.2.2 (by omega)
  have HD := Lib.hid (And.intro hdo.1 hdo.2.1)
  have ho1 := ho.1
  have ho2 := ho.2.1
  have w1 : IntKind.i64.wrap (T2 - o - (T1 - o)) = T2 - o - (T1 - o) := i64_same _ (by omega)
  have x1 := wrap64_in (T2 - o - (T1 - o)) (by omega)
  rw [hT1, hD1] at hg1
  rw [hT2, hD2] at hg2
  rw [hT1, hT2] at hg
  have k3 : decide (T1 - o < D1) = false := decide_eq_false hg1
  have k4 : decide (T2 - o > D2) = false := decide_eq_false hg2
  have k5 : decide (T2 - o - (T1 - o) < 86400) = true := decide_eq_true hg
  clear hR hL hi hT1 hT2 hF0 v1 v2 hy hD1 hD2 hdo ho hr t1 t2 ho1 ho2 hg hg1 hg2
  go_enter Tryd.func8, Tryd.ntmps8
  have c0 := hS.c0
  have c1 := hS.c1
  have HX := (by have h := alive_calls W1 hS.2.2.1; exact h)
  try unfold zonC at HX
  replace HX := Lib.hid HX
  have HT := Lib.hid hS
  clear hS
  try clear hb
  go_wp2_with fail
  refine HX.out.mono ?_
  rintro e w2 ⟨rfl, hb⟩
  have hS := HT.out.go hb
  clear HX HT c0 c1
  have c0 := hS.c0
  have c1 := hS.c1
  have HX := (by have h := zEdges_calls o A 1 cr g y w2 hS.2.1 hS.2.2.1; rw [Hv.out.1, Hv.out.2.1, Hv.out.2.2] at h; exact h)
  try unfold zonC at HX
  replace HX := Lib.hid HX
  have HT := Lib.hid hS
  clear hS
  try clear hb
  go_wp2_with fail
  refine HX.out.mono ?_
  rintro e w3 ⟨rfl, hb⟩
  have hS := HT.out.go hb
  clear HX HT c0 c1
  have c0 := hS.c0
  have c1 := hS.c1
  have HX := (by have h := when_calls y 1 3 0 0 0 w3 hS.2.2.1; rw [HD.out.1] at h; exact h)
  try unfold zonC at HX
  replace HX := Lib.hid HX
  have HT := Lib.hid hS
  clear hS
  try clear hb
  go_wp2_with fail
  refine HX.out.mono ?_
  rintro e w4 ⟨rfl, hb⟩
  have hS := HT.out.go hb
  clear HX HT c0 c1
  have c0 := hS.c0
  have c1 := hS.c1
  have HX := (by have h := when_calls y 12 29 0 0 0 w4 hS.2.2.1; rw [HD.out.2] at h; exact h)
  try unfold zonC at HX
  replace HX := Lib.hid HX
  have HT := Lib.hid hS
  clear hS
  try clear hb
  go_wp2_with fail
  refine HX.out.mono ?_
  rintro e w5 ⟨rfl, hb⟩
  have hS := HT.out.go hb
  clear HX HT c0 c1
  have c0 := hS.c0
  have c1 := hS.c1
  have HB := Lib.hid hS.2.2.2
  clear hS
  try clear hb
  go_wp2_with fail
  go_ret
  exact ⟨rfl, by first | exact HB.out | exact HB.out.drewN _⟩
end Go.Proofs.YtoipmhmghcngcaaDoor
