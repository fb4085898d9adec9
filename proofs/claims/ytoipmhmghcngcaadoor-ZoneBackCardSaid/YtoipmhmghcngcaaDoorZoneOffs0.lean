/-
  The law ZoneOffsets: what its cases share; too many rules, a zone that may not be. Conditions stand at each theorem.
-/
import Derived.Test.YtoipmhmghcngcaaDoorZoneRef3
import Derived.Test.YtoipmhmghcngcaaDoorLens
import Derived.Laws.StructEq
import Derived.Deep.DeepCutAuto
import Derived.Deep.CutRange
namespace Go.Proofs.YtoipmhmghcngcaaDoor
open Go Go.RowKit Go.Kw Go.Kw.Cv Go.Shelf
set_option linter.unusedVariables false
set_option linter.unusedSimpArgs false

set_option maxRecDepth 100000 in
theorem eq_chg (a b c d : Int) (w : World) : (Op.equalIn 9999 29 (.agg #[.int .i64 a, .int .i64 b, .int .i64 c, .int .i64 d]) (.agg #[.int .i64 a, .int .i64 b, .int .i64 c, .int .i64 d])).run Tryd.prog w = .ok true w := by
  have u3 := Tryd.underlying3
  have hS : Tryd.prog.underlying 29 = some (.struct (Tryd.prog.fieldsOf 29)) := by kernel_rfl
  have hp : Tryd.prog.stoodInHeld 29 = false := by kernel_rfl
  rw [show (9999 : Nat) = 9998 + 1 from rfl, run_equalIn_agg _ 9998 29 _ _ hS hp]
  simp only [Program.fieldsOf, Tryd.underlying29]
  have p0 : (part 3 #[Value.int .i64 a, .int .i64 b, .int .i64 c, .int .i64 d] 0).run Tryd.prog w = .ok (.int .i64 a) w := by kernel_rfl
  have p1 : (part 3 #[Value.int .i64 a, .int .i64 b, .int .i64 c, .int .i64 d] 1).run Tryd.prog w = .ok (.int .i64 b) w := by kernel_rfl
  have p2 : (part 3 #[Value.int .i64 a, .int .i64 b, .int .i64 c, .int .i64 d] 2).run Tryd.prog w = .ok (.int .i64 c) w := by kernel_rfl
  have p3 : (part 3 #[Value.int .i64 a, .int .i64 b, .int .i64 c, .int .i64 d] 3).run Tryd.prog w = .ok (.int .i64 d) w := by kernel_rfl
  have q : ∀ x y : Int, (Op.equalIn 9998 3 (.int .i64 x) (.int .i64 y)).run Tryd.prog w = .ok (x == y) w := fun x y => run_equalIn_int w 9997 3 _ _ x y u3
  simp [Op.eqFields, p0, p1, p2, p3, q]
set_option maxRecDepth 100000 in
theorem eq_rul (c0 c1 c2 c3 c4 c5 c6 c7 c8 c9 c10 : Int) (w : World) : (Op.equalIn 10000 31 (.agg #[Value.int .i64 c0, Value.int .i64 c1, Value.int .i64 c2, Value.int .i64 c3, Value.int .i64 c4, Value.int .i64 c5, Value.int .i64 c6, Value.int .i64 c7, Value.int .i64 c8, Value.int .i64 c9, Value.int .i64 c10]) (.agg #[Value.int .i64 c0, Value.int .i64 c1, Value.int .i64 c2, Value.int .i64 c3, Value.int .i64 c4, Value.int .i64 c5, Value.int .i64 c6, Value.int .i64 c7, Value.int .i64 c8, Value.int .i64 c9, Value.int .i64 c10])).run Tryd.prog w = .ok true w := by
  have u3 := Tryd.underlying3
  have hS : Tryd.prog.underlying 31 = some (.struct (Tryd.prog.fieldsOf 31)) := by kernel_rfl
  have hp : Tryd.prog.stoodInHeld 31 = false := by kernel_rfl
  rw [show (10000 : Nat) = 9999 + 1 from rfl, run_equalIn_agg _ 9999 31 _ _ hS hp]
  simp only [Program.fieldsOf, Tryd.underlying31]
  have p0 : (part 3 #[Value.int .i64 c0, Value.int .i64 c1, Value.int .i64 c2, Value.int .i64 c3, Value.int .i64 c4, Value.int .i64 c5, Value.int .i64 c6, Value.int .i64 c7, Value.int .i64 c8, Value.int .i64 c9, Value.int .i64 c10] 0).run Tryd.prog w = .ok (.int .i64 c0) w := by kernel_rfl
  have p1 : (part 3 #[Value.int .i64 c0, Value.int .i64 c1, Value.int .i64 c2, Value.int .i64 c3, Value.int .i64 c4, Value.int .i64 c5, Value.int .i64 c6, Value.int .i64 c7, Value.int .i64 c8, Value.int .i64 c9, Value.int .i64 c10] 1).run Tryd.prog w = .ok (.int .i64 c1) w := by kernel_rfl
  have p2 : (part 29 #[Value.int .i64 c0, Value.int .i64 c1, Value.int .i64 c2, Value.int .i64 c3, Value.int .i64 c4, Value.int .i64 c5, Value.int .i64 c6, Value.int .i64 c7, Value.int .i64 c8, Value.int .i64 c9, Value.int .i64 c10] 2).run Tryd.prog w = .ok (.agg #[.int .i64 c2, .int .i64 c3, .int .i64 c4, .int .i64 c5]) w := by kernel_rfl
  have p3 : (part 29 #[Value.int .i64 c0, Value.int .i64 c1, Value.int .i64 c2, Value.int .i64 c3, Value.int .i64 c4, Value.int .i64 c5, Value.int .i64 c6, Value.int .i64 c7, Value.int .i64 c8, Value.int .i64 c9, Value.int .i64 c10] 6).run Tryd.prog w = .ok (.agg #[.int .i64 c6, .int .i64 c7, .int .i64 c8, .int .i64 c9]) w := by kernel_rfl
  have p4 : (part 3 #[Value.int .i64 c0, Value.int .i64 c1, Value.int .i64 c2, Value.int .i64 c3, Value.int .i64 c4, Value.int .i64 c5, Value.int .i64 c6, Value.int .i64 c7, Value.int .i64 c8, Value.int .i64 c9, Value.int .i64 c10] 10).run Tryd.prog w = .ok (.int .i64 c10) w := by kernel_rfl
  have q : ∀ x y : Int, (Op.equalIn 9999 3 (.int .i64 x) (.int .i64 y)).run Tryd.prog w = .ok (x == y) w := fun x y => run_equalIn_int w 9998 3 _ _ x y u3
  have r := fun a b c d => eq_chg a b c d w
  simp [Op.eqFields, p0, p1, p2, p3, p4, q, r]
set_option maxRecDepth 100000 in
theorem eq_date9 (a b c : Int) (w : World) : (Op.equalIn 9999 42 (.agg #[.int .i64 a, .int .i64 b, .int .i64 c]) (.agg #[.int .i64 a, .int .i64 b, .int .i64 c])).run Tryd.prog w = .ok true w := by
  have u3 := Tryd.underlying3
  have hS : Tryd.prog.underlying 42 = some (.struct (Tryd.prog.fieldsOf 42)) := by kernel_rfl
  have hp : Tryd.prog.stoodInHeld 42 = false := by kernel_rfl
  rw [show (9999 : Nat) = 9998 + 1 from rfl, run_equalIn_agg _ 9998 42 _ _ hS hp]
  simp only [Program.fieldsOf, Tryd.underlying42]
  have p0 : (part 3 #[Value.int .i64 a, .int .i64 b, .int .i64 c] 0).run Tryd.prog w = .ok (.int .i64 a) w := by kernel_rfl
  have p1 : (part 3 #[Value.int .i64 a, .int .i64 b, .int .i64 c] 1).run Tryd.prog w = .ok (.int .i64 b) w := by kernel_rfl
  have p2 : (part 3 #[Value.int .i64 a, .int .i64 b, .int .i64 c] 2).run Tryd.prog w = .ok (.int .i64 c) w := by kernel_rfl
  have q : ∀ x y : Int, (Op.equalIn 9998 3 (.int .i64 x) (.int .i64 y)).run Tryd.prog w = .ok (x == y) w := fun x y => run_equalIn_int w 9997 3 _ _ x y u3
  simp [Op.eqFields, p0, p1, p2, q]
set_option maxRecDepth 100000 in
theorem eq_mom (a b c d e f : Int) (w : World) : (Op.equalIn 10000 44 (.agg #[.int .i64 a, .int .i64 b, .int .i64 c, .int .i64 d, .int .i64 e, .int .i64 f]) (.agg #[.int .i64 a, .int .i64 b, .int .i64 c, .int .i64 d, .int .i64 e, .int .i64 f])).run Tryd.prog w = .ok true w := by
  have u3 := Tryd.underlying3
  have hS : Tryd.prog.underlying 44 = some (.struct (Tryd.prog.fieldsOf 44)) := by kernel_rfl
  have hp : Tryd.prog.stoodInHeld 44 = false := by kernel_rfl
  rw [show (10000 : Nat) = 9999 + 1 from rfl, run_equalIn_agg _ 9999 44 _ _ hS hp]
  simp only [Program.fieldsOf, Tryd.underlying44]
  have p0 : (part 42 #[Value.int .i64 a, .int .i64 b, .int .i64 c, .int .i64 d, .int .i64 e, .int .i64 f] 0).run Tryd.prog w = .ok (.agg #[.int .i64 a, .int .i64 b, .int .i64 c]) w := by kernel_rfl
  have p1 : (part 3 #[Value.int .i64 a, .int .i64 b, .int .i64 c, .int .i64 d, .int .i64 e, .int .i64 f] 3).run Tryd.prog w = .ok (.int .i64 d) w := by kernel_rfl
  have p2 : (part 3 #[Value.int .i64 a, .int .i64 b, .int .i64 c, .int .i64 d, .int .i64 e, .int .i64 f] 4).run Tryd.prog w = .ok (.int .i64 e) w := by kernel_rfl
  have p3 : (part 3 #[Value.int .i64 a, .int .i64 b, .int .i64 c, .int .i64 d, .int .i64 e, .int .i64 f] 5).run Tryd.prog w = .ok (.int .i64 f) w := by kernel_rfl
  have q : ∀ x y : Int, (Op.equalIn 9999 3 (.int .i64 x) (.int .i64 y)).run Tryd.prog w = .ok (x == y) w := fun x y => run_equalIn_int w 9998 3 _ _ x y u3
  have r := fun a b c => eq_date9 a b c w
  simp [Op.eqFields, p0, p1, p2, p3, q, r]
attribute [local go_sem] eq_rul eq_mom
abbrev ZX := Int × Option Addr × Nat × Nat × (Nat → Nat → Int)
/-- What stands of a law's zone, boxed at b0. -/
def StZ (b0 : Nat) (w : World) (o : Int) (A : Option Addr) (lr cr : Nat) (g : Nat → Nat → Int) (W : World) : Prop :=
  W.heap[b0]? = some (.cells #[.int .i64 o, .slice A lr cr] 24 (0, 0)) ∧ RdZ W A lr cr g ∧ Lens W ∧ Below w.heap.size w W
section
variable {b0 : Nat} {w : World} {o : Int} {A : Option Addr} {lr cr : Nat} {g : Nat → Nat → Int} {W W' : World}
theorem StZ.go (h : StZ b0 w o A lr cr g W) (hb : Below W.heap.size W W') : StZ b0 w o A lr cr g W' := ⟨blk_below h.1 hb, h.2.1.go hb, h.2.2.1.go hb, bnext h.2.2.2 hb⟩
theorem StZ.new (hR : RdZ w A lr cr g) (hL : Lens w) : StZ w.heap.size w o A lr cr g (w.alloc (.cells #[.int .i64 o, .slice A lr cr] 24)) := ⟨World.alloc_heap_new w _, hR.go (bstep w _), hL.go (bstep w _), bstep w _⟩
theorem StZ.c0 (h : StZ b0 w o A lr cr g W) : W.cell? ⟨b0, 0, none⟩ = some (.int .i64 o) := cell_of_row W b0 0 _ _ _ h.1
theorem StZ.c1 (h : StZ b0 w o A lr cr g W) : W.cell? ⟨b0, 1, none⟩ = some (.slice A lr cr) := cell_of_row W b0 1 _ _ _ h.1
end
set_option maxRecDepth 100000 in
set_option maxHeartbeats 32000000 in
theorem zo_many (o : Int) (A : Option Addr) (lr cr : Nat) (g : Nat → Nat → Int) (y t : Int) (w : World) (hR : RdZ w A lr cr g) (h : 100 < lr) (hL : Lens w) :
    Calls Tryd.prog 3 #[.agg #[.int .i64 o, .slice A lr cr], .int .i64 y, .int .i64 t] w fun e w' => e = .returned (.bool true) ∧ Below w.heap.size w w' := by
  obtain ⟨b0, hb0⟩ : ∃ b0, w.heap.size = b0 := ⟨_, rfl⟩
  have Hb0 := Lib.hid hb0
  have hS : StZ b0 w o A lr cr g (w.alloc (.cells #[.int .i64 o, .slice A lr cr] 24)) := hb0 ▸ StZ.new hR hL
  obtain ⟨W1, hW1⟩ : ∃ W1, w.alloc (.cells #[.int .i64 o, .slice A lr cr] 24) = W1 := ⟨_, rfl⟩
  rw [hW1] at hS
  clear hR hL
  have kl : decide ((lr : Int) > 100) = true := decide_eq_true (by omega)
  have c0 := hS.c0
  have c1 := hS.c1
  have HB := Lib.hid hS.2.2.2
  clear hS h
  go_enter Tryd.func3, Tryd.ntmps3
  go_wp2_with fail
  go_ret
  exact ⟨rfl, HB.out⟩
set_option maxRecDepth 100000 in
set_option maxHeartbeats 32000000 in
theorem zo_bad (o : Int) (A : Option Addr) (lr cr : Nat) (g : Nat → Nat → Int) (y t : Int) (w : World) (hR : RdZ w A lr cr g) (hl : lr ≤ 100) (h : ¬ zonOk o lr g) (hL : Lens w) :
    Calls Tryd.prog 3 #[.agg #[.int .i64 o, .slice A lr cr], .int .i64 y, .int .i64 t] w fun e w' => e = .returned (.bool true) ∧ Below w.heap.size w w' := by
  obtain ⟨b0, hb0⟩ : ∃ b0, w.heap.size = b0 := ⟨_, rfl⟩
  have Hb0 := Lib.hid hb0
  have hS : StZ b0 w o A lr cr g (w.alloc (.cells #[.int .i64 o, .slice A lr cr] 24)) := hb0 ▸ StZ.new hR hL
  obtain ⟨W1, hW1⟩ : ∃ W1, w.alloc (.cells #[.int .i64 o, .slice A lr cr] 24) = W1 := ⟨_, rfl⟩
  rw [hW1] at hS
  clear hR hL
  have kl : decide ((lr : Int) > 100) = false := decide_eq_false (by omega)
  have q := of_not (show ¬ OfIs o lr g y from fun h' => h h'.1)
  have Hv := Lib.hid (show decide (zonOk o lr g) = false ∧ zonE o lr g = 70 ∧ edA o lr g y = 0 ∧ edB o lr g y = 0 ∧ offE o lr g t = 70 ∧ offV o lr g t = 0 ∧ ofG o lr g y = (fun _ => 0) ∧ ofB o lr g y = false from
    ⟨decide_eq_false h, if_neg h, if_neg (fun h' => h h'.1), if_neg (fun h' => h h'.1), if_neg h, off_v o lr g t 70 (if_neg h) (by decide), q.1, q.2⟩)
  clear hl h q
  go_enter Tryd.func3, Tryd.ntmps3
  have c0 := hS.c0
  have c1 := hS.c1
  have HX := (by have h := refMayZ_calls o A lr cr g W1 hS.2.1; rw [Hv.out.1] at h; exact h)
  unfold zonC at HX
  replace HX := Lib.hid HX
  have HT := Lib.hid hS
  clear hS
  try clear hb
  go_wp2_with fail
  refine HX.out.mono ?_
  rintro e w2 ⟨rfl, hb⟩
  have hS := HT.out.go hb
  clear HX HT c0 c1
  have c0 := hS.c0
  have c1 := hS.c1
  have HX := (by have h := zCheck_calls o A lr cr g w2 hS.2.1; rw [Hv.out.2.1] at h; exact h)
  unfold zonC at HX
  replace HX := Lib.hid HX
  have HT := Lib.hid hS
  clear hS
  try clear hb
  go_wp2_with fail
  refine HX.out.mono ?_
  rintro e w3 ⟨rfl, hb⟩
  have hS := HT.out.go hb
  clear HX HT c0 c1
  have c0 := hS.c0
  have c1 := hS.c1
  have HX := (by have h := zOf_calls o A lr cr g y w3 hS.2.1; rw [Hv.out.2.2.2.2.2.2.1, Hv.out.2.2.2.2.2.2.2] at h; unfold rulV at h; exact h)
  unfold zonC at HX
  replace HX := Lib.hid HX
  have HT := Lib.hid hS
  clear hS
  try clear hb
  go_wp2_with fail
  refine HX.out.mono ?_
  rintro e w4 ⟨rfl, hb⟩
  have hS := HT.out.go hb
  clear HX HT c0 c1
  have hS := hS.go (bstep w4 (.cells #[.int .i64 0, .int .i64 0, .int .i64 0, .int .i64 0, .int .i64 0, .int .i64 0, .int .i64 0, .int .i64 0, .int .i64 0, .int .i64 0, .int .i64 0] 31))
  have c0 := hS.c0
  have c1 := hS.c1
  have HX := (by have h := zEdges_calls o A lr cr g y _ hS.2.1 hS.2.2.1; rw [Hv.out.2.2.1, Hv.out.2.2.2.1, Hv.out.2.2.2.2.2.2.2] at h; exact h)
  unfold zonC at HX
  replace HX := Lib.hid HX
  have HT := Lib.hid hS
  clear hS
  try clear hb
  go_wp2_with fail
  refine HX.out.mono ?_
  rintro e w5 ⟨rfl, hb⟩
  have hS := HT.out.go hb
  clear HX HT c0 c1
  have c0 := hS.c0
  have c1 := hS.c1
  have HX := (by have h := zOffset_calls o A lr cr g t w5 hS.2.1 hS.2.2.1; rw [Hv.out.2.2.2.2.1, Hv.out.2.2.2.2.2.1] at h; exact h)
  unfold zonC at HX
  replace HX := Lib.hid HX
  have HT := Lib.hid hS
  clear hS
  try clear hb
  go_wp2_with fail
  refine HX.out.mono ?_
  rintro e w6 ⟨rfl, hb⟩
  have hS := HT.out.go hb
  clear HX HT c0 c1
  have HB := Lib.hid hS.2.2.2
  clear hS
  try clear hb
  go_wp2_with fail
  go_ret
  exact ⟨rfl, by first | exact HB.out | exact HB.out.drewN _⟩
end Go.Proofs.YtoipmhmghcngcaaDoor
