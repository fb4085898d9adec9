/-
  The law ZonePlain, walked. Conditions stand at each theorem.
-/
import Derived.Test.YtoipmhmghcngcaaDoorInstsNo
import Derived.Test.YtoipmhmghcngcaaDoorZoneAlive
import Derived.Test.YtoipmhmghcngcaaDoorZoneOffs0
namespace Go.Proofs.YtoipmhmghcngcaaDoor
open Go Go.RowKit Go.Kw Go.Kw.Cv Go.Shelf
set_option linter.unusedVariables false
set_option linter.unusedSimpArgs false

theorem rdz_nil (W : World) (g : Nat → Nat → Int) : RdZ W none 0 0 g := ⟨Nat.le_refl _, Nat.zero_le _, fun _ => rfl, .inl rfl, fun r j hr => absurd hr (Nat.not_lt_zero _)⟩
/-- No rule of the year: the zone's offset. -/
theorem plain_off {o : Int} {lr : Nat} {g : Nat → Nat → Int} {t : Int} (hok : zonOk o lr g) (hs : secOk (t + o)) (hn : ¬ OfIs o lr g (zD ((t + o) / 86400)).1) : offE o lr g t = 0 ∧ offV o lr g t = o := by
  have he : extV g lr (t + o) = 0 := by unfold extV; rw [if_neg (fun h => hn ⟨hok, h⟩)]
  have := off_is hok hs he (by rw [Int.add_zero]; exact hs)
  exact ⟨this.1, by rw [this.2]; omega⟩
/-- A zone without rules. -/
theorem none_off {o : Int} {lr : Nat} {g : Nat → Nat → Int} {t : Int} (hok : zonOk o lr g) (hs : secOk (t + o)) : offE o 0 g t = 0 ∧ offV o 0 g t = o ∧ instL o 0 g (t + o) = [t] := by
  have he : extV g 0 (t + o) = 0 := ext_zero _ _
  have := off_is (zon_less hok) hs he (by rw [Int.add_zero]; exact hs)
  refine ⟨this.1, by rw [this.2]; omega, inst_own ?_⟩
  rw [inst_iff (zon_less hok)]
  exact ⟨this.1, by rw [this.2]; omega⟩
set_option maxRecDepth 100000 in
set_option maxHeartbeats 32000000 in
theorem zp_many (o : Int) (A : Option Addr) (lr cr : Nat) (g : Nat → Nat → Int) (t : Int) (w : World) (hR : RdZ w A lr cr g) (hl : 50 < lr) (hL : Lens w) :
    Calls Tryd.prog 7 #[.agg #[.int .i64 o, .slice A lr cr], .int .i64 t] w fun e w' => e = .returned (.bool true) ∧ Below w.heap.size w w' := by
  obtain ⟨b0, hb0⟩ : ∃ b0, w.heap.size = b0 := ⟨_, rfl⟩
  have Hb0 := Lib.hid hb0
  have hS : StZ b0 w o A lr cr g (w.alloc (.cells #[.int .i64 o, .slice A lr cr] 24)) := hb0 ▸ StZ.new hR hL
  obtain ⟨W1, hW1⟩ : ∃ W1, w.alloc (.cells #[.int .i64 o, .slice A lr cr] 24) = W1 := ⟨_, rfl⟩
  rw [hW1] at hS
  have kl : decide ((lr : Int) > 50) = true := decide_eq_true (by omega)
  clear hR hL hl
  go_enter Tryd.func7, Tryd.ntmps7
  have c0 := hS.c0
  have c1 := hS.c1
  have HX := (by have h := alive_calls W1 hS.2.2.1; exact h)
  try unfold zonC at HX
  replace HX := Lib.hid HX
  have HT := Lib.hid hS
  clear hS
  try clear hb
  go_wp2_with fail
  refine HX.out.mono ?_
  rintro e w2 ⟨rfl, hb⟩
  have hS := HT.out.go hb
  clear HX HT c0 c1
  have c0 := hS.c0
  have c1 := hS.c1
  have HB := Lib.hid hS.2.2.2
  clear hS
  try clear hb
  go_wp2_with fail
  go_ret
  exact ⟨rfl, by first | exact HB.out | exact HB.out.drewN _⟩
set_option maxRecDepth 100000 in
set_option maxHeartbeats 32000000 in
theorem zp_bad (o : Int) (A : Option Addr) (lr cr : Nat) (g : Nat → Nat → Int) (t : Int) (w : World) (hR : RdZ w A lr cr g) (hl : lr ≤ 50) (hn : ¬ zonOk o lr g) (hL : Lens w) :
    Calls Tryd.prog 7 #[.agg #[.int .i64 o, .slice A lr cr], .int .i64 t] w fun e w' => e = .returned (.bool true) ∧ Below w.heap.size w w' := by
  obtain ⟨b0, hb0⟩ : ∃ b0, w.heap.size = b0 := ⟨_, rfl⟩
  have Hb0 := Lib.hid hb0
  have hS : StZ b0 w o A lr cr g (w.alloc (.cells #[.int .i64 o, .slice A lr cr] 24)) := hb0 ▸ StZ.new hR hL
  obtain ⟨W1, hW1⟩ : ∃ W1, w.alloc (.cells #[.int .i64 o, .slice A lr cr] 24) = W1 := ⟨_, rfl⟩
  rw [hW1] at hS
  have kl : decide ((lr : Int) > 50) = false := decide_eq_false (by omega)
  have Hv := Lib.hid (show zonE o lr g = 70 from if_neg hn)
  clear hR hL hl hn
  go_enter Tryd.func7, Tryd.ntmps7
  have c0 := hS.c0
  have c1 := hS.c1
  have HX := (by have h := alive_calls W1 hS.2.2.1; exact h)
  try unfold zonC at HX
  replace HX := Lib.hid HX
  have HT := Lib.hid hS
  clear hS
  try clear hb
  go_wp2_with fail
  refine HX.out.mono ?_
  rintro e w2 ⟨rfl, hb⟩
  have hS := HT.out.go hb
  clear HX HT c0 c1
  have c0 := hS.c0
  have c1 := hS.c1
  have HX := (by have h := zCheck_calls o A lr cr g w2 hS.2.1; rw [Hv.out] at h; exact h)
  try unfold zonC at HX
  replace HX := Lib.hid HX
  have HT := Lib.hid hS
  clear hS
  try clear hb
  go_wp2_with fail
  refine HX.out.mono ?_
  rintro e w3 ⟨rfl, hb⟩
  have hS := HT.out.go hb
  clear HX HT c0 c1
  have c0 := hS.c0
  have c1 := hS.c1
  have HB := Lib.hid hS.2.2.2
  clear hS
  try clear hb
  go_wp2_with fail
  go_ret
  exact ⟨rfl, by first | exact HB.out | exact HB.out.drewN _⟩
set_option maxRecDepth 100000 in
set_option maxHeartbeats 32000000 in
theorem zp_low (o : Int) (A : Option Addr) (lr cr : Nat) (g : Nat → Nat → Int) (t : Int) (w : World) (hR : RdZ w A lr cr g) (hl : lr ≤ 50) (hok : zonOk o lr g) (ht : t < 200000) (hL : Lens w) :
    Calls Tryd.prog 7 #[.agg #[.int .i64 o, .slice A lr cr], .int .i64 t] w fun e w' => e = .returned (.bool true) ∧ Below w.heap.size w w' := by
  obtain ⟨b0, hb0⟩ : ∃ b0, w.heap.size = b0 := ⟨_, rfl⟩
  have Hb0 := Lib.hid hb0
  have hS : StZ b0 w o A lr cr g (w.alloc (.cells #[.int .i64 o, .slice A lr cr] 24)) := hb0 ▸ StZ.new hR hL
  obtain ⟨W1, hW1⟩ : ∃ W1, w.alloc (.cells #[.int .i64 o, .slice A lr cr] 24) = W1 := ⟨_, rfl⟩
  rw [hW1] at hS
  have kl : decide ((lr : Int) > 50) = false := decide_eq_false (by omega)
  have Hv := Lib.hid (show zonE o lr g = 0 from if_pos hok)
  have k2 : decide (t < 200000) = true := decide_eq_true ht
  clear hR hL hl hok ht
  go_enter Tryd.func7, Tryd.ntmps7
  have c0 := hS.c0
  have c1 := hS.c1
  have HX := (by have h := alive_calls W1 hS.2.2.1; exact h)
  try unfold zonC at HX
  replace HX := Lib.hid HX
  have HT := Lib.hid hS
  clear hS
  try clear hb
  go_wp2_with fail
  refine HX.out.mono ?_
  rintro e w2 ⟨rfl, hb⟩
  have hS := HT.out.go hb
  clear HX HT c0 c1
  have c0 := hS.c0
  have c1 := hS.c1
  have HX := (by have h := zCheck_calls o A lr cr g w2 hS.2.1; rw [Hv.out] at h; exact h)
  try unfold zonC at HX
  replace HX := Lib.hid HX
  have HT := Lib.hid hS
  clear hS
  try clear hb
  go_wp2_with fail
  refine HX.out.mono ?_
  rintro e w3 ⟨rfl, hb⟩
  have hS := HT.out.go hb
  clear HX HT c0 c1
  have c0 := hS.c0
  have c1 := hS.c1
  have HB := Lib.hid hS.2.2.2
  clear hS
  try clear hb
  go_wp2_with fail
  go_ret
  exact ⟨rfl, by first | exact HB.out | exact HB.out.drewN _⟩
set_option maxRecDepth 100000 in
set_option maxHeartbeats 32000000 in
theorem zp_high (o : Int) (A : Option Addr) (lr cr : Nat) (g : Nat → Nat → Int) (t : Int) (w : World) (hR : RdZ w A lr cr g) (hl : lr ≤ 50) (hok : zonOk o lr g) (ht1 : ¬ t < 200000) (ht : 137438953472 < t) (hL : Lens w) :
    Calls Tryd.prog 7 #[.agg #[.int .i64 o, .slice A lr cr], .int .i64 t] w fun e w' => e = .returned (.bool true) ∧ Below w.heap.size w w' := by
  obtain ⟨b0, hb0⟩ : ∃ b0, w.heap.size = b0 := ⟨_, rfl⟩
  have Hb0 := Lib.hid hb0
  have hS : StZ b0 w o A lr cr g (w.alloc (.cells #[.int .i64 o, .slice A lr cr] 24)) := hb0 ▸ StZ.new hR hL
  obtain ⟨W1, hW1⟩ : ∃ W1, w.alloc (.cells #[.int .i64 o, .slice A lr cr] 24) = W1 := ⟨_, rfl⟩
  rw [hW1] at hS
  have kl : decide ((lr : Int) > 50) = false := decide_eq_false (by omega)
  have Hv := Lib.hid (show zonE o lr g = 0 from if_pos hok)
  have k2 : decide (t < 200000) = false := decide_eq_false ht1
  have k3 : decide (t > 137438953472) = true := decide_eq_true ht
  clear hR hL hl hok ht ht1
  go_enter Tryd.func7, Tryd.ntmps7
  have c0 := hS.c0
  have c1 := hS.c1
  have HX := (by have h := alive_calls W1 hS.2.2.1; exact h)
  try unfold zonC at HX
  replace HX := Lib.hid HX
  have HT := Lib.hid hS
  clear hS
  try clear hb
  go_wp2_with fail
  refine HX.out.mono ?_
  rintro e w2 ⟨rfl, hb⟩
  have hS := HT.out.go hb
  clear HX HT c0 c1
  have c0 := hS.c0
  have c1 := hS.c1
  have HX := (by have h := zCheck_calls o A lr cr g w2 hS.2.1; rw [Hv.out] at h; exact h)
  try unfold zonC at HX
  replace HX := Lib.hid HX
  have HT := Lib.hid hS
  clear hS
  try clear hb
  go_wp2_with fail
  refine HX.out.mono ?_
  rintro e w3 ⟨rfl, hb⟩
  have hS := HT.out.go hb
  clear HX HT c0 c1
  have c0 := hS.c0
  have c1 := hS.c1
  have HB := Lib.hid hS.2.2.2
  clear hS
  try clear hb
  go_wp2_with fail
  go_ret
  exact ⟨rfl, by first | exact HB.out | exact HB.out.drewN _⟩
set_option maxRecDepth 100000 in
set_option maxHeartbeats 32000000 in
theorem zp_good (o : Int) (A : Option Addr) (lr cr : Nat) (g : Nat → Nat → Int) (t : Int) (w : World) (hR : RdZ w A lr cr g) (hl : lr ≤ 50) (hok : zonOk o lr g) (ht1 : ¬ t < 200000) (ht : ¬ 137438953472 < t) (E V : Int) (B : Bool) (G : Nat → Int) (hE : offE o lr g t = E) (hV : offV o lr g t = V) (hB : ofB o lr g (zD ((t + o) / 86400)).1 = B) (hG : ofG o lr g (zD ((t + o) / 86400)).1 = G) (hEV : B = true ∨ (B = false ∧ E = 0 ∧ V = o)) (hL : Lens w) :
    Calls Tryd.prog 7 #[.agg #[.int .i64 o, .slice A lr cr], .int .i64 t] w fun e w' => e = .returned (.bool true) ∧ Below w.heap.size w w' := by
  obtain ⟨b0, hb0⟩ : ∃ b0, w.heap.size = b0 := ⟨_, rfl⟩
  have Hb0 := Lib.hid hb0
  have hS : StZ b0 w o A lr cr g (w.alloc (.cells #[.int .i64 o, .slice A lr cr] 24)) := hb0 ▸ StZ.new hR hL
  obtain ⟨W1, hW1⟩ : ∃ W1, w.alloc (.cells #[.int .i64 o, .slice A lr cr] 24) = W1 := ⟨_, rfl⟩
  rw [hW1] at hS
  have kl : decide ((lr : Int) > 50) = false := decide_eq_false (by omega)
  have Hv := Lib.hid (show zonE o lr g = 0 from if_pos hok)
  have k2 : decide (t < 200000) = false := decide_eq_false ht1
  have k3 : decide (t > 137438953472) = false := decide_eq_false ht
  have ho1 := hok.1
  have ho2 := hok.2.1
  have hs : secOk (t + o) := by unfold secOk; omega
  obtain ⟨n1, n2, n3⟩ := none_off hok hs
  obtain ⟨l1, l2⟩ := loc_at ⟨n1, n2⟩
  rw [show (!(o == o)) = false by simp] at l2
  obtain ⟨d1, d2, d3⟩ := mom_inst (t + o) hs
  obtain ⟨i1, -, -⟩ := inst_ok d1 d2
  unfold momV at l1
  have HA := Lib.hid (fun W (h : Lens W) => at_ok (t + o) hs W h)
  unfold momV at HA
  obtain ⟨u, hu⟩ : ∃ u, t + o = u := ⟨_, rfl⟩
  have wu : IntKind.i64.wrap (t + o) = u := by rw [hu]; exact i64_same u (by omega)
  have XU : Hid (wrap64 (t + o) = u) := by show _ = _; rw [hu]; exact wrap64_in u (by omega)
  rw [hu] at n3 l1 d1 d2 d3 i1 hB hG HA
  obtain ⟨y1, hy1⟩ : ∃ y, (zD (u / 86400)).1 = y := ⟨_, rfl⟩
  obtain ⟨y2, hy2⟩ : ∃ y, (zD (u / 86400)).2.1 = y := ⟨_, rfl⟩
  obtain ⟨y3, hy3⟩ : ∃ y, (zD (u / 86400)).2.2 = y := ⟨_, rfl⟩
  obtain ⟨y4, hy4⟩ : ∃ y, u % 86400 / 3600 = y := ⟨_, rfl⟩
  obtain ⟨y5, hy5⟩ : ∃ y, u % 86400 / 60 % 60 = y := ⟨_, rfl⟩
  obtain ⟨y6, hy6⟩ : ∃ y, u % 86400 % 60 = y := ⟨_, rfl⟩
  rw [hy1, hy2, hy3, hy4, hy5, hy6] at l1 d3 i1 HA
  rw [hy1, hy2, hy3] at d1
  rw [hy4, hy5, hy6] at d2
  rw [hy1] at hB hG
  have HF := Lib.hid (And.intro n1 (And.intro n2 (And.intro n3 (And.intro l1 (And.intro l2 (And.intro d1 (And.intro d2 (And.intro d3 i1))))))))
  have HQ := Lib.hid (And.intro hE (And.intro hV (And.intro hB (And.intro hG hEV))))
  have Hok := Lib.hid hok
  clear hR hL hl hok ht ht1 ho1 ho2 hs n1 n2 n3 l1 l2 d1 d2 d3 i1 hu hy1 hy2 hy3 hy4 hy5 hy6 hE hV hB hG hEV
  go_enter Tryd.func7, Tryd.ntmps7
  have c0 := hS.c0
  have c1 := hS.c1
  have HX := (by have h := alive_calls W1 hS.2.2.1; exact h)
  try unfold zonC at HX
  replace HX := Lib.hid HX
  have HT := Lib.hid hS
  clear hS
  try clear hb
  go_wp2_with fail
  refine HX.out.mono ?_
  rintro e w2 ⟨rfl, hb⟩
  have hS := HT.out.go hb
  clear HX HT c0 c1
  have c0 := hS.c0
  have c1 := hS.c1
  have HX := (by have h := zCheck_calls o A lr cr g w2 hS.2.1; rw [Hv.out] at h; exact h)
  try unfold zonC at HX
  replace HX := Lib.hid HX
  have HT := Lib.hid hS
  clear hS
  try clear hb
  go_wp2_with fail
  refine HX.out.mono ?_
  rintro e w3 ⟨rfl, hb⟩
  have hS := HT.out.go hb
  clear HX HT c0 c1
  have b0c := hS.c0
  have hst := bstep w3 (.cells #[.int .i64 o, .slice none 0 0] 24)
  have hS := hS.go hst
  have rp := World.alloc_heap_new w3 (.cells #[.int .i64 o, .slice none 0 0] 24)
  clear hst
  have c0 := hS.c0
  have c1 := hS.c1
  have rpc0 := cell_of_row _ w3.heap.size 0 _ _ _ rp
  have rpc1 := cell_of_row _ w3.heap.size 1 _ _ _ rp
  have HX := (by have h := zOffset_calls o none 0 0 g t _ (rdz_nil _ g) hS.2.2.1; rw [HF.out.1, HF.out.2.1] at h; exact h)
  try unfold zonC at HX
  replace HX := Lib.hid HX
  have HT := Lib.hid hS
  have Hrp := Lib.hid rp
  clear rp
  clear hS
  try clear hb
  go_wp2_with fail
  refine HX.out.mono ?_
  rintro e w4 ⟨rfl, hb⟩
  have hS := HT.out.go hb
  have rp := blk_below Hrp.out hb
  clear HX HT Hrp c0 c1 rpc0 rpc1
  clear b0c
  have c0 := hS.c0
  have c1 := hS.c1
  have rpc0 := cell_of_row _ w3.heap.size 0 _ _ _ rp
  have rpc1 := cell_of_row _ w3.heap.size 1 _ _ _ rp
  have HX := (by have h := zLocal_calls o none 0 0 g t w4 (rdz_nil _ g) hS.2.2.1; rw [HF.out.1, HF.out.2.2.2.1, HF.out.2.2.2.2.1] at h; exact h)
  try unfold zonC at HX
  replace HX := Lib.hid HX
  have HT := Lib.hid hS
  have Hrp := Lib.hid rp
  clear rp
  clear hS
  try clear hb
  go_wp2_with fail
  refine HX.out.mono ?_
  rintro e w5 ⟨rfl, hb⟩
  have hS := HT.out.go hb
  have rp := blk_below Hrp.out hb
  clear HX HT Hrp c0 c1 rpc0 rpc1
  have hst := bstep w5 (.cells #[.int .i64 y1, .int .i64 y2, .int .i64 y3, .int .i64 y4, .int .i64 y5, .int .i64 y6] 44)
  have hS := hS.go hst
  have rp := blk_below rp hst
  have rm := World.alloc_heap_new w5 (.cells #[.int .i64 y1, .int .i64 y2, .int .i64 y3, .int .i64 y4, .int .i64 y5, .int .i64 y6] 44)
  clear hst
  have c0 := hS.c0
  have c1 := hS.c1
  have rpc0 := cell_of_row _ w3.heap.size 0 _ _ _ rp
  have rpc1 := cell_of_row _ w3.heap.size 1 _ _ _ rp
  have rmc0 := cell_of_row _ w5.heap.size 0 _ _ _ rm
  have rmc1 := cell_of_row _ w5.heap.size 1 _ _ _ rm
  have rmc2 := cell_of_row _ w5.heap.size 2 _ _ _ rm
  have rmc3 := cell_of_row _ w5.heap.size 3 _ _ _ rm
  have rmc4 := cell_of_row _ w5.heap.size 4 _ _ _ rm
  have rmc5 := cell_of_row _ w5.heap.size 5 _ _ _ rm
  have HX := (by have h := instant_calls y1 y2 y3 y4 y5 y6 _ hS.2.2.1; rw [HF.out.2.2.2.2.2.2.2.1, HF.out.2.2.2.2.2.2.2.2] at h; exact h)
  try unfold zonC at HX
  replace HX := Lib.hid HX
  have HT := Lib.hid hS
  have Hrp := Lib.hid rp
  have Hrm := Lib.hid rm
  clear rp rm
  clear hS
  try clear hb
  go_wp2_with fail
  refine HX.out.mono ?_
  rintro e w6 ⟨rfl, hb⟩
  have hS := HT.out.go hb
  have rp := blk_below Hrp.out hb
  have rm := blk_below Hrm.out hb
  clear HX HT Hrp Hrm c0 c1 rpc0 rpc1 rmc0 rmc1 rmc2 rmc3 rmc4 rmc5
  have c0 := hS.c0
  have c1 := hS.c1
  have rpc0 := cell_of_row _ w3.heap.size 0 _ _ _ rp
  have rpc1 := cell_of_row _ w3.heap.size 1 _ _ _ rp
  have rmc0 := cell_of_row _ w5.heap.size 0 _ _ _ rm
  have rmc1 := cell_of_row _ w5.heap.size 1 _ _ _ rm
  have rmc2 := cell_of_row _ w5.heap.size 2 _ _ _ rm
  have rmc3 := cell_of_row _ w5.heap.size 3 _ _ _ rm
  have rmc4 := cell_of_row _ w5.heap.size 4 _ _ _ rm
  have rmc5 := cell_of_row _ w5.heap.size 5 _ _ _ rm
  have HX := insts_ok o none 0 0 g y1 y2 y3 y4 y5 y6 (zon_less Hok.out) HF.out.2.2.2.2.2.1 HF.out.2.2.2.2.2.2.1 w6 (rdz_nil _ g) hS.2.2.1
  rw [HF.out.2.2.2.2.2.2.2.1, HF.out.2.2.1] at HX
  unfold zonC at HX
  replace HX := Lib.hid HX
  have HT := Lib.hid hS
  clear hS hb
  have Hrp := Lib.hid rp
  have Hrm := Lib.hid rm
  clear rp rm
  go_wp2_with fail
  refine HX.out.mono ?_
  rintro e w7 ⟨⟨B2, c2, rfl, hRd⟩, hb⟩
  have hS := HT.out.go hb
  clear HX HT Hrp Hrm c0 c1 rpc0 rpc1 rmc0 rmc1 rmc2 rmc3 rmc4 rmc5
  obtain ⟨lb, lo, rfl, hlb, hlc⟩ := hRd.at_ (k := 0) Nat.zero_lt_one
  rw [Nat.add_zero, show [t].getD 0 0 = t from rfl] at hlc
  rw [show [t].length = 1 from rfl]
  have xu := XU.out
  clear hRd hlb
  replace HA := Lib.hid (HA.out w7 hS.2.2.1)
  have c0 := hS.c0
  have c1 := hS.c1
  have HT := Lib.hid hS
  clear hS hb
  go_wp2_with fail
  refine HA.out.mono ?_
  rintro e w8 ⟨rfl, hb⟩
  have hS := HT.out.go hb
  clear HA HT xu hlc c0 c1
  have hst := bstep w8 (.cells #[.int .i64 y1, .int .i64 y2, .int .i64 y3, .int .i64 y4, .int .i64 y5, .int .i64 y6] 44)
  have hS := hS.go hst
  have rm := World.alloc_heap_new w8 (.cells #[.int .i64 y1, .int .i64 y2, .int .i64 y3, .int .i64 y4, .int .i64 y5, .int .i64 y6] 44)
  clear hst
  have c0 := hS.c0
  have c1 := hS.c1
  have rmc0 := cell_of_row _ w8.heap.size 0 _ _ _ rm
  have HX := (by have h := zOf_calls o A lr cr g y1 _ hS.2.1; rw [HQ.out.2.2.1, HQ.out.2.2.2.1] at h; unfold rulV at h; exact h)
  try unfold zonC at HX
  replace HX := Lib.hid HX
  have HT := Lib.hid hS
  have Hrm := Lib.hid rm
  clear rm
  clear hS
  try clear hb
  go_wp2_with fail
  refine HX.out.mono ?_
  rintro e w9 ⟨rfl, hb⟩
  have hS := HT.out.go hb
  have rm := blk_below Hrm.out hb
  clear HX HT Hrm c0 c1 rmc0
  clear rm
  have hst := bstep w9 (.cells #[.int .i64 (G 0), .int .i64 (G 1), .int .i64 (G 2), .int .i64 (G 3), .int .i64 (G 4), .int .i64 (G 5), .int .i64 (G 6), .int .i64 (G 7), .int .i64 (G 8), .int .i64 (G 9), .int .i64 (G 10)] 31)
  have hS := hS.go hst
  clear hst
  have c0 := hS.c0
  have c1 := hS.c1
  have HX := (by have h := zOffset_calls o A lr cr g t _ hS.2.1 hS.2.2.1; rw [HQ.out.1, HQ.out.2.1] at h; exact h)
  try unfold zonC at HX
  replace HX := Lib.hid HX
  have HT := Lib.hid hS
  clear hS
  try clear hb
  go_wp2_with fail
  refine HX.out.mono ?_
  rintro e wa ⟨rfl, hb⟩
  have hS := HT.out.go hb
  clear HX HT c0 c1
  have HB := Lib.hid hS.2.2.2
  have hq := HQ.out.2.2.2.2
  clear hS hb HQ
  rcases hq with rfl | ⟨rfl, rfl, rfl⟩
  · go_wp2_with fail
    go_ret
    exact ⟨rfl, by first | exact HB.out | exact HB.out.drewN _⟩
  · go_wp2_with fail
    go_ret
    exact ⟨rfl, by first | exact HB.out | exact HB.out.drewN _⟩
theorem zonePlain_walk (v : Value) (x : ZX) (t : Int) (w : World) (hx : v = .agg #[.int .i64 x.1, .slice x.2.1 x.2.2.1 x.2.2.2.1] ∧ RdZ w x.2.1 x.2.2.1 x.2.2.2.1 x.2.2.2.2 ∧ (Lit.int .i64 x.1).wf = true) (ht0 : (Lit.int .i64 t).wf = true) (hL : Lens w) :
    Calls Tryd.prog 7 #[v, .int .i64 t] w fun e w' => e = .returned (.bool true) ∧ Below w.heap.size w w' := by
  obtain ⟨rfl, hR, -⟩ := hx
  by_cases hl : x.2.2.1 ≤ 50
  · by_cases hok : zonOk x.1 x.2.2.1 x.2.2.2.2
    · by_cases h1 : t < 200000
      · exact zp_low _ _ _ _ _ t w hR hl hok h1 hL
      · by_cases h2 : 137438953472 < t
        · exact zp_high _ _ _ _ _ t w hR hl hok h1 h2 hL
        · refine zp_good _ _ _ _ _ t w hR hl hok h1 h2 _ _ _ _ rfl rfl rfl rfl ?_ hL
          by_cases hi : OfIs x.1 x.2.2.1 x.2.2.2.2 (zD ((t + x.1) / 86400)).1
          · exact .inl (decide_eq_true hi)
          · have ho1 := hok.1
            have ho2 := hok.2.1
            have q := plain_off hok (t := t) (by unfold secOk; omega) hi
            exact .inr ⟨decide_eq_false hi, q.1, q.2⟩
    · exact zp_bad _ _ _ _ _ t w hR hl hok hL
  · exact zp_many _ _ _ _ _ t w hR (by omega) hL
end Go.Proofs.YtoipmhmghcngcaaDoor
