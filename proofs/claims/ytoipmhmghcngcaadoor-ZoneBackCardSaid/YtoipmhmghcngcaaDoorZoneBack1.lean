/-
  The law ZoneBack: what its cases share; too many rules, no zone, an instant that may not be. Conditions stand at each theorem.
-/
import Derived.Test.YtoipmhmghcngcaaDoorZoneInsts
import Derived.Test.YtoipmhmghcngcaaDoorZoneEdges1
import Derived.Deep.RegionHeld3
namespace Go.Proofs.YtoipmhmghcngcaaDoor
open Go Go.RowKit Go.Kw Go.Kw.Cv Go.Shelf
set_option linter.unusedVariables false
set_option linter.unusedSimpArgs false
attribute [local go_sem] eq_mom
theorem mem_take {L : List Int} {k : Nat} {t : Int} (h : k < L.length) : t ∈ L.take (k + 1) ↔ (t ∈ L.take k ∨ L.getD k 0 = t) := by
  rw [List.take_add_one, List.getElem?_eq_getElem h, List.mem_append, List.getD_eq_getElem?_getD, List.getElem?_eq_getElem h]
  show _ ∨ t ∈ [L[k]] ↔ _ ∨ L[k] = t
  rw [List.mem_singleton]
  exact ⟨fun q => q.imp id Eq.symm, fun q => q.imp id Eq.symm⟩
theorem meas_zz (n p : Nat) (h : p + 1 + 1 ≤ n) : n - (intOf (Value.int .i64 ((p : Int) + 1 + 1))).toNat < n - (intOf (Value.int .i64 ((p : Int) + 1))).toNat := by
  show n - ((p : Int) + 1 + 1).toNat < n - ((p : Int) + 1).toNat
  omega
theorem strict_at {L : List Int} (hp : L.Pairwise (· < ·)) {p : Nat} (h : p + 1 < L.length) : L.getD p 0 < L.getD (p + 1) 0 := by
  have := List.pairwise_iff_getElem.1 hp p (p + 1) (by omega) h (by omega)
  simp [h, show p < L.length by omega]
  exact this
theorem inst_len (o : Int) (lr : Nat) (g : Nat → Nat → Int) (x : Int) : (instL o lr g x).length ≤ lr + 1 := by
  unfold instL outRaw
  rw [List.length_mergeSort, List.length_map]
  exact Nat.le_trans (List.length_filter_le _ _) (exL_len g lr)
set_option maxRecDepth 100000 in
set_option maxHeartbeats 32000000 in
theorem zb_many (o : Int) (A : Option Addr) (lr cr : Nat) (g : Nat → Nat → Int) (t y m d h i s : Int) (w : World) (hR : RdZ w A lr cr g) (hl : 100 < lr) (hL : Lens w) :
    Calls Tryd.prog 6 #[.agg #[.int .i64 o, .slice A lr cr], .int .i64 t, .agg #[.int .i64 y, .int .i64 m, .int .i64 d, .int .i64 h, .int .i64 i, .int .i64 s]] w fun e w' => e = .returned (.bool true) ∧ Below w.heap.size w w' := by
  obtain ⟨b0, hb0⟩ : ∃ b0, w.heap.size = b0 := ⟨_, rfl⟩
  have Hb0 := Lib.hid hb0
  have hS : StM b0 w o A lr cr g y m d h i s ((w.alloc (.cells #[.int .i64 o, .slice A lr cr] 24)).alloc (.cells #[.int .i64 y, .int .i64 m, .int .i64 d, .int .i64 h, .int .i64 i, .int .i64 s] 44)) := hb0 ▸ StM.new hR hL
  obtain ⟨W0, hW0⟩ : ∃ W0, w.alloc (.cells #[.int .i64 o, .slice A lr cr] 24) = W0 := ⟨_, rfl⟩
  have hsz0 : W0.heap.size = b0 + 1 := by rw [← hW0, ← hb0]; simp
  rw [hW0] at hS
  obtain ⟨W1, hW1⟩ : ∃ W1, W0.alloc (.cells #[.int .i64 y, .int .i64 m, .int .i64 d, .int .i64 h, .int .i64 i, .int .i64 s] 44) = W1 := ⟨_, rfl⟩
  rw [hW1] at hS
  have kl : decide ((lr : Int) > 100) = true := decide_eq_true (by omega)
  clear hR hL hl
  go_enter Tryd.func6, Tryd.ntmps6
  have c0 := hS.1.c0
  have c1 := hS.1.c1
  have m0 := hS.m0
  have m1 := hS.m1
  have m2 := hS.m2
  have m3 := hS.m3
  have m4 := hS.m4
  have m5 := hS.m5
  have HX := (by have h := alive_calls W1 hS.1.2.2.1; exact h)
  try unfold zonC at HX
  replace HX := Lib.hid HX
  have HT := Lib.hid hS
  clear hS
  try clear hb
  go_wp2_with fail
  refine HX.out.mono ?_
  rintro e w2 ⟨rfl, hb⟩
  have hS := HT.out.go hb
  clear HX HT c0 c1 m0 m1 m2 m3 m4 m5
  have c0 := hS.1.c0
  have c1 := hS.1.c1
  have m0 := hS.m0
  have m1 := hS.m1
  have m2 := hS.m2
  have m3 := hS.m3
  have m4 := hS.m4
  have m5 := hS.m5
  have HB := Lib.hid hS.1.2.2.2
  clear hS
  try clear hb
  go_wp2_with fail
  go_ret
  exact ⟨rfl, by first | exact HB.out | exact HB.out.drewN _⟩
set_option maxRecDepth 100000 in
set_option maxHeartbeats 32000000 in
theorem zb_nozone (o : Int) (A : Option Addr) (lr cr : Nat) (g : Nat → Nat → Int) (t y m d h i s : Int) (w : World) (hR : RdZ w A lr cr g) (hl : lr ≤ 100) (hn : ¬ zonOk o lr g) (hL : Lens w) :
    Calls Tryd.prog 6 #[.agg #[.int .i64 o, .slice A lr cr], .int .i64 t, .agg #[.int .i64 y, .int .i64 m, .int .i64 d, .int .i64 h, .int .i64 i, .int .i64 s]] w fun e w' => e = .returned (.bool true) ∧ Below w.heap.size w w' := by
  obtain ⟨b0, hb0⟩ : ∃ b0, w.heap.size = b0 := ⟨_, rfl⟩
  have Hb0 := Lib.hid hb0
  have hS : StM b0 w o A lr cr g y m d h i s ((w.alloc (.cells #[.int .i64 o, .slice A lr cr] 24)).alloc (.cells #[.int .i64 y, .int .i64 m, .int .i64 d, .int .i64 h, .int .i64 i, .int .i64 s] 44)) := hb0 ▸ StM.new hR hL
  obtain ⟨W0, hW0⟩ : ∃ W0, w.alloc (.cells #[.int .i64 o, .slice A lr cr] 24) = W0 := ⟨_, rfl⟩
  have hsz0 : W0.heap.size = b0 + 1 := by rw [← hW0, ← hb0]; simp
  rw [hW0] at hS
  obtain ⟨W1, hW1⟩ : ∃ W1, W0.alloc (.cells #[.int .i64 y, .int .i64 m, .int .i64 d, .int .i64 h, .int .i64 i, .int .i64 s] 44) = W1 := ⟨_, rfl⟩
  rw [hW1] at hS
  have kl : decide ((lr : Int) > 100) = false := decide_eq_false (by omega)
  have e1 : offE o lr g t = 70 := if_neg hn
  have Hv := Lib.hid (show locV o lr g t = mom0 ∧ locS o lr g t = false ∧ offE o lr g t = 70 from ⟨if_neg (by rw [e1]; decide), if_neg (by rw [e1]; decide), e1⟩)
  have Hn := Lib.hid hn
  clear hR hL hl hn e1
  go_enter Tryd.func6, Tryd.ntmps6
  have c0 := hS.1.c0
  have c1 := hS.1.c1
  have m0 := hS.m0
  have m1 := hS.m1
  have m2 := hS.m2
  have m3 := hS.m3
  have m4 := hS.m4
  have m5 := hS.m5
  have HX := (by have h := alive_calls W1 hS.1.2.2.1; exact h)
  try unfold zonC at HX
  replace HX := Lib.hid HX
  have HT := Lib.hid hS
  clear hS
  try clear hb
  go_wp2_with fail
  refine HX.out.mono ?_
  rintro e w2 ⟨rfl, hb⟩
  have hS := HT.out.go hb
  clear HX HT c0 c1 m0 m1 m2 m3 m4 m5
  have c0 := hS.1.c0
  have c1 := hS.1.c1
  have m0 := hS.m0
  have m1 := hS.m1
  have m2 := hS.m2
  have m3 := hS.m3
  have m4 := hS.m4
  have m5 := hS.m5
  have HX := (by have h := zLocal_calls o A lr cr g t w2 hS.1.2.1 hS.1.2.2.1; rw [Hv.out.1, Hv.out.2.1, Hv.out.2.2] at h; unfold mom0 at h; exact h)
  try unfold zonC at HX
  replace HX := Lib.hid HX
  have HT := Lib.hid hS
  clear hS
  try clear hb
  go_wp2_with fail
  refine HX.out.mono ?_
  rintro e w3 ⟨rfl, hb⟩
  have hS := HT.out.go hb
  clear HX HT c0 c1 m0 m1 m2 m3 m4 m5
  have hst := bstep w3 (.cells #[.int .i64 0, .int .i64 0, .int .i64 0, .int .i64 0, .int .i64 0, .int .i64 0] 44)
  have hS := hS.go hst
  clear hst
  have c0 := hS.1.c0
  have c1 := hS.1.c1
  have m0 := hS.m0
  have m1 := hS.m1
  have m2 := hS.m2
  have m3 := hS.m3
  have m4 := hS.m4
  have m5 := hS.m5
  have HX := (by have h := insts_nozone o A lr cr g y m d h i s Hn.out _ hS.1.2.1; exact h)
  try unfold zonC at HX
  replace HX := Lib.hid HX
  have HT := Lib.hid hS
  clear hS
  try clear hb
  go_wp2_with fail
  refine HX.out.mono ?_
  rintro e w4 ⟨rfl, hb⟩
  have hS := HT.out.go hb
  clear HX HT c0 c1 m0 m1 m2 m3 m4 m5
  go_wp2_with fail
  go_loopw [17] (fun i wr => i = .int .i64 0 ∧ wr = w4) (fun _ _ => 0)
  case atStart => exact ⟨rfl, rfl⟩
  case round =>
    obtain ⟨rfl, rfl⟩ := hrel
    have HB := Lib.hid hS.1.2.2.2
    clear hS
    go_wp2_with fail
    go_ret
    exact ⟨rfl, by first | exact HB.out | exact HB.out.drewN _ | (rw [← Hb0.out]; exact HB.out) | (rw [← Hb0.out]; exact HB.out.drewN _)⟩
set_option maxRecDepth 100000 in
set_option maxHeartbeats 32000000 in
theorem zb_nx (o : Int) (A : Option Addr) (lr cr : Nat) (g : Nat → Nat → Int) (t y m d h i s : Int) (w : World) (hR : RdZ w A lr cr g) (hl : lr ≤ 100) (hok : zonOk o lr g) (he : offE o lr g t ≠ 0) (hm : ¬ (okD y m d ∧ clkOk h i s)) (hL : Lens w) :
    Calls Tryd.prog 6 #[.agg #[.int .i64 o, .slice A lr cr], .int .i64 t, .agg #[.int .i64 y, .int .i64 m, .int .i64 d, .int .i64 h, .int .i64 i, .int .i64 s]] w fun e w' => e = .returned (.bool true) ∧ Below w.heap.size w w' := by
  obtain ⟨b0, hb0⟩ : ∃ b0, w.heap.size = b0 := ⟨_, rfl⟩
  have Hb0 := Lib.hid hb0
  have hS : StM b0 w o A lr cr g y m d h i s ((w.alloc (.cells #[.int .i64 o, .slice A lr cr] 24)).alloc (.cells #[.int .i64 y, .int .i64 m, .int .i64 d, .int .i64 h, .int .i64 i, .int .i64 s] 44)) := hb0 ▸ StM.new hR hL
  obtain ⟨W0, hW0⟩ : ∃ W0, w.alloc (.cells #[.int .i64 o, .slice A lr cr] 24) = W0 := ⟨_, rfl⟩
  have hsz0 : W0.heap.size = b0 + 1 := by rw [← hW0, ← hb0]; simp
  rw [hW0] at hS
  obtain ⟨W1, hW1⟩ : ∃ W1, W0.alloc (.cells #[.int .i64 y, .int .i64 m, .int .i64 d, .int .i64 h, .int .i64 i, .int .i64 s] 44) = W1 := ⟨_, rfl⟩
  rw [hW1] at hS
  have kl : decide ((lr : Int) > 100) = false := decide_eq_false (by omega)
  have Hm := Lib.hid hm
  have Hok := Lib.hid hok
  have e60 := offE_cases o lr g t
  have Hv := Lib.hid (show locV o lr g t = mom0 ∧ locS o lr g t = false from ⟨if_neg he, if_neg he⟩)
  obtain ⟨E, hE⟩ : ∃ E, offE o lr g t = E := ⟨_, rfl⟩
  have HE := Lib.hid hE
  have kE : (E == 0) = false := beq_eq_false_iff_ne.2 (by rw [← hE]; exact he)
  clear hR hL hl hok he e60 hE hm
  go_enter Tryd.func6, Tryd.ntmps6
  have c0 := hS.1.c0
  have c1 := hS.1.c1
  have m0 := hS.m0
  have m1 := hS.m1
  have m2 := hS.m2
  have m3 := hS.m3
  have m4 := hS.m4
  have m5 := hS.m5
  have HX := (by have h := alive_calls W1 hS.1.2.2.1; exact h)
  try unfold zonC at HX
  replace HX := Lib.hid HX
  have HT := Lib.hid hS
  clear hS
  try clear hb
  go_wp2_with fail
  refine HX.out.mono ?_
  rintro e w2 ⟨rfl, hb⟩
  have hS := HT.out.go hb
  clear HX HT c0 c1 m0 m1 m2 m3 m4 m5
  have c0 := hS.1.c0
  have c1 := hS.1.c1
  have m0 := hS.m0
  have m1 := hS.m1
  have m2 := hS.m2
  have m3 := hS.m3
  have m4 := hS.m4
  have m5 := hS.m5
  have HX := (by have h := zLocal_calls o A lr cr g t w2 hS.1.2.1 hS.1.2.2.1; rw [Hv.out.1, Hv.out.2, HE.out] at h; unfold mom0 at h; exact h)
  try unfold zonC at HX
  replace HX := Lib.hid HX
  have HT := Lib.hid hS
  clear hS
  try clear hb
  go_wp2_with fail
  refine HX.out.mono ?_
  rintro e w3 ⟨rfl, hb⟩
  have hS := HT.out.go hb
  clear HX HT c0 c1 m0 m1 m2 m3 m4 m5
  have hst := bstep w3 (.cells #[.int .i64 0, .int .i64 0, .int .i64 0, .int .i64 0, .int .i64 0, .int .i64 0] 44)
  have hS := hS.go hst
  clear hst
  have c0 := hS.1.c0
  have c1 := hS.1.c1
  have m0 := hS.m0
  have m1 := hS.m1
  have m2 := hS.m2
  have m3 := hS.m3
  have m4 := hS.m4
  have m5 := hS.m5
  have HX := (by have h := insts_nomom o A lr cr g y m d h i s Hok.out Hm.out _ hS.1.2.1 hS.1.2.2.1; exact h)
  try unfold zonC at HX
  replace HX := Lib.hid HX
  have HT := Lib.hid hS
  clear hS
  try clear hb
  go_wp2_with fail
  refine HX.out.mono ?_
  rintro e wb ⟨rfl, hb⟩
  have hS := HT.out.go hb
  clear HX HT c0 c1 m0 m1 m2 m3 m4 m5
  go_wp2_with fail
  go_loopw [17] (fun i wr => i = .int .i64 0 ∧ wr = wb) (fun _ _ => 0)
  case atStart => exact ⟨rfl, rfl⟩
  case round =>
    obtain ⟨rfl, rfl⟩ := hrel
    have HB := Lib.hid hS.1.2.2.2
    clear hS
    go_wp2_with fail
    go_ret
    exact ⟨rfl, by first | exact HB.out | exact HB.out.drewN _ | (rw [← Hb0.out]; exact HB.out) | (rw [← Hb0.out]; exact HB.out.drewN _)⟩
end Go.Proofs.YtoipmhmghcngcaaDoor
