/-
  A moment's instant, walked: civil.Instant; the document's Clock. Conditions stand at each theorem.
-/
import Derived.Test.YtoipmhmghcngcaaDoorZoneLocal
namespace Go.Proofs.YtoipmhmghcngcaaDoor
open Go Go.RowKit Go.Kw Go.Kw.Cv Go.Shelf
set_option linter.unusedVariables false
set_option linter.unusedSimpArgs false

def clkOk (h i s : Int) : Prop := 0 ≤ h ∧ h ≤ 23 ∧ 0 ≤ i ∧ i ≤ 59 ∧ 0 ≤ s ∧ s ≤ 59
instance (h i s : Int) : Decidable (clkOk h i s) := by unfold clkOk; infer_instance
def instE (y m d h i s : Int) : Int := if okD y m d ∧ clkOk h i s then 0 else 60
def instV (y m d h i s : Int) : Int := if okD y m d ∧ clkOk h i s then dayN y m d * 86400 + (h * 3600 + i * 60 + s) else 0
theorem inst_ok {y m d h i s : Int} (h1 : okD y m d) (h2 : clkOk h i s) : instE y m d h i s = 0 ∧ instV y m d h i s = dayN y m d * 86400 + (h * 3600 + i * 60 + s) ∧ secOk (instV y m d h i s) := by
  have e : instV y m d h i s = dayN y m d * 86400 + (h * 3600 + i * 60 + s) := if_pos ⟨h1, h2⟩
  refine ⟨if_pos ⟨h1, h2⟩, e, ?_⟩
  rw [e]
  have hd := day_range h1
  unfold clkOk at h2
  unfold secOk
  omega
theorem inst_no {y m d h i s : Int} (h1 : ¬ (okD y m d ∧ clkOk h i s)) : instE y m d h i s = 60 ∧ instV y m d h i s = 0 := ⟨if_neg h1, if_neg h1⟩
/-- The moment of an instant is the one that it came from. -/
theorem inst_mom {y m d h i s : Int} (h1 : okD y m d) (h2 : clkOk h i s) : momV (instV y m d h i s) = .agg #[.int .i64 y, .int .i64 m, .int .i64 d, .int .i64 h, .int .i64 i, .int .i64 s] := by
  obtain ⟨-, e, -⟩ := inst_ok h1 h2
  unfold clkOk at h2
  have e1 : instV y m d h i s / 86400 = dayN y m d := by rw [e]; omega
  have e2 : instV y m d h i s % 86400 = h * 3600 + i * 60 + s := by rw [e]; omega
  unfold momV
  rw [e1, e2, zD_day h1, show (h * 3600 + i * 60 + s) / 3600 = h by omega, show (h * 3600 + i * 60 + s) / 60 % 60 = i by omega, show (h * 3600 + i * 60 + s) % 60 = s by omega]
/-- An instant is its moment's. -/
theorem mom_inst (t : Int) (ht : secOk t) : okD (zD (t / 86400)).1 (zD (t / 86400)).2.1 (zD (t / 86400)).2.2 ∧ clkOk (t % 86400 / 3600) (t % 86400 / 60 % 60) (t % 86400 % 60) ∧ instV (zD (t / 86400)).1 (zD (t / 86400)).2.1 (zD (t / 86400)).2.2 (t % 86400 / 3600) (t % 86400 / 60 % 60) (t % 86400 % 60) = t := by
  obtain ⟨h1, h2⟩ := zD_spec _ (sec_day ht)
  have hc : clkOk (t % 86400 / 3600) (t % 86400 / 60 % 60) (t % 86400 % 60) := by unfold clkOk; omega
  refine ⟨h1, hc, ?_⟩
  rw [(inst_ok h1 hc).2.1, h2]
  omega
set_option maxRecDepth 100000 in
set_option maxHeartbeats 16000000 in
theorem instant_calls (y m d h i s : Int) (w : World) (hL : Lens w) :
    Calls Tryd.prog 28 #[.agg #[.int .i64 y, .int .i64 m, .int .i64 d, .int .i64 h, .int .i64 i, .int .i64 s]] w fun e w' => e = .returned (.tuple #[.int .i64 (instV y m d h i s), .int .i64 (instE y m d h i s)]) ∧ Below w.heap.size w w' := by
  obtain ⟨b0, hb0⟩ : ∃ b0, w.heap.size = b0 := ⟨_, rfl⟩
  obtain ⟨W1, hW1⟩ : ∃ W1, w.alloc (.cells #[.int .i64 y, .int .i64 m, .int .i64 d, .int .i64 h, .int .i64 i, .int .i64 s] 44) = W1 := ⟨_, rfl⟩
  have hst : Below w.heap.size w W1 := hW1 ▸ bstep w _
  have hr : W1.heap[b0]? = some (.cells #[.int .i64 y, .int .i64 m, .int .i64 d, .int .i64 h, .int .i64 i, .int .i64 s] 44 (0, 0)) := by rw [← hb0, ← hW1]; exact World.alloc_heap_new w _
  have d0 := cell_of_row W1 b0 0 _ _ _ hr
  have d1 := cell_of_row W1 b0 1 _ _ _ hr
  have d2 := cell_of_row W1 b0 2 _ _ _ hr
  have HD := day_calls y m d W1 (hL.go hst)
  obtain ⟨E, hE⟩ : ∃ E, instE y m d h i s = E := ⟨_, rfl⟩
  obtain ⟨V, hV⟩ : ∃ V, instV y m d h i s = V := ⟨_, rfl⟩
  rw [hE, hV]
  by_cases hok : okD y m d
  · rw [show dayE y m d = dayN y m d from if_pos hok, chk_ok hok] at HD
    have hdr := day_range hok
    obtain ⟨D, hD⟩ : ∃ D, dayN y m d = D := ⟨_, rfl⟩
    rw [hD] at HD hdr
    replace HD := Lib.hid HD
    by_cases hx : h < 0
    · have k0 : decide (h < 0) = true := decide_eq_true hx
      have HEV := Lib.hid (show V = 0 ∧ E = 60 from ⟨by rw [← hV]; exact (inst_no (fun q => by have q2 := q.2; unfold clkOk at q2; omega)).2, by rw [← hE]; exact (inst_no (fun q => by have q2 := q.2; unfold clkOk at q2; omega)).1⟩)
      clear hx hE hV hD hdr hok hL
      go_enter Tryd.func28, Tryd.ntmps28
      go_wp2_with fail
      refine HD.out.mono ?_
      rintro e w2 ⟨rfl, hb⟩
      have hr2 := blk_below hr hb
      have p3 := cell_of_row w2 b0 3 _ _ _ hr2
      have p4 := cell_of_row w2 b0 4 _ _ _ hr2
      have p5 := cell_of_row w2 b0 5 _ _ _ hr2
      have hbb := bnext hst hb
      clear hr2 hb hr hst hW1 d0 d1 d2
      go_wp2_with fail
      go_ret2
      exact ⟨by rw [HEV.out.1, HEV.out.2] <;> rfl, hbb⟩
    have k0 : decide (h < 0) = false := decide_eq_false hx
    have r0 : 0 ≤ h := by omega
    clear hx
    by_cases hx : h > 23
    · have k1 : decide (h > 23) = true := decide_eq_true hx
      have HEV := Lib.hid (show V = 0 ∧ E = 60 from ⟨by rw [← hV]; exact (inst_no (fun q => by have q2 := q.2; unfold clkOk at q2; omega)).2, by rw [← hE]; exact (inst_no (fun q => by have q2 := q.2; unfold clkOk at q2; omega)).1⟩)
      clear hx hE hV hD hdr hok hL r0
      go_enter Tryd.func28, Tryd.ntmps28
      go_wp2_with fail
      refine HD.out.mono ?_
      rintro e w2 ⟨rfl, hb⟩
      have hr2 := blk_below hr hb
      have p3 := cell_of_row w2 b0 3 _ _ _ hr2
      have p4 := cell_of_row w2 b0 4 _ _ _ hr2
      have p5 := cell_of_row w2 b0 5 _ _ _ hr2
      have hbb := bnext hst hb
      clear hr2 hb hr hst hW1 d0 d1 d2
      go_wp2_with fail
      go_ret2
      exact ⟨by rw [HEV.out.1, HEV.out.2] <;> rfl, hbb⟩
    have k1 : decide (h > 23) = false := decide_eq_false hx
    have r1 : h ≤ 23 := by omega
    clear hx
    by_cases hx : i < 0
    · have k2 : decide (i < 0) = true := decide_eq_true hx
      have HEV := Lib.hid (show V = 0 ∧ E = 60 from ⟨by rw [← hV]; exact (inst_no (fun q => by have q2 := q.2; unfold clkOk at q2; omega)).2, by rw [← hE]; exact (inst_no (fun q => by have q2 := q.2; unfold clkOk at q2; omega)).1⟩)
      clear hx hE hV hD hdr hok hL r0 r1
      go_enter Tryd.func28, Tryd.ntmps28
      go_wp2_with fail
      refine HD.out.mono ?_
      rintro e w2 ⟨rfl, hb⟩
      have hr2 := blk_below hr hb
      have p3 := cell_of_row w2 b0 3 _ _ _ hr2
      have p4 := cell_of_row w2 b0 4 _ _ _ hr2
      have p5 := cell_of_row w2 b0 5 _ _ _ hr2
      have hbb := bnext hst hb
      clear hr2 hb hr hst hW1 d0 d1 d2
      go_wp2_with fail
      go_ret2
      exact ⟨by rw [HEV.out.1, HEV.out.2] <;> rfl, hbb⟩
    have k2 : decide (i < 0) = false := decide_eq_false hx
    have r2 : 0 ≤ i := by omega
    clear hx
    by_cases hx : i > 59
    · have k3 : decide (i > 59) = true := decide_eq_true hx
      have HEV := Lib.hid (show V = 0 ∧ E = 60 from ⟨by rw [← hV]; exact (inst_no (fun q => by have q2 := q.2; unfold clkOk at q2; omega)).2, by rw [← hE]; exact (inst_no (fun q => by have q2 := q.2; unfold clkOk at q2; omega)).1⟩)
      clear hx hE hV hD hdr hok hL r0 r1 r2
      go_enter Tryd.func28, Tryd.ntmps28
      go_wp2_with fail
      refine HD.out.mono ?_
      rintro e w2 ⟨rfl, hb⟩
      have hr2 := blk_below hr hb
      have p3 := cell_of_row w2 b0 3 _ _ _ hr2
      have p4 := cell_of_row w2 b0 4 _ _ _ hr2
      have p5 := cell_of_row w2 b0 5 _ _ _ hr2
      have hbb := bnext hst hb
      clear hr2 hb hr hst hW1 d0 d1 d2
      go_wp2_with fail
      go_ret2
      exact ⟨by rw [HEV.out.1, HEV.out.2] <;> rfl, hbb⟩
    have k3 : decide (i > 59) = false := decide_eq_false hx
    have r3 : i ≤ 59 := by omega
    clear hx
    by_cases hx : s < 0
    · have k4 : decide (s < 0) = true := decide_eq_true hx
      have HEV := Lib.hid (show V = 0 ∧ E = 60 from ⟨by rw [← hV]; exact (inst_no (fun q => by have q2 := q.2; unfold clkOk at q2; omega)).2, by rw [← hE]; exact (inst_no (fun q => by have q2 := q.2; unfold clkOk at q2; omega)).1⟩)
      clear hx hE hV hD hdr hok hL r0 r1 r2 r3
      go_enter Tryd.func28, Tryd.ntmps28
      go_wp2_with fail
      refine HD.out.mono ?_
      rintro e w2 ⟨rfl, hb⟩
      have hr2 := blk_below hr hb
      have p3 := cell_of_row w2 b0 3 _ _ _ hr2
      have p4 := cell_of_row w2 b0 4 _ _ _ hr2
      have p5 := cell_of_row w2 b0 5 _ _ _ hr2
      have hbb := bnext hst hb
      clear hr2 hb hr hst hW1 d0 d1 d2
      go_wp2_with fail
      go_ret2
      exact ⟨by rw [HEV.out.1, HEV.out.2] <;> rfl, hbb⟩
    have k4 : decide (s < 0) = false := decide_eq_false hx
    have r4 : 0 ≤ s := by omega
    clear hx
    by_cases hx : s > 59
    · have k5 : decide (s > 59) = true := decide_eq_true hx
      have HEV := Lib.hid (show V = 0 ∧ E = 60 from ⟨by rw [← hV]; exact (inst_no (fun q => by have q2 := q.2; unfold clkOk at q2; omega)).2, by rw [← hE]; exact (inst_no (fun q => by have q2 := q.2; unfold clkOk at q2; omega)).1⟩)
      clear hx hE hV hD hdr hok hL r0 r1 r2 r3 r4
      go_enter Tryd.func28, Tryd.ntmps28
      go_wp2_with fail
      refine HD.out.mono ?_
      rintro e w2 ⟨rfl, hb⟩
      have hr2 := blk_below hr hb
      have p3 := cell_of_row w2 b0 3 _ _ _ hr2
      have p4 := cell_of_row w2 b0 4 _ _ _ hr2
      have p5 := cell_of_row w2 b0 5 _ _ _ hr2
      have hbb := bnext hst hb
      clear hr2 hb hr hst hW1 d0 d1 d2
      go_wp2_with fail
      go_ret2
      exact ⟨by rw [HEV.out.1, HEV.out.2] <;> rfl, hbb⟩
    have k5 : decide (s > 59) = false := decide_eq_false hx
    have r5 : s ≤ 59 := by omega
    clear hx
    have hc : clkOk h i s := ⟨r0, r1, r2, r3, r4, r5⟩
    have HEV := Lib.hid (show V = D * 86400 + (h * 3600 + i * 60 + s) ∧ E = 0 from ⟨by rw [← hV, (inst_ok hok hc).2.1, hD], by rw [← hE]; exact (inst_ok hok hc).1⟩)
    have b1 : -9223372036854775808 ≤ D * 86400 ∧ D * 86400 ≤ 9223372036854775807 := by omega
    have b2 : -9223372036854775808 ≤ h * 3600 ∧ h * 3600 ≤ 9223372036854775807 := by omega
    have b3 : -9223372036854775808 ≤ i * 60 ∧ i * 60 ≤ 9223372036854775807 := by omega
    have b4 : -9223372036854775808 ≤ h * 3600 + i * 60 ∧ h * 3600 + i * 60 ≤ 9223372036854775807 := by omega
    have b5 : -9223372036854775808 ≤ h * 3600 + i * 60 + s ∧ h * 3600 + i * 60 + s ≤ 9223372036854775807 := by omega
    have b6 : -9223372036854775808 ≤ D * 86400 + (h * 3600 + i * 60 + s) ∧ D * 86400 + (h * 3600 + i * 60 + s) ≤ 9223372036854775807 := by omega
    have a1 := i64_same _ b1
    have a2 := i64_same _ b2
    have a3 := i64_same _ b3
    have a4 := i64_same _ b4
    have a5 := i64_same _ b5
    have a6 := i64_same _ b6
    have XX := Lib.hid (And.intro (wrap64_in _ b1) (And.intro (wrap64_in _ b2) (And.intro (wrap64_in _ b3) (And.intro (wrap64_in _ b4) (And.intro (wrap64_in _ b5) (wrap64_in _ b6))))))
    clear b1 b2 b3 b4 b5 b6 hc r0 r1 r2 r3 r4 r5 hE hV hD hdr hok hL
    go_enter Tryd.func28, Tryd.ntmps28
    go_wp2_with fail
    refine HD.out.mono ?_
    rintro e w2 ⟨rfl, hb⟩
    have hr2 := blk_below hr hb
    have p3 := cell_of_row w2 b0 3 _ _ _ hr2
    have p4 := cell_of_row w2 b0 4 _ _ _ hr2
    have p5 := cell_of_row w2 b0 5 _ _ _ hr2
    have hbb := bnext hst hb
    clear hr2 hb hr hst hW1 d0 d1 d2
    have x1 := XX.out.1
    have x2 := XX.out.2.1
    have x3 := XX.out.2.2.1
    have x4 := XX.out.2.2.2.1
    have x5 := XX.out.2.2.2.2.1
    have x6 := XX.out.2.2.2.2.2
    go_wp2_with fail
    clear x1 x2 x3 x4 x5 x6
    go_ret2
    exact ⟨by rw [HEV.out.1, HEV.out.2] <;> rfl, hbb⟩
  · rw [show dayE y m d = 0 from if_neg hok, chk_no hok] at HD
    replace HD := Lib.hid HD
    have HEV := Lib.hid (show V = 0 ∧ E = 60 from ⟨by rw [← hV]; exact (inst_no (fun q => hok q.1)).2, by rw [← hE]; exact (inst_no (fun q => hok q.1)).1⟩)
    clear hok hE hV hL
    go_enter Tryd.func28, Tryd.ntmps28
    go_wp2_with fail
    refine HD.out.mono ?_
    rintro e w2 ⟨rfl, hb⟩
    have hr2 := blk_below hr hb
    have p3 := cell_of_row w2 b0 3 _ _ _ hr2
    have p4 := cell_of_row w2 b0 4 _ _ _ hr2
    have p5 := cell_of_row w2 b0 5 _ _ _ hr2
    have hbb := bnext hst hb
    clear hr2 hb hr hst hW1 d0 d1 d2
    go_wp2_with fail
    go_ret2
    exact ⟨by rw [HEV.out.1, HEV.out.2] <;> rfl, hbb⟩
set_option maxRecDepth 100000 in
set_option maxHeartbeats 8000000 in
theorem refClock_calls (h i s : Int) (w : World) : Calls Tryd.prog 22 #[.int .i64 h, .int .i64 i, .int .i64 s] w fun e w' => e = .returned (.bool (decide (clkOk h i s))) ∧ w' = w := by
  obtain ⟨V, hV⟩ : ∃ V, decide (clkOk h i s) = V := ⟨_, rfl⟩
  have HV := Lib.hid (show V = true ↔ clkOk h i s by rw [← hV, decide_eq_true_eq])
  rw [hV]
  clear hV
  by_cases hx : h ≥ 0
  case neg =>
    have k0 : decide (h ≥ 0) = false := decide_eq_false hx
    obtain rfl : V = false := Bool.eq_false_iff.2 (fun q => by have q2 := HV.out.1 q; unfold clkOk at q2; omega)
    clear hx HV
    go_enter Tryd.func22, Tryd.ntmps22
    go_wp2_with fail
    go_ret
    exact ⟨rfl, rfl⟩
  have k0 : decide (h ≥ 0) = true := decide_eq_true hx
  have r0 : 0 ≤ h := by omega
  clear hx
  by_cases hx : h < 24
  case neg =>
    have k1 : decide (h < 24) = false := decide_eq_false hx
    obtain rfl : V = false := Bool.eq_false_iff.2 (fun q => by have q2 := HV.out.1 q; unfold clkOk at q2; omega)
    clear hx HV r0
    go_enter Tryd.func22, Tryd.ntmps22
    go_wp2_with fail
    go_ret
    exact ⟨rfl, rfl⟩
  have k1 : decide (h < 24) = true := decide_eq_true hx
  have r1 : h ≤ 23 := by omega
  clear hx
  by_cases hx : i ≥ 0
  case neg =>
    have k2 : decide (i ≥ 0) = false := decide_eq_false hx
    obtain rfl : V = false := Bool.eq_false_iff.2 (fun q => by have q2 := HV.out.1 q; unfold clkOk at q2; omega)
    clear hx HV r0 r1
    go_enter Tryd.func22, Tryd.ntmps22
    go_wp2_with fail
    go_ret
    exact ⟨rfl, rfl⟩
  have k2 : decide (i ≥ 0) = true := decide_eq_true hx
  have r2 : 0 ≤ i := by omega
  clear hx
  by_cases hx : i < 60
  case neg =>
    have k3 : decide (i < 60) = false := decide_eq_false hx
    obtain rfl : V = false := Bool.eq_false_iff.2 (fun q => by have q2 := HV.out.1 q; unfold clkOk at q2; omega)
    clear hx HV r0 r1 r2
    go_enter Tryd.func22, Tryd.ntmps22
    go_wp2_with fail
    go_ret
    exact ⟨rfl, rfl⟩
  have k3 : decide (i < 60) = true := decide_eq_true hx
  have r3 : i ≤ 59 := by omega
  clear hx
  by_cases hx : s ≥ 0
  case neg =>
    have k4 : decide (s ≥ 0) = false := decide_eq_false hx
    obtain rfl : V = false := Bool.eq_false_iff.2 (fun q => by have q2 := HV.out.1 q; unfold clkOk at q2; omega)
    clear hx HV r0 r1 r2 r3
    go_enter Tryd.func22, Tryd.ntmps22
    go_wp2_with fail
    go_ret
    exact ⟨rfl, rfl⟩
  have k4 : decide (s ≥ 0) = true := decide_eq_true hx
  have r4 : 0 ≤ s := by omega
  clear hx
  by_cases hx : s < 60
  case neg =>
    have k5 : decide (s < 60) = false := decide_eq_false hx
    obtain rfl : V = false := Bool.eq_false_iff.2 (fun q => by have q2 := HV.out.1 q; unfold clkOk at q2; omega)
    clear hx HV r0 r1 r2 r3 r4
    go_enter Tryd.func22, Tryd.ntmps22
    go_wp2_with fail
    go_ret
    exact ⟨rfl, rfl⟩
  have k5 : decide (s < 60) = true := decide_eq_true hx
  have r5 : s ≤ 59 := by omega
  clear hx
  obtain rfl : V = true := HV.out.2 ⟨r0, r1, r2, r3, r4, r5⟩
  clear HV r0 r1 r2 r3 r4 r5
  go_enter Tryd.func22, Tryd.ntmps22
  go_wp2_with fail
  go_ret
  exact ⟨rfl, rfl⟩
end Go.Proofs.YtoipmhmghcngcaaDoor
