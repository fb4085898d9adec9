/-
  DaysLists: the walk of the law, case by case. Conditions stand at each theorem. (Printed by gen_dlists.py.)
-/
import Derived.Test.YthmgngmhnjeegaaDoorListNo
namespace Go.Proofs.YthmgngmhnjeegaaDoor
open Go Go.RowKit Go.Kw Go.Kw.Cv
set_option linter.unusedVariables false
set_option linter.unusedSimpArgs false

set_option maxRecDepth 1000000 in
set_option maxHeartbeats 16000000 in
theorem lists_many (A : Option Addr) (la ca : Nat) (gh : Nat → Nat → Int) (B : Option Addr) (lb cb : Nat) (gs : Nat → Nat → Int) (y n kind : Int) (w : World) (hR : RdCal w A la ca gh B lb cb gs) (hL : Lens w) (h20 : la > 20) :
    Calls Tryd.prog 8 #[calC A la ca B lb cb, .int .i64 y, .int .i64 n, .int .i64 kind] w fun e w' => e = .returned (.bool true) ∧ Below w.heap.size w w' := by
  have hS := St.new hR hL
  obtain ⟨b0, hb0⟩ : ∃ b0, w.heap.size = b0 := ⟨_, rfl⟩
  have Hb0 := Lib.hid hb0
  rw [show St w.heap.size w A la ca gh B lb cb gs = St b0 w A la ca gh B lb cb gs by rw [hb0]] at hS
  have c0 := hS.c0
  have c1 := hS.c1
  unfold calC
  clear hR hL
  have k1 : decide ((la : Int) > 20) = true := decide_eq_true (by omega)
  clear h20
  have HB := Lib.hid hS.2.2.2
  clear hS
  go_enter Tryd.func8, Tryd.ntmps8
  go_wp2_with fail
  go_ret
  exact ⟨rfl, by first | exact HB.out | (rw [Hb0.out]; exact HB.out) | (rw [← Hb0.out]; exact HB.out)⟩
set_option maxRecDepth 1000000 in
set_option maxHeartbeats 16000000 in
theorem lists_seasons (A : Option Addr) (la ca : Nat) (gh : Nat → Nat → Int) (B : Option Addr) (lb cb : Nat) (gs : Nat → Nat → Int) (y n kind : Int) (w : World) (hR : RdCal w A la ca gh B lb cb gs) (hL : Lens w) (h20 : ¬ la > 20) (h30 : lb > 30) :
    Calls Tryd.prog 8 #[calC A la ca B lb cb, .int .i64 y, .int .i64 n, .int .i64 kind] w fun e w' => e = .returned (.bool true) ∧ Below w.heap.size w w' := by
  have hS := St.new hR hL
  obtain ⟨b0, hb0⟩ : ∃ b0, w.heap.size = b0 := ⟨_, rfl⟩
  have Hb0 := Lib.hid hb0
  rw [show St w.heap.size w A la ca gh B lb cb gs = St b0 w A la ca gh B lb cb gs by rw [hb0]] at hS
  have c0 := hS.c0
  have c1 := hS.c1
  unfold calC
  clear hR hL
  have k1 : decide ((la : Int) > 20) = false := decide_eq_false (by omega)
  have HX := (great_calls A la ca B lb cb true (by constructor <;> intro h <;> first | omega | rfl | exact absurd h Bool.false_ne_true) (w.alloc (.cells #[.slice A la ca, .slice B lb cb] 35)))
  unfold calC at HX
  replace HX := Lib.hid HX
  have HT := Lib.hid hS
  clear hS h20 h30
  go_enter Tryd.func8, Tryd.ntmps8
  go_wp2_with fail
  refine HX.out.mono ?_
  rintro e w1 ⟨rfl, hb⟩
  have hS := HT.out.go hb
  clear HX HT c0 c1 hb
  have HB := Lib.hid hS.2.2.2
  clear hS
  go_wp2_with fail
  go_ret
  exact ⟨rfl, by first | exact HB.out | (rw [Hb0.out]; exact HB.out) | (rw [← Hb0.out]; exact HB.out)⟩
set_option maxRecDepth 1000000 in
set_option maxHeartbeats 16000000 in
theorem lists_badyear (A : Option Addr) (la ca : Nat) (gh : Nat → Nat → Int) (B : Option Addr) (lb cb : Nat) (gs : Nat → Nat → Int) (y n kind : Int) (w : World) (hR : RdCal w A la ca gh B lb cb gs) (hL : Lens w) (h20 : ¬ la > 20) (h30 : ¬ lb > 30) (hcal : calOk la gh lb gs) (hy : ¬ (1970 ≤ y ∧ y ≤ 9999)) :
    Calls Tryd.prog 8 #[calC A la ca B lb cb, .int .i64 y, .int .i64 n, .int .i64 kind] w fun e w' => e = .returned (.bool true) ∧ Below w.heap.size w w' := by
  have hS := St.new hR hL
  obtain ⟨b0, hb0⟩ : ∃ b0, w.heap.size = b0 := ⟨_, rfl⟩
  have Hb0 := Lib.hid hb0
  rw [show St w.heap.size w A la ca gh B lb cb gs = St b0 w A la ca gh B lb cb gs by rw [hb0]] at hS
  have c0 := hS.c0
  have c1 := hS.c1
  unfold calC
  clear hR hL
  have k1 : decide ((la : Int) > 20) = false := decide_eq_false (by omega)
  have Hy := Lib.hid hy
  have Hcal := Lib.hid hcal
  clear hcal hy
  have HX := (great_calls A la ca B lb cb false (by constructor <;> intro h <;> first | omega | rfl | exact absurd h Bool.false_ne_true) (w.alloc (.cells #[.slice A la ca, .slice B lb cb] 35)))
  unfold calC at HX
  replace HX := Lib.hid HX
  have HT := Lib.hid hS
  clear hS h20 h30
  go_enter Tryd.func8, Tryd.ntmps8
  go_wp2_with fail
  refine HX.out.mono ?_
  rintro e w1 ⟨rfl, hb⟩
  have hS := HT.out.go hb
  clear HX HT c0 c1 hb
  have c0 := hS.c0
  have c1 := hS.c1
  have HX := (list_noyear A la ca gh B lb cb gs y Hcal.out Hy.out w1 hS.2.1 hS.2.2.1)
  try unfold calC at HX
  replace HX := Lib.hid HX
  have HT := Lib.hid hS
  clear hS
  go_wp2_with fail
  refine HX.out.mono ?_
  rintro e w2 ⟨rfl, hb⟩
  have hS := HT.out.go hb
  clear HX HT c0 c1 hb
  have HE := Lib.hid (easter_bad y Hy.out w2)
  have HT := Lib.hid hS
  clear hS
  go_wp2_with fail
  refine HE.out.mono ?_
  rintro e w3 ⟨rfl, hb⟩
  have t3 := bstep w3 (.cells #[.int .i64 0, .int .i64 0, .int .i64 0] 24)
  have rD := World.alloc_heap_new w3 (.cells #[.int .i64 0, .int .i64 0, .int .i64 0] 24)
  have hS := (HT.out.go hb).go t3
  have d0 := cell_of_row _ _ 0 _ _ _ rD
  clear HE HT hb t3 rD
  by_cases h1 : y < 1970
  · have k2 : decide (y < 1970) = true := decide_eq_true h1
    clear h1
    have c0 := hS.c0
    have c1 := hS.c1
    have HX := (by have h := refCal_calls A la ca gh B lb cb gs _ hS.2.1; rw [decide_eq_true Hcal.out] at h; exact h)
    unfold calC at HX
    replace HX := Lib.hid HX
    have HT := Lib.hid hS
    clear hS
    go_wp2_with fail
    refine HX.out.mono ?_
    rintro e w4 ⟨rfl, hb⟩
    have hS := HT.out.go hb
    clear HX HT c0 c1 hb
    have HB := Lib.hid hS.2.2.2
    clear hS
    go_wp2_with fail
    go_ret
    exact ⟨rfl, by first | exact HB.out | (rw [Hb0.out]; exact HB.out) | (rw [← Hb0.out]; exact HB.out)⟩
  · have k2 : decide (y < 1970) = false := decide_eq_false h1
    have k3 : decide (y > 9999) = true := decide_eq_true (by have := Hy.out; omega)
    clear h1
    have c0 := hS.c0
    have c1 := hS.c1
    have HX := (by have h := refCal_calls A la ca gh B lb cb gs _ hS.2.1; rw [decide_eq_true Hcal.out] at h; exact h)
    unfold calC at HX
    replace HX := Lib.hid HX
    have HT := Lib.hid hS
    clear hS
    go_wp2_with fail
    refine HX.out.mono ?_
    rintro e w4 ⟨rfl, hb⟩
    have hS := HT.out.go hb
    clear HX HT c0 c1 hb
    have HB := Lib.hid hS.2.2.2
    clear hS
    go_wp2_with fail
    go_ret
    exact ⟨rfl, by first | exact HB.out | (rw [Hb0.out]; exact HB.out) | (rw [← Hb0.out]; exact HB.out)⟩
set_option maxRecDepth 1000000 in
set_option maxHeartbeats 16000000 in
theorem lists_badboth (A : Option Addr) (la ca : Nat) (gh : Nat → Nat → Int) (B : Option Addr) (lb cb : Nat) (gs : Nat → Nat → Int) (y n kind : Int) (w : World) (hR : RdCal w A la ca gh B lb cb gs) (hL : Lens w) (h20 : ¬ la > 20) (h30 : ¬ lb > 30) (hcal : ¬ calOk la gh lb gs) (hy : ¬ (1970 ≤ y ∧ y ≤ 9999)) :
    Calls Tryd.prog 8 #[calC A la ca B lb cb, .int .i64 y, .int .i64 n, .int .i64 kind] w fun e w' => e = .returned (.bool true) ∧ Below w.heap.size w w' := by
  have hS := St.new hR hL
  obtain ⟨b0, hb0⟩ : ∃ b0, w.heap.size = b0 := ⟨_, rfl⟩
  have Hb0 := Lib.hid hb0
  rw [show St w.heap.size w A la ca gh B lb cb gs = St b0 w A la ca gh B lb cb gs by rw [hb0]] at hS
  have c0 := hS.c0
  have c1 := hS.c1
  unfold calC
  clear hR hL
  have k1 : decide ((la : Int) > 20) = false := decide_eq_false (by omega)
  have Hy := Lib.hid hy
  have Hcal := Lib.hid hcal
  clear hcal hy
  have HX := (great_calls A la ca B lb cb false (by constructor <;> intro h <;> first | omega | rfl | exact absurd h Bool.false_ne_true) (w.alloc (.cells #[.slice A la ca, .slice B lb cb] 35)))
  unfold calC at HX
  replace HX := Lib.hid HX
  have HT := Lib.hid hS
  clear hS h20 h30
  go_enter Tryd.func8, Tryd.ntmps8
  go_wp2_with fail
  refine HX.out.mono ?_
  rintro e w1 ⟨rfl, hb⟩
  have hS := HT.out.go hb
  clear HX HT c0 c1 hb
  have c0 := hS.c0
  have c1 := hS.c1
  have HX := (list_nocal A la ca gh B lb cb gs y Hcal.out w1 hS.2.1 hS.2.2.1)
  try unfold calC at HX
  replace HX := Lib.hid HX
  have HT := Lib.hid hS
  clear hS
  go_wp2_with fail
  refine HX.out.mono ?_
  rintro e w2 ⟨rfl, hb⟩
  have hS := HT.out.go hb
  clear HX HT c0 c1 hb
  have HE := Lib.hid (easter_bad y Hy.out w2)
  have HT := Lib.hid hS
  clear hS
  go_wp2_with fail
  refine HE.out.mono ?_
  rintro e w3 ⟨rfl, hb⟩
  have t3 := bstep w3 (.cells #[.int .i64 0, .int .i64 0, .int .i64 0] 24)
  have rD := World.alloc_heap_new w3 (.cells #[.int .i64 0, .int .i64 0, .int .i64 0] 24)
  have hS := (HT.out.go hb).go t3
  have d0 := cell_of_row _ _ 0 _ _ _ rD
  clear HE HT hb t3 rD
  by_cases h1 : y < 1970
  · have k2 : decide (y < 1970) = true := decide_eq_true h1
    clear h1
    have c0 := hS.c0
    have c1 := hS.c1
    have HX := (by have h := refCal_calls A la ca gh B lb cb gs _ hS.2.1; rw [decide_eq_false Hcal.out] at h; exact h)
    unfold calC at HX
    replace HX := Lib.hid HX
    have HT := Lib.hid hS
    clear hS
    go_wp2_with fail
    refine HX.out.mono ?_
    rintro e w4 ⟨rfl, hb⟩
    have hS := HT.out.go hb
    clear HX HT c0 c1 hb
    have HB := Lib.hid hS.2.2.2
    clear hS
    go_wp2_with fail
    go_ret
    exact ⟨rfl, by first | exact HB.out | (rw [Hb0.out]; exact HB.out) | (rw [← Hb0.out]; exact HB.out)⟩
  · have k2 : decide (y < 1970) = false := decide_eq_false h1
    have k3 : decide (y > 9999) = true := decide_eq_true (by have := Hy.out; omega)
    clear h1
    have c0 := hS.c0
    have c1 := hS.c1
    have HX := (by have h := refCal_calls A la ca gh B lb cb gs _ hS.2.1; rw [decide_eq_false Hcal.out] at h; exact h)
    unfold calC at HX
    replace HX := Lib.hid HX
    have HT := Lib.hid hS
    clear hS
    go_wp2_with fail
    refine HX.out.mono ?_
    rintro e w4 ⟨rfl, hb⟩
    have hS := HT.out.go hb
    clear HX HT c0 c1 hb
    have HB := Lib.hid hS.2.2.2
    clear hS
    go_wp2_with fail
    go_ret
    exact ⟨rfl, by first | exact HB.out | (rw [Hb0.out]; exact HB.out) | (rw [← Hb0.out]; exact HB.out)⟩
set_option maxRecDepth 1000000 in
set_option maxHeartbeats 16000000 in
theorem lists_badcal (A : Option Addr) (la ca : Nat) (gh : Nat → Nat → Int) (B : Option Addr) (lb cb : Nat) (gs : Nat → Nat → Int) (y n kind : Int) (w : World) (hR : RdCal w A la ca gh B lb cb gs) (hL : Lens w) (h20 : ¬ la > 20) (h30 : ¬ lb > 30) (hcal : ¬ calOk la gh lb gs) (hy : 1970 ≤ y ∧ y ≤ 9999) :
    Calls Tryd.prog 8 #[calC A la ca B lb cb, .int .i64 y, .int .i64 n, .int .i64 kind] w fun e w' => e = .returned (.bool true) ∧ Below w.heap.size w w' := by
  have hS := St.new hR hL
  obtain ⟨b0, hb0⟩ : ∃ b0, w.heap.size = b0 := ⟨_, rfl⟩
  have Hb0 := Lib.hid hb0
  rw [show St w.heap.size w A la ca gh B lb cb gs = St b0 w A la ca gh B lb cb gs by rw [hb0]] at hS
  have c0 := hS.c0
  have c1 := hS.c1
  unfold calC
  clear hR hL
  have k1 : decide ((la : Int) > 20) = false := decide_eq_false (by omega)
  have k2 : decide (y < 1970) = false := decide_eq_false (by omega)
  have k3 : decide (y > 9999) = false := decide_eq_false (by omega)
  have Hy := Lib.hid hy
  have Hcal := Lib.hid hcal
  clear hcal hy
  have HX := (great_calls A la ca B lb cb false (by constructor <;> intro h <;> first | omega | rfl | exact absurd h Bool.false_ne_true) (w.alloc (.cells #[.slice A la ca, .slice B lb cb] 35)))
  unfold calC at HX
  replace HX := Lib.hid HX
  have HT := Lib.hid hS
  clear hS h20 h30
  go_enter Tryd.func8, Tryd.ntmps8
  go_wp2_with fail
  refine HX.out.mono ?_
  rintro e w1 ⟨rfl, hb⟩
  have hS := HT.out.go hb
  clear HX HT c0 c1 hb
  have c0 := hS.c0
  have c1 := hS.c1
  have HX := (list_nocal A la ca gh B lb cb gs y Hcal.out w1 hS.2.1 hS.2.2.1)
  try unfold calC at HX
  replace HX := Lib.hid HX
  have HT := Lib.hid hS
  clear hS
  go_wp2_with fail
  refine HX.out.mono ?_
  rintro e w2 ⟨rfl, hb⟩
  have hS := HT.out.go hb
  clear HX HT c0 c1 hb
  have hok := Lib.hid (eas_ok Hy.out)
  have HE := easter_calls y Hy.out w2
  have HE2 := refEaster_calls y Hy.out
  obtain ⟨em, hm⟩ : ∃ m, easM y = m := ⟨_, rfl⟩
  obtain ⟨ed, hd⟩ : ∃ d, easD y = d := ⟨_, rfl⟩
  rw [hm, hd] at HE HE2
  replace HE := Lib.hid HE
  replace HE2 := Lib.hid HE2
  have HT := Lib.hid hS
  clear hS hm hd
  go_wp2_with fail
  refine HE.out.mono ?_
  rintro e w3 ⟨rfl, hb⟩
  have t3 := bstep w3 (.cells #[.int .i64 y, .int .i64 em, .int .i64 ed] 24)
  have rD := World.alloc_heap_new w3 (.cells #[.int .i64 y, .int .i64 em, .int .i64 ed] 24)
  have hS := (HT.out.go hb).go t3
  have d0 := cell_of_row _ _ 0 _ _ _ rD
  have d1 := cell_of_row _ _ 1 _ _ _ rD
  have d2 := cell_of_row _ _ 2 _ _ _ rD
  clear HE HT hb t3 rD hok
  go_wp2_with fail
  refine (HE2.out _).mono ?_
  rintro e w4 ⟨rfl, e4⟩
  rw [e4]
  clear e4 w4 HE2
  have c0 := hS.c0
  have c1 := hS.c1
  have HX := (by have h := refCal_calls A la ca gh B lb cb gs _ hS.2.1; rw [decide_eq_false Hcal.out] at h; exact h)
  try unfold calC at HX
  replace HX := Lib.hid HX
  have HT := Lib.hid hS
  clear hS
  go_wp2_with fail
  refine HX.out.mono ?_
  rintro e w5 ⟨rfl, hb⟩
  have hS := HT.out.go hb
  clear HX HT c0 c1 hb
  have HB := Lib.hid hS.2.2.2
  clear hS
  go_wp2_with fail
  go_ret
  exact ⟨rfl, by first | exact HB.out | (rw [Hb0.out]; exact HB.out) | (rw [← Hb0.out]; exact HB.out)⟩
end Go.Proofs.YthmgngmhnjeegaaDoor
