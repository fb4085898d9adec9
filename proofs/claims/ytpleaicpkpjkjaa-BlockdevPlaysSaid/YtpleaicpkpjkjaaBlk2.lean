/-
  A device of sectors: Down, Calls, Len, Pull, Plan, walked. Conditions stand at each theorem. (Printed by gen_blk2.py.)
-/
import Derived.Test.YtpleaicpkpjkjaaBlk1
namespace Go.Proofs.Ytpleaicpkpjkjaa
open Go Go.RowKit Go.Kw
set_option linter.unusedVariables false
set_option linter.unusedSimpArgs false

/-- All blocks but one stay. -/
def But (d : Nat) (w w' : World) : Prop := Kept (fun b => b ≠ d) w w'
theorem DevH.set2 {W : World} {d : Nat} {A : Option Addr} {n c : Nat} {C : Option Addr} {m cc : Nat} {p : Int} {dn : Bool} {k : Int} (h : DevH W d A n c C m cc p dn k) (p' : Int) : DevH (W.setCell ⟨d, 2, none⟩ (.int .i64 p')) d A n c C m cc p' dn k := by
  have := heap_setCell_same W d 2 _ _ (.int .i64 p') h
  exact this
theorem DevH.set3 {W : World} {d : Nat} {A : Option Addr} {n c : Nat} {C : Option Addr} {m cc : Nat} {p : Int} {dn : Bool} {k : Int} (h : DevH W d A n c C m cc p dn k) (dn' : Bool) : DevH (W.setCell ⟨d, 3, none⟩ (.bool dn')) d A n c C m cc p dn' k := by
  have := heap_setCell_same W d 3 _ _ (.bool dn') h
  exact this
theorem DevH.set4 {W : World} {d : Nat} {A : Option Addr} {n c : Nat} {C : Option Addr} {m cc : Nat} {p : Int} {dn : Bool} {k : Int} (h : DevH W d A n c C m cc p dn k) (k' : Int) : DevH (W.setCell ⟨d, 4, none⟩ (.int .i64 k')) d A n c C m cc p dn k' := by
  have := heap_setCell_same W d 4 _ _ (.int .i64 k') h
  exact this
theorem but_set {w W : World} {d : Nat} (h : Below w.heap.size w W) (i : Nat) (v : Value) : But d w (W.setCell ⟨d, i, none⟩ v) := (h.keptS _).setCell (fun e => e rfl) v

theorem dDown_none (w : World) (pv : Value) (hN : Calls Try.prog 35 #[pv] w fun e w' => e = .returned (.bool true) ∧ Below w.heap.size w w') :
    Calls Try.prog 19 #[pv] w fun e w' => e = .returned (.bool false) ∧ Below w.heap.size w w' := by
  have HN := Lib.hid hN
  clear hN
  go_enter Try.func19, Try.ntmps19
  go_wp2_with fail
  refine HN.out.mono ?_
  rintro e w2 ⟨rfl, hb⟩
  have HB := Lib.hid hb
  clear hb
  go_wp2_with fail
  go_ret
  exact ⟨rfl, HB.out⟩
theorem dDown_calls (w : World) (d : Nat) (A : Option Addr) (n c : Nat) (C : Option Addr) (m cc : Nat) (p : Int) (dn : Bool) (k : Int) (hn : 0 < n) (h : DevH w d A n c C m cc p dn k) :
    Calls Try.prog 19 #[.pointer (some ⟨d, 0, none⟩)] w fun e w' => e = .returned (.bool dn) ∧ Below w.heap.size w w' := by
  have hN := dnone_calls w d A n c C m cc p dn k h
  rw [decide_eq_false (by omega)] at hN
  have HN := Lib.hid hN
  have H := Lib.hid h
  clear hN h hn
  go_enter Try.func19, Try.ntmps19
  go_wp2_with fail
  refine HN.out.mono ?_
  rintro e w2 ⟨rfl, hb⟩
  have HB := Lib.hid hb
  obtain ⟨c0, c1, c2, c3, c4⟩ := (H.out.go hb).cells
  clear hb
  go_wp2_with fail
  go_ret
  exact ⟨rfl, HB.out⟩

theorem dCalls_none (w : World) (pv : Value) (hN : Calls Try.prog 35 #[pv] w fun e w' => e = .returned (.bool true) ∧ Below w.heap.size w w') :
    Calls Try.prog 17 #[pv] w fun e w' => e = .returned (.int .i64 0) ∧ Below w.heap.size w w' := by
  have HN := Lib.hid hN
  clear hN
  go_enter Try.func17, Try.ntmps17
  go_wp2_with fail
  refine HN.out.mono ?_
  rintro e w2 ⟨rfl, hb⟩
  have HB := Lib.hid hb
  clear hb
  go_wp2_with fail
  go_ret
  exact ⟨rfl, HB.out⟩
theorem dCalls_calls (w : World) (d : Nat) (A : Option Addr) (n c : Nat) (C : Option Addr) (m cc : Nat) (p : Int) (dn : Bool) (k : Int) (hn : 0 < n) (h : DevH w d A n c C m cc p dn k) :
    Calls Try.prog 17 #[.pointer (some ⟨d, 0, none⟩)] w fun e w' => e = .returned (.int .i64 k) ∧ Below w.heap.size w w' := by
  have hN := dnone_calls w d A n c C m cc p dn k h
  rw [decide_eq_false (by omega)] at hN
  have HN := Lib.hid hN
  have H := Lib.hid h
  clear hN h hn
  go_enter Try.func17, Try.ntmps17
  go_wp2_with fail
  refine HN.out.mono ?_
  rintro e w2 ⟨rfl, hb⟩
  have HB := Lib.hid hb
  obtain ⟨c0, c1, c2, c3, c4⟩ := (H.out.go hb).cells
  clear hb
  go_wp2_with fail
  go_ret
  exact ⟨rfl, HB.out⟩

theorem dLen_none (w : World) (pv : Value) (hN : Calls Try.prog 35 #[pv] w fun e w' => e = .returned (.bool true) ∧ Below w.heap.size w w') :
    Calls Try.prog 25 #[pv] w fun e w' => e = .returned (.int .i64 0) ∧ Below w.heap.size w w' := by
  have HN := Lib.hid hN
  clear hN
  go_enter Try.func25, Try.ntmps25
  go_wp2_with fail
  refine HN.out.mono ?_
  rintro e w2 ⟨rfl, hb⟩
  have HB := Lib.hid hb
  clear hb
  go_wp2_with fail
  go_ret
  exact ⟨rfl, HB.out⟩
theorem dLen_calls (w : World) (d : Nat) (A : Option Addr) (n c : Nat) (C : Option Addr) (m cc : Nat) (p : Int) (dn : Bool) (k : Int) (hn : 0 < n) (h : DevH w d A n c C m cc p dn k) :
    Calls Try.prog 25 #[.pointer (some ⟨d, 0, none⟩)] w fun e w' => e = .returned (.int .i64 (n : Int)) ∧ Below w.heap.size w w' := by
  have hN := dnone_calls w d A n c C m cc p dn k h
  rw [decide_eq_false (by omega)] at hN
  have HN := Lib.hid hN
  have H := Lib.hid h
  clear hN h hn
  go_enter Try.func25, Try.ntmps25
  go_wp2_with fail
  refine HN.out.mono ?_
  rintro e w2 ⟨rfl, hb⟩
  have HB := Lib.hid hb
  obtain ⟨c0, c1, c2, c3, c4⟩ := (H.out.go hb).cells
  clear hb
  go_wp2_with fail
  go_ret
  exact ⟨rfl, HB.out⟩

theorem dPull_none (w : World) (pv : Value) (hN : Calls Try.prog 35 #[pv] w fun e w' => e = .returned (.bool true) ∧ Below w.heap.size w w') :
    Calls Try.prog 15 #[pv] w fun e w' => e = .returned (.int .i64 1) ∧ Below w.heap.size w w' := by
  have HN := Lib.hid hN
  clear hN
  go_enter Try.func15, Try.ntmps15
  go_wp2_with fail
  refine HN.out.mono ?_
  rintro e w2 ⟨rfl, hb⟩
  have HB := Lib.hid hb
  clear hb
  go_wp2_with fail
  go_ret
  exact ⟨rfl, HB.out⟩
theorem dPull_calls (w : World) (d : Nat) (A : Option Addr) (n c : Nat) (C : Option Addr) (m cc : Nat) (p : Int) (dn : Bool) (k : Int) (hn : 0 < n) (h : DevH w d A n c C m cc p dn k) :
    Calls Try.prog 15 #[.pointer (some ⟨d, 0, none⟩)] w fun e w' => e = .returned (.int .i64 0) ∧ DevH w' d A n c C m cc p true k ∧ But d w w' := by
  have hN := dnone_calls w d A n c C m cc p dn k h
  rw [decide_eq_false (by omega)] at hN
  have HN := Lib.hid hN
  have H := Lib.hid h
  clear hN h hn
  go_enter Try.func15, Try.ntmps15
  go_wp2_with fail
  refine HN.out.mono ?_
  rintro e w2 ⟨rfl, hb⟩
  have HB := Lib.hid hb
  have HD := Lib.hid (H.out.go hb)
  obtain ⟨c0, c1, c2, c3, c4⟩ := HD.out.cells
  have f3 := HD.out.fr 3
  clear hb
  go_wp2_with fail
  go_ret
  exact ⟨rfl, HD.out.set3 true, but_set HB.out _ _⟩
/-- What Plan says, and the plan behind it. -/
def planE (n : Nat) (dn : Bool) (i : Int) : Int := if upE n dn 0 = 0 then (if i < 0 then 2 else 0) else upE n dn 0
def planP (n : Nat) (dn : Bool) (p i : Int) : Int := if planE n dn i = 0 then i else p
set_option maxHeartbeats 4000000 in
theorem dPlan_nil (w : World) (i : Int) : Calls Try.prog 18 #[.pointer none, .int .i64 i] w fun e w' => e = .returned (.int .i64 1) ∧ Below w.heap.size w w' := by
  have HN := Lib.hid (dup_nil w 0)
  go_enter Try.func18, Try.ntmps18
  go_wp2_with fail
  refine HN.out.mono ?_
  rintro e w2 ⟨rfl, hb⟩
  have HB := Lib.hid hb
  clear hb
  go_wp2_with fail
  go_ret
  exact ⟨rfl, HB.out⟩
set_option maxHeartbeats 4000000 in
theorem dPlan_calls (w : World) (d : Nat) (A : Option Addr) (n c : Nat) (C : Option Addr) (m cc : Nat) (p : Int) (dn : Bool) (k : Int) (i : Int) (h : DevH w d A n c C m cc p dn k) :
    Calls Try.prog 18 #[.pointer (some ⟨d, 0, none⟩), .int .i64 i] w fun e w' => e = .returned (.int .i64 (planE n dn i)) ∧ DevH w' d A n c C m cc (planP n dn p i) dn k ∧ But d w w' := by
  have hN := dup_calls w d A n c C m cc p dn k 0 h
  have H := Lib.hid h
  unfold planP planE
  obtain ⟨U, hU⟩ : ∃ U, upE n dn 0 = U := ⟨_, rfl⟩
  rw [hU] at hN ⊢
  have HN := Lib.hid hN
  clear hN h hU
  by_cases hu : U = 0
  case neg =>
    rw [if_neg hu, if_neg hu]
    have ku : (U != 0) = true := bne_iff_ne.2 hu
    clear hu
    go_enter Try.func18, Try.ntmps18
    go_wp2_with fail
    refine HN.out.mono ?_
    rintro e w2 ⟨rfl, hb⟩
    have HB := Lib.hid hb
    clear hb
    go_wp2_with fail
    go_ret
    exact ⟨rfl, H.out.go HB.out, HB.out.keptS _⟩
  subst hu
  rw [if_pos rfl]
  by_cases hi : i < 0
  · rw [if_pos hi, if_neg (by omega)]
    have ki : decide (i < 0) = true := decide_eq_true hi
    clear hi
    go_enter Try.func18, Try.ntmps18
    go_wp2_with fail
    refine HN.out.mono ?_
    rintro e w2 ⟨rfl, hb⟩
    have HB := Lib.hid hb
    clear hb
    go_wp2_with fail
    go_ret
    exact ⟨rfl, H.out.go HB.out, HB.out.keptS _⟩
  · rw [if_neg hi, if_pos rfl]
    have ki : decide (i < 0) = false := decide_eq_false hi
    clear hi
    go_enter Try.func18, Try.ntmps18
    go_wp2_with fail
    refine HN.out.mono ?_
    rintro e w2 ⟨rfl, hb⟩
    have HB := Lib.hid hb
    have HD := Lib.hid (H.out.go hb)
    obtain ⟨c0, c1, c2, c3, c4⟩ := HD.out.cells
    have f2 := HD.out.fr 2
    clear hb
    go_wp2_with fail
    go_ret
    exact ⟨rfl, HD.out.set2 i, but_set HB.out _ _⟩

end Go.Proofs.Ytpleaicpkpjkjaa
