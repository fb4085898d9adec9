/-
  DaysKinds: the walk of the law. Conditions stand at each theorem. (Printed by gen_dkinds.py.)
-/
import Derived.Test.YthmgngmhnjeegaaDoorCalOpen
namespace Go.Proofs.YthmgngmhnjeegaaDoor
open Go Go.RowKit Go.Kw Go.Kw.Cv
set_option linter.unusedVariables false
set_option linter.unusedSimpArgs false

/-- What stands all along a law's walk: the calendar's box, what is read of it, the table. -/
def St (b0 : Nat) (w : World) (A : Option Addr) (la ca : Nat) (gh : Nat → Nat → Int) (B : Option Addr) (lb cb : Nat) (gs : Nat → Nat → Int) (W : World) : Prop :=
  W.heap[b0]? = some (.cells #[.slice A la ca, .slice B lb cb] 35 (0, 0)) ∧ RdCal W A la ca gh B lb cb gs ∧ Lens W ∧ Below w.heap.size w W
theorem St.go {b0 : Nat} {w : World} {A : Option Addr} {la ca : Nat} {gh : Nat → Nat → Int} {B : Option Addr} {lb cb : Nat} {gs : Nat → Nat → Int} {W W' : World} (h : St b0 w A la ca gh B lb cb gs W) (hb : Below W.heap.size W W') : St b0 w A la ca gh B lb cb gs W' :=
  ⟨blk_below h.1 hb, h.2.1.go hb, h.2.2.1.go hb, bnext h.2.2.2 hb⟩
theorem St.new {w : World} {A : Option Addr} {la ca : Nat} {gh : Nat → Nat → Int} {B : Option Addr} {lb cb : Nat} {gs : Nat → Nat → Int} (hR : RdCal w A la ca gh B lb cb gs) (hL : Lens w) :
    St w.heap.size w A la ca gh B lb cb gs (w.alloc (.cells #[.slice A la ca, .slice B lb cb] 35)) :=
  ⟨World.alloc_heap_new w _, hR.go (bstep w _), hL.go (bstep w _), bstep w _⟩
theorem St.c0 {b0 : Nat} {w : World} {A : Option Addr} {la ca : Nat} {gh : Nat → Nat → Int} {B : Option Addr} {lb cb : Nat} {gs : Nat → Nat → Int} {W : World} (h : St b0 w A la ca gh B lb cb gs W) : W.cell? ⟨b0, 0, none⟩ = some (.slice A la ca) := cell_of_row W b0 0 _ _ _ h.1
theorem St.c1 {b0 : Nat} {w : World} {A : Option Addr} {la ca : Nat} {gh : Nat → Nat → Int} {B : Option Addr} {lb cb : Nat} {gs : Nat → Nat → Int} {W : World} (h : St b0 w A la ca gh B lb cb gs W) : W.cell? ⟨b0, 1, none⟩ = some (.slice B lb cb) := cell_of_row W b0 1 _ _ _ h.1
set_option maxRecDepth 100000 in
set_option maxHeartbeats 8000000 in
theorem daysKinds_walk (v : Value) (x : CalX) (n : Int) (w : World) (hx : v = calC x.1.1 x.1.2.1 x.1.2.2.1 x.2.1 x.2.2.1 x.2.2.2.1 ∧ RdCal w x.1.1 x.1.2.1 x.1.2.2.1 x.1.2.2.2 x.2.1 x.2.2.1 x.2.2.2.1 x.2.2.2.2) (hn0 : (Lit.int .i64 n).wf = true) (hL : Lens w) :
    Calls Tryd.prog 5 #[v, .int .i64 n] w fun e w' => e = .returned (.bool true) ∧ Below w.heap.size w w' := by
  obtain ⟨⟨A, la, ca, gh⟩, ⟨B, lb, cb, gs⟩⟩ := x
  dsimp only at hx
  obtain ⟨rfl, hR⟩ := hx
  have hS := St.new hR hL
  obtain ⟨b0, hb0⟩ : ∃ b0, w.heap.size = b0 := ⟨_, rfl⟩
  have Hb0 := Lib.hid hb0
  have hS0 := hS
  rw [show St w.heap.size w A la ca gh B lb cb gs = St b0 w A la ca gh B lb cb gs by rw [hb0]] at hS
  unfold calC
  clear hR hL hn0 hS0
  by_cases hgr : la > 120 ∨ lb > 30
  · have HG := great_calls A la ca B lb cb true ⟨fun _ => hgr, fun _ => rfl⟩
    unfold calC at HG
    replace HG := Lib.hid HG
    have HS := Lib.hid hS
    clear hgr hS
    go_enter Tryd.func5, Tryd.ntmps5
    go_wp2_with fail
    refine (HG.out _).mono ?_
    rintro e w2 ⟨rfl, hb2⟩
    have hS2 := HS.out.go hb2
    clear hb2
    go_wp2_with fail
    go_ret
    exact ⟨rfl, by first | exact hS2.2.2.2 | (rw [Hb0.out]; exact hS2.2.2.2) | (rw [← Hb0.out]; exact hS2.2.2.2)⟩
  · have HG := great_calls A la ca B lb cb false ⟨fun h => absurd h Bool.false_ne_true, fun h => absurd h hgr⟩
    unfold calC at HG
    replace HG := Lib.hid HG
    clear hgr
    by_cases hcal : calOk la gh lb gs
    · have HC := Lib.hid hcal
      by_cases hn : 0 ≤ n ∧ n ≤ 2932896
      · have HN := Lib.hid hn
        have HE := Lib.hid (errA_ok hcal hn)
        obtain ⟨bI, hI⟩ : ∃ b, isF gh la n = b := ⟨_, rfl⟩
        obtain ⟨K, hK⟩ : ∃ b, kindD gh la n = b := ⟨_, rfl⟩
        obtain ⟨S, hSe⟩ : ∃ b, seasD gs lb n = b := ⟨_, rfl⟩
        have HV := Lib.hid (And.intro hI (And.intro hK hSe))
        clear hcal hn hI hK hSe
        have HS := Lib.hid hS
        clear hS
        go_enter Tryd.func5, Tryd.ntmps5
        go_wp2_with fail
        refine (HG.out _).mono ?_
        rintro e w1 ⟨rfl, hb⟩
        have hS := HS.out.go hb
        have c0 := hS.c0
        have c1 := hS.c1
        have HX := (by have h := refCal_calls A la ca gh B lb cb gs w1 hS.2.1; rw [decide_eq_true HC.out] at h; exact h)
        unfold calC at HX
        replace HX := Lib.hid HX
        have HT := Lib.hid hS
        clear hS hb
        go_wp2_with fail
        refine HX.out.mono ?_
        rintro e w2 ⟨rfl, hb⟩
        have hS := HT.out.go hb
        clear HX HT c0 c1
        have c0 := hS.c0
        have c1 := hS.c1
        have HX := (by have h := daysCheck_calls A la ca gh B lb cb gs w2 hS.2.1 hS.2.2.1; rw [show calE la gh lb gs = 0 from if_pos HC.out] at h; exact h)
        unfold calC at HX
        replace HX := Lib.hid HX
        have HT := Lib.hid hS
        clear hS hb
        go_wp2_with fail
        refine HX.out.mono ?_
        rintro e w3 ⟨rfl, hb⟩
        have hS := HT.out.go hb
        clear HX HT c0 c1
        have c0 := hS.c0
        have c1 := hS.c1
        have HX := (by have h := refError_calls A la ca gh B lb cb gs n w3 hS.2.1; rw [HE.out] at h; exact h)
        unfold calC at HX
        replace HX := Lib.hid HX
        have HT := Lib.hid hS
        clear hS hb
        go_wp2_with fail
        refine HX.out.mono ?_
        rintro e w4 ⟨rfl, hb⟩
        have hS := HT.out.go hb
        clear HX HT c0 c1
        have c0 := hS.c0
        have c1 := hS.c1
        have HX := (by have h := daysIs_ok A la ca gh B lb cb gs n HC.out HN.out w4 hS.2.1 hS.2.2.1; rw [HV.out.1] at h; exact h)
        unfold calC at HX
        replace HX := Lib.hid HX
        have HT := Lib.hid hS
        clear hS hb
        go_wp2_with fail
        refine HX.out.mono ?_
        rintro e w5 ⟨rfl, hb⟩
        have hS := HT.out.go hb
        clear HX HT c0 c1
        have c0 := hS.c0
        have c1 := hS.c1
        have HX := (by have h := daysKind_ok A la ca gh B lb cb gs n HC.out HN.out w5 hS.2.1 hS.2.2.1; rw [HV.out.2.1] at h; exact h)
        unfold calC at HX
        replace HX := Lib.hid HX
        have HT := Lib.hid hS
        clear hS hb
        go_wp2_with fail
        refine HX.out.mono ?_
        rintro e w6 ⟨rfl, hb⟩
        have hS := HT.out.go hb
        clear HX HT c0 c1
        have c0 := hS.c0
        have c1 := hS.c1
        have HX := (by have h := season_ok A la ca gh B lb cb gs n HC.out HN.out w6 hS.2.1 hS.2.2.1; rw [HV.out.2.2] at h; exact h)
        unfold calC at HX
        replace HX := Lib.hid HX
        have HT := Lib.hid hS
        clear hS hb
        go_wp2_with fail
        refine HX.out.mono ?_
        rintro e w7 ⟨rfl, hb⟩
        have hS := HT.out.go hb
        clear HX HT c0 c1
        have c0 := hS.c0
        have c1 := hS.c1
        have HX := (by have h := refIs_calls A la ca gh B lb cb gs HC.out.2.2.1 n HN.out w7 hS.2.1; rw [HV.out.1] at h; exact h)
        unfold calC at HX
        replace HX := Lib.hid HX
        have HT := Lib.hid hS
        clear hS hb
        go_wp2_with fail
        refine HX.out.mono ?_
        rintro e w8 ⟨rfl, hb⟩
        have hS := HT.out.go hb
        clear HX HT c0 c1
        have c0 := hS.c0
        have c1 := hS.c1
        have HX := (by have h := refKind_calls A la ca gh B lb cb gs HC.out.2.2.1 n HN.out w8 hS.2.1; rw [HV.out.2.1] at h; exact h)
        unfold calC at HX
        replace HX := Lib.hid HX
        have HT := Lib.hid hS
        clear hS hb
        go_wp2_with fail
        refine HX.out.mono ?_
        rintro e w9 ⟨rfl, hb⟩
        have hS := HT.out.go hb
        clear HX HT c0 c1
        have c0 := hS.c0
        have c1 := hS.c1
        have HX := (by have h := refSeason_calls A la ca gh B lb cb gs HC.out.2.2.2 HC.out.2.1 n HN.out w9 hS.2.1; rw [HV.out.2.2] at h; exact h)
        unfold calC at HX
        replace HX := Lib.hid HX
        have HT := Lib.hid hS
        clear hS hb
        go_wp2_with fail
        refine HX.out.mono ?_
        rintro e w10 ⟨rfl, hb⟩
        have hS := HT.out.go hb
        clear HX HT c0 c1
        have HB := Lib.hid hS.2.2.2
        clear hS hb
        go_wp2_with fail
        go_ret
        exact ⟨rfl, by first | exact HB.out | (rw [Hb0.out]; exact HB.out) | (rw [← Hb0.out]; exact HB.out)⟩
      · have HE := Lib.hid (errA_out hcal hn)
        clear hcal hn
        have HS := Lib.hid hS
        clear hS
        go_enter Tryd.func5, Tryd.ntmps5
        go_wp2_with fail
        refine (HG.out _).mono ?_
        rintro e w1 ⟨rfl, hb⟩
        have hS := HS.out.go hb
        have c0 := hS.c0
        have c1 := hS.c1
        have HX := (by have h := refCal_calls A la ca gh B lb cb gs w1 hS.2.1; rw [decide_eq_true HC.out] at h; exact h)
        unfold calC at HX
        replace HX := Lib.hid HX
        have HT := Lib.hid hS
        clear hS hb
        go_wp2_with fail
        refine HX.out.mono ?_
        rintro e w2 ⟨rfl, hb⟩
        have hS := HT.out.go hb
        clear HX HT c0 c1
        have c0 := hS.c0
        have c1 := hS.c1
        have HX := (by have h := daysCheck_calls A la ca gh B lb cb gs w2 hS.2.1 hS.2.2.1; rw [show calE la gh lb gs = 0 from if_pos HC.out] at h; exact h)
        unfold calC at HX
        replace HX := Lib.hid HX
        have HT := Lib.hid hS
        clear hS hb
        go_wp2_with fail
        refine HX.out.mono ?_
        rintro e w3 ⟨rfl, hb⟩
        have hS := HT.out.go hb
        clear HX HT c0 c1
        have c0 := hS.c0
        have c1 := hS.c1
        have HX := (by have h := refError_calls A la ca gh B lb cb gs n w3 hS.2.1; rw [HE.out] at h; exact h)
        unfold calC at HX
        replace HX := Lib.hid HX
        have HT := Lib.hid hS
        clear hS hb
        go_wp2_with fail
        refine HX.out.mono ?_
        rintro e w4 ⟨rfl, hb⟩
        have hS := HT.out.go hb
        clear HX HT c0 c1
        have c0 := hS.c0
        have c1 := hS.c1
        have HX := (by have h := daysIs_no A la ca gh B lb cb gs n (by rw [HE.out]; decide) w4 hS.2.1 hS.2.2.1; rw [HE.out] at h; exact h)
        unfold calC at HX
        replace HX := Lib.hid HX
        have HT := Lib.hid hS
        clear hS hb
        go_wp2_with fail
        refine HX.out.mono ?_
        rintro e w5 ⟨rfl, hb⟩
        have hS := HT.out.go hb
        clear HX HT c0 c1
        have c0 := hS.c0
        have c1 := hS.c1
        have HX := (by have h := daysKind_no A la ca gh B lb cb gs n (by rw [HE.out]; decide) w5 hS.2.1 hS.2.2.1; rw [HE.out] at h; exact h)
        unfold calC at HX
        replace HX := Lib.hid HX
        have HT := Lib.hid hS
        clear hS hb
        go_wp2_with fail
        refine HX.out.mono ?_
        rintro e w6 ⟨rfl, hb⟩
        have hS := HT.out.go hb
        clear HX HT c0 c1
        have c0 := hS.c0
        have c1 := hS.c1
        have HX := (by have h := season_no A la ca gh B lb cb gs n (by rw [HE.out]; decide) w6 hS.2.1 hS.2.2.1; rw [HE.out] at h; exact h)
        unfold calC at HX
        replace HX := Lib.hid HX
        have HT := Lib.hid hS
        clear hS hb
        go_wp2_with fail
        refine HX.out.mono ?_
        rintro e w7 ⟨rfl, hb⟩
        have hS := HT.out.go hb
        clear HX HT c0 c1
        have HB := Lib.hid hS.2.2.2
        clear hS hb
        go_wp2_with fail
        go_ret
        exact ⟨rfl, by first | exact HB.out | (rw [Hb0.out]; exact HB.out) | (rw [← Hb0.out]; exact HB.out)⟩
    · have HC := Lib.hid hcal
      have HE := Lib.hid (errA_bad (n := n) hcal)
      clear hcal
      have HS := Lib.hid hS
      clear hS
      go_enter Tryd.func5, Tryd.ntmps5
      go_wp2_with fail
      refine (HG.out _).mono ?_
      rintro e w1 ⟨rfl, hb⟩
      have hS := HS.out.go hb
      have c0 := hS.c0
      have c1 := hS.c1
      have HX := (by have h := refCal_calls A la ca gh B lb cb gs w1 hS.2.1; rw [decide_eq_false HC.out] at h; exact h)
      unfold calC at HX
      replace HX := Lib.hid HX
      have HT := Lib.hid hS
      clear hS hb
      go_wp2_with fail
      refine HX.out.mono ?_
      rintro e w2 ⟨rfl, hb⟩
      have hS := HT.out.go hb
      clear HX HT c0 c1
      have c0 := hS.c0
      have c1 := hS.c1
      have HX := (by have h := daysCheck_calls A la ca gh B lb cb gs w2 hS.2.1 hS.2.2.1; rw [show calE la gh lb gs = 80 from if_neg HC.out] at h; exact h)
      unfold calC at HX
      replace HX := Lib.hid HX
      have HT := Lib.hid hS
      clear hS hb
      go_wp2_with fail
      refine HX.out.mono ?_
      rintro e w3 ⟨rfl, hb⟩
      have hS := HT.out.go hb
      clear HX HT c0 c1
      have c0 := hS.c0
      have c1 := hS.c1
      have HX := (by have h := refError_calls A la ca gh B lb cb gs n w3 hS.2.1; rw [HE.out] at h; exact h)
      unfold calC at HX
      replace HX := Lib.hid HX
      have HT := Lib.hid hS
      clear hS hb
      go_wp2_with fail
      refine HX.out.mono ?_
      rintro e w4 ⟨rfl, hb⟩
      have hS := HT.out.go hb
      clear HX HT c0 c1
      have c0 := hS.c0
      have c1 := hS.c1
      have HX := (by have h := daysIs_no A la ca gh B lb cb gs n (by rw [HE.out]; decide) w4 hS.2.1 hS.2.2.1; rw [HE.out] at h; exact h)
      unfold calC at HX
      replace HX := Lib.hid HX
      have HT := Lib.hid hS
      clear hS hb
      go_wp2_with fail
      refine HX.out.mono ?_
      rintro e w5 ⟨rfl, hb⟩
      have hS := HT.out.go hb
      clear HX HT c0 c1
      have c0 := hS.c0
      have c1 := hS.c1
      have HX := (by have h := daysKind_no A la ca gh B lb cb gs n (by rw [HE.out]; decide) w5 hS.2.1 hS.2.2.1; rw [HE.out] at h; exact h)
      unfold calC at HX
      replace HX := Lib.hid HX
      have HT := Lib.hid hS
      clear hS hb
      go_wp2_with fail
      refine HX.out.mono ?_
      rintro e w6 ⟨rfl, hb⟩
      have hS := HT.out.go hb
      clear HX HT c0 c1
      have c0 := hS.c0
      have c1 := hS.c1
      have HX := (by have h := season_no A la ca gh B lb cb gs n (by rw [HE.out]; decide) w6 hS.2.1 hS.2.2.1; rw [HE.out] at h; exact h)
      unfold calC at HX
      replace HX := Lib.hid HX
      have HT := Lib.hid hS
      clear hS hb
      go_wp2_with fail
      refine HX.out.mono ?_
      rintro e w7 ⟨rfl, hb⟩
      have hS := HT.out.go hb
      clear HX HT c0 c1
      have HB := Lib.hid hS.2.2.2
      clear hS hb
      go_wp2_with fail
      go_ret
      exact ⟨rfl, by first | exact HB.out | (rw [Hb0.out]; exact HB.out) | (rw [← Hb0.out]; exact HB.out)⟩
end Go.Proofs.YthmgngmhnjeegaaDoor
