/-
  The next day of a kind: days.Next, walked. Conditions stand at each theorem.
-/
import Derived.Test.YthmgngmhnjeegaaDoorKind
namespace Go.Proofs.YthmgngmhnjeegaaDoor
open Go Go.RowKit Go.Kw Go.Kw.Cv Go.Shelf
set_option linter.unusedVariables false
set_option linter.unusedSimpArgs false

def lastN (n : Int) : Int := if n + 3700 ≤ 2932896 then n + 3700 else 2932896
/-- What Next answers. -/
def NextP (gh : Nat → Nat → Int) (la : Nat) (n kind r : Int) (b : Bool) : Prop :=
  (b = true ∧ n ≤ r ∧ r ≤ lastN n ∧ kindD gh la r = kind ∧ ∀ i, n ≤ i → i < r → kindD gh la i ≠ kind) ∨ (b = false ∧ r = 0 ∧ ∀ i, n ≤ i → i ≤ lastN n → kindD gh la i ≠ kind)
/-- The answer. -/
def NextE (gh : Nat → Nat → Int) (la : Nat) (n kind : Int) (e : Ending) : Prop := ∃ r b, e = .returned (.tuple #[.int .i64 r, .bool b]) ∧ NextP gh la n kind r b
set_option maxRecDepth 100000 in
set_option maxHeartbeats 8000000 in
theorem next_ok (A : Option Addr) (la ca : Nat) (gh : Nat → Nat → Int) (B : Option Addr) (lb cb : Nat) (gs : Nat → Nat → Int) (n kind : Int) (hcal : calOk la gh lb gs) (hn : 0 ≤ n ∧ n ≤ 2932896) (w : World) (hR : RdCal w A la ca gh B lb cb gs) (hL : Lens w) :
    Calls Tryd.prog 14 #[calC A la ca B lb cb, .int .i64 n, .int .i64 kind] w fun e w' => NextE gh la n kind e ∧ Below w.heap.size w w' := by
  obtain ⟨b0, hb0⟩ : ∃ b0, w.heap.size = b0 := ⟨_, rfl⟩
  have Hb0 := Lib.hid hb0
  have hE := errA_ok hcal hn
  have hst := bstep w (.cells #[.slice A la ca, .slice B lb cb] 35)
  have hr0 := World.alloc_heap_new w (.cells #[.slice A la ca, .slice B lb cb] 35)
  have hM := may_calls A la ca gh B lb cb gs n _ (hR.go hst) (hL.go hst)
  rw [hb0] at hr0
  rw [mayV_ok hE, hE] at hM
  unfold dateV at hM
  obtain ⟨T, hT⟩ : ∃ T, dOf n = T := ⟨_, rfl⟩
  rw [hT] at hM
  obtain ⟨y, m, d⟩ := T
  unfold calC at hM ⊢
  have HM := Lib.hid hM
  have HX := Lib.hid (And.intro hst (And.intro hr0 (hL.go hst)))
  have HR := Lib.hid hR
  have Hcal := Lib.hid hcal
  have Hn := Lib.hid hn
  have hlb : n ≤ lastN n ∧ lastN n ≤ 2932896 := by unfold lastN; omega
  have Hlb := Lib.hid hlb
  have a1 := i64_same (n + 3700) (by omega)
  have A1 := Lib.hid (wrap64_in (n + 3700) (by omega))
  clear hM hE hst hr0 hR hL hcal hn hT hlb
  by_cases hmin : n + 3700 ≤ 2932896
  · have Hl := Lib.hid (show lastN n = n + 3700 from if_pos hmin)
    go_enter Tryd.func14, Tryd.ntmps14
    go_wp2_with fail
    refine HM.out.mono ?_
    rintro e w3 ⟨rfl, hb3⟩
    have hr3 := blk_below HX.out.2.1 hb3
    have hbw := bnext HX.out.1 hb3
    have t1 := bstep w3 (.cells #[.int .i64 y, .int .i64 m, .int .i64 d] 24)
    have r0 := blk_below hr3 t1
    have hL4 := (HX.out.2.2.go hb3).go t1
    have hb4 := bnext hbw t1
    rw [Hb0.out] at hb4
    clear hb3 hr3 hbw t1
    go_wp2_with fail
    go_loopw [10] (fun vi wr => ∃ j : Int, vi = .int .i64 j ∧ n ≤ j ∧ j ≤ lastN n + 1 ∧ (∀ i, n ≤ i → i < j → kindD gh la i ≠ kind) ∧ wr.heap[b0]? = some (.cells #[.slice A la ca, .slice B lb cb] 35 (0, 0)) ∧ Below b0 w wr ∧ Lens wr) (fun vi _ => (lastN n + 1 - intOf vi).toNat)
    case atStart => exact ⟨n, rfl, by omega, by have := Hlb.out; omega, fun i h1 h2 => absurd h2 (by omega), r0, hb4, hL4⟩
    case round =>
      clear r0 hb4 hL4
      obtain ⟨j, rfl, hj1, hj2, hall, hrw, hBw, hLw⟩ := hrel
      have x1 := A1.out
      by_cases hlt : j ≤ lastN n
      · have kl := decide_eq_true hlt
        rw [Hl.out] at kl
        have hBw' : Below w.heap.size w wr := by rw [Hb0.out]; exact hBw
        have HK := daysKind_ok A la ca gh B lb cb gs j Hcal.out (by have := Hn.out; have := Hlb.out; omega) wr (HR.out.go hBw') hLw
        obtain ⟨K, hK⟩ : ∃ K, kindD gh la j = K := ⟨_, rfl⟩
        rw [hK] at HK
        unfold calC at HK
        replace HK := Lib.hid HK
        have c0 := cell_of_row _ b0 0 _ _ _ hrw
        have c1 := cell_of_row _ b0 1 _ _ _ hrw
        have a2 := i64_same (j + 1) (by have := Hn.out; have := Hlb.out; omega)
        have A2 := Lib.hid (wrap64_in (j + 1) (by have := Hn.out; have := Hlb.out; omega))
        have Hsz := Lib.hid (show b0 ≤ wr.heap.size by have := (Array.getElem?_eq_some_iff.1 hrw).1; omega)
        by_cases hk : K = kind
        · have kk : (K == kind) = true := beq_iff_eq.2 hk
          have HF := Lib.hid (show NextP gh la n kind j true from .inl ⟨rfl, hj1, hlt, by rw [hK]; exact hk, hall⟩)
          clear hall hj1 hj2 hlt hK hk hBw'
          go_wp2_with fail
          refine HK.out.mono ?_
          rintro e w5 ⟨rfl, hb5⟩
          have hB5 := hBw.trans (hb5.mono Hsz.out)
          clear c0 c1
          go_wp2_with fail
          go_ret2
          exact ⟨⟨_, _, rfl, HF.out⟩, by first | exact hB5 | (rw [Hb0.out]; exact hB5)⟩
        · have kk : (K == kind) = false := beq_eq_false_iff_ne.2 hk
          have HN := Lib.hid (show ∀ i, n ≤ i → i < j + 1 → kindD gh la i ≠ kind from fun i h1 h2 => by
            by_cases e : i = j
            · rw [e, hK]; exact hk
            · exact hall i h1 (by omega))
          have Hj := Lib.hid (And.intro hj1 hlt)
          have HMs := Lib.hid (show (lastN n + 1 - (j + 1)).toNat < (lastN n + 1 - j).toNat by omega)
          clear hall hj1 hj2 hlt hK hk hBw'
          have x2 := A2.out
          go_wp2_with fail
          refine HK.out.mono ?_
          rintro e w5 ⟨rfl, hb5⟩
          have hB5 := hBw.trans (hb5.mono Hsz.out)
          have hr5 := blk_below hrw hb5
          have hL5 := hLw.go hb5
          clear c0 c1
          go_wp2_with fail
          clear x1 x2
          exact ⟨⟨j + 1, rfl, by have := Hj.out; omega, by have := Hj.out; omega, HN.out, hr5, hB5, hL5⟩, HMs.out⟩
      · have kl := decide_eq_false hlt
        rw [Hl.out] at kl
        have HF := Lib.hid (show NextP gh la n kind 0 false from .inr ⟨rfl, rfl, fun i h1 h2 => hall i h1 (by omega)⟩)
        clear hall hj1 hj2 hlt
        go_wp2_with fail
        go_ret2
        exact ⟨⟨_, _, rfl, HF.out⟩, by first | exact hBw | (rw [Hb0.out]; exact hBw)⟩
  · have Hl := Lib.hid (show lastN n = 2932896 from if_neg hmin)
    go_enter Tryd.func14, Tryd.ntmps14
    go_wp2_with fail
    refine HM.out.mono ?_
    rintro e w3 ⟨rfl, hb3⟩
    have hr3 := blk_below HX.out.2.1 hb3
    have hbw := bnext HX.out.1 hb3
    have t1 := bstep w3 (.cells #[.int .i64 y, .int .i64 m, .int .i64 d] 24)
    have r0 := blk_below hr3 t1
    have hL4 := (HX.out.2.2.go hb3).go t1
    have hb4 := bnext hbw t1
    rw [Hb0.out] at hb4
    clear hb3 hr3 hbw t1
    go_wp2_with fail
    go_loopw [10] (fun vi wr => ∃ j : Int, vi = .int .i64 j ∧ n ≤ j ∧ j ≤ lastN n + 1 ∧ (∀ i, n ≤ i → i < j → kindD gh la i ≠ kind) ∧ wr.heap[b0]? = some (.cells #[.slice A la ca, .slice B lb cb] 35 (0, 0)) ∧ Below b0 w wr ∧ Lens wr) (fun vi _ => (lastN n + 1 - intOf vi).toNat)
    case atStart => exact ⟨n, rfl, by omega, by have := Hlb.out; omega, fun i h1 h2 => absurd h2 (by omega), r0, hb4, hL4⟩
    case round =>
      clear r0 hb4 hL4
      obtain ⟨j, rfl, hj1, hj2, hall, hrw, hBw, hLw⟩ := hrel
      have x1 := A1.out
      by_cases hlt : j ≤ lastN n
      · have kl := decide_eq_true hlt
        rw [Hl.out] at kl
        have hBw' : Below w.heap.size w wr := by rw [Hb0.out]; exact hBw
        have HK := daysKind_ok A la ca gh B lb cb gs j Hcal.out (by have := Hn.out; have := Hlb.out; omega) wr (HR.out.go hBw') hLw
        obtain ⟨K, hK⟩ : ∃ K, kindD gh la j = K := ⟨_, rfl⟩
        rw [hK] at HK
        unfold calC at HK
        replace HK := Lib.hid HK
        have c0 := cell_of_row _ b0 0 _ _ _ hrw
        have c1 := cell_of_row _ b0 1 _ _ _ hrw
        have a2 := i64_same (j + 1) (by have := Hn.out; have := Hlb.out; omega)
        have A2 := Lib.hid (wrap64_in (j + 1) (by have := Hn.out; have := Hlb.out; omega))
        have Hsz := Lib.hid (show b0 ≤ wr.heap.size by have := (Array.getElem?_eq_some_iff.1 hrw).1; omega)
        by_cases hk : K = kind
        · have kk : (K == kind) = true := beq_iff_eq.2 hk
          have HF := Lib.hid (show NextP gh la n kind j true from .inl ⟨rfl, hj1, hlt, by rw [hK]; exact hk, hall⟩)
          clear hall hj1 hj2 hlt hK hk hBw'
          go_wp2_with fail
          refine HK.out.mono ?_
          rintro e w5 ⟨rfl, hb5⟩
          have hB5 := hBw.trans (hb5.mono Hsz.out)
          clear c0 c1
          go_wp2_with fail
          go_ret2
          exact ⟨⟨_, _, rfl, HF.out⟩, by first | exact hB5 | (rw [Hb0.out]; exact hB5)⟩
        · have kk : (K == kind) = false := beq_eq_false_iff_ne.2 hk
          have HN := Lib.hid (show ∀ i, n ≤ i → i < j + 1 → kindD gh la i ≠ kind from fun i h1 h2 => by
            by_cases e : i = j
            · rw [e, hK]; exact hk
            · exact hall i h1 (by omega))
          have Hj := Lib.hid (And.intro hj1 hlt)
          have HMs := Lib.hid (show (lastN n + 1 - (j + 1)).toNat < (lastN n + 1 - j).toNat by omega)
          clear hall hj1 hj2 hlt hK hk hBw'
          have x2 := A2.out
          go_wp2_with fail
          refine HK.out.mono ?_
          rintro e w5 ⟨rfl, hb5⟩
          have hB5 := hBw.trans (hb5.mono Hsz.out)
          have hr5 := blk_below hrw hb5
          have hL5 := hLw.go hb5
          clear c0 c1
          go_wp2_with fail
          clear x1 x2
          exact ⟨⟨j + 1, rfl, by have := Hj.out; omega, by have := Hj.out; omega, HN.out, hr5, hB5, hL5⟩, HMs.out⟩
      · have kl := decide_eq_false hlt
        rw [Hl.out] at kl
        have HF := Lib.hid (show NextP gh la n kind 0 false from .inr ⟨rfl, rfl, fun i h1 h2 => hall i h1 (by omega)⟩)
        clear hall hj1 hj2 hlt
        go_wp2_with fail
        go_ret2
        exact ⟨⟨_, _, rfl, HF.out⟩, by first | exact hBw | (rw [Hb0.out]; exact hBw)⟩
set_option maxRecDepth 100000 in
set_option maxHeartbeats 8000000 in
theorem next_no (A : Option Addr) (la ca : Nat) (gh : Nat → Nat → Int) (B : Option Addr) (lb cb : Nat) (gs : Nat → Nat → Int) (n kind : Int) (hE : errA la gh lb gs n ≠ 0) (w : World) (hR : RdCal w A la ca gh B lb cb gs) (hL : Lens w) :
    Calls Tryd.prog 14 #[calC A la ca B lb cb, .int .i64 n, .int .i64 kind] w fun e w' => e = .returned (.tuple #[.int .i64 0, .bool false]) ∧ Below w.heap.size w w' := by
  have hst := bstep w (.cells #[.slice A la ca, .slice B lb cb] 35)
  have hM := may_calls A la ca gh B lb cb gs n _ (hR.go hst) (hL.go hst)
  rw [mayV_no hE] at hM
  obtain ⟨E, hEe⟩ : ∃ E, errA la gh lb gs n = E := ⟨_, rfl⟩
  rw [hEe] at hM hE
  have k0 : (E == 0) = false := beq_eq_false_iff_ne.2 hE
  have k1 : (E != 0) = true := bne_iff_ne.2 hE
  unfold dateV at hM
  unfold calC at hM ⊢
  have HM := Lib.hid hM
  clear hR hL hE hEe hM
  go_enter Tryd.func14, Tryd.ntmps14
  go_wp2_with fail
  refine HM.out.mono ?_
  rintro e w2 ⟨rfl, hb2⟩
  have hbb := bnext (bnext hst hb2) (bstep w2 (.cells #[.int .i64 0, .int .i64 0, .int .i64 0] 24))
  clear hb2
  go_wp2_with fail
  go_ret2
  exact ⟨rfl, hbb⟩
end Go.Proofs.YthmgngmhnjeegaaDoor
