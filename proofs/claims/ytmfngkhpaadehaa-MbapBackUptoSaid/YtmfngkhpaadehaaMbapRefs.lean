/-
  All and Great of the document, walked. Conditions: at most 100,000 frames.
-/
import Derived.Test.YtmfngkhpaadehaaMbapFrames
import Derived.Deep.RegionHeld3
import Derived.Deep.DrawnRows
import Derived.IntWalk
namespace Go.Proofs.Ytmfngkhpaadehaa
open Go Go.RowKit Go.Kw Go.Kw.Mb
set_option linter.unusedVariables false
set_option linter.unusedSimpArgs false
attribute [local go_sem ↓] Go.wp_at_zero Go.wp_at_succ

theorem RdF.cells {w : World} {S : Nat → Prop} {A : Option Addr} {fs : List Fr} (h : RdF w S A fs) {k : Nat} (hk : k < fs.length) :
    ∃ b off B c, A = some ⟨b, off, none⟩ ∧ b < w.heap.size ∧ w.cell? ⟨b, off + k * 3, none⟩ = some (.int .i64 (frd fs k).1) ∧ w.cell? ⟨b, off + k * 3 + 1, none⟩ = some (.int .i64 (frd fs k).2.1) ∧ w.cell? ⟨b, off + k * 3 + 2, none⟩ = some (.slice B (frd fs k).2.2.length c) ∧
      RdB w w.heap.size B (frd fs k).2.2 ∧ (B = none → (frd fs k).2.2.length = 0) ∧ (frd fs k).2.2.length ≤ c ∧ c ≤ 9223372036854775807 := by
  obtain ⟨ps, h1, h2⟩ := h
  rcases h1 with h1 | ⟨b, off, rfl, hs, hb, hc⟩
  · omega
  · refine ⟨b, off, (ps k).1, (ps k).2, rfl, hb, ?_, ?_, ?_, (h2 k hk).1.rd, (h2 k hk).2⟩
    · rw [hc (k * 3) (by omega), fcell0]
    · rw [Nat.add_assoc, hc (k * 3 + 1) (by omega), fcell1]
    · rw [Nat.add_assoc, hc (k * 3 + 2) (by omega), fcell2]
theorem frd_ext {fs gs : List Fr} (hl : fs.length = gs.length) (h : ∀ j, j < fs.length → frd fs j = frd gs j) : fs = gs := by
  apply List.ext_getElem? 
  intro j
  rcases Nat.lt_or_ge j fs.length with hj | hj
  · rw [frd_get hj, frd_get (by omega), h j hj]
  · rw [List.getElem?_eq_none hj, List.getElem?_eq_none (by omega)]

set_option maxHeartbeats 1000000 in
theorem refAll_calls (fs gs : List Fr) (A B : Option Addr) (c d : Nat) (w : World) (S : Nat → Prop) (hF : RdF w S A fs) (hG : RdF w S B gs) (hl : fs.length ≤ 100000) (hl2 : gs.length ≤ 100000) :
    Calls Try.prog 19 #[.slice A fs.length c, .slice B gs.length d] w fun e w' => e = .returned (.bool (decide (fs = gs))) ∧ Below w.heap.size w w' := by
  by_cases hn : fs.length = gs.length
  · have hnI : ((fs.length : Int) == (gs.length : Int)) = true := beq_iff_eq.2 (by omega)
    have hnI2 : ((fs.length : Int) != (gs.length : Int)) = false := by simp [hn]
    obtain ⟨r, hr⟩ : ∃ r, decide (fs = gs) = r := ⟨_, rfl⟩
    rw [hr]
    have Hr := Lib.hid hr
    have Hn := Lib.hid hn
    clear hr hn
    go_enter Try.func19, Try.ntmps19
    go_wp2
    go_loopw [5] (fun i wr => ∃ k : Nat, k ≤ fs.length ∧ i = .int .i64 k ∧ Hid (∀ j, j < k → frd fs j = frd gs j) ∧ Below w.heap.size w wr) (fun i _ => fs.length - (intOf i).toNat)
    case atStart => exact ⟨0, Nat.zero_le _, rfl, fun j hj => by omega, Below.refl _ _⟩
    case round =>
      obtain ⟨k, hk, rfl, hall, hb⟩ := hrel
      by_cases hlt : k < fs.length
      · have hF2 := hF.kept (hb.keptS S)
        have hG2 := hG.kept (hb.keptS S)
        obtain ⟨b1, o1, B1, c1, rfl, hb1, x0, x1, x2, x3, x4, x5, x6⟩ := hF2.cells hlt
        obtain ⟨b2, o2, B2, c2, rfl, hb2, y0, y1, y2, y3, y4, y5, y6⟩ := hG2.cells (k := k) (by have := Hn.out; omega)
        have hkI : (k : Int) < (fs.length : Int) := by omega
        have hkI2 : (k : Int) < (gs.length : Int) := by have := Hn.out; omega
        have hkN2 : k < gs.length := by have := Hn.out; omega
        have HS := refSame_calls (frd fs k) (frd gs k) B1 B2 c1 c2 wr.drew x3 y3 x4 y4
        obtain ⟨sb, hsb⟩ : ∃ sb, decide (frd fs k = frd gs k) = sb := ⟨_, rfl⟩
        rw [hsb] at HS
        unfold fv at HS
        have HS' := Lib.hid HS
        have Hsb := Lib.hid hsb
        have HK : Hid (∀ W, Below wr.heap.size wr W → W.cell? ⟨b1, o1 + k * 3, none⟩ = some (.int .i64 (frd fs k).1) ∧ W.cell? ⟨b1, o1 + k * 3 + 1, none⟩ = some (.int .i64 (frd fs k).2.1) ∧ W.cell? ⟨b1, o1 + k * 3 + 2, none⟩ = some (.slice B1 (frd fs k).2.2.length c1) ∧
            W.cell? ⟨b2, o2 + k * 3, none⟩ = some (.int .i64 (frd gs k).1) ∧ W.cell? ⟨b2, o2 + k * 3 + 1, none⟩ = some (.int .i64 (frd gs k).2.1) ∧ W.cell? ⟨b2, o2 + k * 3 + 2, none⟩ = some (.slice B2 (frd gs k).2.2.length c2)) := fun W hW =>
          ⟨(hW.cell (p := ⟨b1, _, none⟩) hb1).trans x0, (hW.cell (p := ⟨b1, _, none⟩) hb1).trans x1, (hW.cell (p := ⟨b1, _, none⟩) hb1).trans x2, (hW.cell (p := ⟨b2, _, none⟩) hb2).trans y0, (hW.cell (p := ⟨b2, _, none⟩) hb2).trans y1, (hW.cell (p := ⟨b2, _, none⟩) hb2).trans y2⟩
        clear HS hsb x0 x1 x2 x3 x4 x5 x6 y0 y1 y2 y3 y4 y5 y6 hF hG hF2 hG2
        go_wp2_with fail
        go_region_held3 (fun W => W.cell? ⟨b1, o1 + k * 3, none⟩ = some (.int .i64 (frd fs k).1) ∧ W.cell? ⟨b1, o1 + k * 3 + 1, none⟩ = some (.int .i64 (frd fs k).2.1) ∧ W.cell? ⟨b1, o1 + k * 3 + 2, none⟩ = some (.slice B1 (frd fs k).2.2.length c1) ∧
            W.cell? ⟨b2, o2 + k * 3, none⟩ = some (.int .i64 (frd gs k).1) ∧ W.cell? ⟨b2, o2 + k * 3 + 1, none⟩ = some (.int .i64 (frd gs k).2.1) ∧ W.cell? ⟨b2, o2 + k * 3 + 2, none⟩ = some (.slice B2 (frd gs k).2.2.length c2))
          (first | exact HK.out _ ((Below.refl _ _).drew) | exact HK.out _ ((Below.refl _ _).drew.trans hb5))
          ((go_at_call 15; refine HS'.out.mono ?_; rintro e w4 ⟨rfl, hb5⟩))
        all_goals
          have hb6 := hb.drew.trans (hb5.mono hb.drew.size)
          cases sb with
          | true =>
            go_wp2_with fail
            go_roundw
            case rel =>
              refine ⟨k + 1, by omega, by go_num, fun j hj => ?_, hb6⟩
              by_cases hjk : j = k
              · subst hjk; exact of_decide_eq_true Hsb.out
              · exact hall j (by omega)
            case measure => simp [intOf]; omega
          | false =>
            go_wp2_with fail
            go_ret
            refine ⟨?_, hb6⟩
            rw [← Hr.out]
            have : ¬ fs = gs := fun e => by have := of_decide_eq_false Hsb.out; rw [e] at this; exact this rfl
            simp [this]
      · obtain rfl : k = fs.length := by omega
        go_wp2_with fail
        go_ret
        refine ⟨?_, hb⟩
        rw [← Hr.out]
        have : fs = gs := frd_ext Hn.out hall
        simp [this]
  · have hne : decide (fs = gs) = false := by simp; intro e; exact hn (by rw [e])
    have hnI : ((fs.length : Int) == (gs.length : Int)) = false := beq_eq_false_iff_ne.2 (by omega)
    have hnI2 : ((fs.length : Int) != (gs.length : Int)) = true := by simp; omega
    rw [hne]
    clear hn hne hF hG
    go_enter Try.func19, Try.ntmps19
    go_wp2_with fail
    go_ret
    exact ⟨rfl, Below.refl _ _⟩

/-- How many bytes frames count for. -/
def great (fs : List Fr) (k : Nat) : Nat := ((fs.take k).map (fun f => 7 + f.2.2.length)).sum
theorem great_succ (fs : List Fr) (k : Nat) (h : k < fs.length) : great fs (k + 1) = great fs k + 7 + (frd fs k).2.2.length := by
  unfold great
  rw [List.take_succ_eq_append_getElem h, List.map_append, List.sum_append]
  have := frd_get h
  rw [List.getElem?_eq_getElem h] at this
  injection this with this
  simp [this]; omega
theorem great_le (fs : List Fr) (k : Nat) : great fs k ≤ great fs fs.length := by
  unfold great
  rw [List.take_length]
  conv => rhs; rw [← List.take_append_drop k fs, List.map_append, List.sum_append]
  omega
set_option maxHeartbeats 1000000 in
theorem refGreat_calls (fs : List Fr) (A : Option Addr) (c n : Nat) (hn : n = fs.length) (w : World) (S : Nat → Prop) (hF : RdF w S A fs) (ht : great fs fs.length ≤ 4611686018427387904) (hl : fs.length ≤ 4611686018427387904) :
    Calls Try.prog 9 #[.slice A n c] w fun e w' => e = .returned (.int .i64 (if 3000 < great fs fs.length then 1 else 0)) ∧ w = w' := by
  subst hn
  obtain ⟨r, hr⟩ : ∃ r : Int, (if 3000 < great fs fs.length then 1 else 0) = r := ⟨_, rfl⟩
  rw [hr]
  have Hr := Lib.hid hr
  clear hr
  go_enter Try.func9, Try.ntmps9
  go_wp2
  go_loop [3, 4] (fun s i => ∃ k : Nat, k ≤ fs.length ∧ i = .int .i64 k ∧ s = .int .i64 (great fs k)) (fun _ i => fs.length - (intOf i).toNat)
  case atStart => exact ⟨0, Nat.zero_le _, rfl, rfl⟩
  case round =>
    obtain ⟨k, hk, rfl, rfl⟩ := hrel
    by_cases hlt : k < fs.length
    · obtain ⟨b1, o1, B1, c1, rfl, hb1, x0, x1, x2, x3, x4, x5, x6⟩ := hF.cells hlt
      have hkI : (k : Int) < (fs.length : Int) := by omega
      have hs := great_succ fs k hlt
      have hle := great_le fs (k + 1)
      have hg1 : (great fs k : Int) + 7 + ((frd fs k).2.2.length : Int) ≤ 4611686018427387904 := by omega
      have Hs := Lib.hid hs
      clear hs hle x0 x1 x3 x4 hF
      go_wp2
      go_round
      case rel => exact ⟨k + 1, by omega, by go_num, by rw [Hs.out]; go_num⟩
      case measure => simp [intOf]; omega
    · obtain rfl : k = fs.length := by omega
      clear hF
      go_wp2
      all_goals
        go_ret
        refine ⟨congrArg (fun x : Int => Ending.returned (.int .i64 x)) ?_, rfl⟩
        rw [← Hr.out]
        first
          | (rw [if_pos (by omega)]; done)
          | (rw [if_neg (by omega)]; done)
end Go.Proofs.Ytmfngkhpaadehaa
