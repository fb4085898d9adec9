/-
  The reference's Great and Same of lists of records. Conditions stand at each theorem.
-/
import Derived.Test.YtajpinbabgcnkaaFrameAll
import Derived.Deep.RegionHeld3
import Derived.Deep.DrawnRows
namespace Go.Proofs.Ytajpinbabgcnkaa
open Go Go.RowKit Go.Kw Go.Kw.Crc Go.Kw.Fm
set_option linter.unusedVariables false
set_option linter.unusedSimpArgs false
attribute [local go_sem ↓] Go.wp_at_zero Go.wp_at_succ

theorem refGreat_calls (ls : List (List UInt8)) (A : Option Addr) (c n : Nat) (hn : n = ls.length) (w : World) (S : Nat → Prop) (hF : RdL w S A ls) (ht : (ls.flatMap frm).length ≤ 4611686018427387904) :
    Calls Try.prog 8 #[.slice A n c] w fun e w' => e = .returned (.int .i64 (if 9000 < (ls.flatMap frm).length then 1 else 0)) ∧ w = w' := by
  have hcnt := count_le ls
  subst hn
  obtain ⟨G, hG⟩ : ∃ G, (ls.flatMap frm).length = G := ⟨_, rfl⟩
  have hfl : (frms ls ls.length).length = G := by rw [frms_all]; exact hG
  have HG := Lib.hid hG
  have Hfl := Lib.hid hfl
  rw [hG] at ht hcnt ⊢
  clear hG hfl
  obtain ⟨r, hr⟩ : ∃ r : Int, (if 9000 < G then 1 else 0) = r := ⟨_, rfl⟩
  rw [hr]
  have Hr := Lib.hid hr
  have hl : ls.length ≤ 4611686018427387904 := by omega
  clear hr hcnt
  go_enter Try.func8, Try.ntmps8
  go_wp2
  go_loop [3, 4] (fun s i => ∃ k : Nat, k ≤ ls.length ∧ i = .int .i64 k ∧ s = .int .i64 ((frms ls k).length : Nat)) (fun _ i => ls.length - (intOf i).toNat)
  case atStart => exact ⟨0, Nat.zero_le _, rfl, rfl⟩
  case round =>
    obtain ⟨k, hk, rfl, rfl⟩ := hrel
    by_cases hlt : k < ls.length
    · obtain ⟨b1, o1, B1, c1, rfl, hb1, x0, x1, x2, x3, x4⟩ := hF.cells hlt
      have hkI : (k : Int) < (ls.length : Int) := by omega
      have hs := frms_succ ls k hlt
      have hle := frms_le ls (k + 1)
      rw [hs, List.length_append, frm_length, HG.out] at hle
      have hg1 : ((frms ls k).length : Int) + 6 + ((lrd ls k).length : Int) ≤ 4611686018427387904 := by omega
      have Hs : Hid ((frms ls (k + 1)).length = (frms ls k).length + (6 + (lrd ls k).length)) := by
        show _ = _
        rw [hs, List.length_append, frm_length]
      clear hs hle x1 x2 x4 hF
      go_wp2
      go_round
      case rel => exact ⟨k + 1, by omega, by go_num, by rw [Hs.out]; go_num⟩
      case measure => simp [intOf]; omega
    · obtain rfl : k = ls.length := by omega
      clear hF
      rw [Hfl.out]
      go_wp2
      all_goals
        go_ret
        refine ⟨congrArg (fun x : Int => Ending.returned (.int .i64 x)) ?_, rfl⟩
        rw [← Hr.out]
        first
          | (rw [if_pos (by omega)]; done)
          | (rw [if_neg (by omega)]; done)
theorem lrd_ext {fs gs : List (List UInt8)} (hl : fs.length = gs.length) (h : ∀ j, j < fs.length → lrd fs j = lrd gs j) : fs = gs := by
  apply List.ext_getElem? 
  intro j
  rcases Nat.lt_or_ge j fs.length with hj | hj
  · rw [lrd_get hj, lrd_get (by omega), h j hj]
  · rw [List.getElem?_eq_none hj, List.getElem?_eq_none (by omega)]
set_option maxHeartbeats 1000000 in
theorem refSame_calls (fs gs : List (List UInt8)) (A B : Option Addr) (n m c d : Nat) (hn0 : n = fs.length) (hm0 : m = gs.length) (w : World) (S S' : Nat → Prop) (hF : RdL w S A fs) (hG : RdL w S' B gs) (hl : fs.length ≤ 1000000) (hl2 : gs.length ≤ 1000000) :
    Calls Try.prog 15 #[.slice A n c, .slice B m d] w fun e w' => e = .returned (.bool (decide (fs = gs))) ∧ Below w.heap.size w w' := by
  subst hn0 hm0
  by_cases hn : fs.length = gs.length
  · have hnI : ((fs.length : Int) == (gs.length : Int)) = true := beq_iff_eq.2 (by omega)
    have hnI2 : ((fs.length : Int) != (gs.length : Int)) = false := by simp [hn]
    obtain ⟨r, hr⟩ : ∃ r, decide (fs = gs) = r := ⟨_, rfl⟩
    rw [hr]
    have Hr := Lib.hid hr
    have Hn := Lib.hid hn
    clear hr hn
    go_enter Try.func15, Try.ntmps15
    go_wp2
    go_loopw [5] (fun i wr => ∃ k : Nat, k ≤ fs.length ∧ i = .int .i64 k ∧ Hid (∀ j, j < k → lrd fs j = lrd gs j) ∧ Below w.heap.size w wr) (fun i _ => fs.length - (intOf i).toNat)
    case atStart => exact ⟨0, Nat.zero_le _, rfl, fun j hj => by omega, Below.refl _ _⟩
    case round =>
      obtain ⟨k, hk, rfl, hall, hb⟩ := hrel
      by_cases hlt : k < fs.length
      · have hF2 := hF.kept (hb.keptS S)
        have hG2 := hG.kept (hb.keptS S')
        obtain ⟨b1, o1, B1, c1, rfl, hb1, x0, x1, x2, x3, x4⟩ := hF2.cells hlt
        obtain ⟨b2, o2, B2, c2, rfl, hb2, y0, y1, y2, y3, y4⟩ := hG2.cells (k := k) (by have := Hn.out; omega)
        have hkI : (k : Int) < (fs.length : Int) := by omega
        have hkI2 : (k : Int) < (gs.length : Int) := by have := Hn.out; omega
        have HK : Hid (∀ W, Below wr.heap.size wr W → W.cell? ⟨b1, o1 + k, none⟩ = some (.slice B1 (lrd fs k).length c1) ∧ W.cell? ⟨b2, o2 + k, none⟩ = some (.slice B2 (lrd gs k).length c2) ∧
            (convert 23 9 (.slice B1 (lrd fs k).length c1)).run Try.prog W = .ok (.string ⟨(lrd fs k).toArray⟩) W ∧ (convert 23 9 (.slice B2 (lrd gs k).length c2)).run Try.prog W = .ok (.string ⟨(lrd gs k).toArray⟩) W) := fun W hW =>
          ⟨(hW.cell (p := ⟨b1, _, none⟩) hb1).trans x0, (hW.cell (p := ⟨b2, _, none⟩) hb2).trans y0,
            run_string (P := Try.prog) (x1.rd.go hW) c1 x2 Try.underlying23 Try.underlying5 Try.underlying9, run_string (P := Try.prog) (y1.rd.go hW) c2 y2 Try.underlying23 Try.underlying5 Try.underlying9⟩
        obtain ⟨u, hu⟩ : ∃ u, lrd fs k = u := ⟨_, rfl⟩
        obtain ⟨v, hv⟩ : ∃ v, lrd gs k = v := ⟨_, rfl⟩
        rw [hu, hv] at HK
        have Hu := Lib.hid hu
        have Hv := Lib.hid hv
        clear x0 x1 x2 x3 x4 y0 y1 y2 y3 y4 hF hG hF2 hG2 hu hv
        cases hab : u == v with
        | true =>
          have Hab := Lib.hid (beq_iff_eq.1 hab)
          go_wp2_with fail
          go_region_held3 (fun W => W.cell? ⟨b1, o1 + k, none⟩ = some (.slice B1 u.length c1) ∧ W.cell? ⟨b2, o2 + k, none⟩ = some (.slice B2 v.length c2) ∧
              (convert 23 9 (.slice B1 u.length c1)).run Try.prog W = .ok (.string ⟨u.toArray⟩) W ∧ (convert 23 9 (.slice B2 v.length c2)).run Try.prog W = .ok (.string ⟨v.toArray⟩) W)
            (exact HK.out _ ((Below.refl _ _).drew)) (fail)
          have hb6 := hb.drew
          go_wp2_with fail
          refine ⟨⟨k + 1, by omega, rfl, fun j hj => ?_, hb6⟩, by simp [intOf]; omega⟩
          by_cases hjk : j = k
          · subst hjk; rw [Hu.out, Hv.out, Hab.out]
          · exact hall.out j (by omega)
        | false =>
          have Hab := Lib.hid (beq_eq_false_iff_ne.1 hab)
          go_wp2_with fail
          go_region_held3 (fun W => W.cell? ⟨b1, o1 + k, none⟩ = some (.slice B1 u.length c1) ∧ W.cell? ⟨b2, o2 + k, none⟩ = some (.slice B2 v.length c2) ∧
              (convert 23 9 (.slice B1 u.length c1)).run Try.prog W = .ok (.string ⟨u.toArray⟩) W ∧ (convert 23 9 (.slice B2 v.length c2)).run Try.prog W = .ok (.string ⟨v.toArray⟩) W)
            (exact HK.out _ ((Below.refl _ _).drew)) (fail)
          have hb6 := hb.drew
          go_wp2_with fail
          go_ret
          refine ⟨?_, hb6⟩
          rw [← Hr.out]
          have : ¬ fs = gs := fun e => by
            have h1 := Hu.out
            have h2 := Hv.out
            rw [e, h2] at h1
            exact Hab.out h1.symm
          simp [this]
      · obtain rfl : k = fs.length := by omega
        go_wp2_with fail
        go_ret
        refine ⟨?_, hb⟩
        rw [← Hr.out]
        have : fs = gs := lrd_ext Hn.out hall
        simp [this]
  · have hne : decide (fs = gs) = false := by simp; intro e; exact hn (by rw [e])
    have hnI : ((fs.length : Int) == (gs.length : Int)) = false := beq_eq_false_iff_ne.2 (by omega)
    have hnI2 : ((fs.length : Int) != (gs.length : Int)) = true := by simp; omega
    rw [hne]
    clear hn hne hF hG
    go_enter Try.func15, Try.ntmps15
    go_wp2_with fail
    go_ret
    exact ⟨rfl, Below.refl _ _⟩
end Go.Proofs.Ytajpinbabgcnkaa
