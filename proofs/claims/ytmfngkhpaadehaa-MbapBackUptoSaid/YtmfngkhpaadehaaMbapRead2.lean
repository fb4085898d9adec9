/-
  Read of package mbap, walked. Conditions: at most 1,000,000 bytes.
-/
import Derived.Test.YtmfngkhpaadehaaMbapRead
import Derived.Deep.DrawnRows
import Derived.IntWalk
namespace Go.Proofs.Ytmfngkhpaadehaa
open Go Go.RowKit Go.Kw Go.Kw.Mb
set_option linter.unusedVariables false
set_option linter.unusedSimpArgs false
attribute [local go_sem ↓] Go.wp_at_zero Go.wp_at_succ

theorem own_other {w : World} {base : Nat} {e : TypeId} {size : Nat} {v : Value} {n : Nat} {xs : List Value} (h : w.ownsRow base e size v n xs) {p : Addr} (hp : p.block < base) (u : Value) : (w.setCell p u).ownsRow base e size v n xs :=
  own_kept (S := fun b => b ≠ p.block) h ((Kept.refl _ w).setCell (by simp) u) (fun b hb => by omega)
def zeroF : Value := .agg #[.int .i64 0, .int .i64 0, .slice none 0 0]
def ReadPost (w' : World) (base : Nat) (e : Ending) (l : List UInt8) : Bool → Bool → Prop
  | true, _ => e = .returned (.tuple #[zeroF, .int .i64 0, .int .i64 210])
  | false, true => ∃ A c, e = .returned (.tuple #[fv (fr l) A c, .int .i64 (flen l : Nat), .int .i64 0]) ∧ w'.ownsRow base 5 1 (.slice A (fr l).2.2.length c) (fr l).2.2.length (bv (fr l).2.2)
  | false, false => e = .returned (.tuple #[zeroF, .int .i64 0, .int .i64 0])
theorem whl_short {l : List UInt8} (hb : brk l = false) (h : l.length < 7) : whl l = false := by
  rw [whl_no]
  have := (brk_no l).1 hb
  by_cases h6 : l.length < 6
  · exact .inl h6
  · have := this.2.2 (by omega); exact .inr (by omega)

set_option maxHeartbeats 1000000 in
theorem read_calls (A : Option Addr) (c : Nat) (l : List UInt8) (hl : l.length ≤ 1000000) (w : World) (hR : RdB w w.heap.size A l) (hz : A = none → l.length = 0) (hc : l.length ≤ c) (hc2 : c ≤ 9223372036854775807) :
    Calls Try.prog 12 #[.slice A l.length c] w fun e w' => ReadPost w' w.heap.size e l (brk l) (whl l) ∧ Below w.heap.size w w' := by
  have hb1 := bstep w (.cells #[.int .i64 0, .int .i64 0, .slice none 0 0] 24)
  have k1 := blk_new w #[.int .i64 0, .int .i64 0, .slice none 0 0] 24
  have Hbr := broken_calls A c l hl _ (hR.go hb1) hz hc hc2
  obtain ⟨r, hr⟩ : ∃ r, brk l = r := ⟨_, rfl⟩
  rw [hr] at Hbr
  have HB := Lib.hid Hbr
  clear Hbr
  cases r with
  | true =>
    rw [hr]
    clear hr
    go_enter Try.func12, Try.ntmps12
    go_wp2_with fail
    refine HB.out.mono ?_
    rintro e w2 ⟨rfl, hb2⟩
    have k2 := blk_below k1 hb2
    have c0 := blk_cell k2 0 rfl
    have c1 := blk_cell k2 1 rfl
    have c2 := blk_cell k2 2 rfl
    have f0 := blk_frozen k2 0
    have f1 := blk_frozen k2 1
    have f2 := blk_frozen k2 2
    have hb3 := bnext hb1 hb2
    clear k1 k2
    go_wp2_with fail
    refine bodyPost_ret (v := .tuple #[zeroF, .int .i64 0, .int .i64 210]) ?_ rfl ?_
    · simp [results, zeroF, go_sem, c0, c1, c2, f0, f1, f2]
    · exact ⟨rfl, ((hb3.setCell (p := ⟨w.heap.size, 0, none⟩) (Nat.le_refl _) _).setCell (p := ⟨w.heap.size, 1, none⟩) (Nat.le_refl _) _).setCell (p := ⟨w.heap.size, 2, none⟩) (Nat.le_refl _) _⟩
  | false =>
    have Hr := Lib.hid hr
    by_cases h7 : l.length < 7
    · have hw := whl_short hr h7
      rw [hr, hw]
      have q : (l.length : Int) < 7 := by omega
      clear hr hw
      go_enter Try.func12, Try.ntmps12
      go_wp2_with fail
      refine HB.out.mono ?_
      rintro e w2 ⟨rfl, hb2⟩
      have k2 := blk_below k1 hb2
      have c0 := blk_cell k2 0 rfl
      have c1 := blk_cell k2 1 rfl
      have c2 := blk_cell k2 2 rfl
      have f0 := blk_frozen k2 0
      have f1 := blk_frozen k2 1
      have f2 := blk_frozen k2 2
      have hb3 := bnext hb1 hb2
      clear k1 k2
      go_wp2_with fail
      refine bodyPost_ret (v := .tuple #[zeroF, .int .i64 0, .int .i64 0]) ?_ rfl ?_
      · simp [results, zeroF, go_sem, c0, c1, c2, f0, f1, f2]
      · exact ⟨rfl, ((hb3.setCell (p := ⟨w.heap.size, 0, none⟩) (Nat.le_refl _) _).setCell (p := ⟨w.heap.size, 1, none⟩) (Nat.le_refl _) _).setCell (p := ⟨w.heap.size, 2, none⟩) (Nat.le_refl _) _⟩
    · have q : (7 : Int) ≤ (l.length : Int) := by omega
      have hsz := ((brk_no l).1 hr).2.2 (by omega)
      have hfl : ((flen l : Nat) : Int) = 6 + sz l := by unfold flen; have := sz_lo l; omega
      rcases hR with h | ⟨b, off, rfl, hlt, hcs⟩
      · omega
      · have ho := or_shl8 (bAt l 4) (bAt l 5) (bAt_lo l 4) (bAt_hi l 4) (bAt_lo l 5) (bAt_hi l 5)
        have a4 := bAt_lo l 4
        have b4 := bAt_hi l 4
        have a5 := bAt_lo l 5
        have b5 := bAt_hi l 5
        have HC := Lib.hid hcs
        have Hf := Lib.hid hfl
        have Hs := Lib.hid hsz
        by_cases hw : whl l = true
        · rw [hr, hw]
          have hfr : (fr l).2.2.length = flen l - 7 := by
            have := flen_ge hr hw
            unfold fr; simp; omega
          have hfl2 := flen_ge hr hw
          obtain ⟨F, hF⟩ : ∃ F, flen l = F := ⟨_, rfl⟩
          rw [hF] at hfr hfl2 hfl
          obtain ⟨pd, hpd⟩ : ∃ pd, (fr l).2.2 = pd := ⟨_, rfl⟩
          have hn : 6 + (bAt l 4 * 256 + bAt l 5) = ((F : Nat) : Int) := hfl.symm
          have Hn := Lib.hid hn
          have HP : Hid ((fr l).2.2 = (l.drop 7).take (F - 7)) := by show _ = _; rw [← hF]; rfl
          have HF := Lib.hid hF
          have Hfr := Lib.hid hfr
          have Hpd := Lib.hid hpd
          have n1 : (F : Int) ≤ (l.length : Int) := by omega
          have n2 : (7 : Int) ≤ (F : Int) := by omega
          have n3 : (F : Int) ≤ (c : Int) := by omega
          have n4 : ¬ c = 7 := by omega
          clear hr hw hcs hfl hsz h7 hz hfr hfl2 hF hpd hn Hf Hs
          go_enter Try.func12, Try.ntmps12
          go_wp2_with fail
          refine HB.out.mono ?_
          rintro e w2 ⟨rfl, hb2⟩
          have k2 := blk_below k1 hb2
          have hb3 := bnext hb1 hb2
          have i4 : w2.cell? ⟨b, off + 4, none⟩ = some (.int .u8 (bAt l 4)) := (hb3.cell (p := ⟨b, off + 4, none⟩) hlt).trans (HC.out 4 (by omega))
          have i5 : w2.cell? ⟨b, off + 5, none⟩ = some (.int .u8 (bAt l 5)) := (hb3.cell (p := ⟨b, off + 5, none⟩) hlt).trans (HC.out 5 (by omega))
          clear k1
          go_wp2_with fail
          go_quiet (fail)
          rw [Hn.out]
          have k3 : (w2.drewN nq).heap[w.heap.size]? = some (.cells #[.int .i64 0, .int .i64 0, .slice none 0 0] 24 (0, 0)) := k2
          have hb4 := hb3.drewN nq
          clear k2 hb2 i4 i5 ho
          generalize w2.drewN nq = W3 at *
          have HK : Hid (∀ W, Below w.heap.size w W → W.cell? ⟨b, off, none⟩ = some (.int .u8 (bAt l 0)) ∧ W.cell? ⟨b, off + 1, none⟩ = some (.int .u8 (bAt l 1)) ∧ W.cell? ⟨b, off + 6, none⟩ = some (.int .u8 (bAt l 6))) := fun W hbW =>
            ⟨(hbW.cell (p := ⟨b, off, none⟩) hlt).trans (HC.out 0 (by omega)), (hbW.cell (p := ⟨b, off + 1, none⟩) hlt).trans (HC.out 1 (by omega)), (hbW.cell (p := ⟨b, off + 6, none⟩) hlt).trans (HC.out 6 (by omega))⟩
          have HS : Hid (∀ W, Below W3.drew.heap.size W3.drew W → W.cell? ⟨w.heap.size, 0, none⟩ = some (.int .i64 0) ∧ W.cell? ⟨w.heap.size, 1, none⟩ = some (.int .i64 0) ∧ W.cell? ⟨w.heap.size, 2, none⟩ = some (.slice none 0 0) ∧
              W.frozen? ⟨w.heap.size, 0, none⟩ = false ∧ W.frozen? ⟨w.heap.size, 1, none⟩ = false ∧ W.frozen? ⟨w.heap.size, 2, none⟩ = false) := fun W hW => by
            have kW := blk_below (W := W3.drew) k3 hW
            exact ⟨blk_cell kW 0 rfl, blk_cell kW 1 rfl, blk_cell kW 2 rfl, blk_frozen kW 0, blk_frozen kW 1, blk_frozen kW 2⟩
          have hrd : RdB W3.drew W3.drew.heap.size (some ⟨b, off + 7, none⟩) pd := by
            have h0 : RdY W3.drew (fun _ => True) (some ⟨b, off, none⟩) l := .inr ⟨b, off, rfl, trivial, Nat.lt_of_lt_of_le hlt hb4.drew.size, fun i hi => (hb4.drew.cell (p := ⟨b, off + i, none⟩) hlt).trans (HC.out i hi)⟩
            rw [← Hpd.out, HP.out]
            exact ((h0.drop 7).take (F - 7)).rd
          have HCl := Lib.hid (clone_n (some ⟨b, off + 7, none⟩) (c - 7) (F - 7) pd (by rw [← Hfr.out, Hpd.out]) (by omega) W3.drew hrd (by simp))
          have o1 := or_shl8 (bAt l 0) (bAt l 1) (bAt_lo l 0) (bAt_hi l 0) (bAt_lo l 1) (bAt_hi l 1)
          have a0 := bAt_lo l 0
          have b0 := bAt_hi l 0
          have a1 := bAt_lo l 1
          have b1 := bAt_hi l 1
          have a6 := bAt_lo l 6
          have b6 := bAt_hi l 6
          have p0 : 0 < l.length := by omega
          have p1 : (1 : Int) < (l.length : Int) := by omega
          have p6 : (6 : Int) < (l.length : Int) := by omega
          have w0 : IntKind.i64.wrap (bAt l 0) = bAt l 0 := IntWalk.i64_in _ (by omega)
          have w1 : IntKind.i64.wrap (bAt l 1) = bAt l 1 := IntWalk.i64_in _ (by omega)
          have w01 : IntKind.i64.wrap (bAt l 0 * 256) = bAt l 0 * 256 := IntWalk.i64_in _ (by omega)
          have w6 : IntKind.i64.wrap (bAt l 6) = bAt l 6 := IntWalk.i64_in _ (by omega)
          have lt3 : w.heap.size < W3.drew.heap.size := blk_lt (W := W3.drew) k3
          clear hrd k3 a4 b4 a5 b5
          go_wp2_with fail
          go_region_held3 (fun W => W.cell? ⟨b, off, none⟩ = some (.int .u8 (bAt l 0)) ∧ W.cell? ⟨b, off + 1, none⟩ = some (.int .u8 (bAt l 1)) ∧ W.cell? ⟨b, off + 6, none⟩ = some (.int .u8 (bAt l 6)))
            (first | exact HK.out _ hb4.drew | exact HK.out _ (hb4.drew.trans (hb5.mono hb4.drew.size)) | exact HK.out _ ((((hb4.drew.trans (hb5.mono hb4.drew.size)).setCell (Nat.le_refl _) _).setCell (Nat.le_refl _) _).setCell (Nat.le_refl _) _))
            ((go_at_call 23; refine HCl.out.mono ?_; rintro e w4 ⟨A4, c4, rfl, o4, hb5⟩; obtain ⟨s0, s1, s2, s3, s4, s5⟩ := HS.out _ hb5))
          all_goals
            go_wp2_with fail
            have hb6 := hb4.drew.trans (hb5.mono hb4.drew.size)
            have o5 := own_other (own_other (own_other o4 (p := ⟨w.heap.size, 0, none⟩) lt3 (.int .i64 (bAt l 0 * 256 + bAt l 1))) (p := ⟨w.heap.size, 1, none⟩) lt3 (.int .i64 (bAt l 6))) (p := ⟨w.heap.size, 2, none⟩) lt3 (.slice A4 (F - 7) c4)
            refine bodyPost_ret (v := .tuple #[.agg #[.int .i64 (bAt l 0 * 256 + bAt l 1), .int .i64 (bAt l 6), .slice A4 (F - 7) c4], .int .i64 (F : Nat), .int .i64 0]) ?_ rfl ⟨⟨A4, c4, ?_, ?_⟩, ?_⟩
            · simp [results, go_sem, s0, s1, s2, s3, s4, s5]
            · unfold fv; rw [Hfr.out, HF.out]; rfl
            · rw [Hfr.out, Hpd.out]; exact own_mono o5 (Nat.le_of_lt lt3)
            · exact ((hb6.setCell (p := ⟨w.heap.size, 0, none⟩) (Nat.le_refl _) _).setCell (p := ⟨w.heap.size, 1, none⟩) (Nat.le_refl _) _).setCell (p := ⟨w.heap.size, 2, none⟩) (Nat.le_refl _) _
        · have hw' : whl l = false := by simpa using hw
          rw [hr, hw']
          have hlt2 : (l.length : Int) < 6 + (bAt l 4 * 256 + bAt l 5) := by
            have := (whl_no l).1 hw'; unfold sz at this; omega
          clear hr hw hw' hcs hfl hsz h7 hz
          go_enter Try.func12, Try.ntmps12
          go_wp2_with fail
          refine HB.out.mono ?_
          rintro e w2 ⟨rfl, hb2⟩
          have k2 := blk_below k1 hb2
          have hb3 := bnext hb1 hb2
          have i4 : w2.cell? ⟨b, off + 4, none⟩ = some (.int .u8 (bAt l 4)) := (hb3.cell (p := ⟨b, off + 4, none⟩) hlt).trans (HC.out 4 (by omega))
          have i5 : w2.cell? ⟨b, off + 5, none⟩ = some (.int .u8 (bAt l 5)) := (hb3.cell (p := ⟨b, off + 5, none⟩) hlt).trans (HC.out 5 (by omega))
          clear k1
          go_wp2_with fail
          go_quiet (fail)
          have k3 : (w2.drewN nq).heap[w.heap.size]? = some (.cells #[.int .i64 0, .int .i64 0, .slice none 0 0] 24 (0, 0)) := k2
          have hb4 := hb3.drewN nq
          generalize w2.drewN nq = W3 at *
          have c0 := blk_cell k3 0 rfl
          have c1 := blk_cell k3 1 rfl
          have c2 := blk_cell k3 2 rfl
          have f0 := blk_frozen k3 0
          have f1 := blk_frozen k3 1
          have f2 := blk_frozen k3 2
          clear k2 k3 ho
          go_wp2_with fail
          refine bodyPost_ret (v := .tuple #[zeroF, .int .i64 0, .int .i64 0]) ?_ rfl ?_
          · simp [results, zeroF, go_sem, c0, c1, c2, f0, f1, f2]
          · exact ⟨rfl, ((hb4.setCell (p := ⟨w.heap.size, 0, none⟩) (Nat.le_refl _) _).setCell (p := ⟨w.heap.size, 1, none⟩) (Nat.le_refl _) _).setCell (p := ⟨w.heap.size, 2, none⟩) (Nat.le_refl _) _⟩
end Go.Proofs.Ytmfngkhpaadehaa
