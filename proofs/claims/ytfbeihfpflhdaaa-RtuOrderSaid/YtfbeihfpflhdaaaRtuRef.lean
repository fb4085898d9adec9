/-
  The document's Read, walked, and that it answers as the package's. Conditions: at most 1,000 bytes.
-/
import Derived.Test.YtfbeihfpflhdaaaRtuRead
namespace Go.Proofs.Ytfbeihfpflhdaaa
open Go Go.RowKit Go.Kw Go.Kw.Crc
set_option linter.unusedVariables false
set_option linter.unusedSimpArgs false

def mid (l : List UInt8) : List UInt8 := (l.drop 1).take (l.length - 3)
def refReadOf (l : List UInt8) : Option (Int × List UInt8) := if 4 ≤ l.length ∧ l.length ≤ 256 ∧ bytesOf (bAt l 0) (mid l) = some l then some (bAt l 0, mid l) else none
theorem refRead_same (l : List UInt8) : refReadOf l = readOf l := by
  unfold refReadOf readOf
  by_cases h : 4 ≤ l.length ∧ l.length ≤ 256
  · obtain ⟨h1, h2⟩ := h
    have hcons : UInt8.ofNat (bAt l 0).toNat :: mid l = l.take (l.length - 2) := by
      match l, h1 with
      | x :: y :: z :: l', _ => simp [mid, bAt]
    have hlen : (mid l).length = l.length - 3 := by unfold mid; simp; omega
    have hb := bAt_lo l 0
    have ht0 : bAt (l.take (l.length - 2)) 0 = bAt l 0 := by
      unfold bAt; rw [List.getD_eq_getElem?_getD, List.getD_eq_getElem?_getD, List.getElem?_take_of_lt (by omega)]
    have htl : (l.take (l.length - 2)).length = l.length - 2 := by simp
    have hdrop : (l.take (l.length - 2)).drop 1 = mid l := by rw [← hcons]; rfl
    by_cases hs : seal16 (l.take (l.length - 2)) = l
    · have ho : openOf seal16 2 l = some (l.take (l.length - 2)) := by unfold openOf; rw [if_pos ⟨by omega, hs⟩]
      rw [ho]
      by_cases h3 : bAt l 0 ≤ 247
      · have hby : bytesOf (bAt l 0) (mid l) = some l := by unfold bytesOf; rw [if_pos (by omega), hcons, hs]
        rw [if_pos ⟨h1, h2, hby⟩]
        show _ = if _ then _ else _
        rw [if_pos (by rw [ht0, htl]; omega), ht0, hdrop]
      · have hby : bytesOf (bAt l 0) (mid l) = none := by unfold bytesOf; rw [if_neg (by omega)]
        rw [if_neg (by rw [hby]; simp)]
        show _ = if _ then _ else _
        rw [if_neg (by rw [ht0]; omega)]
    · have ho : openOf seal16 2 l = none := by unfold openOf; rw [if_neg (by intro h; exact hs h.2)]
      rw [ho, if_neg]
      rintro ⟨-, -, h4⟩
      unfold bytesOf at h4
      split at h4
      · rw [hcons] at h4; injection h4 with h4; exact hs h4
      · cases h4
  · rw [if_neg (by omega)]
    unfold openOf
    split
    · rfl
    · rename_i r hr
      split at hr
      · injection hr with hr
        rw [if_neg]
        rintro ⟨h4, h5, -⟩
        rw [← hr] at h4 h5
        simp at h4 h5
        omega
      · cases hr

theorem refBytes_n (u : Int) (A : Option Addr) (c N : Nat) (l : List UInt8) (hN : N = l.length) (hl : l.length ≤ 1000) (w : World) (hR : RdB w w.heap.size A l) (hz : A = none → l.length = 0) :
    Calls Try.prog 9 #[.agg #[.int .i64 u, .slice A N c]] w fun e w' => RPost w' w.heap.size e (bytesOf u l) ∧ Below w.heap.size w w' := by
  subst hN; exact refBytes_calls u A c l hl w hR hz

set_option maxHeartbeats 2000000 in
theorem refRead_calls (A : Option Addr) (c : Nat) (l : List UInt8) (hl : l.length ≤ 1000) (w : World) (hR : RdB w w.heap.size A l) (hz : A = none → l.length = 0) (hc : l.length ≤ c) (hc2 : c ≤ 9223372036854775807) :
    Calls Try.prog 11 #[.slice A l.length c] w fun e w' => FPost w' e (refReadOf l) ∧ Below w.heap.size w w' := by
  have hb0 := Below.refl w.heap.size w
  have hb1 := balloc hb0 (.cells #[.int .i64 0, .slice none 0 0] 24)
  have bx0 := Box2.new w 24 (.int .i64 0) (.slice none 0 0)
  by_cases h1 : l.length < 4
  · have ho : refReadOf l = none := if_neg (by omega)
    rw [ho]
    have k1 : decide ((l.length : Int) < 4) = true := by simp; omega
    have c0 := bx0.c0
    have c1 := bx0.c1
    have f0 := bx0.f0
    have f1 := bx0.f1
    clear h1 ho
    go_enter Try.func11, Try.ntmps11
    go_wp2_with fail
    refine bodyPost_ret (v := .tuple #[fv 0 none 0 0, .int .i64 200]) ?_ rfl ?_
    · simp [results, fv, go_sem, c0, c1, f0, f1]
    · exact ⟨rfl, hb1⟩
  · by_cases h2 : 256 < l.length
    · have ho : refReadOf l = none := if_neg (by omega)
      rw [ho]
      have k1 : decide ((l.length : Int) < 4) = false := by simp; omega
      have k2 : decide (256 < (l.length : Int)) = true := by simp; omega
      have c0 := bx0.c0
      have c1 := bx0.c1
      have f0 := bx0.f0
      have f1 := bx0.f1
      clear h1 h2 ho
      go_enter Try.func11, Try.ntmps11
      go_wp2_with fail
      refine bodyPost_ret (v := .tuple #[fv 0 none 0 0, .int .i64 200]) ?_ rfl ?_
      · simp [results, fv, go_sem, c0, c1, f0, f1]
      · exact ⟨rfl, hb1⟩
    · have k1 : decide ((l.length : Int) < 4) = false := by simp; omega
      have k2 : decide (256 < (l.length : Int)) = false := by simp; omega
      have hR1 := hR.below hb1
      obtain ⟨b, off, rfl, hlt, hc0⟩ := Rd.at_ hR1 (k := 0) (by omega)
      rw [Nat.add_zero] at hc0
      have kp : (0 : Int) < (l.length : Int) := by omega
      have kw : IntKind.i64.wrap (bAt l 0) = bAt l 0 := IntWalk.i64_in _ (by have := bAt_lo l 0; have := bAt_hi l 0; omega)
      have kq : IntKind.i64.wrap ((l.length : Int) - 2) = (l.length : Int) - 2 := IntWalk.i64_in _ (by omega)
      have q1 : (1 : Int) ≤ (l.length : Int) - 2 := by omega
      have q2 : 0 ≤ (l.length : Int) - 2 := by omega
      have q3 : ((l.length : Int) - 2).toNat = l.length - 2 := by omega
      have q4 : (l.length : Int) - 2 ≤ (c : Int) := by omega
      have q5 : l.length - 2 ≤ c := by omega
      have kc : c ≠ 1 := by omega
      clear hz
      go_enter Try.func11, Try.ntmps11
      go_wp2_with fail
      go_region
      have hb2 := (balloc hb1 (.cells #[.int .i64 (bAt l 0), .slice (some ⟨b, off + 1, none⟩) (l.length - 2 - 1) (c - 1)] 24)).drew
      have bx1 : Box2 _ _ _ _ _ := bx0.below ((Below.refl _ _).alloc (Nat.le_refl _) (.cells #[.int .i64 (bAt l 0), .slice (some ⟨b, off + 1, none⟩) (l.length - 2 - 1) (c - 1)] 24)).drew
      have bx2' := Box2.new (w.alloc (.cells #[.int .i64 0, .slice none 0 0] 24)) 24 (.int .i64 (bAt l 0)) (.slice (some ⟨b, off + 1, none⟩) (l.length - 2 - 1) (c - 1))
      have bx2 : Box2 _ _ _ _ _ := bx2'.below (Below.refl _ _).drew
      rw [World.size_alloc] at bx2
      clear bx2' bx0
      generalize ((w.alloc (.cells #[.int .i64 0, .slice none 0 0] 24)).alloc (.cells #[.int .i64 (bAt l 0), .slice (some ⟨b, off + 1, none⟩) (l.length - 2 - 1) (c - 1)] 24)).drew = W1 at hb2 bx1 bx2 ⊢
      have hm : l.length - 2 - 1 = (mid l).length := by unfold mid; simp; omega
      have Hm := Lib.hid hm
      have d0 := bx2.c0
      have d1 := bx2.c1
      have hRm : RdB W1 W1.heap.size (some ⟨b, off + 1, none⟩) (mid l) := rdB_take (rdB_drop (hR.go hb2) 1) _ (by simp; omega)
      have Hlen : Hid (4 ≤ l.length ∧ l.length ≤ 256) := by show _ ∧ _; omega
      clear hR1 hc0 hm h1 h2
      go_wp2_with fail
      refine (refBytes_n (bAt l 0) (some ⟨b, off + 1, none⟩) (c - 1) _ (mid l) Hm.out (by have := Hm.out; omega) W1 hRm (by simp)).mono ?_
      rintro e w2 ⟨hx, hb3⟩
      have by1 := bx1.below hb3
      have by2 := bx2.below hb3
      have c0 := by1.c0
      have c1 := by1.c1
      have f0 := by1.f0
      have f1 := by1.f1
      have e0 := by2.c0
      have e1 := by2.c1
      replace hb3 := bnext hb2 hb3
      clear d0 d1 bx1 bx2 by1 by2 hb2 hRm
      cases hy : bytesOf (bAt l 0) (mid l) with
      | none =>
        have ho : refReadOf l = none := by unfold refReadOf; rw [hy, if_neg (by simp)]
        have Ho := Lib.hid ho
        rw [hy] at hx
        obtain rfl := hx
        clear ho hy
        go_wp2_with fail
        refine bodyPost_ret (v := .tuple #[fv 0 none 0 0, .int .i64 200]) ?_ rfl ?_
        · simp [results, fv, go_sem, c0, c1, f0, f1]
        · rw [Ho.out]; exact ⟨rfl, (hb3.setCell (p := ⟨w.heap.size, 0, none⟩) (Nat.le_refl _) _).setCell (p := ⟨w.heap.size, 1, none⟩) (Nat.le_refl _) _⟩
      | some s =>
        rw [hy] at hx
        obtain ⟨A3, c3, rfl, o3, z3⟩ := hx
        have s1 := run_string (P := Try.prog) (src := 22) (dst := 9) (rdB_own o3).1 c3 z3 Try.underlying22 Try.underlying5 Try.underlying9
        have s2 := run_string (P := Try.prog) (src := 22) (dst := 9) (hR.go hb3) c (by simp) Try.underlying22 Try.underlying5 Try.underlying9
        by_cases hsl : s = l
        · subst hsl
          have ho : refReadOf s = some (bAt s 0, mid s) := by unfold refReadOf; rw [if_pos ⟨Hlen.out.1, Hlen.out.2, hy⟩]
          have Ho := Lib.hid ho
          clear ho hy o3 z3
          have hb4 := (hb3.setCell (p := ⟨w.heap.size, 0, none⟩) (Nat.le_refl _) (.int .i64 (bAt s 0))).setCell (p := ⟨w.heap.size, 1, none⟩) (Nat.le_refl _) (.slice (some ⟨b, off + 1, none⟩) (s.length - 2 - 1) (c - 1))
          go_wp2_with fail
          refine bodyPost_ret (v := .tuple #[fv (bAt s 0) (some ⟨b, off + 1, none⟩) (s.length - 2 - 1) (c - 1), .int .i64 0]) ?_ rfl ?_
          · simp [results, fv, go_sem, c0, c1, f0, f1]
          · rw [Ho.out]; exact ⟨⟨some ⟨b, off + 1, none⟩, c - 1, by rw [Hm.out], rdB_take (rdB_drop (hR.go hb4) 1) _ (by have := Hlen.out; simp; omega), by simp⟩, hb4⟩
        · have ho : refReadOf l = none := by unfold refReadOf; rw [hy, if_neg (by intro h; exact hsl (by simpa using h.2.2))]
          have Ho := Lib.hid ho
          have n1 : (s == l) = false := by simp [hsl]
          have n2 : (s != l) = true := by simp [hsl]
          clear ho hy o3 z3 hsl
          go_wp2_with fail
          refine bodyPost_ret (v := .tuple #[fv 0 none 0 0, .int .i64 200]) ?_ rfl ?_
          · simp [results, fv, go_sem, c0, c1, f0, f1]
          · rw [Ho.out]; exact ⟨rfl, (hb3.setCell (p := ⟨w.heap.size, 0, none⟩) (Nat.le_refl _) _).setCell (p := ⟨w.heap.size, 1, none⟩) (Nat.le_refl _) _⟩
end Go.Proofs.Ytfbeihfpflhdaaa
