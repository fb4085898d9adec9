/-
  Same and Read of package rtu and of the document, walked. Conditions: at most 1,000 bytes.
-/
import Derived.Test.YtfbeihfpflhdaaaRtuBytes
import Derived.BigRegion
namespace Go.Proofs.Ytfbeihfpflhdaaa
open Go Go.RowKit Go.Kw Go.Kw.Crc
set_option linter.unusedVariables false
set_option linter.unusedSimpArgs false

/-- A block of two cells. -/
def Box2 (W : World) (B : Nat) (t : TypeId) (x y : Value) : Prop := W.heap[B]? = some (.cells #[x, y] t (0, 0))
theorem Box2.new (W : World) (t : TypeId) (x y : Value) : Box2 (W.alloc (.cells #[x, y] t)) W.heap.size t x y := World.alloc_heap_new W _
theorem Box2.c0 {W : World} {B : Nat} {t : TypeId} {x y : Value} (h : Box2 W B t x y) : W.cell? ⟨B, 0, none⟩ = some x := by simp [World.cell?, show W.heap[B]? = _ from h]
theorem Box2.c1 {W : World} {B : Nat} {t : TypeId} {x y : Value} (h : Box2 W B t x y) : W.cell? ⟨B, 1, none⟩ = some y := by simp [World.cell?, show W.heap[B]? = _ from h]
theorem Box2.f0 {W : World} {B : Nat} {t : TypeId} {x y : Value} (h : Box2 W B t x y) : W.frozen? ⟨B, 0, none⟩ = false := by simp [World.frozen?, show W.heap[B]? = _ from h]
theorem Box2.f1 {W : World} {B : Nat} {t : TypeId} {x y : Value} (h : Box2 W B t x y) : W.frozen? ⟨B, 1, none⟩ = false := by simp [World.frozen?, show W.heap[B]? = _ from h]
theorem Box2.lt {W : World} {B : Nat} {t : TypeId} {x y : Value} (h : Box2 W B t x y) : B < W.heap.size := (Array.getElem?_eq_some_iff.1 h).1
theorem Box2.below {W W' : World} {B : Nat} {t : TypeId} {x y : Value} (h : Box2 W B t x y) (hb : Below W.heap.size W W') : Box2 W' B t x y := (hb.block B h.lt).trans h

theorem rtuSame_calls (u v : Int) (A B : Option Addr) (c d : Nat) (a b : List UInt8) (ha : a.length ≤ 1000) (hb : b.length ≤ 1000) (w : World) (hR : RdB w w.heap.size A a) (hS : RdB w w.heap.size B b) :
    Calls Try.prog 13 #[fv u A a.length c, fv v B b.length d] w fun e w' => e = .returned (.bool (decide (u = v) && decide (a = b))) ∧ Below w.heap.size w w' := by
  have hb0 := Below.refl w.heap.size w
  have hb2 := balloc (balloc hb0 (.cells #[.int .i64 u, .slice A a.length c] 24)) (.cells #[.int .i64 v, .slice B b.length d] 24)
  unfold fv
  by_cases h : u = v
  · subst h
    go_enter Try.func13, Try.ntmps13
    go_wp2_with fail
    refine (equal_calls A B c d a b _ _ rfl rfl (by omega) (by omega) _ (hR.go hb2) (hS.go hb2)).mono ?_
    rintro e w3 ⟨rfl, hb3⟩
    go_wp2_with fail
    go_ret
    refine ⟨by simp, bnext hb2 hb3⟩
  · have h1 : (u == v) = false := by simp [h]
    have h2 : (decide (u = v) && decide (a = b)) = false := by simp [h]
    rw [h2]
    clear h h2
    go_enter Try.func13, Try.ntmps13
    go_wp2_with fail
    go_ret
    exact ⟨rfl, hb2⟩

theorem refSame_calls (u v : Int) (A B : Option Addr) (c d : Nat) (a b : List UInt8) (w : World) (hR : RdB w w.heap.size A a) (hS : RdB w w.heap.size B b) (hz : A = none → a.length = 0) (hz2 : B = none → b.length = 0) :
    Calls Try.prog 12 #[fv u A a.length c, fv v B b.length d] w fun e w' => e = .returned (.bool (decide (u = v) && decide (a = b))) ∧ Below w.heap.size w w' := by
  have hb0 := Below.refl w.heap.size w
  have hb2 := balloc (balloc hb0 (.cells #[.int .i64 u, .slice A a.length c] 24)) (.cells #[.int .i64 v, .slice B b.length d] 24)
  have s1 := run_string (P := Try.prog) (src := 22) (dst := 9) (hR.go hb2) c hz Try.underlying22 Try.underlying5 Try.underlying9
  have s2 := run_string (P := Try.prog) (src := 22) (dst := 9) (hS.go hb2) d hz2 Try.underlying22 Try.underlying5 Try.underlying9
  unfold fv
  by_cases h : u = v
  · subst h
    by_cases hab : a = b
    · subst hab
      have h2 : (decide (u = u) && decide (a = a)) = true := by simp
      rw [h2]
      clear h2
      go_enter Try.func12, Try.ntmps12
      go_wp2_with fail
      go_ret
      exact ⟨rfl, hb2⟩
    · have hne : (a == b) = false := by simp [hab]
      have h2 : (decide (u = u) && decide (a = b)) = false := by simp [hab]
      rw [h2]
      clear h2 hab
      go_enter Try.func12, Try.ntmps12
      go_wp2_with fail
      go_ret
      exact ⟨rfl, hb2⟩
  · have h1 : (u == v) = false := by simp [h]
    have h2 : (decide (u = v) && decide (a = b)) = false := by simp [h]
    rw [h2]
    clear h h2
    go_enter Try.func12, Try.ntmps12
    go_wp2_with fail
    go_ret
    exact ⟨rfl, hb2⟩

/-- What is read of bytes, if it may be. -/
def readOf (l : List UInt8) : Option (Int × List UInt8) := match openOf seal16 2 l with
  | none => none
  | some r => if 2 ≤ r.length ∧ r.length ≤ 254 ∧ bAt r 0 ≤ 247 then some (bAt r 0, r.drop 1) else none
def FPost (w' : World) (e : Ending) : Option (Int × List UInt8) → Prop
  | none => e = .returned (.tuple #[fv 0 none 0 0, .int .i64 200])
  | some (u, p) => ∃ A' c', e = .returned (.tuple #[fv u A' p.length c', .int .i64 0]) ∧ RdB w' w'.heap.size A' p ∧ (A' = none → p.length = 0)

theorem own_other {w : World} {base : Nat} {e : TypeId} {v : Value} {n : Nat} {xs : List Value} (h : w.ownsRow base e 1 v n xs) {p : Addr} (hp : p.block < base) (u : Value) : (w.setCell p u).ownsRow base e 1 v n xs := by
  refine ⟨h.1, ?_⟩
  rcases h.2 with h | ⟨g, cap, cur, hv, hg, hh, r⟩
  · exact .inl h
  · exact .inr ⟨g, cap, cur, hv, hg, (heap_setCell_other w p g u (by omega)).trans hh, r⟩
theorem own_drew {w : World} {base : Nat} {e : TypeId} {v : Value} {n : Nat} {xs : List Value} (h : w.ownsRow base e 1 v n xs) : w.drew.ownsRow base e 1 v n xs := h
theorem rdB_drop {w : World} {B b off : Nat} {l : List UInt8} (h : RdB w B (some ⟨b, off, none⟩) l) (k : Nat) : RdB w B (some ⟨b, off + k, none⟩) (l.drop k) := by
  rcases h with h | ⟨b', off', e, hlt, hc⟩
  · exact .inl (by simp; omega)
  · injection e with e; injection e with e1 e2; subst e1 e2
    refine .inr ⟨b, off + k, rfl, hlt, fun i hi => ?_⟩
    rw [Nat.add_assoc, hc (k + i) (by simp at hi; omega)]
    simp [bAt, List.getD_eq_getElem?_getD]
theorem openOf_length {l r : List UInt8} (h : openOf seal16 2 l = some r) : r.length + 2 = l.length ∧ r = l.take (l.length - 2) ∧ seal16 r = l := by
  unfold openOf at h
  split at h
  · rename_i hh
    injection h with h
    subst h
    refine ⟨by simp; omega, rfl, hh.2⟩
  · cases h

set_option maxHeartbeats 2000000 in
theorem rtuRead_calls (A : Option Addr) (c : Nat) (l : List UInt8) (hl : l.length ≤ 1500000) (w : World) (hR : RdB w w.heap.size A l) (hz : A = none → l.length = 0) (hc : l.length ≤ c) (hc2 : c ≤ 9223372036854775807) :
    Calls Try.prog 10 #[.slice A l.length c] w fun e w' => FPost w' e (readOf l) ∧ Below w.heap.size w w' := by
  have hb0 := Below.refl w.heap.size w
  have hb1 := balloc hb0 (.cells #[.int .i64 0, .slice none 0 0] 24)
  cases h : openOf seal16 2 l with
  | none =>
    have ho : readOf l = none := by unfold readOf; rw [h]
    rw [ho]
    go_enter Try.func10, Try.ntmps10
    go_wp2_with fail
    refine (opened16_calls A c l (by omega) _ (hR.go hb1) hz hc hc2).mono ?_
    rintro e w2 ⟨hx, hb2⟩
    rw [h] at hx
    obtain rfl := hx
    clear h ho
    have bx := (Box2.new w 24 (.int .i64 0) (.slice none 0 0)).below hb2
    have c0 := bx.c0
    have c1 := bx.c1
    have f0 := bx.f0
    have f1 := bx.f1
    have hb3 := bnext hb1 hb2
    go_wp2_with fail
    refine bodyPost_ret (v := .tuple #[fv 0 none 0 0, .int .i64 200]) ?_ rfl ?_
    · simp [results, fv, go_sem, c0, c1, f0, f1]
    · exact ⟨rfl, (hb3.setCell (p := ⟨w.heap.size, 0, none⟩) (Nat.le_refl _) _).setCell (p := ⟨w.heap.size, 1, none⟩) (Nat.le_refl _) _⟩
  | some r =>
    obtain ⟨hrl, -, -⟩ := openOf_length h
    have H := Lib.hid h
    by_cases h1 : r.length < 2
    · have ho : readOf l = none := by unfold readOf; rw [h]; exact if_neg (by omega)
      rw [ho]
      have k1 : decide ((r.length : Int) < 2) = true := by simp; omega
      clear h h1 ho hrl
      go_enter Try.func10, Try.ntmps10
      go_wp2_with fail
      refine (opened16_calls A c l (by omega) _ (hR.go hb1) hz hc hc2).mono ?_
      rintro e w2 ⟨hx, hb2⟩
      rw [H.out] at hx
      obtain ⟨A1, c1, rfl, o1, z1⟩ := hx
      have bx := (Box2.new w 24 (.int .i64 0) (.slice none 0 0)).below hb2
      have c0 := bx.c0
      have c1' := bx.c1
      have f0 := bx.f0
      have f1 := bx.f1
      have hb3 := bnext hb1 hb2
      clear o1 z1
      go_wp2_with fail
      refine bodyPost_ret (v := .tuple #[fv 0 none 0 0, .int .i64 200]) ?_ rfl ?_
      · simp [results, fv, go_sem, c0, c1', f0, f1]
      · exact ⟨rfl, (hb3.setCell (p := ⟨w.heap.size, 0, none⟩) (Nat.le_refl _) _).setCell (p := ⟨w.heap.size, 1, none⟩) (Nat.le_refl _) _⟩
    · by_cases h2 : 254 < r.length
      · have ho : readOf l = none := by unfold readOf; rw [h]; exact if_neg (by omega)
        rw [ho]
        have k1 : decide ((r.length : Int) < 2) = false := by simp; omega
        have k2 : decide (254 < (r.length : Int)) = true := by simp; omega
        clear h h1 h2 ho hrl
        go_enter Try.func10, Try.ntmps10
        go_wp2_with fail
        refine (opened16_calls A c l (by omega) _ (hR.go hb1) hz hc hc2).mono ?_
        rintro e w2 ⟨hx, hb2⟩
        rw [H.out] at hx
        obtain ⟨A1, c1, rfl, o1, z1⟩ := hx
        have bx := (Box2.new w 24 (.int .i64 0) (.slice none 0 0)).below hb2
        have c0 := bx.c0
        have c1' := bx.c1
        have f0 := bx.f0
        have f1 := bx.f1
        have hb3 := bnext hb1 hb2
        clear o1 z1
        go_wp2_with fail
        refine bodyPost_ret (v := .tuple #[fv 0 none 0 0, .int .i64 200]) ?_ rfl ?_
        · simp [results, fv, go_sem, c0, c1', f0, f1]
        · exact ⟨rfl, (hb3.setCell (p := ⟨w.heap.size, 0, none⟩) (Nat.le_refl _) _).setCell (p := ⟨w.heap.size, 1, none⟩) (Nat.le_refl _) _⟩
      · have k1 : decide ((r.length : Int) < 2) = false := by simp; omega
        have k2 : decide (254 < (r.length : Int)) = false := by simp; omega
        have kp : (0 : Int) < (r.length : Int) := by omega
        have kw : IntKind.i64.wrap (bAt r 0) = bAt r 0 := IntWalk.i64_in _ (by have := bAt_lo r 0; have := bAt_hi r 0; omega)
        have Hr : Hid (2 ≤ r.length) := by show _ ≤ _; omega
        by_cases h3 : 247 < bAt r 0
        · have ho : readOf l = none := by unfold readOf; rw [h]; exact if_neg (by omega)
          rw [ho]
          have k3 : decide (247 < bAt r 0) = true := by simp; omega
          clear h h1 h2 h3 ho hrl
          go_enter Try.func10, Try.ntmps10
          go_wp2_with fail
          refine (opened16_calls A c l (by omega) _ (hR.go hb1) hz hc hc2).mono ?_
          rintro e w2 ⟨hx, hb2⟩
          rw [H.out] at hx
          obtain ⟨A1, c1, rfl, o1, z1⟩ := hx
          have bx := (Box2.new w 24 (.int .i64 0) (.slice none 0 0)).below hb2
          have c0 := bx.c0
          have c1' := bx.c1
          have f0 := bx.f0
          have f1 := bx.f1
          have hb3 := bnext hb1 hb2
          obtain ⟨b, off, rfl, hlt, hc0⟩ := Rd.at_ (rdB_own o1).1 (k := 0) (by have := Hr.out; omega)
          rw [Nat.add_zero] at hc0
          clear o1 z1 hlt
          go_wp2_with fail
          refine bodyPost_ret (v := .tuple #[fv 0 none 0 0, .int .i64 200]) ?_ rfl ?_
          · simp [results, fv, go_sem, c0, c1', f0, f1]
          · exact ⟨rfl, (hb3.setCell (p := ⟨w.heap.size, 0, none⟩) (Nat.le_refl _) _).setCell (p := ⟨w.heap.size, 1, none⟩) (Nat.le_refl _) _⟩
        · have ho : readOf l = some (bAt r 0, r.drop 1) := by unfold readOf; rw [h]; exact if_pos (by omega)
          rw [ho]
          have k3 : decide (247 < bAt r 0) = false := by simp; omega
          have k4 : (1 : Int) ≤ (r.length : Int) := by omega
          clear h h1 h2 h3 ho hrl
          go_enter Try.func10, Try.ntmps10
          go_wp2_with fail
          refine (opened16_calls A c l (by omega) _ (hR.go hb1) hz hc hc2).mono ?_
          rintro e w2 ⟨hx, hb2⟩
          rw [H.out] at hx
          obtain ⟨A1, c1, rfl, o1, z1⟩ := hx
          have bx := (Box2.new w 24 (.int .i64 0) (.slice none 0 0)).below hb2
          have c0 := bx.c0
          have c1' := bx.c1
          have f0 := bx.f0
          have f1 := bx.f1
          have hb3 := bnext hb1 hb2
          have hcap := own_caps o1
          have q1 : (r.length : Int) ≤ (c1 : Int) := by omega
          obtain ⟨g, rfl⟩ := own_some o1 (by have := Hr.out; omega)
          obtain ⟨b, off, hg, hlt, hc0⟩ := Rd.at_ (rdB_own o1).1 (k := 0) (by have := Hr.out; omega)
          injection hg with hg; injection hg with hg1 hg2; subst hg1 hg2
          rw [Nat.add_zero] at hc0
          have kc : c1 ≠ 1 := by have := Hr.out; omega
          have o2 := own_other (own_other o1 (p := ⟨w.heap.size, 0, none⟩) (by simp) (.int .i64 (bAt r 0))) (p := ⟨w.heap.size, 1, none⟩) (by simp) (.slice (some ⟨g, 1, none⟩) (r.length - 1) (c1 - 1))
          have hb4 := ((hb3.setCell (p := ⟨w.heap.size, 0, none⟩) (Nat.le_refl _) (.int .i64 (bAt r 0))).setCell (p := ⟨w.heap.size, 1, none⟩) (Nat.le_refl _) (.slice (some ⟨g, 1, none⟩) (r.length - 1) (c1 - 1))).drew
          have hrd := rdB_drop (rdB_own (own_drew o2)).1 1
          go_wp2_with fail
          go_region
          go_wp2_with fail
          refine bodyPost_ret (v := .tuple #[fv (bAt r 0) (some ⟨g, 1, none⟩) (r.length - 1) (c1 - 1), .int .i64 0]) ?_ rfl ?_
          · simp [results, fv, go_sem, c0, c1', f0, f1]
          · exact ⟨⟨some ⟨g, 1, none⟩, c1 - 1, by simp, hrd, by simp⟩, hb4⟩
end Go.Proofs.Ytfbeihfpflhdaaa
