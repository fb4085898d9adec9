/-
  The document's device: Read and New, walked. Conditions stand at each theorem.
-/
import Derived.Test.YtpleaicpkpjkjaaRefB4
namespace Go.Proofs.Ytpleaicpkpjkjaa
open Go Go.RowKit Go.Kw Go.Maps
set_option linter.unusedVariables false
set_option linter.unusedSimpArgs false

/-- Why a sector is not read. -/
def readE (D : Dv) (i : Int) : Int := if D.dn = true then 120 else if 0 ≤ i ∧ i < (D.S.length : Int) then 0 else 121
/-- What a sector reads as behind the first k writes of the cache. -/
def seenK (D : Dv) (n k : Nat) : List UInt8 := ((((D.C.take k).filter (fun x => x.1 == n)).getLast?).map (·.2)).getD (D.S.getD n [])
theorem seenK_0 (D : Dv) (n : Nat) : seenK D n 0 = D.S.getD n [] := rfl
theorem seenK_all (D : Dv) (n : Nat) : seenK D n D.C.length = seenD D n := by unfold seenK seenD; rw [List.take_length]
theorem seenK_hit (D : Dv) (n k : Nat) (hk : k < D.C.length) (h : (D.C.getD k default).1 = n) : seenK D n (k + 1) = (D.C.getD k default).2 := by
  have e : D.C.getD k default = D.C[k] := by simp [List.getD_eq_getElem?_getD, hk]
  unfold seenK
  rw [e] at h ⊢
  rw [List.take_add_one, List.getElem?_eq_getElem hk, List.filter_append]
  simp [h]
theorem seenK_miss (D : Dv) (n k : Nat) (hk : k < D.C.length) (h : (D.C.getD k default).1 ≠ n) : seenK D n (k + 1) = seenK D n k := by
  have e : D.C.getD k default = D.C[k] := by simp [List.getD_eq_getElem?_getD, hk]
  unfold seenK
  rw [e] at h
  rw [List.take_add_one, List.getElem?_eq_getElem hk, List.filter_append]
  simp [h]
def RReadB (w : World) (s : List UInt8) (e : Ending) (w' : World) : Prop := ∃ A c, e = .returned (.tuple #[.slice A 128 c, .int .i64 0]) ∧ A ≠ none ∧ RdB w' w'.heap.size A s ∧ Below w.heap.size w w'
section
variable {w : World} {B r mb nn : Nat} {V : Value} {X : Nat → Prop} {D : Dv}
theorem refRead_no (h : RefO w B r mb nn V X D) (i : Int) (hE : readE D i ≠ 0) :
    Calls Try.prog 43 #[.pointer (some ⟨r, 0, none⟩), .int .i64 i] w fun e w' => e = .returned (.tuple #[.slice none 0 0, .int .i64 (readE D i)]) ∧ Below w.heap.size w w' := by
  obtain ⟨c0, c1, c2, c3, c4, c5⟩ := h.cells
  have HPl := Lib.hid (refPlace_calls h i)
  unfold readE at hE ⊢
  cases hdn : D.dn with
  | true =>
    rw [hdn] at c4
    rw [if_pos rfl]
    clear h hE hdn c0 c1 c2 c3 c5
    go_enter Try.func43, Try.ntmps43
    go_wp2_with fail
    go_ret2
    exact ⟨rfl, Below.refl _ _⟩
  | false =>
    rw [hdn] at c4
    rw [if_neg (by simp)]
    rw [hdn, if_neg (by simp)] at hE
    by_cases hp : 0 ≤ i ∧ i < (D.S.length : Int)
    · rw [if_pos hp] at hE; exact absurd rfl hE
    rw [if_neg hp]
    rw [decide_eq_false hp] at HPl
    clear h hE hdn c0 c1 c2 c3 c5 hp
    go_enter Try.func43, Try.ntmps43
    go_wp2_with fail
    refine HPl.out.mono ?_
    rintro e u ⟨rfl, hb⟩
    have Hb := Lib.hid hb
    clear hb HPl
    go_wp2_with fail
    go_ret2
    exact ⟨rfl, Hb.out⟩
set_option maxHeartbeats 8000000 in
theorem refRead_calls (h : RefO w B r mb nn V X D) (n : Nat) (hn : n < D.S.length) (hdn : D.dn = false) :
    Calls Try.prog 43 #[.pointer (some ⟨r, 0, none⟩), .int .i64 (n : Int)] w (RReadB w (seenD D n)) := by
  obtain ⟨c0, c1, c2, c3, c4, c5⟩ := h.cells
  have HPl := refPlace_calls h (n : Int)
  rw [decide_eq_true (by omega)] at HPl
  rw [hdn] at c4
  have HPl := Lib.hid HPl
  have HAt := Lib.hid (fun u (hb : Below w.heap.size w u) => refAt_calls (h.go hb) n hn)
  obtain ⟨CA, cc, hV, -⟩ := h.slice
  have hm := h.ok.m
  obtain ⟨L, hL⟩ : ∃ L, D.C.length = L := ⟨_, rfl⟩
  rw [hV, hL] at c2
  rw [hL] at hm
  have H := Lib.hid (And.intro h (And.intro hn (And.intro hV (And.intro hL hm))))
  have Hc2 := Lib.hid (show ∀ u, Below w.heap.size w u → u.cell? ⟨r, 2, none⟩ = some (.slice CA L cc) from fun u hb => (hb.cell (p := ⟨r, 2, none⟩) h.lt).trans c2)
  clear h hn hdn c0 c1 c2 c3 c5 hV hL hm
  go_enter Try.func43, Try.ntmps43
  go_wp2_with fail
  refine HPl.out.mono ?_
  rintro e u ⟨rfl, hb⟩
  have HX := Lib.hid (HAt.out u hb)
  have Hb := Lib.hid hb
  clear hb HPl HAt
  go_wp2_with fail
  refine HX.out.mono ?_
  rintro e u2 ⟨A0, c0, rfl, ho, hb2⟩
  have HW := Lib.hid (And.intro (show A0 ≠ none from fun e => by
      subst e
      rcases ho.2 with ⟨h1, h2⟩ | ⟨g, cap, cur, h1, _⟩
      · injection h1 with _ h1; omega
      · cases h1) (And.intro (rdB_own ho).1 (bnext Hb.out hb2)))
  clear ho hb2 HX
  go_wp2_with fail
  go_loopw [7, 8] (fun bv kv wr => ∃ (k : Nat) (A : Option Addr) (c : Nat), k ≤ L ∧ kv = .int .i64 k ∧ bv = .slice A 128 c ∧ A ≠ none ∧ RdB wr wr.heap.size A (seenK D n k) ∧ Below w.heap.size w wr) (fun _ kv _ => L - (intOf kv).toNat)
  case atStart => exact ⟨0, A0, c0, by omega, rfl, rfl, HW.out.1, HW.out.2.1, HW.out.2.2⟩
  case round =>
    obtain ⟨k, A, c, hi, rfl, rfl, hA, hRd, hb⟩ := hrel
    clear HW
    have c2 := Hc2.out wr hb
    by_cases hlt : k < L
    · have hI : (k : Int) < (L : Int) := by omega
      have hk0 : (0 : Int) ≤ (k : Int) := by omega
      have X1 := Lib.hid (wrap64_in' ((k : Int) + 1) (by have := H.out.2.2.2.2; omega))
      have hRO := H.out.1.go hb
      have hkC : k < D.C.length := by rw [H.out.2.2.2.1]; exact hlt
      obtain ⟨g, cc', A', c', hV', ce1, ce2, hA', hRd', hgm⟩ := hRO.ent k hkC
      rw [H.out.2.2.1] at hV'
      injection hV' with hV1 hV2 hV3
      clear hV2 hV3
      subst hV1
      by_cases he : (D.C.getD k default).1 = n
      · rw [he] at ce1
        have HN := Lib.hid (And.intro hlt (And.intro hA' (And.intro (show RdB wr wr.heap.size A' (seenK D n (k + 1)) by rw [seenK_hit D n k hkC he]; exact RdY.rd hRd') hb)))
        clear hi hA hRd hb hlt hRO hkC hA' hRd' hgm he
        go_wp2_with fail
        try rw [X1.out]
        obtain ⟨hlt, h1, h2, h3⟩ := HN.out
        exact ⟨⟨k + 1, A', c', hlt, by push_cast; rfl, rfl, h1, h2, h3⟩, by simp [intOf]; omega⟩
      · have he2 : (((D.C.getD k default).1 : Int) == (n : Int)) = false := beq_eq_false_iff_ne.2 (by omega)
        obtain ⟨z, hz⟩ : ∃ z, (((D.C.getD k default).1 : Nat) : Int) = z := ⟨_, rfl⟩
        have HN := Lib.hid (And.intro hlt (And.intro hA (And.intro (show RdB wr wr.heap.size A (seenK D n (k + 1)) by rw [seenK_miss D n k hkC he]; exact hRd) hb)))
        rw [hz] at ce1 he2
        clear hi hA hRd hb hlt hRO hkC hA' hRd' hgm he hz
        go_wp2_with fail
        try rw [X1.out]
        obtain ⟨hlt, h1, h2, h3⟩ := HN.out
        exact ⟨⟨k + 1, A, c, hlt, by push_cast; rfl, rfl, h1, h2, h3⟩, by simp [intOf]; omega⟩
    · obtain rfl : k = L := by omega
      have HP := Lib.hid (show RReadB w (seenD D n) (.returned (.tuple #[.slice A 128 c, .int .i64 0])) wr from ⟨A, c, rfl, hA, by rw [← seenK_all, H.out.2.2.2.1]; exact hRd, hb⟩)
      clear hi hA hRd hb hlt
      go_wp2_with fail
      go_ret2
      exact HP.out
end
theorem refNew_bad (w : World) (i : Int) (hi : i < 1 ∨ 65536 < i) :
    Calls Try.prog 22 #[.int .i64 i] w fun e w' => e = .returned (.tuple #[.pointer none, .int .i64 2]) ∧ Below w.heap.size w w' := by
  by_cases h0 : i < 1
  · have k0 : decide (i < 1) = true := decide_eq_true h0
    clear h0 hi
    go_enter Try.func22, Try.ntmps22
    go_wp2_with fail
    go_ret2
    exact ⟨rfl, Below.refl _ _⟩
  · have k0 : decide (i < 1) = false := decide_eq_false h0
    have k1 : decide (i > 65536) = true := decide_eq_true (by omega)
    clear h0 hi
    go_enter Try.func22, Try.ntmps22
    go_wp2_with fail
    go_ret2
    exact ⟨rfl, Below.refl _ _⟩
theorem newV_get (n m : Nat) (hm : m < n) : (newV n).S.getD m [] = List.replicate 128 0 := by simp [newV, List.getD_eq_getElem?_getD, hm]
theorem refNew_calls (w : World) (n : Nat) (h1 : 1 ≤ n) (h2 : n ≤ 65536) :
    Calls Try.prog 22 #[.int .i64 (n : Int)] w fun e w' => ∃ r mb, e = .returned (.tuple #[.pointer (some ⟨r, 0, none⟩), .int .i64 0]) ∧ RefO w' w.heap.size r mb 0 (.slice none 0 0) (fun b => w.heap.size ≤ b ∧ b < w'.heap.size) (newV n) ∧ Below w.heap.size w w' := by
  have k0 : decide ((n : Int) < 1) = false := decide_eq_false (by omega)
  have k1 : decide ((n : Int) > 65536) = false := decide_eq_false (by omega)
  have Hn := Lib.hid (And.intro h1 h2)
  have hmk := run_makeMap (P := Try.prog) 54 w
  clear h1 h2
  go_enter Try.func22, Try.ntmps22
  go_wp2_with fail
  go_ret2
  have hs1 : (w.alloc (.map #[] 0)).heap.size = w.heap.size + 1 := World.size_alloc _ _
  have hb1 := bstep w (.map #[] 0)
  obtain ⟨W1, hW1⟩ : ∃ W1, w.alloc (.map #[] 0) = W1 := ⟨_, rfl⟩
  have hm := MapV.made w
  rw [hW1] at hs1 hb1 hm ⊢
  have hb2 := bstep W1 (.cells #[.int .i64 (n : Int), .map (some w.heap.size), .slice none 0 0, .int .i64 0, .bool false, .int .i64 0] 57)
  have hn := blk_new W1 #[.int .i64 (n : Int), .map (some w.heap.size), .slice none 0 0, .int .i64 0, .bool false, .int .i64 0] 57
  have hs2 := World.size_alloc W1 (.cells #[.int .i64 (n : Int), .map (some w.heap.size), .slice none 0 0, .int .i64 0, .bool false, .int .i64 0] 57)
  refine ⟨w.heap.size + 1, w.heap.size, rfl, ⟨newV_ok n Hn.out.1 Hn.out.2, ?_, ⟨_, hm.kept (hb2.keptS (fun _ => True)) trivial, fun m hm' => ?_⟩, ⟨[], rfl, World.ownsRow_nil _ _ _ _, by simp⟩, ⟨by omega, by omega, fun b hb => by cases hb⟩, ⟨by omega, (fun e => by cases e), (fun e => by cases e)⟩, by omega⟩, bnext hb1 hb2⟩
  · rw [← hs1, hn]
    simp [refC, newV]
  · have hm2 : m < n := by simpa [newV] using hm'
    exact ⟨none, 0, [], rfl, fun _ => rfl, by simp, .inl rfl, by rw [newV_get n m hm2]; simp⟩
end Go.Proofs.Ytpleaicpkpjkjaa
