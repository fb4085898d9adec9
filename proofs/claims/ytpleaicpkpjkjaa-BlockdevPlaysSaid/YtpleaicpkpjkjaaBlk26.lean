/-
  A crash's box whose row grows by one byte at a time. Conditions stand at each theorem.
-/
import Derived.Test.YtpleaicpkpjkjaaBlk25
namespace Go.Proofs.Ytpleaicpkpjkjaa
open Go Go.RowKit Go.Kw
set_option linter.unusedVariables false
set_option linter.unusedSimpArgs false

def FulI (w9 : World) (i : Nat) (W : World) : Prop := Below w9.heap.size w9 W ∧ ∃ A c, W.heap[w9.heap.size]? = some (.cells #[.slice A i c, .int .i64 (-1), .int .i64 0] 25 (0, 0)) ∧ W.ownsRow w9.heap.size 5 1 (.slice A i c) i (bv (List.replicate i 255)) ∧ (Value.slice A i c).ownBlock ≠ some w9.heap.size
theorem FulI.start (w9 : World) : FulI w9 0 (w9.alloc (.cells #[.slice none 0 0, .int .i64 (-1), .int .i64 0] 25)) :=
  ⟨bstep w9 _, none, 0, blk_new w9 _ _, World.ownsRow_nil _ _ _ _, by intro e; cases e⟩
theorem FulI.go {w9 W W' : World} {i : Nat} (h : FulI w9 i W) (hb : Below W.heap.size W W') : FulI w9 i W' := by
  obtain ⟨h1, A, c, h2, h3, h4⟩ := h
  exact ⟨bnext h1 hb, A, c, blk_below h2 hb, own_below h3 hb, h4⟩
theorem FulI.append {w9 W : World} {i : Nat} (h : FulI w9 i W) (hi : i ≤ 1000) :
    ∃ A c A' c' W', W.cell? ⟨w9.heap.size, 0, none⟩ = some (.slice A i c) ∧ (W.alloc (.cells #[.int .u8 255] 5)).cell? ⟨w9.heap.size, 0, none⟩ = some (.slice A i c) ∧
      (Builtin.append_ #[23, 23] 23 #[.slice A i c, .slice (some ⟨W.heap.size, 0, none⟩) 1 1]).run Try.prog (W.alloc (.cells #[.int .u8 255] 5)) = .ok (.slice A' (i + 1) c') W' ∧
      W'.cell? ⟨w9.heap.size, 0, none⟩ = some (.slice A i c) ∧ W'.frozen? ⟨w9.heap.size, 0, none⟩ = false ∧ FulI w9 (i + 1) (W'.setCell ⟨w9.heap.size, 0, none⟩ (.slice A' (i + 1) c')) := by
  obtain ⟨h1, A, c, h2, h3, h4⟩ := h
  have hlt := blk_lt h2
  obtain ⟨A', c', W', hrun, ho, hb, hg, hw, -⟩ := append_lit (P := Try.prog) (t := 23) eb W w9.heap.size h3 #[.int .u8 255] 1 [255] rfl rfl (by rw [List.length_replicate]; simp; omega) h1.size
  have e1 : (List.replicate i (255 : UInt8) ++ [255]).length = i + 1 := by simp
  have e2 : List.replicate i (255 : UInt8) ++ [255] = List.replicate (i + 1) 255 := List.replicate_succ'.symm
  rw [e1] at hrun ho hw
  rw [e2] at ho
  have hk : Kept (fun b => (Value.slice A i c).ownBlock ≠ some b) W W' := ((Kept.refl _ W).alloc _).grown hg (fun k hk => .inr (fun hh => hh hk))
  have h5 : W'.heap[w9.heap.size]? = some (.cells #[.slice A i c, .int .i64 (-1), .int .i64 0] 25 (0, 0)) := (hk.block _ hlt h4).trans h2
  have h6 : (Value.slice A' (i + 1) c').ownBlock ≠ some w9.heap.size := fun e => by
    rcases hw with hw | hw
    · rw [hw] at e; exact h4 e
    · rw [hw] at e; injection e with e; omega
  refine ⟨A, c, A', c', W', blk_cell h2 0 rfl, ?_, hrun, blk_cell h5 0 rfl, blk_frozen h5 0, ?_, A', c', ?_, own_set_other ho _ 0 h6 _, h6⟩
  · rw [World.cell?_alloc_lt _ _ _ hlt]; exact blk_cell h2 0 rfl
  · exact (h1.trans hb).setCell (p := ⟨w9.heap.size, 0, none⟩) (Nat.le_refl _) _
  · simp [World.setCell, h5]
    first | done | (rw [Array.getElem?_modify]; simp [h5])
/-- What the plain law says of the two devices behind the crash. -/
structure KpQ (S0 : List (List UInt8)) (C : List (Nat × List UInt8)) (to : Int) (S1 S2 : List (List UInt8)) : Prop where
  l1 : S1.length = 8
  l2 : S2.length = 8
  b1 : ∀ n, n < 8 → (S1.getD n []).length = 128
  b2 : ∀ n, n < 8 → (S2.getD n []).length = 128
  last : ∀ n, n < 8 → ∃ m, (allG S0 C n).length = m + 1 ∧ m ≤ 200 ∧ (allG S0 C n)[m]? = some (S2.getD n [])
  one : ∀ n, n < 8 → (allG S0 C n).length = 1 → S1.getD n [] = S0.getD n []
  mem : ∀ n, n < 8 → n ≠ tornS C to → S1.getD n [] ∈ allG S0 C n
theorem many_le (kp : List UInt8) (to at' : Int) (i : Nat) : many kp to at' i ≤ 128 := by
  unfold many
  split
  · omega
  · split <;> omega
theorem KpQ.mk' {S0 : List (List UInt8)} {C : List (Nat × List UInt8)} (kp : List UInt8) (to at' : Int) (hl : S0.length = 8) (hs : ∀ x ∈ S0, x.length = 128) (hC : C.length ≤ 200) (hc : ∀ x ∈ C, x.1 < S0.length ∧ x.2.length = 128) :
    KpQ S0 C to (crS (many kp to at') C S0 C.length) (crS (many (List.replicate 40 255) (-1) 0) C S0 C.length) := by
  have g128 : ∀ S : List (List UInt8), S.length = 8 → (∀ x ∈ S, x.length = 128) → ∀ n, n < 8 → (S.getD n []).length = 128 := fun S h1 h2 n hn => by
    rw [List.getD_eq_getElem?_getD, List.getElem?_eq_getElem (by omega), Option.getD_some]
    exact h2 _ (List.getElem_mem _)
  have e1 := crS_length (many kp to at') C S0 C.length
  have e2 := crS_length (many (List.replicate 40 255) (-1) 0) C S0 C.length
  refine ⟨by omega, by omega, g128 _ (by omega) (crS_128 (many_le _ _ _) hc hs _ (Nat.le_refl _)), g128 _ (by omega) (crS_128 (many_le _ _ _) hc hs _ (Nat.le_refl _)), fun n hn => ?_, fun n hn h => keeps_one hc hs (by omega) h, fun n hn h => keeps_mem hc hs (by omega) h⟩
  have h := keeps_last (by omega : C.length ≤ 256) hc hs (n := n) (by omega)
  refine ⟨(allG S0 C n).length - 1, ?_, ?_, ?_⟩
  · unfold allG; simp
  · unfold allG
    have := List.length_filter_le (fun x => x.1 == n) C
    simp; omega
  · rw [h, List.getLast?_eq_getElem?]
theorem AllM.at {W : World} {tb B : Nat} {X : Nat → Prop} {V : Nat → Value} {g : Nat → List (List UInt8)} (h : AllM W tb B X V g) {n : Nat} (hn : n < 8) {L : Nat} (hL : (g n).length = L) (h0 : 0 < L) :
    ∃ b c, W.cell? ⟨tb, n, none⟩ = some (.slice (some ⟨b, 0, none⟩) L c) ∧ b < W.heap.size ∧ X b ∧ ∀ (j : Nat) (x : List UInt8), (g n)[j]? = some x → W.cell? ⟨b, j, none⟩ = some (.string ⟨x.toArray⟩) := by
  subst hL
  have ho := h.o n hn
  have hc := h.c n hn
  have hx := h.x n
  obtain ⟨A, c, e, hle, -, hz, hA⟩ := own_form ho
  cases A with
  | none => exact absurd (hz rfl).1 (by omega)
  | some a =>
    obtain ⟨b, rfl, hb, hlt⟩ := hA a rfl
    rw [e] at ho hc hx
    refine ⟨b, c, hc, hlt, hx b hn rfl, fun j x hj => ?_⟩
    have := ho.cells (g := b) rfl j (strC x) (by unfold strs; rw [List.getElem?_map, hj]; rfl)
    simpa [Go.WideShapes.add_plain, strC] using this
end Go.Proofs.Ytpleaicpkpjkjaa
