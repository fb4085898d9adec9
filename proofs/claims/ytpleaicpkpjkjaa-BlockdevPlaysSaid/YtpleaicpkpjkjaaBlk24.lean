/-
  More on two devices and rows of strings. Conditions stand at each theorem.
-/
import Derived.Test.YtpleaicpkpjkjaaBlk23
import Derived.Test.YtpleaicpkpjkjaaKeepsPlain
namespace Go.Proofs.Ytpleaicpkpjkjaa
open Go Go.RowKit Go.Kw
set_option linter.unusedVariables false
set_option linter.unusedSimpArgs false

theorem LD.setX {w0 W : World} {d sb sc : Nat} {D : Dv} {X : Nat → Prop} (h : LD w0 d sb sc D X W) {u : Nat} (hx : X u) (hu : w0.heap.size ≤ u) (i : Nat) (v : Value) : LD w0 d sb sc D X (W.setCell ⟨u, i, none⟩ v) :=
  (h.other (S := fun b => b ≠ u) ((Kept.refl _ W).setCell (fun e => e rfl) v) (fun b _ hb => by
    have e : b = u := Classical.byContradiction hb
    rw [e]; exact ⟨hx, hu⟩)).less (fun b hb => .inl hb)
theorem AllM.congr {W : World} {tb B : Nat} {X : Nat → Prop} {V : Nat → Value} {g g' : Nat → List (List UInt8)} (h : AllM W tb B X V g) (e : ∀ n, n < 8 → g n = g' n) : AllM W tb B X V g' :=
  ⟨h.c, h.f, fun n hn => by rw [← e n hn]; exact h.o n hn, h.a, h.t, h.x, h.xt⟩
theorem AllM.set {W : World} {tb B : Nat} {X : Nat → Prop} {V : Nat → Value} {g : Nat → List (List UInt8)} (h : AllM W tb B X V g) {u : Nat} (hu : u ≠ tb) (hV : ∀ n, n < 8 → (V n).ownBlock ≠ some u) (i : Nat) (v : Value) : AllM (W.setCell ⟨u, i, none⟩ v) tb B X V g :=
  ⟨fun n hn => by rw [World.cell?_setCell_other _ _ _ _ (fun e => hu (by injection e))]; exact h.c n hn, fun n => by rw [World.frozen?_setCell]; exact h.f n,
   fun n hn => own_set_other (h.o n hn) u i (hV n hn) v, h.a, h.t, h.x, h.xt⟩
theorem AllM.go {W W' : World} {tb B : Nat} {X : Nat → Prop} {V : Nat → Value} {g : Nat → List (List UInt8)} (h : AllM W tb B X V g) (hb : Below W.heap.size W W') : AllM W' tb B X V g := h.kept (hb.keptS X)
/-- The cells of eight strings: the first k are those of S, the others empty. -/
def SafM (W : World) (ub : Nat) (S : List (List UInt8)) (k : Nat) : Prop := (∀ n, n < 8 → W.cell? ⟨ub, n, none⟩ = some (if n < k then .string ⟨(S.getD n []).toArray⟩ else .string ⟨#[]⟩)) ∧ ∀ n, W.frozen? ⟨ub, n, none⟩ = false
theorem SafM.kept {W W' : World} {ub : Nat} {S : List (List UInt8)} {k : Nat} {X : Nat → Prop} (h : SafM W ub S k) (hk : Kept X W W') (hx : X ub) : SafM W' ub S k := by
  have hb := hk.block ub (block_lt (h.1 0 (by omega))) hx
  refine ⟨fun n hn => (World.cell?_of_block (a := ⟨ub, n, none⟩) hb).trans (h.1 n hn), fun n => ?_⟩
  have hf := h.2 n
  simp only [World.frozen?] at hf ⊢
  rw [hb]; exact hf
theorem SafM.go {W W' : World} {ub : Nat} {S : List (List UInt8)} {k : Nat} (h : SafM W ub S k) (hb : Below W.heap.size W W') : SafM W' ub S k := h.kept (hb.keptS (fun _ => True)) trivial
theorem SafM.put {W : World} {ub : Nat} {S : List (List UInt8)} {k : Nat} (h : SafM W ub S k) (hk : k < 8) : SafM (W.setCell ⟨ub, k, none⟩ (.string ⟨(S.getD k []).toArray⟩)) ub S (k + 1) := by
  refine ⟨fun n hn => ?_, fun n => by rw [World.frozen?_setCell]; exact h.2 n⟩
  by_cases e : n = k
  · subst e; rw [if_pos (by omega), World.cell?_setCell_same _ _ _ (h.1 n hn)]
  · rw [World.cell?_setCell_other _ _ _ _ (fun e2 => e (by injection e2 with _ e2 _; exact e2.symm)), h.1 n hn]
    by_cases h1 : n < k
    · rw [if_pos h1, if_pos (by omega)]
    · rw [if_neg h1, if_neg (by omega)]
/-- What the law holds at its rounds: the device, all writes, what was safe. -/
def KpI (w3 : World) (d sb ub : Nat) (D : Dv) (g : Nat → List (List UInt8)) (S : List (List UInt8)) (k : Nat) (G : Nat → Prop) (W : World) : Prop :=
  ∃ (X : Nat → Prop) (V : Nat → Value), LD w3 d sb 8 D X W ∧ (∀ b, X b → w3.heap.size ≤ b) ∧ X ub ∧ AllM W (ub + 1) w3.heap.size X V g ∧ (∀ n, n < 8 → (V n).ownBlock ≠ some ub) ∧ SafM W ub S k ∧ ∀ b, G b → (∀ n, n < 8 → (V n).ownBlock ≠ some b) ∧ b ≠ ub ∧ b ≠ ub + 1 ∧ b < W.heap.size
section
variable {w3 : World} {d sb ub : Nat} {D : Dv} {g g' : Nat → List (List UInt8)} {S : List (List UInt8)} {k : Nat} {G : Nat → Prop} {W W' : World}
theorem KpI.go (h : KpI w3 d sb ub D g S k G W) (hb : Below W.heap.size W W') : KpI w3 d sb ub D g S k G W' := by
  obtain ⟨X, V, h1, h2, h3, h4, h5, h6, h7⟩ := h
  exact ⟨X, V, h1.go hb, h2, h3, h4.go hb, h5, h6.go hb, fun b hg => ⟨(h7 b hg).1, (h7 b hg).2.1, (h7 b hg).2.2.1, Nat.lt_of_lt_of_le (h7 b hg).2.2.2 hb.size⟩⟩
theorem KpI.congr (h : KpI w3 d sb ub D g S k G W) (e : ∀ n, n < 8 → g n = g' n) : KpI w3 d sb ub D g' S k G W := by
  obtain ⟨X, V, h1, h2, h3, h4, h5, h6, h7⟩ := h
  exact ⟨X, V, h1, h2, h3, h4.congr e, h5, h6, h7⟩
theorem KpI.drop (h : KpI w3 d sb ub D g S k G W) : KpI w3 d sb ub D g S k (fun _ => False) W := by
  obtain ⟨X, V, h1, h2, h3, h4, h5, h6, h7⟩ := h
  exact ⟨X, V, h1, h2, h3, h4, h5, h6, fun b hb => hb.elim⟩
theorem KpI.setSafe (h : KpI w3 d sb ub D g S k G W) (hk : k < 8) : KpI w3 d sb ub D g S (k + 1) G (W.setCell ⟨ub, k, none⟩ (.string ⟨(S.getD k []).toArray⟩)) := by
  obtain ⟨X, V, h1, h2, h3, h4, h5, h6, h7⟩ := h
  exact ⟨X, V, h1.setX h3 (h2 ub h3) k _, h2, h3, h4.set (by omega) h5 k _, h5, h6.put hk, fun b hg => ⟨(h7 b hg).1, (h7 b hg).2.1, (h7 b hg).2.2.1, by simpa using (h7 b hg).2.2.2⟩⟩
theorem LD.writeX {X : Nat → Prop} {w0 : World} {sc : Nat} (h : LD w0 d sb sc D X W) (hk : 0 ≤ D.k ∧ D.k < 4611686018427387904) {A : Option Addr} {n c : Nat} {l : List UInt8} (hn : n = l.length) (hR : RdY W X A l) (i : Int) :
    Calls Try.prog 10 #[.pointer (some ⟨d, 0, none⟩), .int .i64 i, .slice A n c] W fun e W' => e = .returned (.int .i64 (putV D i l).1) ∧ LD w0 d sb sc (putV D i l).2 X W' ∧ Kept X W W' := by
  obtain ⟨V, h1, h2, h5⟩ := h
  refine (dWrite_calls W _ d sb sc V D h1 hk h2.size i A n c l hn (hR.mono (fun b hb => (h5 b hb).2))).mono ?_
  rintro e W' ⟨rfl, hp⟩
  exact ⟨rfl, LD.ofP h1 h2 h5 hp⟩
/-- A write of bytes that were made since: these stay, and lie beside the rows. -/
theorem KpI.write (h : KpI w3 d sb ub D g S k (fun _ => False) W) (hb : Below W.heap.size W W') (hk : 0 ≤ D.k ∧ D.k < 4611686018427387904) {A : Option Addr} {n c : Nat} {l : List UInt8} (ho : W'.ownsRow W.heap.size 5 1 (.slice A n c) n (bv l)) (i : Int) :
    Calls Try.prog 10 #[.pointer (some ⟨d, 0, none⟩), .int .i64 i, .slice A n c] W' fun e W2 => e = .returned (.int .i64 (putV D i l).1) ∧ KpI w3 d sb ub (putV D i l).2 g S k (fun b => (Value.slice A n c).ownBlock = some b) W2 ∧ W2.ownsRow W.heap.size 5 1 (.slice A n c) n (bv l) := by
  obtain ⟨X, V, h1, h2, h3, h4, h5, h6, h7⟩ := h
  have hX : ∀ b, X b → b < W.heap.size := fun b hb => by obtain ⟨V', q1, q2, q3⟩ := h1; exact (q3 b hb).1
  have hB : w3.heap.size ≤ W.heap.size := h1.below.size
  have h8 := h1.more hb
  have hR : RdY W' (fun b => X b ∨ W.heap.size ≤ b ∧ b < W'.heap.size) A l := by
    rcases (rdB_own ho).1 with h0 | ⟨b, off, e, hlt, hc⟩
    · exact .inl h0
    · refine .inr ⟨b, off, e, .inr ⟨?_, hlt⟩, hlt, hc⟩
      have := (ho.lt b (by rw [e]; rfl)).1
      exact this
  refine (h8.writeX hk (rdB_own ho).2 hR i).mono ?_
  rintro e W2 ⟨rfl, hL, hk2⟩
  refine ⟨rfl, ⟨_, V, hL, fun b hb => ?_, .inl h3, ((h4.go hb).moreX (fun b hb => .inl hb)).kept hk2, h5, (h6.go hb).kept hk2 (.inl h3), fun b e => ?_⟩, own_keptV ho hk2 (fun b e => .inr (ho.lt b e))⟩
  · rcases hb with hb | ⟨hb, -⟩
    · exact h2 b hb
    · omega
  · have hlt := ho.lt b e
    have hu := hX ub h3
    have ht := hX _ h4.xt
    exact ⟨fun n hn e2 => by have := hX b (h4.x n b hn e2); omega, by omega, by omega, Nat.lt_of_lt_of_le hlt.2 hk2.size⟩
end
/-- A string more in row m: what the walk needs, and what it leaves. -/
theorem KpI.append {w3 : World} {d sb ub : Nat} {D : Dv} {g : Nat → List (List UInt8)} {S : List (List UInt8)} {k : Nat} {G : Nat → Prop} {W : World} (h : KpI w3 d sb ub D g S k G W) {m : Nat} (hm : m < 8) (L : Nat) (hL : (g m).length = L) (hgm : L ≤ 1000) (x : List UInt8) :
    ∃ v A' c' W', W.cell? ⟨ub + 1, m, none⟩ = some v ∧ W.frozen? ⟨ub + 1, m, none⟩ = false ∧ (∃ A c, v = .slice A L c) ∧
      (Builtin.append_ #[38, 38] 38 #[v, .slice (some ⟨W.heap.size, 0, none⟩) 1 1]).run Try.prog (W.alloc (.cells #[.string ⟨x.toArray⟩] 9)) = .ok (.slice A' (L + 1) c') W' ∧
      W'.cell? ⟨ub + 1, m, none⟩ = some v ∧ W'.frozen? ⟨ub + 1, m, none⟩ = false ∧ Kept (fun b => b < W.heap.size ∧ b ≠ ub + 1 ∧ v.ownBlock ≠ some b) W W' ∧ (∀ b, v.ownBlock = some b → w3.heap.size ≤ b) ∧ (∀ b, G b → v.ownBlock ≠ some b ∧ b ≠ ub + 1 ∧ b < W.heap.size) ∧ w3.heap.size ≤ ub ∧
      v.ownBlock ≠ some ub ∧ ub < W.heap.size ∧ KpI w3 d sb ub D (fun n => if n = m then g m ++ [x] else g n) S k (fun _ => False) (W'.setCell ⟨ub + 1, m, none⟩ (.slice A' (L + 1) c')) ∧
      Kept (fun b => b < W.heap.size ∧ b ≠ ub + 1 ∧ v.ownBlock ≠ some b) W (W'.setCell ⟨ub + 1, m, none⟩ (.slice A' (L + 1) c')) := by
  subst hL
  obtain ⟨X, V, h1, h2, h3, h4, h5, h6, h7⟩ := h
  have hX : ∀ b, X b → b < W.heap.size := fun b hb => by obtain ⟨V', q1, q2, q3⟩ := h1; exact (q3 b hb).1
  obtain ⟨A0, c0, e0, -⟩ := own_form (h4.o m hm)
  have hB : w3.heap.size ≤ W.heap.size := by have := h1.below; exact this.size
  obtain ⟨A', c', W', hrun, ho, hg, hb⟩ := append_str W w3.heap.size (h4.o m hm) x (by omega) hB
  obtain ⟨hp, hk⟩ := h4.put hX hm x ho hg hb
  have hk1 : Kept (fun b => (V m).ownBlock ≠ some b) W W' := (((Kept.refl _ W).alloc _).grown hg (fun b e => .inr (fun hh => hh e)))
  have htb : ub + 1 < W.heap.size := block_lt (h4.c m hm)
  have hh2 : W'.heap[ub + 1]? = W.heap[ub + 1]? := hk1.block _ htb (h4.t m hm)
  have hf2 : W'.frozen? ⟨ub + 1, m, none⟩ = false := by
    have hf := h4.f m
    simp only [World.frozen?] at hf ⊢
    rw [hh2]; exact hf
  have hLD := h1.other hk (fun b hb hnb => by
    by_cases e1 : b = ub + 1
    · rw [e1]; exact ⟨h4.xt, h2 _ h4.xt⟩
    · have e2 : (V m).ownBlock = some b := Classical.byContradiction fun hn => hnb ⟨e1, hn⟩
      exact ⟨h4.x m b hm e2, h2 _ (h4.x m b hm e2)⟩)
  have hsz : (W'.setCell ⟨ub + 1, m, none⟩ (.slice A' ((g m).length + 1) c')).heap.size = W'.heap.size := by simp
  rw [hsz] at hLD
  refine ⟨V m, A', c', W', h4.c m hm, h4.f m, ⟨A0, c0, e0⟩, hrun, (World.cell?_of_block (a := ⟨ub + 1, m, none⟩) hh2).trans (h4.c m hm), hf2, hk1.mono (fun b _ hb => hb.2.2), fun b e => ((h4.o m hm).lt b e).1, fun b hg => ⟨(h7 b hg).1 m hm, (h7 b hg).2.2.1, (h7 b hg).2.2.2⟩, h2 ub h3, h5 m hm, by omega, ⟨_, _, hLD, fun b hb => ?_, .inl h3, hp, fun n hn e => ?_, ?_, fun b hb => hb.elim⟩, hk.mono (fun b _ hb => hb.2)⟩
  · rcases hb with hb | ⟨hb, -⟩
    · exact h2 b hb
    · omega
  · by_cases e1 : n = m
    · rw [if_pos e1] at e
      rcases hb with hb | hb
      · rw [hb] at e; exact h5 m hm e
      · rw [hb] at e; injection e with e; omega
    · rw [if_neg e1] at e; exact h5 n hn e
  · exact h6.kept hk ⟨by omega, h5 m hm⟩
end Go.Proofs.Ytpleaicpkpjkjaa
