/-
  The device and the document's, beside one another. Conditions stand at each theorem.
-/
import Derived.Test.YtpleaicpkpjkjaaRefB6
import Derived.Test.YtpleaicpkpjkjaaBlk24
import Derived.Test.YtpleaicpkpjkjaaBlkDown
namespace Go.Proofs.Ytpleaicpkpjkjaa
open Go Go.RowKit Go.Kw
set_option linter.unusedVariables false
set_option linter.unusedSimpArgs false

/-- The device and the document's beside one another; G: other blocks made since, that lie beside both. -/
def PL (w0 : World) (d sb sc r mb : Nat) (D D2 : Dv) (m : Nat) (G : Nat → Prop) (W : World) : Prop :=
  ∃ V X, LD w0 d sb sc D (fun b => X b ∨ G b) W ∧ RefO W w0.heap.size r mb m V X D2 ∧ (∀ b, X b → w0.heap.size ≤ b) ∧ ∀ b, G b → w0.heap.size ≤ b ∧ ¬ X b
section
variable {w0 W W' : World} {d sb sc r mb m : Nat} {D D' D2 D2' : Dv} {G H : Nat → Prop}
theorem LD.xlt {X : Nat → Prop} (h : LD w0 d sb sc D X W) : ∀ b, X b → b < W.heap.size := by obtain ⟨V, h1, h2, h3⟩ := h; exact fun b hb => (h3 b hb).1
theorem PL.below (h : PL w0 d sb sc r mb D D2 m G W) : Below w0.heap.size w0 W := by obtain ⟨V, X, h1, h2, h3, h4⟩ := h; exact h1.below
theorem PL.ok (h : PL w0 d sb sc r mb D D2 m G W) : DvOk D := by obtain ⟨V, X, h1, h2, h3, h4⟩ := h; exact h1.ok
theorem PL.glt (h : PL w0 d sb sc r mb D D2 m G W) : ∀ b, G b → b < W.heap.size := by obtain ⟨V, X, h1, h2, h3, h4⟩ := h; exact fun b hb => h1.xlt b (.inr hb)
theorem PL.more (h : PL w0 d sb sc r mb D D2 m G W) (hb : Below W.heap.size W W') : PL w0 d sb sc r mb D D2 m (fun b => G b ∨ W.heap.size ≤ b ∧ b < W'.heap.size) W' := by
  obtain ⟨V, X, h1, h2, h3, h4⟩ := h
  have hw := h1.below.size
  have hx := h1.xlt
  refine ⟨V, X, (h1.more hb).less (fun b hb => ?_), h2.go hb, h3, fun b hg => ?_⟩
  · rcases hb with h | h | h
    · exact .inl (.inl h)
    · exact .inl (.inr h)
    · exact .inr h
  · rcases hg with hg | hg
    · exact h4 b hg
    · exact ⟨by omega, fun h => by have := hx b (.inl h); omega⟩
theorem PL.less (h : PL w0 d sb sc r mb D D2 m G W) (hh : ∀ b, H b → G b) : PL w0 d sb sc r mb D D2 m H W := by
  obtain ⟨V, X, h1, h2, h3, h4⟩ := h
  exact ⟨V, X, h1.less (fun b hb => hb.imp id (hh b)), h2, h3, fun b hb => h4 b (hh b hb)⟩
theorem PL.go (h : PL w0 d sb sc r mb D D2 m G W) (hb : Below W.heap.size W W') : PL w0 d sb sc r mb D D2 m G W' := (h.more hb).less (fun b hb => .inl hb)
theorem PL.mono (h : PL w0 d sb sc r mb D D2 m G W) {n : Nat} (hn : m ≤ n) : PL w0 d sb sc r mb D D2 n G W := by
  obtain ⟨V, X, h1, h2, h3⟩ := h
  exact ⟨V, X, h1, h2.mono hn, h3⟩
/-- A call of the device's that turns it. -/
theorem PL.dev {f : FuncId} {args : Array Value} {Q : Ending → Prop} (h : PL w0 d sb sc r mb D D2 m G W)
    (hc : ∀ X, (∀ b, G b → X b) → LD w0 d sb sc D X W → Calls Try.prog f args W fun e W' => Q e ∧ LD w0 d sb sc D' X W' ∧ Kept X W W') :
    Calls Try.prog f args W fun e W' => Q e ∧ PL w0 d sb sc r mb D' D2 m G W' ∧ Kept G W W' := by
  obtain ⟨V, X, h1, h2, h3, h4⟩ := h
  refine (hc _ (fun b hb => .inr hb) h1).mono ?_
  rintro e W' ⟨hq, h5, hk⟩
  exact ⟨hq, ⟨V, X, h5, h2.kept hk (fun b hb => .inl hb), h3, h4⟩, hk.mono (fun b _ hb => .inr hb)⟩
/-- A call of the document's that turns it. -/
theorem PL.ref {f : FuncId} {args : Array Value} {Q : Ending → Prop} (h : PL w0 d sb sc r mb D D2 m G W)
    (hc : ∀ V X, RefO W w0.heap.size r mb m V X D2 → (∀ b, X b → b < W.heap.size) → w0.heap.size ≤ W.heap.size → Calls Try.prog f args W fun e W' => Q e ∧ RefP W w0.heap.size r mb m V X D2' W') :
    Calls Try.prog f args W fun e W' => Q e ∧ PL w0 d sb sc r mb D D2' (m + 256) G W' ∧ Kept G W W' := by
  obtain ⟨V, X, h1, h2, h3, h4⟩ := h
  have hx := h1.xlt
  have hw := h1.below.size
  refine (hc V X h2 (fun b hb => hx b (.inl hb)) hw).mono ?_
  rintro e W' ⟨hq, V', h5, hk⟩
  have hown := h2.own
  have hS : ∀ b, b < W.heap.size → ¬ Fr r mb V b → (X b ∨ G b) ∧ w0.heap.size ≤ b := fun b hb hf => by
    have hb' : X b := by
      by_cases e1 : b = r
      · rw [e1]; exact hown.1
      by_cases e2 : b = mb
      · rw [e2]; exact hown.2.1
      by_cases e3 : V.ownBlock = some b
      · exact hown.2.2 b e3
      · exact absurd ⟨e1, e2, e3⟩ hf
    exact ⟨.inl hb', h3 b hb'⟩
  have h6 := h1.other hk hS
  refine ⟨hq, ⟨V', _, h6.less (fun b hb => ?_), h5, fun b hb => ?_, fun b hb => ⟨(h4 b hb).1, fun h => ?_⟩⟩, hk.mono (fun b _ hb => ?_)⟩
  · rcases hb with (h | h) | h
    · exact .inl (.inl h)
    · exact .inr h
    · exact .inl (.inr h)
  · rcases hb with h | h
    · exact h3 b h
    · omega
  · rcases h with h | h
    · exact (h4 b hb).2 h
    · have := hx b (.inr hb); omega
  · have hn := (h4 b hb).2
    exact ⟨fun e => hn (e ▸ hown.1), fun e => hn (e ▸ hown.2.1), fun e => hn (hown.2.2 b e)⟩
/-- The blocks of G are turned, no other. -/
theorem PL.turnG (h : PL w0 d sb sc r mb D D2 m G W) (hk : Kept (fun b => ¬ G b) W W') : PL w0 d sb sc r mb D D2 m G W' := by
  obtain ⟨V, X, h1, h2, h3, h4⟩ := h
  have h5 := h1.other hk (fun b _ hg => by
    have hg : G b := Classical.byContradiction hg
    exact ⟨.inr hg, (h4 b hg).1⟩)
  exact ⟨V, X, h5.less (fun b hb => .inl hb), h2.kept hk (fun b hb hg => (h4 b hg).2 hb), h3, h4⟩
/-- The document's box, turned by the law itself. -/
theorem PL.setDown (h : PL w0 d sb sc r mb D D2 m G W) : W.cell? ⟨r, 4, none⟩ = some (.bool D2.dn) ∧ W.frozen? ⟨r, 4, none⟩ = false ∧ PL w0 d sb sc r mb D { D2 with dn := true } m G (W.setCell ⟨r, 4, none⟩ (.bool true)) := by
  obtain ⟨V, X, h1, h2, h3, h4⟩ := h
  have hk : Kept (fun b => b ≠ r) W (W.setCell ⟨r, 4, none⟩ (.bool true)) := (Kept.refl _ W).setCell (fun e => e rfl) _
  have hs : (W.setCell ⟨r, 4, none⟩ (.bool true)).heap.size = W.heap.size := by simp [World.setCell]
  have h5 := h1.other hk (fun b _ hb => by
    have hb : b = r := Classical.byContradiction hb
    rw [hb]
    exact ⟨.inl h2.own.1, h3 r h2.own.1⟩)
  refine ⟨h2.cells.2.2.2.2.1, h2.fr 4, V, X, h5.less (fun b hb => .inl hb), ?_, h3, h4⟩
  refine h2.turn (pull_ok h2.ok) rfl rfl hk ?_
  rw [cells_set h2.box]
  simp [refC]
/-- What only reads the device. -/
theorem PL.ld (h : PL w0 d sb sc r mb D D2 m G W) : ∃ X, LD w0 d sb sc D X W := by obtain ⟨V, X, h1, -⟩ := h; exact ⟨_, h1⟩
theorem PL.ro (h : PL w0 d sb sc r mb D D2 m G W) : ∃ V X, RefO W w0.heap.size r mb m V X D2 := by obtain ⟨V, X, h1, h2, -⟩ := h; exact ⟨V, X, h2⟩
end
section
variable {w0 W : World} {d sb sc : Nat} {D : Dv} {X : Nat → Prop}
theorem LD.readNo (h : LD w0 d sb sc D X W) (i : Int) (hE : readE D i ≠ 0) : Calls Try.prog 13 #[.pointer (some ⟨d, 0, none⟩), .int .i64 i] W fun e W' => e = .returned (.tuple #[.slice none 0 0, .int .i64 (readE D i)]) ∧ Below W.heap.size W W' := by
  obtain ⟨V, h1, h2, h5⟩ := h
  refine dRead_no W _ i (readE D i) hE (fun w' hb => ?_)
  have h := dup_dev W _ d sb sc V D h1 i w' hb
  rw [show upE D.S.length D.dn i = readE D i by
    unfold upE readE
    rw [if_neg (by have := h1.ok.n; omega)]] at h
  exact h
theorem LD.safeNo (h : LD w0 d sb sc D X W) (i : Int) (hi : i < 0 ∨ (D.S.length : Int) ≤ i) : Calls Try.prog 21 #[.pointer (some ⟨d, 0, none⟩), .int .i64 i] W fun e W' => e = .returned (.tuple #[.slice none 0 0, .int .i64 121]) ∧ Below W.heap.size W W' := by
  obtain ⟨V, h1, h2, h5⟩ := h
  obtain ⟨CA, cc, e, hd⟩ := h1.box
  exact dSafe_bad W d _ _ _ _ _ _ _ _ _ i (by have := h1.ok.n; omega) hd hi
theorem LD.len (h : LD w0 d sb sc D X W) : Calls Try.prog 25 #[.pointer (some ⟨d, 0, none⟩)] W fun e W' => e = .returned (.int .i64 (D.S.length : Int)) ∧ Below W.heap.size W W' := by
  obtain ⟨V, h1, h2, h5⟩ := h
  obtain ⟨CA, cc, e, hd⟩ := h1.box
  exact dLen_calls W d _ _ _ _ _ _ _ _ _ (by have := h1.ok.n; omega) hd
end
/-- What a call leaves of the numbers. -/
def DNext (D D' : Dv) : Prop := D'.S.length = D.S.length ∧ D.k ≤ D'.k ∧ D'.k ≤ D.k + 1
theorem cnt_next (D a b : Dv) (ha : a.S.length = D.S.length) (hb : b.S.length = D.S.length) : DNext D (cntV D a b).2 := by
  unfold cntV DNext
  split
  · exact ⟨ha, by show D.k ≤ D.k + 1; omega, by show D.k + 1 ≤ D.k + 1; omega⟩
  · exact ⟨hb, by show D.k ≤ D.k + 1; omega, by show D.k + 1 ≤ D.k + 1; omega⟩
theorem next_refl (D : Dv) : DNext D D := ⟨rfl, by omega, by omega⟩
theorem put_next (D : Dv) (n : Int) (b : List UInt8) : DNext D (putV D n b).2 := by
  unfold putV
  split
  · exact cnt_next D _ _ rfl rfl
  · exact next_refl D
theorem flush_next (D : Dv) : DNext D (flushV D).2 := by
  unfold flushV
  split
  · exact next_refl D
  · exact cnt_next D _ _ rfl (flS_length _ _ _)
theorem plan_next (D : Dv) (n : Int) : DNext D (planV D n).2 := by
  unfold planV
  split
  · exact next_refl D
  · split
    · exact next_refl D
    · exact ⟨rfl, Int.le_refl _, by show D.k ≤ D.k + 1; omega⟩
theorem rest_next (D : Dv) (kp : List UInt8) (tn a : Int) : DNext D (restV D kp tn a).2 := by
  unfold restV
  split
  · exact ⟨crS_length _ _ _ _, Int.le_refl _, by show D.k ≤ D.k + 1; omega⟩
  · exact next_refl D
end Go.Proofs.Ytpleaicpkpjkjaa
