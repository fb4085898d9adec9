/-
  Idle of package rtu, walked. Conditions stand at each theorem.
-/
import Derived.Test.YtfbeihfpflhdaaaRtuFeed2
namespace Go.Proofs.Ytfbeihfpflhdaaa
open Go Go.RowKit Go.Kw Go.Kw.Crc
set_option linter.unusedVariables false
set_option linter.unusedSimpArgs false

/-- 'Idle': 'Feed' of none. -/
theorem idle_of (p : Value) (t : Int) (w : World) {R Q : Ending → World → Prop} (h : Calls Try.prog 17 #[p, .int .i64 t, .slice none 0 0] (w.alloc (.cells #[.int .i64 0, .slice none 0 0] 24)) R)
    (hR : ∀ e w', R e w' → ∃ u A n c ok z, e = .returned (.tuple #[fv u A n c, .bool ok, .int .i64 z]) ∧ Box2 w' w.heap.size 24 (.int .i64 0) (.slice none 0 0))
    (hQ : ∀ u A n c ok z w', R (.returned (.tuple #[fv u A n c, .bool ok, .int .i64 z])) w' → Q (.returned (.tuple #[fv u A n c, .bool ok, .int .i64 z])) ((w'.setCell ⟨w.heap.size, 0, none⟩ (.int .i64 u)).setCell ⟨w.heap.size, 1, none⟩ (.slice A n c))) :
    Calls Try.prog 21 #[p, .int .i64 t] w Q := by
  go_enter Try.func21, Try.ntmps21
  go_wp2_with fail
  refine h.mono ?_
  intro e w' hr
  obtain ⟨u, A, n, c, ok, z, rfl, bx⟩ := hR e w' hr
  have hq := hQ _ _ _ _ _ _ _ hr
  have c0 := bx.c0
  have c1 := bx.c1
  have f0 := bx.f0
  have f1 := bx.f1
  clear hr hR hQ bx h
  unfold fv at hq ⊢
  go_wp2_with fail
  refine bodyPost_ret (v := .tuple #[.agg #[.int .i64 u, .slice A n c], .bool ok, .int .i64 z]) ?_ rfl hq
  simp [results, go_sem, c0, c1, f0, f1]
theorem HoldG.own_lt {w W1 : World} {S : Nat → Prop} {g : Nat} {s now last bad : Int} {fs : List (List UInt8)} {sp : Bool} (h : HoldG w S g s fs sp now last bad) (hb : Below w.heap.size w W1) : HoldG W1 (fun k => S k ∨ k = w.heap.size) g s fs sp now last bad := by
  obtain ⟨A0, c0, hG, hO, hW⟩ := h
  refine ⟨A0, c0, hG.below hb, hO.go hb, fun k hk => ⟨(hW k hk).1, fun h => ?_⟩⟩
  rcases h with h | h
  · exact (hW k hk).2 h
  · obtain ⟨A1, c1, e, -, -, -, h4⟩ := hO.form
    rw [e] at hk
    cases A1 with
    | none => simp [Value.ownBlock] at hk
    | some a => obtain ⟨g', rfl, -, hg⟩ := h4 a rfl; simp [Value.ownBlock] at hk; omega
theorem idle_none {S : Nat → Prop} (g : Nat) (s : Int) (hs1 : 1 ≤ s) (hs2 : s ≤ 1099511627776) (fs : List (List UInt8)) (sp : Bool) (now last bad t : Int)
    (ht : now ≤ t) (ht0 : 0 ≤ t) (ht2 : t ≤ 4611686018427387904) (hl0 : 0 ≤ last) (hl1 : last ≤ 4611686018427387904) (hdue : fs = [] ∨ t < last + s) (w : World) (h : HoldG w S g s fs sp now last bad) (hS : ∀ k, S k → k < w.heap.size) :
    Calls Try.prog 21 #[.pointer (some ⟨g, 0, none⟩), .int .i64 t] w fun e w' => e = .returned (.tuple #[fv 0 none 0 0, .bool false, .int .i64 0]) ∧
      HoldG w' S g s fs sp t last bad ∧ Kept (fun k => S k ∧ k ≠ g) w w' := by
  have hb := bstep w (.cells #[.int .i64 0, .slice none 0 0] 24)
  have hgl : g < w.heap.size := by obtain ⟨A, c, h1, -⟩ := h; exact h1.lt
  refine idle_of _ t w (feed_idle (S := fun k => S k ∨ k = w.heap.size) g s hs1 hs2 fs sp now last bad t none 0 ht ht0 ht2 hl0 hl1 hdue _ (h.own_lt hb) (fun k hk => by rcases hk with hk | hk; have := hS k hk; simp; omega; simp; omega)) ?_ ?_
  · rintro e w' ⟨he, -, hk⟩
    exact ⟨_, _, _, _, _, _, he, (Box2.new w _ _ _).keptS hk ⟨.inr rfl, by omega⟩⟩
  · rintro u A n c ok z w' ⟨he, hh, hk⟩
    have bx := (Box2.new w 24 (.int .i64 0) (.slice none 0 0)).keptS hk ⟨.inr rfl, by omega⟩
    refine ⟨he, (hh.boxed bx (by omega) _ _).mono (fun k hk => .inl hk), ?_⟩
    exact (((hb.keptS _).trans (hk.mono fun k _ hh => ⟨.inl hh.1, hh.2⟩)).setNew (p := ⟨w.heap.size, 0, none⟩) (Nat.le_refl _) _).setNew (p := ⟨w.heap.size, 1, none⟩) (Nat.le_refl _) _
theorem idle_end {S : Nat → Prop} (g : Nat) (s : Int) (hs1 : 1 ≤ s) (hs2 : s ≤ 1099511627776) (fs : List (List UInt8)) (hl : fs.length ≤ 1000) (hf : fs.flatten.length ≤ 1000) (hf1 : 1 ≤ fs.length) (sp : Bool) (now last bad t : Int) (hbad : 0 ≤ bad) (hbad2 : bad ≤ 1000000)
    (ht : now ≤ t) (ht0 : 0 ≤ t) (ht2 : t ≤ 4611686018427387904) (hl0 : 0 ≤ last) (hl1 : last ≤ 4611686018427387904) (hdue : last + s ≤ t) (w : World) (h : HoldG w S g s fs sp now last bad) (hS : ∀ k, S k → k < w.heap.size) :
    Calls Try.prog 21 #[.pointer (some ⟨g, 0, none⟩), .int .i64 t] w fun e w' =>
      FeedEnd w w' e S g fs.flatten sp bad (fun bad' w' => GBox w' g s (.slice none 0 0) false t last bad') := by
  have hb := bstep w (.cells #[.int .i64 0, .slice none 0 0] 24)
  have hgl : g < w.heap.size := by obtain ⟨A, c, h1, -⟩ := h; exact h1.lt
  refine idle_of _ t w (feed_end (S := fun k => S k ∨ k = w.heap.size) g s hs1 hs2 fs hl hf hf1 sp now last bad t hbad hbad2 none 0 ht ht0 ht2 hl0 hl1 hdue _ (h.own_lt hb) (fun k hk => by rcases hk with hk | hk; have := hS k hk; simp; omega; simp; omega)) ?_ ?_
  · rintro e w' ⟨u, q, A, c, ok, he, -, -, -, -, hk⟩
    exact ⟨_, _, _, _, _, _, he, (Box2.new w _ _ _).keptS hk ⟨.inr rfl, by omega⟩⟩
  · rintro u A n c ok z w' ⟨u', q, A', c', ok', he, h1, h2, h3, h4, hk⟩
    have bx := (Box2.new w 24 (.int .i64 0) (.slice none 0 0)).keptS hk ⟨.inr rfl, by omega⟩
    have k9 : Kept (fun b => b ≠ w.heap.size) w' ((w'.setCell ⟨w.heap.size, 0, none⟩ (.int .i64 u)).setCell ⟨w.heap.size, 1, none⟩ (.slice A n c)) := ((Kept.refl _ w').setCell (p := ⟨w.heap.size, 0, none⟩) (by simp) _).setCell (p := ⟨w.heap.size, 1, none⟩) (by simp) _
    refine ⟨u', q, A', c', ok', he, h1, RdB.keptN h2 (Nat.le_refl _) k9 (fun b off x hc e => bx.no8 off x (e ▸ hc)), h3, h4.keptS k9 (by omega), ?_⟩
    exact (((hb.keptS _).trans (hk.mono fun k _ hh => ⟨.inl hh.1, hh.2⟩)).setNew (p := ⟨w.heap.size, 0, none⟩) (Nat.le_refl _) _).setNew (p := ⟨w.heap.size, 1, none⟩) (Nat.le_refl _) _
end Go.Proofs.Ytfbeihfpflhdaaa
