/-
  A gatherer that holds pieces ('HoldG'): Held, Due and 'end' said of it. Conditions: at most 1,000 pieces, 1,000 bytes in all.
-/
import Derived.Test.YtfbeihfpflhdaaaRtuEnd3
import Derived.Test.YtfbeihfpflhdaaaLists
namespace Go.Proofs.Ytfbeihfpflhdaaa
open Go Go.RowKit Go.Kw Go.Kw.Crc
set_option linter.unusedVariables false
set_option linter.unusedSimpArgs false

theorem getD_range {α : Type} [Inhabited α] (n : Nat) (f : Nat → α) (k : Nat) (h : k < n) : ((List.range n).map f).getD k default = f k := by
  rw [List.getD_eq_getElem?_getD, List.getElem?_map, List.getElem?_range h]; rfl
theorem flat_snoc (fs : List (List UInt8)) (k : Nat) (h : k < fs.length) : (fs.take (k + 1)).flatten = (fs.take k).flatten ++ lrd fs k := by
  rw [List.take_succ_eq_append_getElem h, List.flatten_append]
  have : lrd fs k = fs[k] := by unfold lrd; rw [List.getD_eq_getElem?_getD, List.getElem?_eq_getElem h]; rfl
  rw [this]; simp
/-- The pieces of a row that the call owns. -/
theorem OwL.pieces {w : World} {base : Nat} {S : Nat → Prop} {A : Option Addr} {n c : Nat} {fs : List (List UInt8)} (h : OwL w base S (.slice A n c) fs) :
    ∃ vs : List PV, vs.length = fs.length ∧ Rd w w.heap.size A vs.length (fun i => (vs.getD i default).v) ∧
      (∀ k, k < vs.length → RdB w w.heap.size (vs.getD k default).a (lrd fs k) ∧ (vs.getD k default).n = (lrd fs k).length ∧ ((vs.getD k default).a = none → (lrd fs k).length = 0)) ∧
      (∀ k, k ≤ fs.length → ahead vs k = (fs.take k).flatten.length) ∧ ∀ k, k ≤ fs.length → allE (lrd fs) k = (fs.take k).flatten := by
  obtain ⟨ps, h1, h2⟩ := h
  obtain ⟨vs, hvs⟩ : ∃ vs : List PV, vs = (List.range fs.length).map (fun k => ⟨(ps k).1, (lrd fs k).length, (ps k).2⟩) := ⟨_, rfl⟩
  have hlen : vs.length = fs.length := by rw [hvs]; simp
  have hget : ∀ k, k < fs.length → vs.getD k default = ⟨(ps k).1, (lrd fs k).length, (ps k).2⟩ := fun k hk => by rw [hvs]; exact getD_range _ _ _ hk
  refine ⟨vs, hlen, ?_, fun k hk => ?_, fun k => ?_, fun k => ?_⟩
  · have h3 := (RdX.of_own (S := fun _ => True) h1 (fun _ _ => trivial)).rd
    rcases h3 with h3 | ⟨b, off, e, hb, hc⟩
    · exact .inl (by omega)
    · refine .inr ⟨b, off, e, hb, fun i hi => ?_⟩
      rw [hc i (by omega)]
      show some (lcell fs ps i) = some ((vs.getD i default).v)
      rw [hget i (by omega)]; rfl
  · rw [hget k (by omega)]
    obtain ⟨a1, a2, -⟩ := h2 k (by omega)
    exact ⟨a1.rd, rfl, a2⟩
  · induction k with
    | zero => intro _; simp [ahead]
    | succ k ih =>
      intro hk
      have hp : vs[k]? = some ⟨(ps k).1, (lrd fs k).length, (ps k).2⟩ := by rw [hvs, List.getElem?_map, List.getElem?_range (by omega)]; rfl
      rw [ahead_succ vs k _ hp, ih (by omega), flat_snoc fs k (by omega), List.length_append]
  · induction k with
    | zero => intro _; simp [allE]
    | succ k ih => intro hk; rw [allE_succ, ih (by omega), flat_snoc fs k (by omega)]
theorem flat_le (fs : List (List UInt8)) (k : Nat) : (fs.take k).flatten.length ≤ fs.flatten.length := by
  conv => rhs; rw [← List.take_append_drop k fs, List.flatten_append, List.length_append]
  omega

/-- A gatherer that holds pieces; S: blocks that its own row is none of. -/
def HoldG (W : World) (S : Nat → Prop) (g : Nat) (s : Int) (fs : List (List UInt8)) (sp : Bool) (now last bad : Int) : Prop :=
  ∃ A c, GBox W g s (.slice A fs.length c) sp now last bad ∧ OwL W 0 (fun b => b ≠ g) (.slice A fs.length c) fs ∧ ∀ k, (Value.slice A fs.length c).ownBlock = some k → k ≠ g ∧ ¬ S k
section
variable {W W' : World} {S S' : Nat → Prop} {g : Nat} {s now last bad : Int} {fs : List (List UInt8)} {sp : Bool}
theorem HoldG.go (h : HoldG W S g s fs sp now last bad) (hb : Below W.heap.size W W') : HoldG W' S g s fs sp now last bad := by
  obtain ⟨A, c, h1, h2, h3⟩ := h; exact ⟨A, c, h1.below hb, h2.go hb, h3⟩
theorem HoldG.nil (h : GBox W g s (.slice none 0 0) sp now last bad) : HoldG W S g s [] sp now last bad := ⟨none, 0, h, OwL.nil _ _ _, by simp [Value.ownBlock]⟩
theorem HoldG.box (h : HoldG W S g s fs sp now last bad) : ∃ A c, GBox W g s (.slice A fs.length c) sp now last bad := by obtain ⟨A, c, h1, -⟩ := h; exact ⟨A, c, h1⟩
theorem HoldG.mono (h : HoldG W S g s fs sp now last bad) (hs : ∀ k, S' k → S k) : HoldG W S' g s fs sp now last bad := by
  obtain ⟨A, c, h1, h2, h3⟩ := h; exact ⟨A, c, h1, h2, fun k hk => ⟨(h3 k hk).1, fun hh => (h3 k hk).2 (hs k hh)⟩⟩
theorem HoldG.empty (h : HoldG W S g s [] sp now last bad) (S1 : Nat → Prop) (hz : ∀ A c, GBox W g s (.slice A 0 c) sp now last bad → A = none ∧ c = 0) : HoldG W S1 g s [] sp now last bad := by
  obtain ⟨A, c, h1, h2, h3⟩ := h
  obtain ⟨rfl, rfl⟩ := hz A c h1
  exact HoldG.nil h1
end

theorem own_keptO {w w' : World} {S : Nat → Prop} {base : Nat} {e : TypeId} {size : Nat} {v : Value} {n : Nat} {xs : List Value} (h : w.ownsRow base e size v n xs) (hk : Kept S w w') (hs : ∀ k, v.ownBlock = some k → S k) : w'.ownsRow base e size v n xs := by
  refine ⟨h.1, ?_⟩
  rcases h.2 with h | ⟨g, cap, cur, hv, hg, hh, r⟩
  · exact .inl h
  · exact .inr ⟨g, cap, cur, hv, hg, (hk.block g (Array.getElem?_eq_some_iff.1 hh).1 (hs g (by rw [hv]; rfl))).trans hh, r⟩
theorem HoldG.turn {W W' : World} {S : Nat → Prop} {g : Nat} {s now last bad now' last' bad' : Int} {fs : List (List UInt8)} {sp sp' : Bool} (h : HoldG W S g s fs sp now last bad) (hk : Kept (fun b => b ≠ g) W W') (hb : ∀ pv, GBox W g s pv sp now last bad → GBox W' g s pv sp' now' last' bad') : HoldG W' S g s fs sp' now' last' bad' := by
  obtain ⟨A, c, h1, ⟨ps, q1, q2⟩, h3⟩ := h
  exact ⟨A, c, hb _ h1, ⟨ps, own_keptO q1 hk (fun k hk => (h3 k hk).1), q2.kept (hk.mono fun k _ hh => hh.1)⟩, h3⟩
theorem RdY.keptN {w w' : World} {S S1 : Nat → Prop} {A : Option Addr} {l : List UInt8} (h : RdY w S A l) (hk : Kept S1 w w') (hs : ∀ b off x, w.cell? ⟨b, off, none⟩ = some (.int .u8 x) → S1 b) : RdY w' S A l := by
  rcases Nat.eq_zero_or_pos l.length with h0 | h0
  · exact .inl h0
  rcases h with h | ⟨b, off, e, hb, hl, hc⟩
  · exact .inl h
  · have hS := hs b (off + 0) _ (hc 0 h0)
    exact .inr ⟨b, off, e, hb, Nat.lt_of_lt_of_le hl hk.size, fun i hi => (World.cell?_of_block (a := ⟨b, off + i, none⟩) (hk.block b hl hS)).trans (hc i hi)⟩
theorem HoldG.keptN {W W' : World} {S S1 : Nat → Prop} {g : Nat} {s now last bad : Int} {fs : List (List UInt8)} {sp : Bool} (h : HoldG W S g s fs sp now last bad) (hk : Kept S1 W W') (h1 : ∀ b off x, W.cell? ⟨b, off, none⟩ = some (.int .u8 x) → S1 b) (h2 : ∀ b cs, W.heap[b]? = some (.cells cs 22 (0, 0)) → S1 b) (h3 : S1 g) : HoldG W' S g s fs sp now last bad := by
  obtain ⟨A, c, q1, ⟨ps, q2, q3⟩, q4⟩ := h
  refine ⟨A, c, q1.keptS hk h3, ⟨ps, ?_, fun k hlt => ⟨RdY.keptN (q3 k hlt).1 hk h1, (q3 k hlt).2⟩⟩, q4⟩
  refine ⟨q2.1, ?_⟩
  rcases q2.2 with h | ⟨g', cap, cur, hv, hg, hh, r⟩
  · exact .inl h
  · exact .inr ⟨g', cap, cur, hv, hg, (hk.block g' (Array.getElem?_eq_some_iff.1 hh).1 (h2 g' cur hh)).trans hh, r⟩
/-- A frame's box is set. -/
theorem HoldG.boxed {W : World} {S : Nat → Prop} {g R : Nat} {s now last bad y : Int} {A : Option Addr} {n c : Nat} {fs : List (List UInt8)} {sp : Bool} (h : HoldG W S g s fs sp now last bad) (hx : Box2 W R 24 (.int .i64 y) (.slice A n c)) (hR : R ≠ g) (u v : Value) :
    HoldG ((W.setCell ⟨R, 0, none⟩ u).setCell ⟨R, 1, none⟩ v) S g s fs sp now last bad :=
  h.keptN (S1 := fun b => b ≠ R) (((Kept.refl _ W).setCell (p := ⟨R, 0, none⟩) (by simp) _).setCell (p := ⟨R, 1, none⟩) (by simp) _) (fun b off x hc e => hx.no8 off x (e ▸ hc))
    (fun b cs hb e => by subst e; rw [show W.heap[b]? = _ from hx] at hb; injection hb with hb; injection hb with _ h2 _; exact absurd h2 (by decide)) (by omega)
theorem HoldG.set3 {W : World} {S : Nat → Prop} {g : Nat} {s now last bad : Int} {fs : List (List UInt8)} {sp : Bool} (h : HoldG W S g s fs sp now last bad) (t : Int) : HoldG (W.setCell ⟨g, 3, none⟩ (.int .i64 t)) S g s fs sp t last bad :=
  h.turn ((Kept.refl _ W).setCell (p := ⟨g, 3, none⟩) (by simp) _) (fun pv h => h.set3 t)
theorem HoldG.set2 {W : World} {S : Nat → Prop} {g : Nat} {s now last bad : Int} {fs : List (List UInt8)} {sp : Bool} (h : HoldG W S g s fs sp now last bad) (t : Bool) : HoldG (W.setCell ⟨g, 2, none⟩ (.bool t)) S g s fs t now last bad :=
  h.turn ((Kept.refl _ W).setCell (p := ⟨g, 2, none⟩) (by simp) _) (fun pv h => h.set2 t)
theorem HoldG.set4 {W : World} {S : Nat → Prop} {g : Nat} {s now last bad : Int} {fs : List (List UInt8)} {sp : Bool} (h : HoldG W S g s fs sp now last bad) (t : Int) : HoldG (W.setCell ⟨g, 4, none⟩ (.int .i64 t)) S g s fs sp now t bad :=
  h.turn ((Kept.refl _ W).setCell (p := ⟨g, 4, none⟩) (by simp) _) (fun pv h => h.set4 t)
theorem heldG_calls {S : Nat → Prop} (g : Nat) (s : Int) (hs1 : 1 ≤ s) (fs : List (List UInt8)) (hl : fs.length ≤ 1000) (hf : fs.flatten.length ≤ 1000) (sp : Bool) (now last bad : Int) (w : World) (h : HoldG w S g s fs sp now last bad) :
    Calls Try.prog 19 #[.pointer (some ⟨g, 0, none⟩)] w fun e w' => e = .returned (.int .i64 (fs.flatten.length : Nat)) ∧ Below w.heap.size w w' := by
  obtain ⟨A, c, h1, h2, -⟩ := h
  obtain ⟨vs, hv, hR, hp, ha, -⟩ := h2.pieces
  have hah := ha fs.length (Nat.le_refl _)
  rw [List.take_length, ← hv] at hah
  rw [← hah]
  rw [← hv] at h1
  exact heldSum_calls g s hs1 A c vs (by omega) (by omega) w h1.c0 h1.c1 hR
theorem endG_calls {S : Nat → Prop} (g : Nat) (s : Int) (hs1 : 1 ≤ s) (fs : List (List UInt8)) (hl : fs.length ≤ 1000) (hf : fs.flatten.length ≤ 1000) (sp : Bool) (now last bad : Int) (hbad : 0 ≤ bad) (hbad2 : bad ≤ 1000000) (w : World) (h : HoldG w S g s fs sp now last bad) :
    Calls Try.prog 28 #[.pointer (some ⟨g, 0, none⟩)] w fun e w' => EndPost w w' e g s fs.flatten sp now last bad := by
  obtain ⟨A, c, h1, h2, -⟩ := h
  obtain ⟨vs, hv, hR, hp, ha, hE⟩ := h2.pieces
  have hah := ha fs.length (Nat.le_refl _)
  have hEn := hE fs.length (Nat.le_refl _)
  rw [List.take_length] at hEn
  rw [List.take_length, ← hv] at hah
  rw [← hEn, ← hv]
  rw [← hv] at h1
  refine end_calls g s hs1 A c vs (by omega) (by omega) (lrd fs) ?_ ?_ sp now last bad hbad hbad2 w h1 hR hp
  · rw [hv, hEn]; omega
  · intro k hk
    rw [hE k (by omega)]
    have := flat_le fs k
    omega
theorem dueG_none {S : Nat → Prop} (g : Nat) (s : Int) (hs1 : 1 ≤ s) (fs : List (List UInt8)) (sp : Bool) (now last bad : Int) (w : World) (h : HoldG w S g s fs sp now last bad) (hz : fs.length = 0) :
    Calls Try.prog 22 #[.pointer (some ⟨g, 0, none⟩)] w fun e w' => e = .returned (.tuple #[.int .i64 0, .bool false]) ∧ Below w.heap.size w w' := by
  obtain ⟨A, c, h1, -, -⟩ := h
  rw [hz] at h1
  exact due_none g s hs1 A c sp now last bad w h1
theorem dueG_some {S : Nat → Prop} (g : Nat) (s : Int) (hs1 : 1 ≤ s) (hs2 : s ≤ 1099511627776) (fs : List (List UInt8)) (hn : 1 ≤ fs.length) (sp : Bool) (now last bad : Int) (hl : 0 ≤ last) (hl2 : last ≤ 4611686018427387904) (w : World) (h : HoldG w S g s fs sp now last bad) :
    Calls Try.prog 22 #[.pointer (some ⟨g, 0, none⟩)] w fun e w' => e = .returned (.tuple #[.int .i64 (last + s), .bool true]) ∧ Below w.heap.size w w' := by
  obtain ⟨A, c, h1, -, -⟩ := h
  exact due_some g s hs1 hs2 A fs.length c hn sp now last bad hl hl2 w h1
end Go.Proofs.Ytfbeihfpflhdaaa
