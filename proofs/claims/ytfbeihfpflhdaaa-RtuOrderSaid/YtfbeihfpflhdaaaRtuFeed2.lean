/-
  Feed of package rtu where what it holds ends, and where nothing comes; Idle: walked. Conditions stand at each theorem.
-/
import Derived.Test.YtfbeihfpflhdaaaRtuFeed
namespace Go.Proofs.Ytfbeihfpflhdaaa
open Go Go.RowKit Go.Kw Go.Kw.Crc
set_option linter.unusedVariables false
set_option linter.unusedSimpArgs false

/-- What Feed tells where what was held has ended: l; st: what the gatherer is then, by the number of bad ones. -/
def FeedEnd (w w' : World) (e : Ending) (S : Nat → Prop) (g : Nat) (l : List UInt8) (sp : Bool) (bad : Int) (st : Int → World → Prop) : Prop :=
  ∃ (u : Int) (q : List UInt8) (A : Option Addr) (c : Nat) (ok : Bool), e = .returned (.tuple #[fv u A q.length c, .bool ok, .int .i64 0]) ∧
    (if ok then sp = false ∧ readOf l = some (u, q) else (sp = true ∨ readOf l = none) ∧ u = 0 ∧ q = []) ∧ RdB w' w'.heap.size A q ∧ (A = none → q.length = 0) ∧
    st (if ok then bad else bad + 1) w' ∧ Kept (fun k => S k ∧ k ≠ g) w w'
theorem feed_arg {S : Nat → Prop} (g : Nat) (s : Int) (hs1 : 1 ≤ s) (fs : List (List UInt8)) (sp : Bool) (now last bad t : Int) (A : Option Addr) (c n : Nat) (ht : t < now ∨ 4611686018427387904 < t) (w : World) (h : HoldG w S g s fs sp now last bad) :
    Calls Try.prog 17 #[.pointer (some ⟨g, 0, none⟩), .int .i64 t, .slice A n c] w fun e w' => e = .returned (.tuple #[fv 0 none 0 0, .bool false, .int .i64 2]) ∧ Below w.heap.size w w' := by
  obtain ⟨A0, c0, hG⟩ := h.box
  have G1 := hG.below (bstep w (.cells #[.int .i64 0, .slice none 0 0] 24))
  have g0 := G1.c0
  have g3 := G1.c3
  clear h hG
  by_cases h1 : t < now
  · have k1 : decide (t < now) = true := by simp; omega
    clear ht h1
    go_enter Try.func17, Try.ntmps17
    go_wp2_with fail
    refine (none_calls g s hs1 _ g0).mono ?_
    rintro e w' ⟨rfl, hww⟩
    rw [hww]
    clear hww
    go_wp2_with fail
    refine bodyPost_ret (v := .tuple #[fv 0 none 0 0, .bool false, .int .i64 2]) ?_ rfl ?_
    · simp [results, fv, go_sem]
    · exact ⟨rfl, bstep w _⟩
  · have k1 : decide (t < now) = false := by simp; omega
    have k2 : decide (4611686018427387904 < t) = true := by simp; omega
    clear ht h1
    go_enter Try.func17, Try.ntmps17
    go_wp2_with fail
    refine (none_calls g s hs1 _ g0).mono ?_
    rintro e w' ⟨rfl, hww⟩
    rw [hww]
    clear hww
    go_wp2_with fail
    refine bodyPost_ret (v := .tuple #[fv 0 none 0 0, .bool false, .int .i64 2]) ?_ rfl ?_
    · simp [results, fv, go_sem]
    · exact ⟨rfl, bstep w _⟩
theorem feed_zero (p : Nat) (t : Int) (A : Option Addr) (n c : Nat) (w : World) (hc : w.cell? ⟨p, 0, none⟩ = some (.int .i64 0)) : Calls Try.prog 17 #[.pointer (some ⟨p, 0, none⟩), .int .i64 t, .slice A n c] w fun e w' => e = .returned (.tuple #[fv 0 none 0 0, .bool false, .int .i64 1]) ∧ Below w.heap.size w w' := by
  have g0 : (w.alloc (.cells #[.int .i64 0, .slice none 0 0] 24)).cell? ⟨p, 0, none⟩ = some (.int .i64 0) := ((bstep w _).cell (p := ⟨p, 0, none⟩) (block_lt hc)).trans hc
  go_enter Try.func17, Try.ntmps17
  go_wp2_with fail
  refine (none_zero p _ g0).mono ?_
  rintro e w' ⟨rfl, hww⟩
  rw [hww]
  clear hww
  go_wp2_with fail
  refine bodyPost_ret (v := .tuple #[fv 0 none 0 0, .bool false, .int .i64 1]) ?_ rfl ?_
  · simp [results, fv, go_sem]
  · exact ⟨rfl, bstep w _⟩
set_option maxRecDepth 100000 in
set_option maxHeartbeats 2000000 in
theorem feed_idle {S : Nat → Prop} (g : Nat) (s : Int) (hs1 : 1 ≤ s) (hs2 : s ≤ 1099511627776) (fs : List (List UInt8)) (sp : Bool) (now last bad t : Int) (A : Option Addr) (c : Nat)
    (ht : now ≤ t) (ht0 : 0 ≤ t) (ht2 : t ≤ 4611686018427387904) (hl0 : 0 ≤ last) (hl1 : last ≤ 4611686018427387904) (hdue : fs = [] ∨ t < last + s) (w : World) (h : HoldG w S g s fs sp now last bad) (hS : ∀ k, S k → k < w.heap.size) :
    Calls Try.prog 17 #[.pointer (some ⟨g, 0, none⟩), .int .i64 t, .slice A 0 c] w fun e w' => e = .returned (.tuple #[fv 0 none 0 0, .bool false, .int .i64 0]) ∧
      HoldG w' S g s fs sp t last bad ∧ Kept (fun k => S k ∧ k ≠ g) w w' := by
  obtain ⟨A0, c0, hG, hO, hW⟩ := h
  have hgl := hG.lt
  have k1 : decide (t < now) = false := by simp; omega
  have k2 : decide (4611686018427387904 < t) = false := by simp; omega
  obtain ⟨W1, hW1⟩ : ∃ W1, w.alloc (.cells #[.int .i64 0, .slice none 0 0] 24) = W1 := ⟨_, rfl⟩
  have hb1 : Below w.heap.size w W1 := by rw [← hW1]; exact bstep w _
  have x1 : Box2 W1 w.heap.size 24 (.int .i64 0) (.slice none 0 0) := by rw [← hW1]; exact Box2.new w _ _ _
  have h1 : HoldG W1 S g s fs sp now last bad := HoldG.go ⟨A0, c0, hG, hO, hW⟩ hb1
  have G1 := hG.below hb1
  have g0 := G1.c0
  have g3 := G1.c3
  have f3 := G1.fr 3
  have hs1' : W1.heap.size = w.heap.size + 1 := by rw [← hW1]; simp
  obtain ⟨R, hRe⟩ : ∃ R, w.heap.size = R := ⟨_, rfl⟩
  have Hdue := Lib.hid hdue
  clear hdue
  go_enter Try.func17, Try.ntmps17
  go_wp2_with fail
  refine (none_calls g s hs1 W1 g0).mono ?_
  rintro e w' ⟨rfl, hww⟩
  rw [hww]
  clear hww hW1
  have hb2 : Below w.heap.size (W1.setCell ⟨g, 3, none⟩ (.int .i64 t)) ((W1.setCell ⟨g, 3, none⟩ (.int .i64 t)).alloc (.cells #[.int .i64 0, .slice none 0 0] 24)) := (bstep _ _).mono (by simp [hs1'])
  have h2 : HoldG ((W1.setCell ⟨g, 3, none⟩ (.int .i64 t)).alloc (.cells #[.int .i64 0, .slice none 0 0] 24)) S g s fs sp t last bad := (h1.set3 t).go (bstep _ _)
  have y2 := Box2.new (W1.setCell ⟨g, 3, none⟩ (.int .i64 t)) 24 (.int .i64 0) (.slice none 0 0)
  have x2 : Box2 ((W1.setCell ⟨g, 3, none⟩ (.int .i64 t)).alloc (.cells #[.int .i64 0, .slice none 0 0] 24)) w.heap.size 24 (.int .i64 0) (.slice none 0 0) := (x1.far (p := ⟨g, 3, none⟩) (by simp; omega) _).below (bstep _ _)
  have K2 : Kept (fun k => S k ∧ k ≠ g) w ((W1.setCell ⟨g, 3, none⟩ (.int .i64 t)).alloc (.cells #[.int .i64 0, .slice none 0 0] 24)) := ((hb1.keptS _).setCell (p := ⟨g, 3, none⟩) (by simp) _).next (bstep _ _)
  have hs2' : ((W1.setCell ⟨g, 3, none⟩ (.int .i64 t)).alloc (.cells #[.int .i64 0, .slice none 0 0] 24)).heap.size = w.heap.size + 2 := by simp [hs1']
  have hz2 : (W1.setCell ⟨g, 3, none⟩ (.int .i64 t)).heap.size = w.heap.size + 1 := by simp [hs1']
  rw [hz2] at y2
  go_wp2_with fail
  generalize ((W1.setCell ⟨g, 3, none⟩ (.int .i64 t)).alloc (.cells #[.int .i64 0, .slice none 0 0] 24)) = W2 at *
  clear hb2 x1 h1 G1 g0 g3 f3 hb1 hz2 hs1' hG hO hW
  rw [hRe] at x2 y2 hs2' hS hgl
  clear hRe
  rcases Hdue.out with hz | hz
  · refine (dueG_none g s hs1 fs sp t last bad W2 h2 (by rw [hz]; rfl)).mono ?_
    rintro e w3 ⟨rfl, hb3⟩
    clear hz
    have hb34 := hb3
    have h5 := h2.go hb3
    have y5 := y2.below hb3
    have x5 := x2.below hb3
    have K5 := K2.trans (hb3.keptS _)
    have a0 := y5.c0
    have a1 := y5.c1
    have b0 := x5.c0
    have b1 := x5.c1
    have b2 := x5.f0
    have b3 := x5.f1
    have hRg : R ≠ g := by omega
    have hgR : g ≠ R := by omega
    have HS := Lib.hid hS
    clear y5 y2 x2 h2 hb3 hb34 hS
    go_wp2_with fail
    have h10 := h5.boxed x5 hRg (.int .i64 0) (.slice none 0 0)
    have K10 := (K5.setCell (p := ⟨R, 0, none⟩) (fun h => by have := HS.out _ h.1; simp at this) (.int .i64 0)).setCell (p := ⟨R, 1, none⟩) (fun h => by have := HS.out _ h.1; simp at this) (.slice none 0 0)
    refine bodyPost_ret (v := .tuple #[fv 0 none 0 0, .bool false, .int .i64 0]) ?_ rfl ⟨rfl, h10, K10⟩
    simp [results, fv, go_sem, b0, b1, b2, b3, hRg, hgR]
  · have hf1 : 1 ≤ fs.length ∨ fs = [] := by rcases fs with _ | ⟨a, l⟩; exact .inr rfl; exact .inl (by simp)
    rcases hf1 with hf1 | hf1
    · skip
      have kd : decide (last + s ≤ t) = false := by simp; omega
      refine (dueG_some g s hs1 hs2 fs hf1 sp t last bad hl0 hl1 W2 h2).mono ?_
      rintro e w3 ⟨rfl, hb3⟩
      clear hz hf1
      have hb34 := hb3
      have h5 := h2.go hb3
      have y5 := y2.below hb3
      have x5 := x2.below hb3
      have K5 := K2.trans (hb3.keptS _)
      have a0 := y5.c0
      have a1 := y5.c1
      have b0 := x5.c0
      have b1 := x5.c1
      have b2 := x5.f0
      have b3 := x5.f1
      have hRg : R ≠ g := by omega
      have hgR : g ≠ R := by omega
      have HS := Lib.hid hS
      clear y5 y2 x2 h2 hb3 hb34 hS
      go_wp2_with fail
      have h10 := h5.boxed x5 hRg (.int .i64 0) (.slice none 0 0)
      have K10 := (K5.setCell (p := ⟨R, 0, none⟩) (fun h => by have := HS.out _ h.1; simp at this) (.int .i64 0)).setCell (p := ⟨R, 1, none⟩) (fun h => by have := HS.out _ h.1; simp at this) (.slice none 0 0)
      refine bodyPost_ret (v := .tuple #[fv 0 none 0 0, .bool false, .int .i64 0]) ?_ rfl ⟨rfl, h10, K10⟩
      simp [results, fv, go_sem, b0, b1, b2, b3, hRg, hgR]
    · refine (dueG_none g s hs1 fs sp t last bad W2 h2 (by rw [hf1]; rfl)).mono ?_
      rintro e w3 ⟨rfl, hb3⟩
      clear hz hf1
      have hb34 := hb3
      have h5 := h2.go hb3
      have y5 := y2.below hb3
      have x5 := x2.below hb3
      have K5 := K2.trans (hb3.keptS _)
      have a0 := y5.c0
      have a1 := y5.c1
      have b0 := x5.c0
      have b1 := x5.c1
      have b2 := x5.f0
      have b3 := x5.f1
      have hRg : R ≠ g := by omega
      have hgR : g ≠ R := by omega
      have HS := Lib.hid hS
      clear y5 y2 x2 h2 hb3 hb34 hS
      go_wp2_with fail
      have h10 := h5.boxed x5 hRg (.int .i64 0) (.slice none 0 0)
      have K10 := (K5.setCell (p := ⟨R, 0, none⟩) (fun h => by have := HS.out _ h.1; simp at this) (.int .i64 0)).setCell (p := ⟨R, 1, none⟩) (fun h => by have := HS.out _ h.1; simp at this) (.slice none 0 0)
      refine bodyPost_ret (v := .tuple #[fv 0 none 0 0, .bool false, .int .i64 0]) ?_ rfl ⟨rfl, h10, K10⟩
      simp [results, fv, go_sem, b0, b1, b2, b3, hRg, hgR]
set_option maxRecDepth 100000 in
set_option maxHeartbeats 2000000 in
theorem feed_end {S : Nat → Prop} (g : Nat) (s : Int) (hs1 : 1 ≤ s) (hs2 : s ≤ 1099511627776) (fs : List (List UInt8)) (hl : fs.length ≤ 1000) (hf : fs.flatten.length ≤ 1000) (hf1 : 1 ≤ fs.length) (sp : Bool) (now last bad t : Int) (hbad : 0 ≤ bad) (hbad2 : bad ≤ 1000000) (A : Option Addr) (c : Nat)
    (ht : now ≤ t) (ht0 : 0 ≤ t) (ht2 : t ≤ 4611686018427387904) (hl0 : 0 ≤ last) (hl1 : last ≤ 4611686018427387904) (hdue : last + s ≤ t) (w : World) (h : HoldG w S g s fs sp now last bad) (hS : ∀ k, S k → k < w.heap.size) :
    Calls Try.prog 17 #[.pointer (some ⟨g, 0, none⟩), .int .i64 t, .slice A 0 c] w fun e w' =>
      FeedEnd w w' e S g fs.flatten sp bad (fun bad' w' => GBox w' g s (.slice none 0 0) false t last bad') := by
  obtain ⟨A0, c0, hG, hO, hW⟩ := h
  have hgl := hG.lt
  have k1 : decide (t < now) = false := by simp; omega
  have k2 : decide (4611686018427387904 < t) = false := by simp; omega
  obtain ⟨W1, hW1⟩ : ∃ W1, w.alloc (.cells #[.int .i64 0, .slice none 0 0] 24) = W1 := ⟨_, rfl⟩
  have hb1 : Below w.heap.size w W1 := by rw [← hW1]; exact bstep w _
  have x1 : Box2 W1 w.heap.size 24 (.int .i64 0) (.slice none 0 0) := by rw [← hW1]; exact Box2.new w _ _ _
  have h1 : HoldG W1 S g s fs sp now last bad := HoldG.go ⟨A0, c0, hG, hO, hW⟩ hb1
  have G1 := hG.below hb1
  have g0 := G1.c0
  have g3 := G1.c3
  have f3 := G1.fr 3
  have hs1' : W1.heap.size = w.heap.size + 1 := by rw [← hW1]; simp
  obtain ⟨R, hRe⟩ : ∃ R, w.heap.size = R := ⟨_, rfl⟩
  have Hdue := Lib.hid hdue
  clear hdue
  go_enter Try.func17, Try.ntmps17
  go_wp2_with fail
  refine (none_calls g s hs1 W1 g0).mono ?_
  rintro e w' ⟨rfl, hww⟩
  rw [hww]
  clear hww hW1
  have hb2 : Below w.heap.size (W1.setCell ⟨g, 3, none⟩ (.int .i64 t)) ((W1.setCell ⟨g, 3, none⟩ (.int .i64 t)).alloc (.cells #[.int .i64 0, .slice none 0 0] 24)) := (bstep _ _).mono (by simp [hs1'])
  have h2 : HoldG ((W1.setCell ⟨g, 3, none⟩ (.int .i64 t)).alloc (.cells #[.int .i64 0, .slice none 0 0] 24)) S g s fs sp t last bad := (h1.set3 t).go (bstep _ _)
  have y2 := Box2.new (W1.setCell ⟨g, 3, none⟩ (.int .i64 t)) 24 (.int .i64 0) (.slice none 0 0)
  have x2 : Box2 ((W1.setCell ⟨g, 3, none⟩ (.int .i64 t)).alloc (.cells #[.int .i64 0, .slice none 0 0] 24)) w.heap.size 24 (.int .i64 0) (.slice none 0 0) := (x1.far (p := ⟨g, 3, none⟩) (by simp; omega) _).below (bstep _ _)
  have K2 : Kept (fun k => S k ∧ k ≠ g) w ((W1.setCell ⟨g, 3, none⟩ (.int .i64 t)).alloc (.cells #[.int .i64 0, .slice none 0 0] 24)) := ((hb1.keptS _).setCell (p := ⟨g, 3, none⟩) (by simp) _).next (bstep _ _)
  have hs2' : ((W1.setCell ⟨g, 3, none⟩ (.int .i64 t)).alloc (.cells #[.int .i64 0, .slice none 0 0] 24)).heap.size = w.heap.size + 2 := by simp [hs1']
  have hz2 : (W1.setCell ⟨g, 3, none⟩ (.int .i64 t)).heap.size = w.heap.size + 1 := by simp [hs1']
  rw [hz2] at y2
  go_wp2_with fail
  generalize ((W1.setCell ⟨g, 3, none⟩ (.int .i64 t)).alloc (.cells #[.int .i64 0, .slice none 0 0] 24)) = W2 at *
  clear hb2 x1 h1 G1 g0 g3 f3 hb1 hz2 hs1' hG hO hW
  rw [hRe] at x2 y2 hs2' hS hgl
  clear hRe
  have kd : decide (last + s ≤ t) = true := by have := Hdue.out; simp; omega
  have HS := Lib.hid hS
  refine (dueG_some g s hs1 hs2 fs hf1 sp t last bad hl0 hl1 W2 h2).mono ?_
  rintro e w3 ⟨rfl, hb3⟩
  have h3 := h2.go hb3
  have y3 := y2.below hb3
  have x3 := x2.below hb3
  have K3 := K2.trans (hb3.keptS _)
  have hs3' := hb3.size
  clear Hdue
  go_wp2_with fail
  refine (endG_calls g s hs1 fs hl hf sp t last bad hbad hbad2 w3 h3).mono ?_
  rintro e w4 ⟨u, q, A4, c4, ok, rfl, hok, r4, z4, G4, k4⟩
  obtain ⟨bd, hbd⟩ : ∃ bd : Int, (if ok then bad else bad + 1) = bd := ⟨_, rfl⟩
  rw [hbd] at G4
  have hRg : R ≠ g := by omega
  have hgR : g ≠ R := by omega
  have hg1 : R + 1 ≠ g := by omega
  have hg2 : g ≠ R + 1 := by omega
  have y4 := y3.keptS k4 hg1
  have x4 := x3.keptS k4 hRg
  have K4 := K3.trans (k4.mono (S' := fun k => S k ∧ k ≠ g) (fun k _ hh => hh.2))
  have Hok := Lib.hid hok
  have Hbd := Lib.hid hbd
  have a0 := y4.c0
  have a1 := y4.c1
  have a2 := y4.f0
  have a3 := y4.f1
  have b0 := x4.c0
  have b1 := x4.c1
  have b2 := x4.f0
  have b3 := x4.f1
  have hs4' := k4.size
  clear hok hbd y2 x2 h2 h3 y3 x3 K2 K3 hb3 k4 hS
  unfold fv
  go_wp2_with fail
  have k9 : Kept (fun b => b ≠ R ∧ b ≠ R + 1) w4 ((((w4.setCell ⟨R + 1, 0, none⟩ (.int .i64 u)).setCell ⟨R + 1, 1, none⟩ (.slice A4 q.length c4)).setCell ⟨R, 0, none⟩ (.int .i64 u)).setCell ⟨R, 1, none⟩ (.slice A4 q.length c4)) :=
    ((((Kept.refl _ w4).setCell (p := ⟨R + 1, 0, none⟩) (by simp) _).setCell (p := ⟨R + 1, 1, none⟩) (by simp) _).setCell (p := ⟨R, 0, none⟩) (by simp) _).setCell (p := ⟨R, 1, none⟩) (by simp) _
  have r9 := RdB.keptN r4 (Nat.le_refl _) k9 (fun b off x hc => ⟨fun e => x4.no8 off x (e ▸ hc), fun e => y4.no8 off x (e ▸ hc)⟩)
  have K9 := K4.trans (k9.mono (S' := fun k => S k ∧ k ≠ g) (fun k _ hh => by have := HS.out k hh.1; exact ⟨by omega, by omega⟩))
  refine bodyPost_ret (v := .tuple #[fv u A4 q.length c4, .bool ok, .int .i64 0]) ?_ rfl ⟨u, q, A4, c4, ok, rfl, Hok.out, r9, z4, ?_, K9⟩
  · simp [results, fv, go_sem, a0, a1, a2, a3, b0, b1, b2, b3]
  · rw [Hbd.out]; exact G4.keptS k9 ⟨hgR, hg2⟩
theorem heldG_nil (g : Nat) (s : Int) (hs1 : 1 ≤ s) {sp : Bool} {now last bad : Int} (w : World) (h : GBox w g s (.slice none 0 0) sp now last bad) :
    Calls Try.prog 19 #[.pointer (some ⟨g, 0, none⟩)] w fun e w' => e = .returned (.int .i64 0) ∧ Below w.heap.size w w' :=
  heldG_calls (S := fun _ => False) g s hs1 [] (by simp) (by simp) sp now last bad w (HoldG.nil h)
theorem Box2.set {W : World} {R : Nat} {t : TypeId} {x y : Value} (h : Box2 W R t x y) (x' y' : Value) : Box2 ((W.setCell ⟨R, 0, none⟩ x').setCell ⟨R, 1, none⟩ y') R t x' y' := by
  have h1 : (W.setCell ⟨R, 0, none⟩ x').heap[R]? = some (.cells #[x', y] t (0, 0)) := by rw [heap_setCell_same W R 0 _ _ x' h]; rfl
  show ((W.setCell ⟨R, 0, none⟩ x').setCell ⟨R, 1, none⟩ y').heap[R]? = some (.cells #[x', y'] t (0, 0))
  rw [heap_setCell_same _ R 1 _ _ y' h1]; rfl
/-- 'g.pieces = append(g.pieces, f)' where it holds none. -/
theorem push_nil {W w : World} {S : Nat → Prop} {g : Nat} {s now last bad : Int} {sp : Bool} (hG : GBox W g s (.slice none 0 0) sp now last bad)
    (hb : Below W.heap.size W w) (hS : ∀ k, S k → k < W.heap.size) (f : List UInt8) (m : Nat) (hm : m = f.length) {A : Option Addr} {c : Nat} (o : w.ownsRow W.heap.size 5 1 (.slice A m c) m (bv f)) :
    ∃ A' c' w', (Builtin.append_ #[48, 48] 48 #[.slice none 0 0, .slice (some ⟨w.heap.size, 0, none⟩) 1 1]).run Try.prog (w.alloc (.cells #[.slice A m c] 22)) = .ok (.slice A' 1 c') w' ∧
      GBox w' g s (.slice none 0 0) sp now last bad ∧ HoldG (w'.setCell ⟨g, 1, none⟩ (.slice A' 1 c')) S g s [f] sp now last bad ∧
      Kept (fun k => S k ∧ k ≠ g) W (w'.setCell ⟨g, 1, none⟩ (.slice A' 1 c')) ∧ Kept (fun k => k < W.heap.size) W w' := by
  obtain ⟨A', c', w', h1, h2, h3, h4, h5⟩ := push_g (S := S) (fs := []) hG (OwL.nil _ _ _) (by simp [Value.ownBlock]) hb hS f m hm o (by simp)
  exact ⟨A', c', w', h1, h2, h3, h4, h5.mono fun k _ hh => ⟨hh, by simp [Value.ownBlock]⟩⟩
set_option maxRecDepth 100000 in
set_option maxHeartbeats 2000000 in
theorem feed_endtake {S : Nat → Prop} (g : Nat) (s : Int) (hs1 : 1 ≤ s) (hs2 : s ≤ 1099511627776) (fs : List (List UInt8)) (hl : fs.length ≤ 1000) (hf : fs.flatten.length ≤ 1000) (hf1 : 1 ≤ fs.length) (sp0 : Bool) (now last bad t : Int) (hbad : 0 ≤ bad) (hbad2 : bad ≤ 1000000) (A : Option Addr) (c n : Nat) (b : List UInt8) (hn : n = b.length) (hn1 : 1 ≤ n) (hn2 : n ≤ 1000) (hc : n ≤ c) (hc2 : c ≤ 9223372036854775807)
    (ht : now ≤ t) (ht0 : 0 ≤ t) (ht2 : t ≤ 4611686018427387904) (hl0 : 0 ≤ last) (hl1 : last ≤ 4611686018427387904) (hdue : last + s ≤ t) (w : World) (h : HoldG w S g s fs sp0 now last bad) (hR : RdB w w.heap.size A b) (hRS : ∀ b off x, w.cell? ⟨b, off, none⟩ = some (.int .u8 x) → b ≠ g) (hS : ∀ k, S k → k < w.heap.size) :
    Calls Try.prog 17 #[.pointer (some ⟨g, 0, none⟩), .int .i64 t, .slice A n c] w fun e w' =>
      FeedEnd w w' e S g fs.flatten sp0 bad (fun bad' w' => HoldG w' S g s [b.take 256] (decide (256 < (n : Int))) t t bad') := by
  obtain ⟨A0, c0, hG, hO, hW⟩ := h
  have hgl := hG.lt
  have k1 : decide (t < now) = false := by simp; omega
  have k2 : decide (4611686018427387904 < t) = false := by simp; omega
  obtain ⟨W1, hW1⟩ : ∃ W1, w.alloc (.cells #[.int .i64 0, .slice none 0 0] 24) = W1 := ⟨_, rfl⟩
  have hb1 : Below w.heap.size w W1 := by rw [← hW1]; exact bstep w _
  have x1 : Box2 W1 w.heap.size 24 (.int .i64 0) (.slice none 0 0) := by rw [← hW1]; exact Box2.new w _ _ _
  have h1 : HoldG W1 S g s fs sp0 now last bad := HoldG.go ⟨A0, c0, hG, hO, hW⟩ hb1
  have G1 := hG.below hb1
  have g0 := G1.c0
  have g3 := G1.c3
  have f3 := G1.fr 3
  have hs1' : W1.heap.size = w.heap.size + 1 := by rw [← hW1]; simp
  obtain ⟨R, hRe⟩ : ∃ R, w.heap.size = R := ⟨_, rfl⟩
  have Hdue := Lib.hid hdue
  have Hb := Lib.hid hn
  clear hdue hn
  go_enter Try.func17, Try.ntmps17
  go_wp2_with fail
  refine (none_calls g s hs1 W1 g0).mono ?_
  rintro e w' ⟨rfl, hww⟩
  rw [hww]
  clear hww hW1
  have hb2 : Below w.heap.size (W1.setCell ⟨g, 3, none⟩ (.int .i64 t)) ((W1.setCell ⟨g, 3, none⟩ (.int .i64 t)).alloc (.cells #[.int .i64 0, .slice none 0 0] 24)) := (bstep _ _).mono (by simp [hs1'])
  have h2 : HoldG ((W1.setCell ⟨g, 3, none⟩ (.int .i64 t)).alloc (.cells #[.int .i64 0, .slice none 0 0] 24)) S g s fs sp0 t last bad := (h1.set3 t).go (bstep _ _)
  have y2 := Box2.new (W1.setCell ⟨g, 3, none⟩ (.int .i64 t)) 24 (.int .i64 0) (.slice none 0 0)
  have x2 : Box2 ((W1.setCell ⟨g, 3, none⟩ (.int .i64 t)).alloc (.cells #[.int .i64 0, .slice none 0 0] 24)) w.heap.size 24 (.int .i64 0) (.slice none 0 0) := (x1.far (p := ⟨g, 3, none⟩) (by simp; omega) _).below (bstep _ _)
  have K2 : Kept (fun k => S k ∧ k ≠ g) w ((W1.setCell ⟨g, 3, none⟩ (.int .i64 t)).alloc (.cells #[.int .i64 0, .slice none 0 0] 24)) := ((hb1.keptS _).setCell (p := ⟨g, 3, none⟩) (by simp) _).next (bstep _ _)
  have r2 : RdB ((W1.setCell ⟨g, 3, none⟩ (.int .i64 t)).alloc (.cells #[.int .i64 0, .slice none 0 0] 24)) ((W1.setCell ⟨g, 3, none⟩ (.int .i64 t)).alloc (.cells #[.int .i64 0, .slice none 0 0] 24)).heap.size A b := by
    refine RdB.keptN (S := fun b => b ≠ g) hR (Nat.le_refl _) (((hb1.keptS _).setCell (p := ⟨g, 3, none⟩) (by simp) _).next (bstep _ _)) (fun b off x hc e => hG.no8 off x (e ▸ hc))
  have hs2' : ((W1.setCell ⟨g, 3, none⟩ (.int .i64 t)).alloc (.cells #[.int .i64 0, .slice none 0 0] 24)).heap.size = w.heap.size + 2 := by simp [hs1']
  have hz2 : (W1.setCell ⟨g, 3, none⟩ (.int .i64 t)).heap.size = w.heap.size + 1 := by simp [hs1']
  rw [hz2] at y2
  go_wp2_with fail
  generalize ((W1.setCell ⟨g, 3, none⟩ (.int .i64 t)).alloc (.cells #[.int .i64 0, .slice none 0 0] 24)) = W2 at *
  clear hb2 x1 h1 G1 g0 g3 f3 hb1 hz2 hs1' hR hG hO hW
  rw [hRe] at x2 y2 hs2' hS hgl
  clear hRe
  have kd : decide (last + s ≤ t) = true := by have := Hdue.out; simp; omega
  have HS := Lib.hid hS
  refine (dueG_some g s hs1 hs2 fs hf1 sp0 t last bad hl0 hl1 W2 h2).mono ?_
  rintro e w3 ⟨rfl, hb3⟩
  have h3 := h2.go hb3
  have y3 := y2.below hb3
  have x3 := x2.below hb3
  have K3 := K2.trans (hb3.keptS _)
  have hs3' := hb3.size
  have r3 := r2.go hb3
  obtain ⟨A9, c9, G9⟩ := h3.box
  clear Hdue
  go_wp2_with fail
  refine (endG_calls g s hs1 fs hl hf sp0 t last bad hbad hbad2 w3 h3).mono ?_
  rintro e w4 ⟨u, q, A4, c4, ok, rfl, hok, r4, z4, G4, k4⟩
  obtain ⟨bd, hbd⟩ : ∃ bd : Int, (if ok then bad else bad + 1) = bd := ⟨_, rfl⟩
  rw [hbd] at G4
  have hRg : R ≠ g := by omega
  have hgR : g ≠ R := by omega
  have hg1 : R + 1 ≠ g := by omega
  have hg2 : g ≠ R + 1 := by omega
  have y4 := y3.keptS k4 hg1
  have x4 := x3.keptS k4 hRg
  have K4 := K3.trans (k4.mono (S' := fun k => S k ∧ k ≠ g) (fun k _ hh => hh.2))
  have Hok := Lib.hid hok
  have Hbd := Lib.hid hbd
  have a0 := y4.c0
  have a1 := y4.c1
  have a2 := y4.f0
  have a3 := y4.f1
  have b0 := x4.c0
  have b1 := x4.c1
  have b2 := x4.f0
  have b3 := x4.f1
  have hs4' := k4.size
  clear hok hbd y2 x2 h2 h3 y3 x3 K2 K3 hb3 hS
  have rb4 : RdB w4 w4.heap.size A b := RdB.keptN r3 (Nat.le_refl _) k4 (fun b off x hc e => G9.no8 off x (e ▸ hc))
  clear k4 G9 r3
  have hw1 : IntKind.i64.wrap (256 - (0 : Int)) = 256 := IntWalk.i64_in _ (by omega)
  have hw2 : IntKind.i64.wrap (256 : Int) = 256 := IntWalk.i64_in _ (by omega)
  obtain ⟨m, hm⟩ : ∃ m, m = min n 256 := ⟨_, rfl⟩
  have hmin : min (n : Int) 256 = (m : Int) := by omega
  have hm1 : 1 ≤ m := by omega
  have hm2 : m ≤ n := by omega
  obtain ⟨sp, hsp⟩ : ∃ sp, decide (256 < (n : Int)) = sp := ⟨_, rfl⟩
  have Hsp := Lib.hid hsp
  have Htk : Hid (b.take 256 = b.take m ∧ (b.take m).length = m) := by
    have := Hb.out
    refine ⟨?_, by simp; omega⟩
    rcases Nat.lt_or_ge n 256 with h | h
    · rw [List.take_of_length_le (by omega), List.take_of_length_le (by omega)]
    · congr 1; omega
  have Hm := Lib.hid hm
  clear hm
  unfold fv
  go_wp2_with fail
  have k5 : Kept (fun b => b ≠ R + 1) w4 ((w4.setCell ⟨R + 1, 0, none⟩ (.int .i64 u)).setCell ⟨R + 1, 1, none⟩ (.slice A4 q.length c4)) :=
    ((Kept.refl _ w4).setCell (p := ⟨R + 1, 0, none⟩) (by simp) _).setCell (p := ⟨R + 1, 1, none⟩) (by simp) _
  have G5 := G4.keptS k5 hg2
  have y5 := y4.set (.int .i64 u) (.slice A4 q.length c4)
  have x5 := x4.keptS k5 (by omega)
  have K5 := K4.trans (k5.mono (S' := fun k => S k ∧ k ≠ g) (fun k _ hh => by have := HS.out k hh.1; show k ≠ R + 1; omega))
  have r5 := RdB.keptN r4 (Nat.le_refl _) k5 (fun b off x hc e => y4.no8 off x (e ▸ hc))
  have rb5 := RdB.keptN rb4 (Nat.le_refl _) k5 (fun b off x hc e => y4.no8 off x (e ▸ hc))
  have hs5 : R + 2 ≤ ((w4.setCell ⟨R + 1, 0, none⟩ (.int .i64 u)).setCell ⟨R + 1, 1, none⟩ (.slice A4 q.length c4)).heap.size := by have := k5.size; omega
  generalize ((w4.setCell ⟨R + 1, 0, none⟩ (.int .i64 u)).setCell ⟨R + 1, 1, none⟩ (.slice A4 q.length c4)) = W5 at *
  clear k5 a0 a1 a2 a3 b0 b1 b2 b3 y4 x4 K4 r4 rb4 G4 hs4'
  refine (heldG_nil g s hs1 W5 G5).mono ?_
  rintro e w6 ⟨rfl, hb6⟩
  have G6 := G5.below hb6
  have y6 := y5.below hb6
  have x6 := x5.below hb6
  have K6 := K5.trans (hb6.keptS _)
  have r6 := r5.go hb6
  have rb6 := rb5.go hb6
  have hs6 : R + 2 ≤ w6.heap.size := Nat.le_trans hs5 hb6.size
  clear G5 y5 x5 K5 r5 rb5 hs5 hb6
  have g2 := G6.c2
  have f2 := G6.fr 2
  go_wp2_with fail
  have k7 : Kept (fun b => b ≠ g) w6 (w6.setCell ⟨g, 2, none⟩ (.bool sp)) := (Kept.refl _ w6).setCell (p := ⟨g, 2, none⟩) (by simp) _
  have G7 : GBox (w6.setCell ⟨g, 2, none⟩ (.bool sp)) g s (.slice none 0 0) sp t last bd := G6.set2 sp
  have y7 := y6.keptS k7 hg1
  have x7 := x6.keptS k7 hRg
  have K7 := K6.trans (k7.mono (S' := fun k => S k ∧ k ≠ g) (fun k _ hh => hh.2))
  have r7 := RdB.keptN r6 (Nat.le_refl _) k7 (fun b off x hc e => G6.no8 off x (e ▸ hc))
  have rb7 := RdB.keptN rb6 (Nat.le_refl _) k7 (fun b off x hc e => G6.no8 off x (e ▸ hc))
  have hs7 : R + 2 ≤ (w6.setCell ⟨g, 2, none⟩ (.bool sp)).heap.size := Nat.le_trans hs6 k7.size
  clear g2 f2 G6 y6 x6 K6 r6 rb6 hs6 k7
  generalize w6.setCell ⟨g, 2, none⟩ (.bool sp) = W5 at *
  have q1 : (m : Int) ≤ (c : Int) := by omega
  have q2 : ((m : Int)).toNat = m := by omega
  have Hcl : Hid (Calls Try.prog 29 #[.slice A m c] W5.drew fun e w' => ∃ A' c', e = .returned (.slice A' m c') ∧ w'.ownsRow W5.drew.heap.size 5 1 (.slice A' m c') m (bv (b.take m)) ∧ Below W5.drew.heap.size W5.drew w') :=
    clone_n A c m (b.take m) Htk.out.2.symm (by omega) W5.drew (rdB_take rb7 m (by have := Hb.out; omega)) (fun h => by
      rcases rb7 with h' | ⟨b', off', e', -⟩
      · have := Hb.out; omega
      · rw [h] at e'; cases e')
  have HG5 := Lib.hid (show GBox W5.drew g s (.slice none 0 0) sp t last bd from G7)
  have HS5 : Hid (∀ k, S k → k < W5.drew.heap.size) := fun k hk => by have := HS.out k hk; show k < W5.heap.size; omega
  have r8 : RdB W5.drew W5.drew.heap.size A4 q := r7
  clear G7 r7 rb7
  have e0 := HG5.out.c1
  have e1 := HG5.out.fr 1
  go_region_law (first
      | (refine step_call1 (by rfl) 29 (.tmp 84) #[22] (by rfl) (.slice A m c) (by simp [Act.eval, Act.put]) (enters_of Try.func29 (by kernel_rfl) rfl) Hcl.out ?_; rintro e w6 ⟨A6, c6, rfl, o6, hb6⟩; refine ⟨_, rfl, ?_⟩; obtain ⟨A8, c8, w8, hrun, g8, h8, k8, j8⟩ := push_nil HG5.out hb6 HS5.out (b.take m) m Htk.out.2.symm o6; have Hrun := Lib.hid hrun; have e6 := (HG5.out.below hb6).c1; have e6' := ((HG5.out.below hb6).below (bstep w6 (.cells #[.slice A6 m c6] 22))).c1; have e7 := g8.c1; have e8 := g8.fr 1; clear hrun g8 o6)
      | (refine step_append_run (by rfl) (.tmp 81) (.tmp 86) _ _ _ (by rfl) (by rfl) (.slice none 0 0) (.slice (some ⟨w6.heap.size, 0, none⟩) 1 1) (by simp [Act.eval, Act.put]) (by simp [Act.eval, Act.put]) Hrun.out ?_))
  all_goals
    have j9 : Kept (fun k => k < W5.drew.heap.size ∧ k ≠ g) W5.drew (w8.setCell ⟨g, 1, none⟩ (.slice A8 1 c8)) := (j8.mono (S' := fun k => k < W5.drew.heap.size ∧ k ≠ g) (fun k _ hh => hh.1)).setCell (p := ⟨g, 1, none⟩) (by simp) _
    have y9 : Box2 (w8.setCell ⟨g, 1, none⟩ (.slice A8 1 c8)) (R + 1) 24 (.int .i64 u) (.slice A4 q.length c4) := y7.keptS (W := W5.drew) j9 ⟨by show R + 1 < W5.heap.size; omega, hg1⟩
    have x9 : Box2 (w8.setCell ⟨g, 1, none⟩ (.slice A8 1 c8)) R 24 (.int .i64 0) (.slice none 0 0) := x7.keptS (W := W5.drew) j9 ⟨by show R < W5.heap.size; omega, hRg⟩
    have K9 := (K7.drew).trans k8
    have r9 := RdB.keptN r8 (Nat.le_refl _) j9 (fun b off x hc => ⟨block_lt hc, fun e => HG5.out.no8 off x (e ▸ hc)⟩)
    generalize (w8.setCell ⟨g, 1, none⟩ (.slice A8 1 c8)) = W9 at *
    obtain ⟨A9, c9, G9⟩ := h8.box
    have g4 := G9.c4
    have f4 := G9.fr 4
    have a0 := y9.c0
    have a1 := y9.c1
    have b0 := x9.c0
    have b1 := x9.c1
    have b2 := x9.f0
    have b3 := x9.f1
    have z9 : ∀ off x, W9.cell? ⟨g, off, none⟩ ≠ some (.int .u8 x) := fun off x => G9.no8 off x
    have Hz9 := Lib.hid z9
    clear G9 j8 j9 k8 K7 y7 x7 e0 e1 e6 e6' e7 e8 hb6 z9
    go_wp2_with fail
    have h10 := (h8.set4 t).boxed (x9.far (p := ⟨g, 4, none⟩) hRg (.int .i64 t)) hRg (.int .i64 u) (.slice A4 q.length c4)
    have K10 := ((K9.setCell (p := ⟨g, 4, none⟩) (by simp) (.int .i64 t)).setCell (p := ⟨R, 0, none⟩) (fun h => by have := HS.out _ h.1; simp at this) (.int .i64 u)).setCell (p := ⟨R, 1, none⟩) (fun h => by have := HS.out _ h.1; simp at this) (.slice A4 q.length c4)
    have j10 : Kept (fun k => k ≠ g ∧ k ≠ R) W9 (((W9.setCell ⟨g, 4, none⟩ (.int .i64 t)).setCell ⟨R, 0, none⟩ (.int .i64 u)).setCell ⟨R, 1, none⟩ (.slice A4 q.length c4)) := (((Kept.refl _ W9).setCell (p := ⟨g, 4, none⟩) (by simp) _).setCell (p := ⟨R, 0, none⟩) (by simp) _).setCell (p := ⟨R, 1, none⟩) (by simp) _
    have r10 := RdB.keptN r9 (Nat.le_refl _) j10 (fun b off x hc => ⟨fun e => Hz9.out off x (e ▸ hc), fun e => x9.no8 off x (e ▸ hc)⟩)
    refine bodyPost_ret (v := .tuple #[fv u A4 q.length c4, .bool ok, .int .i64 0]) ?_ rfl ⟨u, q, A4, c4, ok, rfl, Hok.out, r10, z4, ?_, K10⟩
    · simp [results, fv, go_sem, a0, a1, b0, b1, b2, b3, hRg, hgR]
    · rw [Hbd.out, Htk.out.1, Hsp.out]; exact h10
end Go.Proofs.Ytfbeihfpflhdaaa
