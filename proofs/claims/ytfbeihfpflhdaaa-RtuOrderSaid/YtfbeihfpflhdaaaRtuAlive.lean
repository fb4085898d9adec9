/-
  The chapter's first examples ('alive'), walked. Conditions stand at each theorem.
-/
import Derived.Test.YtfbeihfpflhdaaaRtuIdle
namespace Go.Proofs.Ytfbeihfpflhdaaa
open Go Go.RowKit Go.Kw Go.Kw.Crc
set_option linter.unusedVariables false
set_option linter.unusedSimpArgs false

theorem HoldG.newH (w : World) (S : Nat → Prop) (s : Int) (g : Nat) (hg : g = w.heap.size) : HoldG (w.alloc (.cells #[.int .i64 s, .slice none 0 0, .bool false, .int .i64 0, .int .i64 0, .int .i64 0] 50)) S g s [] false 0 0 0 := by
  subst hg; exact HoldG.nil (GBox.new w s _ _ _ _ _)
/-- Feed of bytes where nothing ends, its results named. -/
theorem feed_takeN {S : Nat → Prop} (g : Nat) (s : Int) (hs1 : 1 ≤ s) (hs2 : s ≤ 1099511627776) (fs : List (List UInt8)) (hl : fs.length ≤ 256) (L : Nat) (hL : fs.flatten.length = L) (hroom : L < 256) (now last bad t : Int) (A : Option Addr) (c n : Nat) (b : List UInt8) (hn : n = b.length) (hn1 : 1 ≤ n) (hn2 : n ≤ 1000) (hc : n ≤ c) (hc2 : c ≤ 9223372036854775807)
    (ht : now ≤ t) (ht0 : 0 ≤ t) (ht2 : t ≤ 4611686018427387904) (hl0 : 0 ≤ last) (hl1 : last ≤ 4611686018427387904) (hdue : fs = [] ∨ t < last + s) (fs' : List (List UInt8)) (hfs : fs' = fs ++ [b.take (256 - L)]) (sp' : Bool) (hsp : sp' = decide (256 - (L : Int) < n))
    (w : World) (h : HoldG w S g s fs false now last bad) (hR : RdB w w.heap.size A b) (hS : ∀ k, S k → k < w.heap.size) :
    Calls Try.prog 17 #[.pointer (some ⟨g, 0, none⟩), .int .i64 t, .slice A n c] w fun e w' => e = .returned (.tuple #[fv 0 none 0 0, .bool false, .int .i64 0]) ∧
      HoldG w' S g s fs' sp' t t bad ∧ Kept (fun k => S k ∧ k ≠ g) w w' := by
  subst hfs hsp; exact feed_take g s hs1 hs2 fs hl L hL hroom now last bad t A c n b hn hn1 hn2 hc hc2 ht ht0 ht2 hl0 hl1 hdue w h hR hS
theorem keptLow {g : Nat} {W W' : World} (h : Kept (fun k => k < g ∧ k ≠ g) W W') (hg : g ≤ W.heap.size) : Below g W W' := h.below hg (fun k hk => ⟨hk, by omega⟩)
/-- What ends is a frame. -/
theorem FeedEnd.good {w w' : World} {e : Ending} {S : Nat → Prop} {g : Nat} {l : List UInt8} {bad : Int} {st : Int → World → Prop} (h : FeedEnd w w' e S g l false bad st) (u : Int) (q : List UInt8) (hr : readOf l = some (u, q)) :
    ∃ (A : Option Addr) (c : Nat), e = .returned (.tuple #[fv u A q.length c, .bool true, .int .i64 0]) ∧ RdB w' w'.heap.size A q ∧ (A = none → q.length = 0) ∧ st bad w' ∧ Kept (fun k => S k ∧ k ≠ g) w w' := by
  obtain ⟨u', q', A, c, ok, he, hok, h1, h2, h3, h4⟩ := h
  cases ok with
  | false =>
    obtain ⟨h5, -⟩ : (false = true ∨ readOf l = none) ∧ _ := hok
    rcases h5 with h5 | h5
    · cases h5
    · rw [hr] at h5; cases h5
  | true =>
    obtain ⟨-, h5⟩ : false = false ∧ readOf l = some (u', q') := hok
    rw [hr] at h5; injection h5 with h5; injection h5 with e1 e2; subst e1 e2
    exact ⟨A, c, he, h1, h2, h3, h4⟩
/-- What ends is none. -/
theorem FeedEnd.none_ {w w' : World} {e : Ending} {S : Nat → Prop} {g : Nat} {l : List UInt8} {sp : Bool} {bad : Int} {st : Int → World → Prop} (h : FeedEnd w w' e S g l sp bad st) (hr : sp = true ∨ readOf l = none) :
    ∃ (A : Option Addr) (c : Nat), e = .returned (.tuple #[fv 0 A 0 c, .bool false, .int .i64 0]) ∧ st (bad + 1) w' ∧ Kept (fun k => S k ∧ k ≠ g) w w' := by
  obtain ⟨u', q', A, c, ok, he, hok, h1, h2, h3, h4⟩ := h
  cases ok with
  | true =>
    obtain ⟨h6, h5⟩ : sp = false ∧ readOf l = some (u', q') := hok
    rcases hr with hr | hr
    · rw [h6] at hr; cases hr
    · rw [hr] at h5; cases h5
  | false =>
    obtain ⟨-, e1, e2⟩ : (sp = true ∨ readOf l = none) ∧ u' = 0 ∧ q' = [] := hok
    subst e1 e2
    exact ⟨A, c, he, h3, h4⟩
theorem rd_al : readOf ([[1, 3, 0], [0, 0, 10, 197, 205]] : List (List UInt8)).flatten = some (1, [3, 0, 0, 0, 10]) := by decide +kernel
theorem rdB_take8 {w : World} {B : Nat} {A : Option Addr} (h : RdB w B A [1, 3, 0, 0, 0, 10, 197, 205]) (n : Nat) (hn : n ≤ 8) (l : List UInt8) (hl : l = ([1, 3, 0, 0, 0, 10, 197, 205] : List UInt8).take n) : RdB w B A l := by subst hl; exact rdB_take h n hn

set_option maxRecDepth 100000 in
set_option maxHeartbeats 4000000 in
theorem alive_calls (w : World) : Calls Try.prog 14 #[] w fun e w' => e = .returned (.bool true) ∧ Below w.heap.size w w' := by
  have Hst := Lib.hid (fun (w : World) (A : Option Addr) (c : Nat) (r : List UInt8) (h : RdB w w.heap.size A r) (hn : A = none → r.length = 0) => run_string (P := Try.prog) (src := 22) (dst := 9) h c hn Try.underlying22 Try.underlying5 Try.underlying9)
  go_enter Try.func14, Try.ntmps14
  go_wp2_with fail
  refine (some_calls _).mono ?_
  rintro e w1 ⟨⟨A, c, B, d, rfl, r1, n1, o1⟩, hb1⟩
  unfold fv
  have hb12 := bstep w1 (.cells #[.int .i64 1, .slice A 5 c] 24)
  have bx := Box2.new w1 24 (.int .i64 1) (.slice A 5 c)
  have ob := (rdB_own o1).1.go hb12
  have rA := r1.go hb12
  have s1 : (convert 22 9 (.slice B 8 d)).run Try.prog (w1.alloc (.cells #[.int .i64 1, .slice A 5 c] 24)) = .ok (.string ⟨#[1, 3, 0, 0, 0, 10, 197, 205]⟩) (w1.alloc (.cells #[.int .i64 1, .slice A 5 c] 24)) :=
    Hst.out _ B d [1, 3, 0, 0, 0, 10, 197, 205] ob (own_none o1)
  have hd : (3 : Int) ≤ (d : Int) := by have := (own_caps o1).1; omega
  have hd8 : 8 ≤ d := (own_caps o1).1
  have hdm := (own_caps o1).2
  obtain ⟨g2, rfl⟩ := own_some o1 (by simp)
  have hbw := hb1.trans (hb12.mono hb1.size)
  clear r1 o1 hb12 hb1
  go_wp2_with fail
  refine (new_calls 4 (by omega) (by omega) _).mono ?_
  rintro e w3 ⟨rfl, hw3⟩
  rw [World.size_alloc]
  have h3 := HoldG.newH (w1.alloc (.cells #[.int .i64 1, .slice A 5 c] 24)) (fun k => k < w1.heap.size + 1) 4 (w1.heap.size + 1) (by simp)
  have hb3 := bstep (w1.alloc (.cells #[.int .i64 1, .slice A 5 c] 24)) (.cells #[.int .i64 4, .slice none 0 0, .bool false, .int .i64 0, .int .i64 0, .int .i64 0] 50)
  have hz3 : w3.heap.size = w1.heap.size + 1 + 1 := by rw [hw3]; simp
  rw [← hw3] at h3 hb3
  simp only [World.size_alloc] at hb3 bx ob rA
  have r3 := RdB.below ob hb3
  have rA3 := RdB.below rA hb3
  have bx3 := bx.below (by simpa using hb3)
  have hlF : w1.heap.size < w1.heap.size + 1 := by omega
  have hbw3 : Below w.heap.size w w3 := hbw.trans (hb3.mono (by have := hbw.size; simpa using this))
  have hlw : w.heap.size ≤ w1.heap.size + 1 := by have := hbw.size; simpa using this
  clear hw3 bx ob rA s1 hb3 hbw
  generalize hF : w1.heap.size = F at *
  generalize hg : F + 1 = g at *
  clear hF
  have hSw : ∀ W : World, g + 1 ≤ W.heap.size → ∀ k, k < g → k < W.heap.size := fun W h k hk => by omega
  have hsl : ∀ W : World, Below g w3 W → RdB W g (some ⟨g2, 3, none⟩) [0, 0, 10, 197, 205] := fun W h => by simpa using rdB_drop (RdB.below r3 h) 3
  have hq1 : (3 : Int) ≤ 8 := by omega
  go_wp2_with fail
  refine (feed_takeN g 4 (by omega) (by omega) [] (by simp) 0 rfl (by omega) 0 0 0 10 (some ⟨g2, 0, none⟩) d 3 [1, 3, 0] rfl (by omega) (by omega) (by omega) hdm (by omega) (by omega) (by omega) (by omega) (by omega) (.inl rfl) [[1, 3, 0]] rfl false (by decide) w3 h3 (rdB_take8 (r3.more (by omega)) 3 (by omega) _ rfl) (hSw w3 (by omega))).mono ?_
  rintro e w4 ⟨rfl, h4, k4⟩
  unfold fv
  have b4 := keptLow k4 (by omega)
  have hb5 := bstep w4 (.cells #[.int .i64 0, .slice none 0 0] 24)
  have hz4 : g + 1 ≤ w4.heap.size := by have := k4.size; omega
  have h5 := h4.go hb5
  have b5 := b4.trans (hb5.mono (by omega))
  have hz5 := Nat.le_trans hz4 hb5.size
  clear h3 k4 h4 b4 hb5 hz4
  go_wp2_with fail
  refine (feed_takeN g 4 (by omega) (by omega) [[1, 3, 0]] (by simp) 3 rfl (by omega) 10 10 0 13 (some ⟨g2, 3, none⟩) (d - 3) 5 [0, 0, 10, 197, 205] rfl (by omega) (by omega) (by omega) (by omega) (by omega) (by omega) (by omega) (by omega) (by omega) (.inr (by omega)) [[1, 3, 0], [0, 0, 10, 197, 205]] rfl false (by decide) _ h5 ((hsl _ b5).more (by omega)) (hSw _ hz5)).mono ?_
  rintro e w6 ⟨rfl, h6, k6⟩
  unfold fv
  have b6 := b5.trans (keptLow k6 (by omega))
  have hb7 := bstep w6 (.cells #[.int .i64 0, .slice none 0 0] 24)
  have hz6 : g + 1 ≤ w6.heap.size := by have := k6.size; omega
  have h7 := h6.go hb7
  have b7 := b6.trans (hb7.mono (by omega))
  have hz7 := Nat.le_trans hz6 hb7.size
  clear h5 k6 h6 b6 hb7 hz6 b5 hz5
  go_wp2_with fail
  refine (dueG_some g 4 (by omega) (by omega) [[1, 3, 0], [0, 0, 10, 197, 205]] (by simp) false 13 13 0 (by omega) (by omega) _ h7).mono ?_
  rintro e w8 ⟨rfl, hb8⟩
  have h8 := h7.go hb8
  have b8 := b7.trans (hb8.mono (by omega))
  have hz8 := Nat.le_trans hz7 hb8.size
  clear h7 b7 hz7 hb8
  go_wp2_with fail
  refine (idle_none g 4 (by omega) (by omega) [[1, 3, 0], [0, 0, 10, 197, 205]] false 13 13 0 16 (by omega) (by omega) (by omega) (by omega) (by omega) (.inr (by omega)) _ h8 (hSw _ hz8)).mono ?_
  rintro e w9 ⟨rfl, h9, k9⟩
  unfold fv
  have b9 := b8.trans (keptLow k9 (by omega))
  have hb10 := bstep w9 (.cells #[.int .i64 0, .slice none 0 0] 24)
  have hz9 : g + 1 ≤ w9.heap.size := by have := k9.size; omega
  have h10 := h9.go hb10
  have b10 := b9.trans (hb10.mono (by omega))
  have hz10 := Nat.le_trans hz9 hb10.size
  clear h8 k9 h9 b9 hb10 hz9 b8 hz8
  go_wp2_with fail
  refine (idle_end g 4 (by omega) (by omega) [[1, 3, 0], [0, 0, 10, 197, 205]] (by simp) (by simp) (by simp) false 16 13 0 17 (by omega) (by omega) (by omega) (by omega) (by omega) (by omega) (by omega) (by omega) _ h10 (hSw _ hz10)).mono ?_
  rintro e w11 hx
  obtain ⟨A11, c11, rfl, r11, z11, G11, k11⟩ := hx.good 1 [3, 0, 0, 0, 10] rd_al
  unfold fv
  have b11 := b10.trans (keptLow k11 (by omega))
  have hb12 := bstep w11 (.cells #[.int .i64 1, .slice A11 5 c11] 24)
  have hz11 : g + 1 ≤ w11.heap.size := by have := k11.size; omega
  have y12 := Box2.new w11 24 (.int .i64 1) (.slice A11 5 c11)
  have b12 := b11.trans (hb12.mono (by omega : g ≤ w11.heap.size))
  have r12 := r11.go hb12
  have x12 : Box2 (w11.alloc (.cells #[.int .i64 1, .slice A11 5 c11] 24)) F 24 (.int .i64 1) (.slice A 5 c) := (b12.block _ hlF).trans bx3
  have rA12 := (RdB.below rA3 b12).more (show g ≤ (w11.alloc (.cells #[.int .i64 1, .slice A11 5 c11] 24)).heap.size by have := hb12.size; omega)
  have e0 := y12.c0
  have e1 := y12.c1
  have e2 := x12.c0
  have e3 := x12.c1
  have Hsame := Lib.hid (rtuSame_calls 1 1 A11 A c11 c [3, 0, 0, 0, 10] [3, 0, 0, 0, 10] (by simp) (by simp) _ r12 rA12)
  have hbw12 := hbw3.trans (b12.mono hlw)
  clear hx h10 k11 G11 b11 hb12 y12 x12 r11 r12 rA12 rA3 r3 bx3 hz11 hz10 b10 hSw hsl hbw3
  go_wp2_with fail
  refine Hsame.out.mono ?_
  rintro e w13 ⟨rfl, hb13⟩
  go_wp2_with fail
  go_ret
  exact ⟨by simp, hbw12.trans (hb13.mono hbw12.size)⟩
end Go.Proofs.Ytfbeihfpflhdaaa
