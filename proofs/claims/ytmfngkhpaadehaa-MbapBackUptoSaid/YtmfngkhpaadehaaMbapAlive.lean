/-
  The chapter's examples ('one', 'alive'), walked. Conditions stand at each theorem.
-/
import Derived.Test.YtmfngkhpaadehaaMbapFeed
import Derived.Test.YtmfngkhpaadehaaMbapRefs
namespace Go.Proofs.Ytmfngkhpaadehaa
open Go Go.RowKit Go.Kw Go.Kw.Mb
set_option linter.unusedVariables false
set_option linter.unusedSimpArgs false
attribute [local go_sem ↓] Go.wp_at_zero Go.wp_at_succ

theorem one_calls (w : World) : Calls Try.prog 27 #[] w fun e w' => ∃ A, e = .returned (.agg #[.int .i64 258, .int .i64 9, .slice A 1 1]) ∧ RdB w' w'.heap.size A [3] ∧ A ≠ none ∧ Below w.heap.size w w' := by
  have hb1 := bstep w (.cells #[.int .i64 0, .int .i64 0, .slice none 0 0] 24)
  have r2 := rdB_new (w.alloc (.cells #[.int .i64 0, .int .i64 0, .slice none 0 0] 24)) #[.int .u8 3] 5 (0, 0) [3] rfl
  go_enter Try.func27, Try.ntmps27
  go_wp2
  refine bodyPost_ret (v := .agg #[.int .i64 258, .int .i64 9, .slice (some ⟨w.heap.size + 1, 0, none⟩) 1 1]) ?_ rfl ?_
  · simp [results, go_sem]
  · exact ⟨_, rfl, by simpa using rdB_new (w.alloc (.cells #[.int .i64 258, .int .i64 9, .slice (some ⟨w.heap.size + 1, 0, none⟩) 1 1] 24)) #[.int .u8 3] 5 (0, 0) [3] rfl, by simp, (bstep w _).trans ((bstep _ _).mono (by simp))⟩

theorem own_caps {w : World} {base : Nat} {e : TypeId} {size : Nat} {A : Option Addr} {n c k : Nat} {xs : List Value} (h : w.ownsRow base e size (.slice A n c) k xs) : n ≤ c ∧ c ≤ 9223372036854775807 ∧ (A = none → n = 0) ∧ (∀ a, A = some a → ∃ g, a = ⟨g, 0, none⟩ ∧ base ≤ g ∧ g < w.heap.size) := by
  obtain ⟨A', c', e', h1, h2, h3, h4⟩ := own_form h
  injection e' with e1 e2 e3
  subst e1 e2 e3
  exact ⟨h1, by unfold maxLen at h2; omega, fun h => (h3 h).1, h4⟩
theorem ex1 : mayF (258, 9, [3]) = true := by decide +kernel
theorem ex2 : bytesOf (258, 9, [3]) = [1, 2, 0, 0, 0, 2, 9, 3] := by decide +kernel
theorem ex3 : stream [1, 2, 0, 0, 0, 2, 9] = ([], [1, 2, 0, 0, 0, 2, 9], false) := by decide +kernel
theorem ex4 : stream ([1, 2, 0, 0, 0, 2, 9] ++ [3, 0, 0, 0, 1]) = ([(258, 9, [3])], [], true) := by decide +kernel
theorem GB.newH (w : World) : GB (w.alloc (.cells #[.slice none 0 0, .bool false] 41)) w.heap.size (.slice none 0 0) false := blk_new w _ _
theorem holdNew (w : World) (S : Nat → Prop) : HoldEnd (w.alloc (.cells #[.slice none 0 0, .bool false] 41)) S w.heap.size [] false :=
  ⟨none, 0, GB.newH w, RdY.nil _ _ _, fun _ => rfl, Nat.le_refl _, by omega⟩
theorem feed_n (g : Nat) (rest : List UInt8) (A : Option Addr) (n c : Nat) (b : List UInt8) (hn : n = b.length) (hl : rest.length + n ≤ 500000) (w : World) {S0 : Nat → Prop} (h : HoldEnd w S0 g rest false) (hR : RdB w w.heap.size A b) (hz : A = none → n = 0) :
    Calls Try.prog 16 #[.pointer (some ⟨g, 0, none⟩), .slice A n c] w fun e w' => FeedPost w w' e g (rest ++ b) := by
  subst hn; exact feed_calls g rest A c b hl w h hR hz

theorem FeedPost.at_ {w w' : World} {e : Ending} {g : Nat} {l : List UInt8} (h : FeedPost w w' e g l) {fs : List Fr} {rest : List UInt8} {br : Bool} (hs : stream l = (fs, rest, br)) (n : Nat) (hn : fs.length = n) (x : Int) (hx : x = if br then 210 else 0) :
    ∃ A c, e = .returned (.tuple #[.slice A n c, .int .i64 x]) ∧ OwF w' w.heap.size (fun b => w.heap.size ≤ b) (.slice A n c) fs ∧ HoldEnd w' (fun b => w.heap.size ≤ b) g rest br ∧ Kept (fun b => b ≠ g) w w' := by
  subst hn hx
  obtain ⟨A, c, he, h1, h2, h3⟩ := h
  rw [hs] at he h1 h2
  exact ⟨A, c, he, h1, h2, h3⟩
theorem HoldEnd.go {w w' : World} {S : Nat → Prop} {g : Nat} {l : List UInt8} {br : Bool} (h : HoldEnd w S g l br) (hb : Below w.heap.size w w') : HoldEnd w' S g l br := by
  obtain ⟨A, c, h1, h2, h3⟩ := h; exact ⟨A, c, h1.below hb, RdX.go h2 hb, h3⟩
theorem HoldEnd.gb {w : World} {S : Nat → Prop} {g : Nat} {l : List UInt8} {br : Bool} (h : HoldEnd w S g l br) : ∃ A c, GB w g (.slice A l.length c) br := by
  obtain ⟨A, c, h1, -⟩ := h; exact ⟨A, c, h1⟩
set_option maxRecDepth 100000 in
set_option maxHeartbeats 4000000 in
theorem alive_calls (w : World) : Calls Try.prog 21 #[] w fun e w' => e = .returned (.bool true) ∧ Below w.heap.size w w' := by
  have Hst := Lib.hid (fun (w : World) (A : Option Addr) (c : Nat) (r : List UInt8) (h : RdB w w.heap.size A r) (hn : A = none → r.length = 0) => run_string (P := Try.prog) (src := 22) (dst := 9) h c hn Try.underlying22 Try.underlying5 Try.underlying9)
  go_enter Try.func21, Try.ntmps21
  go_wp2_with fail
  refine (one_calls _).mono ?_
  rintro e w1 ⟨A1, rfl, r1, n1, hb1⟩
  go_wp2_with fail
  refine (mbapBytes_calls (258, 9, [3]) A1 1 (by simp) w1 r1 (fun h => absurd h n1)).mono ?_
  rintro e w2 ⟨hx, hb2⟩
  rw [if_pos ex1, ex2] at hx
  obtain ⟨A2, c2, rfl, o2, z2⟩ := hx
  have hbw2 := bnext hb1 hb2
  have hs2 : (convert 22 9 (.slice A2 8 c2)).run Try.prog w2 = .ok (.string ⟨#[1, 2, 0, 0, 0, 2, 9, 3]⟩) w2 := Hst.out w2 A2 c2 [1, 2, 0, 0, 0, 2, 9, 3] (rdB_own o2).1 z2
  have hc2 : 8 ≤ c2 := (own_caps o2).1
  obtain ⟨g2, rfl⟩ := own_some o2 (by simp)
  have q1 : (7 : Int) ≤ (c2 : Int) := by omega
  have hb3 := bstep w2 (.cells #[.slice none 0 0, .bool false] 41)
  have r2 : RdB (w2.alloc (.cells #[.slice none 0 0, .bool false] 41)) (w2.alloc (.cells #[.slice none 0 0, .bool false] 41)).heap.size (some ⟨g2, 0, none⟩) [1, 2, 0, 0, 0, 2, 9] :=
    ((RdY.of (S := fun _ => True) ((rdB_own o2).1.go hb3) (fun _ _ => trivial)).take 7).rd
  have HF1 := Lib.hid (feed_n w2.heap.size [] (some ⟨g2, 0, none⟩) 7 c2 [1, 2, 0, 0, 0, 2, 9] rfl (by simp) _ (holdNew w2 (fun _ => True)) r2 (by simp))
  clear o2 z2 r2 r1 n1 hb1
  go_wp2_with fail
  refine HF1.out.mono ?_
  rintro e w4 hx
  obtain ⟨A4, c4, rfl, o4, h4, k4⟩ := hx.at_ ex3 0 rfl 0 rfl
  obtain ⟨A4', c4', hG4⟩ := h4.gb
  have hb34 : Below w2.heap.size w2 w4 := hb3.trans (k4.below (Nat.le_of_lt (by simp)) (fun k hk => by omega))
  have hbw4 := hbw2.trans (hb34.mono hbw2.size)
  clear HF1 hx o4 hs2
  go_wp2_with fail
  refine (left_calls _ A4' 7 c4' false w4 hG4).mono ?_
  rintro e w4' ⟨rfl, rfl⟩
  have hb5 := bstep w4 (.cells #[.int .u8 3, .int .u8 0, .int .u8 0, .int .u8 0, .int .u8 1] 5)
  have r5 := rdB_new w4 #[.int .u8 3, .int .u8 0, .int .u8 0, .int .u8 0, .int .u8 1] 5 (0, 0) [3, 0, 0, 0, 1] rfl
  have HF2 := Lib.hid (feed_n w2.heap.size [1, 2, 0, 0, 0, 2, 9] (some ⟨w4.heap.size, 0, none⟩) 5 5 [3, 0, 0, 0, 1] rfl (by simp) _ (h4.go hb5) (by simpa using r5) (by simp))
  clear h4 hG4 r5
  go_wp2_with fail
  refine HF2.out.mono ?_
  rintro e w6 hx
  obtain ⟨A6, c6, rfl, o6, h6, k6⟩ := hx.at_ ex4 1 rfl 210 rfl
  obtain ⟨A6', c6', hG6⟩ := h6.gb
  have hb6 : Below w2.heap.size w4 w6 := ((hb5.mono hb34.size).trans (k6.below (by have := hb34.size; simp; omega) (fun k hk => by omega)))
  have hbw6 := hbw4.trans (hb6.mono hbw2.size)
  obtain ⟨b6, o6b, B6, d6, e6, l6, x0, x1, x2, x3, x4, x5, x6⟩ := (o6.rdF (fun _ h => h)).cells (k := 0) (by simp)
  obtain ⟨-, -, -, q6⟩ := own_caps o6.choose_spec.1
  obtain ⟨g6, e6', -, -⟩ := q6 _ e6
  subst e6
  injection e6' with ea eb
  subst ea eb
  have y0 : w6.cell? ⟨b6, 0, none⟩ = some (.int .i64 258) := x0
  have y1 : w6.cell? ⟨b6, 1, none⟩ = some (.int .i64 9) := x1
  have y2 : w6.cell? ⟨b6, 2, none⟩ = some (.slice B6 1 d6) := x2
  have x3' : RdB w6 w6.heap.size B6 [3] := x3
  have HK : Hid (∀ W, Below w6.heap.size w6 W → W.cell? ⟨b6, 0, none⟩ = some (.int .i64 258) ∧ W.cell? ⟨b6, 1, none⟩ = some (.int .i64 9) ∧ W.cell? ⟨b6, 2, none⟩ = some (.slice B6 1 d6)) := fun W hW =>
    ⟨(hW.cell (p := ⟨b6, _, none⟩) l6).trans y0, (hW.cell (p := ⟨b6, _, none⟩) l6).trans y1, (hW.cell (p := ⟨b6, _, none⟩) l6).trans y2⟩
  have HBr : Hid (∀ W, Below w6.heap.size w6 W → Calls Try.prog 17 #[.pointer (some ⟨w2.heap.size, 0, none⟩)] W fun e w' => e = .returned (.bool true) ∧ W = w') := fun W hW => isBroken_calls _ _ _ W (hG6.below hW)
  have HSm : Hid (∀ W (A7 : Option Addr), Below w6.heap.size w6 W → RdB W W.heap.size A7 [3] → A7 ≠ none → Calls Try.prog 14 #[.agg #[.int .i64 258, .int .i64 9, .slice B6 1 d6], .agg #[.int .i64 258, .int .i64 9, .slice A7 1 1]] W fun e w' => e = .returned (.bool true) ∧ Below W.heap.size W w') := fun W A7 hW h1 h2 => by
    have := mbapSame_calls (258, 9, [3]) (258, 9, [3]) B6 A7 d6 1 W (x3'.go hW) h1 x4 (fun h => absurd h h2)
    rw [show decide (((258, 9, [3]) : Fr) = (258, 9, [3])) = true from by decide] at this
    exact this
  have hb0 := Below.refl w6.heap.size w6
  have Hw6 := Lib.hid hbw6
  clear HF2 hx o6 h6 hG6 x0 x1 x2 x3 x4 x5 x6 y0 y1 y2 x3' hb34 hb6 hb5 hb3 k4 k6 hbw4 hbw2 hb2 q6
  go_wp2_with fail
  go_region_held3 (fun W => W.cell? ⟨b6, 0, none⟩ = some (.int .i64 258) ∧ W.cell? ⟨b6, 1, none⟩ = some (.int .i64 9) ∧ W.cell? ⟨b6, 2, none⟩ = some (.slice B6 1 d6))
    (first | exact HK.out _ hb0.drew | exact HK.out _ hb7' | exact HK.out _ hb8')
    (first
      | (go_at_call 27; refine (one_calls _).mono ?_; rintro e w7 ⟨A7, rfl, r7, n7, hb7⟩; have hb7' := hb0.drew.trans (hb7.mono hb0.drew.size))
      | (go_at_call 14; refine (HSm.out _ A7 hb7' r7 n7).mono ?_; rintro e w8 ⟨rfl, hb8⟩; have hb8' := hb7'.trans (hb8.mono hb7'.size))
      | (go_at_call 17; first | (refine (HBr.out _ hb8').mono ?_; rintro e w9 ⟨rfl, rfl⟩) | (refine (HBr.out _ hb7').mono ?_; rintro e w9 ⟨rfl, rfl⟩) | (refine (HBr.out _ hb0.drew).mono ?_; rintro e w9 ⟨rfl, rfl⟩)))
  all_goals
    go_wp2_with fail
    go_ret
    exact ⟨rfl, Hw6.out.trans (hb8'.mono Hw6.out.size)⟩
end Go.Proofs.Ytmfngkhpaadehaa
