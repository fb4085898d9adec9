/-
  The chapter's frame ('some'), a new gatherer, 'none': walked. Conditions stand at each theorem.
-/
import Derived.Test.YtfbeihfpflhdaaaRtuBack
namespace Go.Proofs.Ytfbeihfpflhdaaa
open Go Go.RowKit Go.Kw Go.Kw.Crc
set_option linter.unusedVariables false
set_option linter.unusedSimpArgs false

theorem some_bytes : bytesOf 1 [3, 0, 0, 0, 10] = some [1, 3, 0, 0, 0, 10, 197, 205] := by decide +kernel
/-- What 'some' hands back. -/
def SomePost (w' : World) (base : Nat) (e : Ending) : Prop := ∃ A c B d, e = .returned (.tuple #[fv 1 A 5 c, .slice B 8 d]) ∧ RdB w' w'.heap.size A [3, 0, 0, 0, 10] ∧ (A = none → False) ∧
  w'.ownsRow base 5 1 (.slice B 8 d) 8 (bv [1, 3, 0, 0, 0, 10, 197, 205])
theorem rdB_other {w : World} {B b off : Nat} {l : List UInt8} (h : RdB w B (some ⟨b, off, none⟩) l) {p : Addr} (hp : p.block ≠ b) (u : Value) : RdB (w.setCell p u) B (some ⟨b, off, none⟩) l := by
  rcases h with h | ⟨b', off', e, hlt, hc⟩
  · exact .inl h
  · injection e with e; injection e with e1 e2; subst e1 e2
    refine .inr ⟨b, off, rfl, hlt, fun i hi => ?_⟩
    rw [← hc i hi]
    simp [World.cell?, heap_setCell_other w p b u (by omega)]
set_option maxHeartbeats 1000000 in
theorem some_calls (w : World) : Calls Try.prog 15 #[] w fun e w' => SomePost w' w.heap.size e ∧ Below w.heap.size w w' := by
  have hb0 := Below.refl w.heap.size w
  obtain ⟨W1, hW1⟩ : ∃ W1, w.alloc (.cells #[.int .i64 0, .slice none 0 0] 24) = W1 := ⟨_, rfl⟩
  have b1 := Box2.new w 24 (.int .i64 0) (.slice none 0 0)
  have hb1 := balloc hb0 (.cells #[.int .i64 0, .slice none 0 0] 24)
  have hs1 : W1.heap.size = w.heap.size + 1 := by rw [← hW1]; simp
  rw [hW1] at b1 hb1
  obtain ⟨W2, hW2⟩ : ∃ W2, W1.alloc (.cells #[.int .u8 3, .int .u8 0, .int .u8 0, .int .u8 0, .int .u8 10] 5) = W2 := ⟨_, rfl⟩
  have r2 := rdB_new W1 #[.int .u8 3, .int .u8 0, .int .u8 0, .int .u8 0, .int .u8 10] 5 (0, 0) [3, 0, 0, 0, 10] rfl
  have hs2 : W2.heap.size = w.heap.size + 1 + 1 := by rw [← hW2]; simp [hs1]
  have hb12 : Below W1.heap.size W1 W2 := by rw [← hW2]; exact (Below.refl _ _).alloc (Nat.le_refl _) _
  have b2 := b1.below hb12
  have hb2 := bnext hb1 hb12
  rw [hW2, hs1] at r2
  obtain ⟨W3, hW3⟩ : ∃ W3, W2.alloc (.cells #[.int .i64 1, .slice (some ⟨w.heap.size + 1, 0, none⟩) 5 5] 24) = W3 := ⟨_, rfl⟩
  have f3 := Box2.new W2 24 (.int .i64 1) (.slice (some ⟨w.heap.size + 1, 0, none⟩) 5 5)
  have hb23 : Below W2.heap.size W2 W3 := by rw [← hW3]; exact (Below.refl _ _).alloc (Nat.le_refl _) _
  have b3 := b2.below hb23
  have hb3 := bnext hb2 hb23
  have hs3 : W3.heap.size = w.heap.size + 1 + 1 + 1 := by rw [← hW3]; simp [hs2]
  have r3 : RdB W3 (w.heap.size + 1 + 1) (some ⟨w.heap.size + 1, 0, none⟩) [3, 0, 0, 0, 10] := RdB.below r2 (by rw [← hs2]; exact hb23)
  rw [hW3, hs2] at f3
  clear b1 b2 hb1 hb2 r2 hb12 hb23
  have Hsb := Lib.hid some_bytes
  have d0 := f3.c0
  have d1 := f3.c1
  go_enter Try.func15, Try.ntmps15
  go_wp2_with fail
  refine (rtuBytes_calls 1 _ 5 [3, 0, 0, 0, 10] (by decide) W3 (r3.more (by rw [hs3]; omega)) (by simp)).mono ?_
  rintro e w4 ⟨hx, hb4⟩
  rw [Hsb.out] at hx
  obtain ⟨A4, c4, rfl, o4, z4⟩ := hx
  have b4 := b3.below hb4
  have f4 := f3.below hb4
  have r4 := RdB.below r3 (hb4.mono (by rw [hs3]; omega))
  have c0 := b4.c0
  have c1 := b4.c1
  have g0 := b4.f0
  have g1 := b4.f1
  have e0 := f4.c0
  have e1 := f4.c1
  have Hsz : Hid (w.heap.size + 1 + 1 ≤ w4.heap.size) := by have := hb4.size; show _ ≤ _; omega
  replace hb4 := bnext hb3 hb4
  clear hW1 hW2 hW3 hs1 hs2 b3 b4 f3 f4 hb3 d0 d1
  go_wp2_with fail
  have r5 := rdB_other (rdB_other r4 (p := ⟨w.heap.size, 0, none⟩) (by simp) (.int .i64 1)) (p := ⟨w.heap.size, 1, none⟩) (by simp) (.slice (some ⟨w.heap.size + 1, 0, none⟩) 5 5)
  have o5 := own_other (own_other o4 (p := ⟨w.heap.size, 0, none⟩) (by rw [hs3]; simp; omega) (.int .i64 1)) (p := ⟨w.heap.size, 1, none⟩) (by rw [hs3]; simp; omega) (.slice (some ⟨w.heap.size + 1, 0, none⟩) 5 5)
  have hb5 := (hb4.setCell (p := ⟨w.heap.size, 0, none⟩) (Nat.le_refl _) (.int .i64 1)).setCell (p := ⟨w.heap.size, 1, none⟩) (Nat.le_refl _) (.slice (some ⟨w.heap.size + 1, 0, none⟩) 5 5)
  have hsz : w.heap.size + 1 + 1 ≤ w4.heap.size := Hsz.out
  refine bodyPost_ret (v := .tuple #[fv 1 (some ⟨w.heap.size + 1, 0, none⟩) 5 5, .slice A4 8 c4]) ?_ rfl ?_
  · simp [results, fv, go_sem, c0, c1, g0, g1]
  · exact ⟨⟨_, _, _, _, rfl, r5.more (by simpa using hsz), by simp, own_mono o5 (by rw [hs3]; omega)⟩, hb5⟩

theorem new_calls (s : Int) (hs : 1 ≤ s) (hs2 : s ≤ 1099511627776) (w : World) : Calls Try.prog 16 #[.int .i64 s] w fun e w' =>
    e = .returned (.tuple #[.pointer (some ⟨w.heap.size, 0, none⟩), .int .i64 0]) ∧ w' = w.alloc (.cells #[.int .i64 s, .slice none 0 0, .bool false, .int .i64 0, .int .i64 0, .int .i64 0] 50) := by
  have k1 : decide (s < 1) = false := by simp; omega
  have k2 : decide (1099511627776 < s) = false := by simp; omega
  go_enter Try.func16, Try.ntmps16
  go_wp2_with fail
  go_ret2
  exact ⟨rfl, rfl⟩
theorem none_calls (p : Nat) (s : Int) (hs : 1 ≤ s) (w : World) (hc : w.cell? ⟨p, 0, none⟩ = some (.int .i64 s)) : Calls Try.prog 27 #[.pointer (some ⟨p, 0, none⟩)] w fun e w' =>
    e = .returned (.bool false) ∧ w' = w := by
  have k1 : (s == 0) = false := by simp; omega
  go_enter Try.func27, Try.ntmps27
  go_wp2_with fail
  go_ret
  exact ⟨rfl, rfl⟩
end Go.Proofs.Ytfbeihfpflhdaaa
