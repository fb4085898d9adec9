/-
  A device of sectors: counted, walked, at the closures that it is called with. Conditions stand at each theorem. (Printed by gen_blk3.py.)
-/
import Derived.Test.YtpleaicpkpjkjaaBlk2
import Derived.Test.YtpleaicpkpjkjaaBlkPlain
namespace Go.Proofs.Ytpleaicpkpjkjaa
open Go Go.RowKit Go.Kw
set_option linter.unusedVariables false
set_option linter.unusedSimpArgs false

theorem wrap64_in' (x : Int) (h : -9223372036854775808 ≤ x ∧ x < 9223372036854775808) : wrap64 x = x := by unfold wrap64; omega

set_option maxHeartbeats 4000000 in
theorem cntW_last (w : World) (d : Nat) (A : Option Addr) (n c : Nat) (C : Option Addr) (m cc : Nat) (p : Int) (dn : Bool) (k : Int) (h : DevH w d A n c C m cc p dn k) (hk : 0 ≤ k ∧ k < 4611686018427387904) (hp : 0 ≤ p ∧ p < 9223372036854775808) (g : Array Value) (R : World → Prop) (h1 : p = 1)
    (hf : Calls Try.prog 29 g (w.setCell ⟨d, 4, none⟩ (.int .i64 (k + 1))) fun e W => (∃ u, e = .returned u) ∧ R W)
    (hR : ∀ W, R W → ∃ C' m' cc', DevH W d A n c C' m' cc' p dn (k + 1)) :
    Calls Try.prog 30 #[.pointer (some ⟨d, 0, none⟩), .func (.func 29) #[] g, .func (.func 29) #[] g] w fun e w' => e = .returned (.int .i64 120) ∧ ∃ W, R W ∧ w' = (W.setCell ⟨d, 3, none⟩ (.bool true)).setCell ⟨d, 2, none⟩ (.int .i64 0) := by
  obtain ⟨c0, c1, c2, c3, c4⟩ := h.cells
  have q4 := h.fr 4
  have x1 : wrap64 (k + 1) = k + 1 := wrap64_in' _ (by omega)
  have HF := Lib.hid hf
  have HR := Lib.hid hR
  subst h1
  clear h hf hR hk hp
  go_enter Try.func30, Try.ntmps30
  go_wp2_with fail
  clear x1
  refine HF.out.mono ?_
  rintro e W ⟨⟨u, rfl⟩, hr⟩
  obtain ⟨C', m', cc', hD⟩ := HR.out W hr
  obtain ⟨e0, e1, e2, e3, e4⟩ := hD.cells
  have q2 := hD.fr 2
  have q3 := hD.fr 3
  have Hr := Lib.hid hr
  clear hr hD c0 c1 c2 c3 c4 q4
  go_wp2_with fail
  go_ret
  exact ⟨rfl, W, Hr.out, rfl⟩
set_option maxHeartbeats 4000000 in
theorem cntW_goes (w : World) (d : Nat) (A : Option Addr) (n c : Nat) (C : Option Addr) (m cc : Nat) (p : Int) (dn : Bool) (k : Int) (h : DevH w d A n c C m cc p dn k) (hk : 0 ≤ k ∧ k < 4611686018427387904) (hp : 0 ≤ p ∧ p < 9223372036854775808) (g : Array Value) (R : World → Prop) (h1 : p ≠ 1)
    (hf : Calls Try.prog 29 g ((w.setCell ⟨d, 4, none⟩ (.int .i64 (k + 1))).setCell ⟨d, 2, none⟩ (.int .i64 (planN p))) fun e W => (∃ u, e = .returned u) ∧ R W) :
    Calls Try.prog 30 #[.pointer (some ⟨d, 0, none⟩), .func (.func 29) #[] g, .func (.func 29) #[] g] w fun e w' => e = .returned (.int .i64 0) ∧ R w' := by
  obtain ⟨c0, c1, c2, c3, c4⟩ := h.cells
  have q4 := h.fr 4
  have q2 := h.fr 2
  have x1 : wrap64 (k + 1) = k + 1 := wrap64_in' _ (by omega)
  have x2 : wrap64 (p - 1) = p - 1 := wrap64_in' _ (by omega)
  have k1 : (p == 1) = false := beq_eq_false_iff_ne.2 h1
  unfold planN at hf
  by_cases h0 : p = 0
  · subst h0
    rw [if_pos rfl] at hf
    have HF := Lib.hid hf
    clear h hf hk hp h1 x2
    go_enter Try.func30, Try.ntmps30
    go_wp2_with fail
    clear x1
    refine HF.out.mono ?_
    rintro e W ⟨⟨u, rfl⟩, hr⟩
    have Hr := Lib.hid hr
    clear hr c0 c1 c2 c3 c4 q4 q2
    go_wp2_with fail
    go_ret
    exact ⟨rfl, Hr.out⟩
  · rw [if_neg h0] at hf
    have HF := Lib.hid hf
    have d1 : ¬ (p - 1 < 0) := by omega
    have d2 : (0 : Int) < p - 1 ∨ True := .inr trivial
    have d3 : (0 : Int) ≤ p - 1 := by omega
    have d4 : max (0 : Int) (p - 1) = p - 1 := by omega
    have HP := Lib.hid (show 2 ≤ p by omega)
    clear h hf hk hp h1 h0 d1 d2 d3 d4
    go_enter Try.func30, Try.ntmps30
    go_wp2_with fail
    all_goals first
      | (exfalso; have := HP.out; omega)
      | skip
    clear x1 x2
    refine HF.out.mono ?_
    rintro e W ⟨⟨u, rfl⟩, hr⟩
    have Hr := Lib.hid hr
    clear hr c0 c1 c2 c3 c4 q4 q2
    go_wp2_with fail
    go_ret
    exact ⟨rfl, Hr.out⟩

set_option maxHeartbeats 4000000 in
theorem cntF_last (w : World) (d : Nat) (A : Option Addr) (n c : Nat) (C : Option Addr) (m cc : Nat) (p : Int) (dn : Bool) (k : Int) (h : DevH w d A n c C m cc p dn k) (hk : 0 ≤ k ∧ k < 4611686018427387904) (hp : 0 ≤ p ∧ p < 9223372036854775808) (g : Array Value) (R : World → Prop) (h1 : p = 1)
    (hf : Calls Try.prog 31 #[] (w.setCell ⟨d, 4, none⟩ (.int .i64 (k + 1))) fun e W => (∃ u, e = .returned u) ∧ R W)
    (hR : ∀ W, R W → ∃ C' m' cc', DevH W d A n c C' m' cc' p dn (k + 1)) :
    Calls Try.prog 30 #[.pointer (some ⟨d, 0, none⟩), .func (.func 31) #[] #[], .func (.func 32) #[] g] w fun e w' => e = .returned (.int .i64 120) ∧ ∃ W, R W ∧ w' = (W.setCell ⟨d, 3, none⟩ (.bool true)).setCell ⟨d, 2, none⟩ (.int .i64 0) := by
  obtain ⟨c0, c1, c2, c3, c4⟩ := h.cells
  have q4 := h.fr 4
  have x1 : wrap64 (k + 1) = k + 1 := wrap64_in' _ (by omega)
  have HF := Lib.hid hf
  have HR := Lib.hid hR
  subst h1
  clear h hf hR hk hp
  go_enter Try.func30, Try.ntmps30
  go_wp2_with fail
  clear x1
  refine HF.out.mono ?_
  rintro e W ⟨⟨u, rfl⟩, hr⟩
  obtain ⟨C', m', cc', hD⟩ := HR.out W hr
  obtain ⟨e0, e1, e2, e3, e4⟩ := hD.cells
  have q2 := hD.fr 2
  have q3 := hD.fr 3
  have Hr := Lib.hid hr
  clear hr hD c0 c1 c2 c3 c4 q4
  go_wp2_with fail
  go_ret
  exact ⟨rfl, W, Hr.out, rfl⟩
set_option maxHeartbeats 4000000 in
theorem cntF_goes (w : World) (d : Nat) (A : Option Addr) (n c : Nat) (C : Option Addr) (m cc : Nat) (p : Int) (dn : Bool) (k : Int) (h : DevH w d A n c C m cc p dn k) (hk : 0 ≤ k ∧ k < 4611686018427387904) (hp : 0 ≤ p ∧ p < 9223372036854775808) (g : Array Value) (R : World → Prop) (h1 : p ≠ 1)
    (hf : Calls Try.prog 32 g ((w.setCell ⟨d, 4, none⟩ (.int .i64 (k + 1))).setCell ⟨d, 2, none⟩ (.int .i64 (planN p))) fun e W => (∃ u, e = .returned u) ∧ R W) :
    Calls Try.prog 30 #[.pointer (some ⟨d, 0, none⟩), .func (.func 31) #[] #[], .func (.func 32) #[] g] w fun e w' => e = .returned (.int .i64 0) ∧ R w' := by
  obtain ⟨c0, c1, c2, c3, c4⟩ := h.cells
  have q4 := h.fr 4
  have q2 := h.fr 2
  have x1 : wrap64 (k + 1) = k + 1 := wrap64_in' _ (by omega)
  have x2 : wrap64 (p - 1) = p - 1 := wrap64_in' _ (by omega)
  have k1 : (p == 1) = false := beq_eq_false_iff_ne.2 h1
  unfold planN at hf
  by_cases h0 : p = 0
  · subst h0
    rw [if_pos rfl] at hf
    have HF := Lib.hid hf
    clear h hf hk hp h1 x2
    go_enter Try.func30, Try.ntmps30
    go_wp2_with fail
    clear x1
    refine HF.out.mono ?_
    rintro e W ⟨⟨u, rfl⟩, hr⟩
    have Hr := Lib.hid hr
    clear hr c0 c1 c2 c3 c4 q4 q2
    go_wp2_with fail
    go_ret
    exact ⟨rfl, Hr.out⟩
  · rw [if_neg h0] at hf
    have HF := Lib.hid hf
    have d1 : ¬ (p - 1 < 0) := by omega
    have d2 : (0 : Int) < p - 1 ∨ True := .inr trivial
    have d3 : (0 : Int) ≤ p - 1 := by omega
    have d4 : max (0 : Int) (p - 1) = p - 1 := by omega
    have HP := Lib.hid (show 2 ≤ p by omega)
    clear h hf hk hp h1 h0 d1 d2 d3 d4
    go_enter Try.func30, Try.ntmps30
    go_wp2_with fail
    all_goals first
      | (exfalso; have := HP.out; omega)
      | skip
    clear x1 x2
    refine HF.out.mono ?_
    rintro e W ⟨⟨u, rfl⟩, hr⟩
    have Hr := Lib.hid hr
    clear hr c0 c1 c2 c3 c4 q4 q2
    go_wp2_with fail
    go_ret
    exact ⟨rfl, Hr.out⟩

end Go.Proofs.Ytpleaicpkpjkjaa
