/-
  What was sealed is opened as it was; the chapter's examples: the walks of CrcBack and CrcNames. Conditions: none beyond the given rows.
-/
import Derived.Test.YtgpmooihbnnpcaaCrcOpen
namespace Go.Proofs.Ytgpmooihbnnpcaa
open Go Go.RowKit Go.Kw Go.Kw.Crc
set_option linter.unusedVariables false
set_option linter.unusedSimpArgs false

theorem open_seal16 (l : List UInt8) : openOf seal16 2 (seal16 l) = some l := by
  have : (seal16 l).take ((seal16 l).length - 2) = l := by rw [seal16_length]; simp [seal16]
  unfold openOf
  rw [this, if_pos ⟨by rw [seal16_length]; omega, rfl⟩]
theorem open_seal32 (l : List UInt8) : openOf seal32 4 (seal32 l) = some l := by
  have : (seal32 l).take ((seal32 l).length - 4) = l := by rw [seal32_length]; simp [seal32]
  unfold openOf
  rw [this, if_pos ⟨by rw [seal32_length]; omega, rfl⟩]
theorem own_caps {w : World} {base : Nat} {e : TypeId} {A : Option Addr} {n c k : Nat} {xs : List Value} (h : w.ownsRow base e 1 (.slice A n c) k xs) : n ≤ c ∧ c ≤ 9223372036854775807 := by
  rcases h.2 with ⟨h, _⟩ | ⟨g, cap, cur, h, _, _, h1, h2, _⟩
  · injection h with _ h1 h2; subst h1 h2; exact ⟨Nat.le_refl _, by omega⟩
  · injection h with _ h3 h4; subst h3 h4; unfold maxLen at h2; exact ⟨h1, by omega⟩

set_option maxHeartbeats 2000000 in
theorem crcBack_walk (a0 : Option Addr) (len0 cap0 : Nat) (z0 : List Int) (w : World) (w0 : IsRow .u8 w a0 len0 cap0 z0) :
    Calls Try.prog 8 #[.slice a0 len0 cap0] w fun e w' => e = .returned (.bool true) ∧ Below w.heap.size w w' := by
  obtain ⟨hm1, hm2, hz0⟩ := w0.caps
  unfold maxLen at hm2
  obtain ⟨l, rfl, hR⟩ := w0.bytes
  clear w0
  have hz : a0 = none → l.length = 0 := fun h => (hz0 h).1
  clear hz0
  have hst := fun (w : World) (A : Option Addr) (c : Nat) (r : List UInt8) (h : RdB w w.heap.size A r) (hn : A = none → r.length = 0) => run_string (P := Try.prog) (src := 22) (dst := 9) h c hn Try.underlying22 Try.underlying5 Try.underlying9
  have Hst := Lib.hid hst
  clear hst
  by_cases h : 4000 < l.length
  · have h' : (4000 : Int) < (l.length : Int) := by omega
    go_enter Try.func8, Try.ntmps8
    go_wp2_with (go_at_call 16; refine (alive_calls _).mono ?_; rintro e w1 ⟨rfl, hb1⟩)
    go_ret
    exact ⟨rfl, hb1⟩
  · have h' : (l.length : Int) ≤ 4000 := by omega
    go_enter Try.func8, Try.ntmps8
    go_wp2_with fail
    refine (alive_calls _).mono ?_
    rintro e w1 ⟨rfl, hb1⟩
    go_wp2_with fail
    refine (seal16_calls a0 cap0 l (by omega) w1 (hR.go hb1) hz).mono ?_
    rintro e w2 ⟨⟨A2, c2, rfl, o2, z2⟩, hb2⟩
    replace hb2 := bnext hb1 hb2
    clear hb1
    go_wp2_with fail
    refine (opened16_calls A2 c2 (seal16 l) (by rw [seal16_length]; omega) w2 (rdB_own o2).1 z2 (own_caps o2).1 (own_caps o2).2).mono ?_
    rintro e w3 ⟨ho, hb3⟩
    rw [open_seal16] at ho
    obtain ⟨A3, c3, rfl, o3, z3⟩ := ho
    replace hb3 := bnext hb2 hb3
    clear hb2 o2 z2
    go_wp2_with fail
    refine (seal32_calls a0 cap0 l (by omega) w3 (hR.go hb3) hz).mono ?_
    rintro e w4 ⟨⟨A4, c4, rfl, o4, z4⟩, hb4⟩
    have o3' := own_below o3 hb4
    replace hb4 := bnext hb3 hb4
    clear o3
    go_wp2_with fail
    refine (opened32_calls A4 c4 (seal32 l) (by rw [seal32_length]; omega) w4 (rdB_own o4).1 z4 (own_caps o4).1 (own_caps o4).2).mono ?_
    rintro e w5 ⟨ho, hb5⟩
    rw [open_seal32] at ho
    obtain ⟨A5, c5, rfl, o5, z5⟩ := ho
    have o6 := own_below o3' hb5
    replace hb5 := bnext hb4 hb5
    have s1 := Hst.out w5 A3 c3 l (rdB_own o6).1 z3
    have s2 := Hst.out w5 A5 c5 l (rdB_own o5).1 z5
    have s3 := Hst.out w5 a0 cap0 l (hR.go hb5) hz
    clear o3' o4 o5 o6 z3 z4 z5 hb3 hb4 hz
    go_wp2_with fail
    go_ret
    exact ⟨rfl, hb5⟩

theorem xs1 : seal16 [1, 3, 0, 0, 0, 10] = [1, 3, 0, 0, 0, 10, 197, 205] := by decide +kernel
theorem xs2 : seal32 [] = [0, 0, 0, 0] := by decide +kernel
theorem xo1 : openOf seal16 2 [255] = none := by decide +kernel
theorem xo2 : openOf seal16 2 [255, 255] = some [] := by decide +kernel
theorem xo3 : openOf seal16 2 [] = none := by decide +kernel
theorem xo4 : openOf seal32 4 [0, 0, 0] = none := by decide +kernel
theorem xo5 : openOf seal32 4 [0, 0, 0, 0] = some [] := by decide +kernel

set_option maxRecDepth 100000 in
set_option maxHeartbeats 2000000 in
theorem crcNames_walk (w : World) :
    Calls Try.prog 7 #[] w fun e w' => e = .returned (.bool true) ∧ Below w.heap.size w w' := by
  have hst := fun (w : World) (A : Option Addr) (c : Nat) (r : List UInt8) (h : RdB w w.heap.size A r) (hn : A = none → r.length = 0) => run_string (P := Try.prog) (src := 22) (dst := 9) h c hn Try.underlying22 Try.underlying5 Try.underlying9
  have Hst := Lib.hid hst
  clear hst
  have hb0 := Below.refl w.heap.size w
  go_enter Try.func7, Try.ntmps7
  go_wp2_with fail
  refine (seal16_calls _ _ [1, 3, 0, 0, 0, 10] (by decide) _ (by simpa using rdB_new w #[.int .u8 1, .int .u8 3, .int .u8 0, .int .u8 0, .int .u8 0, .int .u8 10] 5 (0, 0) [1, 3, 0, 0, 0, 10] rfl) (by simp)).mono ?_
  rintro e w1 ⟨h1, hb⟩
  rw [xs1] at h1
  obtain ⟨A1, c1, rfl, o1, z1⟩ := h1
  have hb1 := bnext (balloc hb0 _) hb
  clear hb hb0
  go_wp2_with fail
  refine (seal32_calls _ _ [] (by decide) _ (rdB_nil _ _ _) (by simp)).mono ?_
  rintro e w2 ⟨h2, hb⟩
  rw [xs2] at h2
  obtain ⟨A2, c2, rfl, o2, z2⟩ := h2
  replace o1 := own_below o1 hb
  have hb2 := bnext hb1 hb
  clear hb hb1
  go_wp2_with fail
  refine (opened16_calls _ _ [255] (by decide) _ (by simpa using rdB_new w2 #[.int .u8 255] 5 (0, 0) [255] rfl) (by simp) (by decide) (by decide)).mono ?_
  rintro e w3 ⟨h3, hb⟩
  rw [xo1] at h3
  obtain rfl := h3
  have hb' := (balloc (Below.refl _ w2) _).trans (hb.mono (by simp))
  replace o1 := own_below o1 hb'
  replace o2 := own_below o2 hb'
  have hb3 := bnext hb2 hb'
  clear hb hb' hb2
  go_wp2_with fail
  refine (opened16_calls _ _ [255, 255] (by decide) _ (by simpa using rdB_new w3 #[.int .u8 255, .int .u8 255] 5 (0, 0) [255, 255] rfl) (by simp) (by decide) (by decide)).mono ?_
  rintro e w4 ⟨h4, hb⟩
  rw [xo2] at h4
  obtain ⟨A4, c4, rfl, o4, z4⟩ := h4
  have hb' := (balloc (Below.refl _ w3) _).trans (hb.mono (by simp))
  replace o1 := own_below o1 hb'
  replace o2 := own_below o2 hb'
  have hb4 := bnext hb3 hb'
  clear hb hb' hb3
  go_wp2_with fail
  refine (opened16_calls _ _ [] (by decide) _ (rdB_nil _ _ _) (by simp) (by decide) (by decide)).mono ?_
  rintro e w5 ⟨h5, hb⟩
  rw [xo3] at h5
  obtain rfl := h5
  replace o1 := own_below o1 hb
  replace o2 := own_below o2 hb
  have hb5 := bnext hb4 hb
  clear hb hb4
  go_wp2_with fail
  refine (opened32_calls _ _ [0, 0, 0] (by decide) _ (by simpa using rdB_new w5 #[.int .u8 0, .int .u8 0, .int .u8 0] 5 (0, 0) [0, 0, 0] rfl) (by simp) (by decide) (by decide)).mono ?_
  rintro e w6 ⟨h6, hb⟩
  rw [xo4] at h6
  obtain rfl := h6
  have hb' := (balloc (Below.refl _ w5) _).trans (hb.mono (by simp))
  replace o1 := own_below o1 hb'
  replace o2 := own_below o2 hb'
  have hb6 := bnext hb5 hb'
  clear hb hb' hb5
  go_wp2_with fail
  refine (opened32_calls A2 c2 [0, 0, 0, 0] (by decide) _ (rdB_own o2).1 z2 (own_caps o2).1 (own_caps o2).2).mono ?_
  rintro e w7 ⟨h7, hb⟩
  rw [xo5] at h7
  obtain ⟨A7, c7, rfl, o7, z7⟩ := h7
  replace o1 := own_below o1 hb
  replace o2 := own_below o2 hb
  have hb7 := bnext hb6 hb
  clear hb hb6
  go_wp2_with fail
  refine (alive_calls _).mono ?_
  rintro e w8 ⟨rfl, hb⟩
  replace o1 := own_below o1 hb
  replace o2 := own_below o2 hb
  have hb8 := bnext hb7 hb
  have s1 := Hst.out w8 A1 c1 _ (rdB_own o1).1 z1
  have s2 := Hst.out w8 A2 c2 _ (rdB_own o2).1 z2
  clear o1 o2 z1 z2 o4 z4 o7 z7 hb hb7
  simp only [List.length_cons, List.length_nil, Nat.reduceAdd] at s1 s2
  go_wp2_with fail
  go_ret
  exact ⟨rfl, hb8⟩
end Go.Proofs.Ytgpmooihbnnpcaa
