/-
  Bytes of package rtu and of the document, walked. Conditions: at most 1,000 bytes.
-/
import Derived.Test.YtfbeihfpflhdaaaCrcRef
namespace Go.Proofs.Ytfbeihfpflhdaaa
open Go Go.RowKit Go.Kw Go.Kw.Crc
set_option linter.unusedVariables false
set_option linter.unusedSimpArgs false

/-- What a frame's bytes are, if it may be one. -/
def bytesOf (u : Int) (l : List UInt8) : Option (List UInt8) := if 0 ≤ u ∧ u ≤ 247 ∧ 1 ≤ l.length ∧ l.length ≤ 253 then some (seal16 (UInt8.ofNat u.toNat :: l)) else none
def RPost (w' : World) (base : Nat) (e : Ending) : Option (List UInt8) → Prop
  | none => e = .returned (.tuple #[.slice none 0 0, .int .i64 200])
  | some r => ∃ A' c', e = .returned (.tuple #[.slice A' r.length c', .int .i64 0]) ∧ w'.ownsRow base 5 1 (.slice A' r.length c') r.length (bv r) ∧ (A' = none → r.length = 0)
/-- A frame as a value. -/
def fv (u : Int) (A : Option Addr) (n c : Nat) : Value := .agg #[.int .i64 u, .slice A n c]

theorem own_new (w : World) (base : Nat) (hb : base ≤ w.heap.size) (cs : Array Value) (e : TypeId) (n : Nat) (l : List UInt8) (h : cs.toList = bv l) (hn : n = l.length) (hm : n ≤ 1000000) : (w.alloc (.cells cs e)).ownsRow base e 1 (.slice (some ⟨w.heap.size, 0, none⟩) n n) n (bv l) := by
  have hc : cs.size = n := by rw [← Array.length_toList, h, bv_length, hn]
  refine ⟨by rw [bv_length]; omega, .inr ⟨w.heap.size, n, cs, rfl, hb, World.alloc_heap_new w _, Nat.le_refl _, by unfold maxLen; omega, by omega, ?_⟩⟩
  rw [h, List.take_of_length_le (by rw [bv_length]; omega)]

set_option maxHeartbeats 1000000 in
theorem rtuBytes_calls (u : Int) (A : Option Addr) (c : Nat) (l : List UInt8) (hl : l.length ≤ 9223372036854775807) (w : World) (hR : RdB w w.heap.size A l) (hz : A = none → l.length = 0) :
    Calls Try.prog 8 #[fv u A l.length c] w fun e w' => RPost w' w.heap.size e (bytesOf u l) ∧ Below w.heap.size w w' := by
  have hb0 := Below.refl w.heap.size w
  unfold fv
  by_cases h : 0 ≤ u ∧ u ≤ 247 ∧ 1 ≤ l.length ∧ l.length ≤ 253
  · have ho : bytesOf u l = some (seal16 (UInt8.ofNat u.toNat :: l)) := if_pos h
    rw [ho]
    obtain ⟨h1, h2, h3, h4⟩ := h
    have k1 : decide (u < 0) = false := by simp; omega
    have k2 : decide (247 < u) = false := by simp; omega
    have k3 : decide ((l.length : Int) < 1) = false := by simp; omega
    have k4 : decide (253 < (l.length : Int)) = false := by simp; omega
    have k5 : IntKind.u8.wrap u = u := by rw [IntKind.wrap_u8]; omega
    have hcs : (#[Value.int .u8 u] : Array Value).toList = bv [UInt8.ofNat u.toNat] := by
      simp only [bv, List.map_cons, List.map_nil]
      rw [ofNat_byte _ (by omega)]
      have : ((u.toNat : Nat) : Int) = u := by omega
      rw [this]
    obtain ⟨W1, hW1⟩ : ∃ W1, w.alloc (.cells #[.int .i64 u, .slice A l.length c] 24) = W1 := ⟨_, rfl⟩
    have hb1 : Below w.heap.size w W1 := by rw [← hW1]; exact balloc hb0 _
    have ow := own_new W1 W1.heap.size (Nat.le_refl _) #[.int .u8 u] 5 1 [UInt8.ofNat u.toNat] hcs rfl (by omega)
    obtain ⟨A2, c2, w2, hrun, o2, hb2, -, -, z2⟩ := append_bytes (P := Try.prog) eb _ W1.heap.size ow l.length c ((hR.below hb1).alloc hb1.size _) rfl (by simp; omega) (by simp) hz
    have hb3 : Below w.heap.size w w2 := (balloc hb1 _).trans (hb2.mono hb1.size)
    subst hW1
    simp only [World.size_alloc] at hrun
    clear hcs ow ho hb2
    go_enter Try.func8, Try.ntmps8
    go_wp2_with (at_builtin; refine wpList_append_run hrun rfl rfl rfl rfl rfl ?_)
    refine (seal16_n A2 c2 (l.length + 1) (UInt8.ofNat u.toNat :: l) (by simp) (by omega) w2 (rdB_own o2).1 (fun h => by have := z2 h; simp at this)).mono ?_
    rintro e w3 ⟨⟨A3, c3, rfl, o3, z3⟩, hb4⟩
    replace hb4 := bnext hb3 hb4
    go_wp2
    go_ret2
    exact ⟨⟨A3, c3, rfl, own_mono o3 hb3.size, z3⟩, hb4⟩
  · have ho : bytesOf u l = none := if_neg h
    rw [ho]
    have hb1 := balloc hb0 (.cells #[.int .i64 u, .slice A l.length c] 24)
    by_cases h1 : u < 0
    · clear h ho hR hz
      go_enter Try.func8, Try.ntmps8
      go_wp2
      go_ret2
      exact ⟨rfl, hb1⟩
    · by_cases h2 : 247 < u
      · have k1 : decide (u < 0) = false := by simp; omega
        clear h ho hR hz h1
        go_enter Try.func8, Try.ntmps8
        go_wp2
        go_ret2
        exact ⟨rfl, hb1⟩
      · have k1 : decide (u < 0) = false := by simp; omega
        have k2 : decide (247 < u) = false := by simp; omega
        by_cases h3 : l.length < 1
        · have k3 : decide ((l.length : Int) < 1) = true := by simp; omega
          clear h ho hR hz h1 h2 h3
          go_enter Try.func8, Try.ntmps8
          go_wp2
          go_ret2
          exact ⟨rfl, hb1⟩
        · have k3 : decide ((l.length : Int) < 1) = false := by simp; omega
          have k4 : decide (253 < (l.length : Int)) = true := by simp; omega
          clear h ho hR hz h1 h2 h3
          go_enter Try.func8, Try.ntmps8
          go_wp2
          go_ret2
          exact ⟨rfl, hb1⟩

set_option maxHeartbeats 1000000 in
theorem refBytes_calls (u : Int) (A : Option Addr) (c : Nat) (l : List UInt8) (hl : l.length ≤ 1000) (w : World) (hR : RdB w w.heap.size A l) (hz : A = none → l.length = 0) :
    Calls Try.prog 9 #[fv u A l.length c] w fun e w' => RPost w' w.heap.size e (bytesOf u l) ∧ Below w.heap.size w w' := by
  have hb0 := Below.refl w.heap.size w
  unfold fv
  by_cases h : 0 ≤ u ∧ u ≤ 247 ∧ 1 ≤ l.length ∧ l.length ≤ 253
  · have ho : bytesOf u l = some (seal16 (UInt8.ofNat u.toNat :: l)) := if_pos h
    rw [ho]
    obtain ⟨h1, h2, h3, h4⟩ := h
    have k1 : decide (u < 0) = false := by simp; omega
    have k2 : decide (247 < u) = false := by simp; omega
    have k3 : decide ((l.length : Int) < 1) = false := by simp; omega
    have k4 : decide (253 < (l.length : Int)) = false := by simp; omega
    have k5 : IntKind.u8.wrap u = u := by rw [IntKind.wrap_u8]; omega
    have hcs : (#[Value.int .u8 u] : Array Value).toList = bv [UInt8.ofNat u.toNat] := by
      simp only [bv, List.map_cons, List.map_nil]
      rw [ofNat_byte _ (by omega)]
      have : ((u.toNat : Nat) : Int) = u := by omega
      rw [this]
    obtain ⟨W1, hW1⟩ : ∃ W1, w.alloc (.cells #[.int .i64 u, .slice A l.length c] 24) = W1 := ⟨_, rfl⟩
    have hb1 : Below w.heap.size w W1 := by rw [← hW1]; exact balloc hb0 _
    have ow := own_new W1 W1.heap.size (Nat.le_refl _) #[.int .u8 u] 5 1 [UInt8.ofNat u.toNat] hcs rfl (by omega)
    obtain ⟨A2, c2, w2, hrun, o2, hb2, -, -, z2⟩ := append_bytes (P := Try.prog) eb _ W1.heap.size ow l.length c ((hR.below hb1).alloc hb1.size _) rfl (by simp; omega) (by simp) hz
    have hb3 : Below w.heap.size w w2 := (balloc hb1 _).trans (hb2.mono hb1.size)
    subst hW1
    simp only [World.size_alloc] at hrun
    clear hcs ow ho hb2
    go_enter Try.func9, Try.ntmps9
    go_wp2_with (at_builtin; refine wpList_append_run hrun rfl rfl rfl rfl rfl ?_)
    refine (refSeal16_calls A2 c2 (l.length + 1) (UInt8.ofNat u.toNat :: l) (by simp) (by omega) w2 (rdB_own o2).1 (fun h => by have := z2 h; simp at this)).mono ?_
    rintro e w3 ⟨⟨A3, c3, rfl, o3, z3⟩, hb4⟩
    replace hb4 := bnext hb3 hb4
    go_wp2
    go_ret2
    exact ⟨⟨A3, c3, rfl, own_mono o3 hb3.size, z3⟩, hb4⟩
  · have ho : bytesOf u l = none := if_neg h
    rw [ho]
    have hb1 := balloc hb0 (.cells #[.int .i64 u, .slice A l.length c] 24)
    by_cases h1 : u < 0
    · clear h ho hR hz
      go_enter Try.func9, Try.ntmps9
      go_wp2
      go_ret2
      exact ⟨rfl, hb1⟩
    · by_cases h2 : 247 < u
      · have k1 : decide (u < 0) = false := by simp; omega
        clear h ho hR hz h1
        go_enter Try.func9, Try.ntmps9
        go_wp2
        go_ret2
        exact ⟨rfl, hb1⟩
      · have k1 : decide (u < 0) = false := by simp; omega
        have k2 : decide (247 < u) = false := by simp; omega
        by_cases h3 : l.length < 1
        · have k3 : decide ((l.length : Int) < 1) = true := by simp; omega
          clear h ho hR hz h1 h2 h3
          go_enter Try.func9, Try.ntmps9
          go_wp2
          go_ret2
          exact ⟨rfl, hb1⟩
        · have k3 : decide ((l.length : Int) < 1) = false := by simp; omega
          have k4 : decide (253 < (l.length : Int)) = true := by simp; omega
          clear h ho hR hz h1 h2 h3
          go_enter Try.func9, Try.ntmps9
          go_wp2
          go_ret2
          exact ⟨rfl, hb1⟩
end Go.Proofs.Ytfbeihfpflhdaaa
