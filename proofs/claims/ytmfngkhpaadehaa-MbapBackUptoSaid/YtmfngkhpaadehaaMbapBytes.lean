/-
  Bytes and Same of package mbap and of the document, walked. Conditions stand at each theorem.
-/
import Derived.Test.YtmfngkhpaadehaaConcat
import Derived.Test.YtmfngkhpaadehaaMbapPlain
namespace Go.Proofs.Ytmfngkhpaadehaa
open Go Go.RowKit Go.Kw Go.Kw.Mb
set_option linter.unusedVariables false
set_option linter.unusedSimpArgs false

/-- A frame as a value. -/
def fv (f : Fr) (A : Option Addr) (c : Nat) : Value := .agg #[.int .i64 f.1, .int .i64 f.2.1, .slice A f.2.2.length c]
def RPost (w' : World) (base : Nat) (e : Ending) : Option (List UInt8) → Prop
  | none => e = .returned (.tuple #[.slice none 0 0, .int .i64 210])
  | some r => ∃ A' c', e = .returned (.tuple #[.slice A' r.length c', .int .i64 0]) ∧ w'.ownsRow base 5 1 (.slice A' r.length c') r.length (bv r) ∧ (A' = none → r.length = 0)
theorem own_new (w : World) (base : Nat) (hb : base ≤ w.heap.size) (cs : Array Value) (e : TypeId) (n : Nat) (l : List UInt8) (h : cs.toList = bv l) (hn : n = l.length) (hm : n ≤ 1000000) : (w.alloc (.cells cs e)).ownsRow base e 1 (.slice (some ⟨w.heap.size, 0, none⟩) n n) n (bv l) := by
  have hc : cs.size = n := by rw [← Array.length_toList, h, bv_length, hn]
  refine ⟨by rw [bv_length]; omega, .inr ⟨w.heap.size, n, cs, rfl, hb, World.alloc_heap_new w _, Nat.le_refl _, by unfold maxLen; omega, by omega, ?_⟩⟩
  rw [h, List.take_of_length_le (by rw [bv_length]; omega)]

theorem byte_of (x : Int) (h0 : 0 ≤ x) (h1 : x ≤ 255) : ((UInt8.ofNat x.toNat).toNat : Int) = x := by rw [UInt8.toNat_ofNat']; omega
theorem byte_nat (n : Nat) (h1 : n ≤ 255) : ((UInt8.ofNat n).toNat : Int) = n := by rw [UInt8.toNat_ofNat']; omega
theorem head_cells (tx un : Int) (l : List UInt8) (h1 : 0 ≤ tx) (h2 : tx ≤ 65535) (h3 : 0 ≤ un) (h4 : un ≤ 255) (h6 : l.length ≤ 253) :
    (#[Value.int .u8 (tx / 256), Value.int .u8 (tx % 256), Value.int .u8 0, Value.int .u8 0, Value.int .u8 (((l.length : Int) + 1) / 256), Value.int .u8 (((l.length : Int) + 1) % 256), Value.int .u8 un] : Array Value).toList =
      bv [UInt8.ofNat (tx / 256).toNat, UInt8.ofNat (tx % 256).toNat, 0, 0, UInt8.ofNat ((l.length + 1) / 256), UInt8.ofNat ((l.length + 1) % 256), UInt8.ofNat un.toNat] := by
  simp only [bv, List.map_cons, List.map_nil]
  rw [byte_of _ (by omega) (by omega), byte_of _ (by omega) (by omega), byte_of _ h3 h4, byte_nat _ (by omega), byte_nat _ (by omega)]
  simp

theorem head_cells2 (tx un : Int) (l : List UInt8) (h1 : 0 ≤ tx) (h2 : tx ≤ 65535) (h3 : 0 ≤ un) (h4 : un ≤ 255) (h6 : l.length ≤ 253) :
    (#[Value.int .u8 (tx / 256), Value.int .u8 (tx % 256), Value.int .u8 0, Value.int .u8 0, Value.int .u8 (((l.length : Int) + 1) / 256), Value.int .u8 ((l.length : Int) + 1), Value.int .u8 un] : Array Value).toList =
      bv [UInt8.ofNat (tx / 256).toNat, UInt8.ofNat (tx % 256).toNat, 0, 0, UInt8.ofNat ((l.length + 1) / 256), UInt8.ofNat ((l.length + 1) % 256), UInt8.ofNat un.toNat] := by
  simp only [bv, List.map_cons, List.map_nil]
  rw [byte_of _ (by omega) (by omega), byte_of _ (by omega) (by omega), byte_of _ h3 h4, byte_nat _ (by omega), byte_nat _ (by omega)]
  have e : (((l.length + 1) % 256 : Nat) : Int) = (l.length : Int) + 1 := by omega
  rw [e]
  simp


set_option maxHeartbeats 1000000 in
theorem mbapBytes_calls (f : Fr) (A : Option Addr) (c : Nat) (hl : f.2.2.length ≤ 9223372036854775807) (w : World) (hR : RdB w w.heap.size A f.2.2) (hz : A = none → f.2.2.length = 0) :
    Calls Try.prog 10 #[fv f A c] w fun e w' => RPost w' w.heap.size e (if mayF f then some (bytesOf f) else none) ∧ Below w.heap.size w w' := by
  obtain ⟨tx, un, l⟩ := f
  have hb0 := Below.refl w.heap.size w
  have hb1 := balloc hb0 (.cells #[.int .i64 tx, .int .i64 un, .slice A l.length c] 24)
  unfold fv
  simp only at hl hR hz ⊢
  cases hm : mayF (tx, un, l) with
  | true =>
    have h := (mayF_iff _).1 hm
    simp only at h
    obtain ⟨h1, h2, h3, h4, h5, h6⟩ := h
    rw [if_pos rfl]
    obtain ⟨W1, hW1⟩ : ∃ W1, w.alloc (.cells #[.int .i64 tx, .int .i64 un, .slice A l.length c] 24) = W1 := ⟨_, rfl⟩
    have hb1 : Below w.heap.size w W1 := by rw [← hW1]; exact balloc hb0 _
    have ow := own_new W1 W1.heap.size (Nat.le_refl _) _ 5 7 _ (head_cells2 tx un l h1 h2 h3 h4 h6) rfl (by omega)
    obtain ⟨A2, c2, w2, hrun, o2, hb2, -, -, z2⟩ := append_bytes (P := Try.prog) eb _ W1.heap.size ow l.length c ((hR.below hb1).alloc hb1.size _) rfl (by simp; omega) (by simp) hz
    have hb3 : Below w.heap.size w w2 := (balloc hb1 _).trans (hb2.mono hb1.size)
    replace o2 := own_mono o2 hb1.size
    have Hd := Lib.hid (show _ = bytesOf (tx, un, l) from rfl)
    have Hl := bytesOf_length (tx, un, l)
    obtain ⟨r, hr⟩ : ∃ r, bytesOf (tx, un, l) = r := ⟨_, rfl⟩
    rw [show _ ++ l = bytesOf (tx, un, l) from rfl, hr] at hrun o2 z2
    rw [hr]
    subst hW1
    simp only [World.size_alloc] at hrun
    clear hm ow hb2 Hd Hl hr
    go_enter Try.func10, Try.ntmps10
    go_wp2_with (at_builtin; refine wpList_append_run hrun rfl rfl rfl rfl rfl ?_)
    go_ret2
    exact ⟨⟨A2, c2, rfl, o2, z2⟩, hb3⟩
  | false =>
    have hn : ¬ (0 ≤ tx ∧ tx ≤ 65535 ∧ 0 ≤ un ∧ un ≤ 255 ∧ 1 ≤ l.length ∧ l.length ≤ 253) := fun h => by rw [(mayF_iff (tx, un, l)).2 h] at hm; cases hm
    have Hn := Lib.hid hn
    clear hn hm hR hz
    rw [if_neg (by simp)]
    go_enter Try.func10, Try.ntmps10
    go_wp2_with fail
    all_goals first
      | (go_ret2; exact ⟨rfl, hb1⟩)
      | (exfalso; have := Hn.out; omega)

set_option maxHeartbeats 1000000 in
theorem refBytes_calls (f : Fr) (A : Option Addr) (c : Nat) (hl : f.2.2.length ≤ 9223372036854775807) (w : World) (hR : RdB w w.heap.size A f.2.2) (hz : A = none → f.2.2.length = 0) :
    Calls Try.prog 11 #[fv f A c] w fun e w' => RPost w' w.heap.size e (if mayF f then some (bytesOf f) else none) ∧ Below w.heap.size w w' := by
  obtain ⟨tx, un, l⟩ := f
  have hb0 := Below.refl w.heap.size w
  have hb1 := balloc hb0 (.cells #[.int .i64 tx, .int .i64 un, .slice A l.length c] 24)
  unfold fv
  simp only at hl hR hz ⊢
  cases hm : mayF (tx, un, l) with
  | true =>
    have h := (mayF_iff _).1 hm
    simp only at h
    obtain ⟨h1, h2, h3, h4, h5, h6⟩ := h
    rw [if_pos rfl]
    obtain ⟨W1, hW1⟩ : ∃ W1, w.alloc (.cells #[.int .i64 tx, .int .i64 un, .slice A l.length c] 24) = W1 := ⟨_, rfl⟩
    have hb1 : Below w.heap.size w W1 := by rw [← hW1]; exact balloc hb0 _
    have ow := own_new W1 W1.heap.size (Nat.le_refl _) _ 5 7 _ (head_cells tx un l h1 h2 h3 h4 h6) rfl (by omega)
    obtain ⟨A2, c2, w2, hrun, o2, hb2, -, -, z2⟩ := append_bytes (P := Try.prog) eb _ W1.heap.size ow l.length c ((hR.below hb1).alloc hb1.size _) rfl (by simp; omega) (by simp) hz
    have hb3 : Below w.heap.size w w2 := (balloc hb1 _).trans (hb2.mono hb1.size)
    replace o2 := own_mono o2 hb1.size
    have Hd := Lib.hid (show _ = bytesOf (tx, un, l) from rfl)
    have Hl := bytesOf_length (tx, un, l)
    obtain ⟨r, hr⟩ : ∃ r, bytesOf (tx, un, l) = r := ⟨_, rfl⟩
    rw [show _ ++ l = bytesOf (tx, un, l) from rfl, hr] at hrun o2 z2
    rw [hr]
    subst hW1
    simp only [World.size_alloc] at hrun
    have k0 : ((l.length : Int) == 0) = false := beq_eq_false_iff_ne.2 (by omega)
    clear hm ow hb2 Hd Hl hr
    go_enter Try.func11, Try.ntmps11
    go_wp2_with (at_builtin; go_loud (refine wpList_append_run hrun rfl rfl rfl rfl rfl ?_))
    go_ret2
    exact ⟨⟨A2, c2, rfl, o2, z2⟩, hb3⟩
  | false =>
    have hn : ¬ (0 ≤ tx ∧ tx ≤ 65535 ∧ 0 ≤ un ∧ un ≤ 255 ∧ 1 ≤ l.length ∧ l.length ≤ 253) := fun h => by rw [(mayF_iff (tx, un, l)).2 h] at hm; cases hm
    have Hn := Lib.hid hn
    clear hn hm hR hz
    rw [if_neg (by simp)]
    by_cases h0 : l.length = 0
    · have k0 : ((l.length : Int) == 0) = true := beq_iff_eq.2 (by omega)
      clear h0
      go_enter Try.func11, Try.ntmps11
      go_wp2_with fail
      all_goals (go_ret2; exact ⟨rfl, hb1⟩)
    · have k0 : ((l.length : Int) == 0) = false := beq_eq_false_iff_ne.2 (by omega)
      go_enter Try.func11, Try.ntmps11
      go_wp2_with fail
      all_goals first
        | (go_ret2; exact ⟨rfl, hb1⟩)
        | (exfalso; have := Hn.out; omega)

theorem mbapSame_calls (f g : Fr) (A B : Option Addr) (c d : Nat) (w : World) (hR : RdB w w.heap.size A f.2.2) (hS : RdB w w.heap.size B g.2.2) (hz : A = none → f.2.2.length = 0) (hz2 : B = none → g.2.2.length = 0) :
    Calls Try.prog 14 #[fv f A c, fv g B d] w fun e w' => e = .returned (.bool (decide (f = g))) ∧ Below w.heap.size w w' := by
  obtain ⟨t1, u1, l1⟩ := f
  obtain ⟨t2, u2, l2⟩ := g
  have hb0 := Below.refl w.heap.size w
  have hb2 := balloc (balloc hb0 (.cells #[.int .i64 t1, .int .i64 u1, .slice A l1.length c] 24)) (.cells #[.int .i64 t2, .int .i64 u2, .slice B l2.length d] 24)
  unfold fv
  simp only at hR hS hz hz2 ⊢
  by_cases h : t1 = t2
  · subst h
    by_cases h2 : u1 = u2
    · subst h2
      have hd : decide ((t1, u1, l1) = (t1, u1, l2)) = decide (l1 = l2) := by simp
      rw [hd]
      clear hd
      go_enter Try.func14, Try.ntmps14
      go_wp2_with fail
      refine (bequal_calls A B c d l1 l2 _ (hR.go hb2) (hS.go hb2) hz hz2).mono ?_
      rintro e w3 ⟨rfl, rfl⟩
      go_wp2_with fail
      go_ret
      exact ⟨by simp, hb2⟩
    · have hd : decide ((t1, u1, l1) = (t1, u2, l2)) = false := by simp [h2]
      have k2 : (u1 == u2) = false := by simp [h2]
      rw [hd]
      clear hd h2
      go_enter Try.func14, Try.ntmps14
      go_wp2_with fail
      go_ret
      exact ⟨rfl, hb2⟩
  · have hd : decide ((t1, u1, l1) = (t2, u2, l2)) = false := by simp [h]
    have k2 : (t1 == t2) = false := by simp [h]
    rw [hd]
    clear hd h
    go_enter Try.func14, Try.ntmps14
    go_wp2_with fail
    go_ret
    exact ⟨rfl, hb2⟩

theorem refSame_calls (f g : Fr) (A B : Option Addr) (c d : Nat) (w : World) (hR : RdB w w.heap.size A f.2.2) (hS : RdB w w.heap.size B g.2.2) (hz : A = none → f.2.2.length = 0) (hz2 : B = none → g.2.2.length = 0) :
    Calls Try.prog 15 #[fv f A c, fv g B d] w fun e w' => e = .returned (.bool (decide (f = g))) ∧ Below w.heap.size w w' := by
  obtain ⟨t1, u1, l1⟩ := f
  obtain ⟨t2, u2, l2⟩ := g
  have hb0 := Below.refl w.heap.size w
  have hb2 := balloc (balloc hb0 (.cells #[.int .i64 t1, .int .i64 u1, .slice A l1.length c] 24)) (.cells #[.int .i64 t2, .int .i64 u2, .slice B l2.length d] 24)
  have s1 := run_string (P := Try.prog) (src := 22) (dst := 9) (hR.go hb2) c hz Try.underlying22 Try.underlying5 Try.underlying9
  have s2 := run_string (P := Try.prog) (src := 22) (dst := 9) (hS.go hb2) d hz2 Try.underlying22 Try.underlying5 Try.underlying9
  unfold fv
  simp only at s1 s2 hR hS hz hz2 ⊢
  by_cases h : t1 = t2
  · subst h
    by_cases h2 : u1 = u2
    · subst h2
      have hd : decide ((t1, u1, l1) = (t1, u1, l2)) = (l1 == l2) := by rw [Bool.eq_iff_iff]; simp
      rw [hd]
      clear hd
      cases hab : l1 == l2
      all_goals
        go_enter Try.func15, Try.ntmps15
        go_wp2_with fail
        go_ret
        exact ⟨by simp, hb2⟩
    · have hd : decide ((t1, u1, l1) = (t1, u2, l2)) = false := by simp [h2]
      have k2 : (u1 == u2) = false := by simp [h2]
      rw [hd]
      clear hd h2
      go_enter Try.func15, Try.ntmps15
      go_wp2_with fail
      go_ret
      exact ⟨rfl, hb2⟩
  · have hd : decide ((t1, u1, l1) = (t2, u2, l2)) = false := by simp [h]
    have k2 : (t1 == t2) = false := by simp [h]
    rw [hd]
    clear hd h
    go_enter Try.func15, Try.ntmps15
    go_wp2_with fail
    go_ret
    exact ⟨rfl, hb2⟩
end Go.Proofs.Ytmfngkhpaadehaa
