/-
  The document's Seal and Open, walked; the walk of CrcSeals. Conditions: none beyond the given row.
-/
import Derived.Test.YtfbeihfpflhdaaaCrcLaws4
import Derived.Deep.RegionWith
import Derived.Deep.DeepCutAuto
namespace Go.Proofs.Ytfbeihfpflhdaaa
open Go Go.RowKit Go.Kw Go.Kw.Crc
set_option linter.unusedVariables false
set_option linter.unusedSimpArgs false

set_option maxHeartbeats 1000000 in
theorem refSeal16_calls (A : Option Addr) (c n : Nat) (l : List UInt8) (hn : l.length = n) (hl : n ≤ 900000) (w : World) (hR : RdB w w.heap.size A l) (hz : A = none → n = 0) :
    Calls Try.prog 24 #[.slice A n c, .int .i64 16] w fun e w' => OwnB w' w.heap.size e (seal16 l) ∧ Below w.heap.size w w' := by
  subst hn
  have hs := sum16_lt 65535 (by decide) l
  obtain ⟨A1, c1, w1, hrun, o1, hb1, g1, k1, z1⟩ := append_bytes (P := Try.prog) eb w w.heap.size (l := []) (World.ownsRow_nil w w.heap.size 5 1) l.length c hR rfl (by rw [List.length_nil]; omega) (Nat.le_refl _) hz
  simp only [List.nil_append] at hrun o1 z1
  have hcs : (#[Value.int .u8 ((sum16 65535 l : Int) % 256), .int .u8 ((sum16 65535 l : Int) / 256)] : Array Value).toList = bv [UInt8.ofNat (sum16 65535 l % 256), UInt8.ofNat (sum16 65535 l / 256)] := by
    simp only [bv, List.map_cons, List.map_nil]
    rw [ofNat_byte _ (by omega), ofNat_byte _ (by omega)]
    have h1 : ((sum16 65535 l % 256 : Nat) : Int) = (sum16 65535 l : Int) % 256 := by omega
    have h2 : ((sum16 65535 l / 256 : Nat) : Int) = (sum16 65535 l : Int) / 256 := by omega
    rw [h1, h2]
  obtain ⟨A3, c3, w3, hrun3, o3, hb3, -, -, z3⟩ := append_lit (P := Try.prog) eb w1 w.heap.size o1 _ 2 _ hcs rfl (by simp; omega) hb1.size
  clear hcs
  go_enter Try.func24, Try.ntmps24
  go_wp2_with (at_builtin; refine wpList_append_run hrun rfl rfl rfl rfl rfl ?_)
  refine (ref16_any A c l (by omega) w1 (hR.go hb1) 65535 (by omega)).mono ?_
  rintro e w' ⟨rfl, rfl⟩
  go_wp2_with (at_builtin; refine wpList_append_run hrun3 rfl rfl rfl rfl rfl ?_)
  go_ret
  exact ⟨⟨A3, c3, by rw [seal16_length]; rfl, o3, z3⟩, hb1.trans hb3⟩

set_option maxHeartbeats 1000000 in
theorem refSeal32_calls (A : Option Addr) (c n : Nat) (l : List UInt8) (hn : l.length = n) (hl : n ≤ 900000) (w : World) (hR : RdB w w.heap.size A l) (hz : A = none → n = 0) :
    Calls Try.prog 24 #[.slice A n c, .int .i64 32] w fun e w' => OwnB w' w.heap.size e (seal32 l) ∧ Below w.heap.size w w' := by
  subst hn
  have hs := sum32_lt 0 (by decide) l
  obtain ⟨A1, c1, w1, hrun, o1, hb1, g1, k1, z1⟩ := append_bytes (P := Try.prog) eb w w.heap.size (l := []) (World.ownsRow_nil w w.heap.size 5 1) l.length c hR rfl (by rw [List.length_nil]; omega) (Nat.le_refl _) hz
  simp only [List.nil_append] at hrun o1 z1
  have hcs : (#[Value.int .u8 ((sum32 0 l : Int) / 16777216), .int .u8 (IntKind.u8.wrap ((sum32 0 l : Int) / 65536)), .int .u8 (IntKind.u8.wrap ((sum32 0 l : Int) / 256)), .int .u8 (IntKind.u8.wrap (sum32 0 l : Int))] : Array Value).toList
      = bv [UInt8.ofNat (sum32 0 l / 16777216), UInt8.ofNat (sum32 0 l / 65536 % 256), UInt8.ofNat (sum32 0 l / 256 % 256), UInt8.ofNat (sum32 0 l % 256)] := by
    simp only [bv, List.map_cons, List.map_nil]
    rw [ofNat_byte _ (by omega), ofNat_byte _ (by omega), ofNat_byte _ (by omega), ofNat_byte _ (by omega), IntKind.wrap_u8, IntKind.wrap_u8, IntKind.wrap_u8]
    have h1 : ((sum32 0 l % 256 : Nat) : Int) = (sum32 0 l : Int) % 256 := by omega
    have h2 : ((sum32 0 l / 256 % 256 : Nat) : Int) = (sum32 0 l : Int) / 256 % 256 := by omega
    have h3 : ((sum32 0 l / 65536 % 256 : Nat) : Int) = (sum32 0 l : Int) / 65536 % 256 := by omega
    have h4 : ((sum32 0 l / 16777216 : Nat) : Int) = (sum32 0 l : Int) / 16777216 := by omega
    rw [h1, h2, h3, h4]
  obtain ⟨A3, c3, w3, hrun3, o3, hb3, -, -, z3⟩ := append_lit (P := Try.prog) eb w1 w.heap.size o1 _ 4 _ hcs rfl (by simp; omega) hb1.size
  clear hcs
  go_enter Try.func24, Try.ntmps24
  go_wp2_with (at_builtin; refine wpList_append_run hrun rfl rfl rfl rfl rfl ?_)
  refine (ref32_any A c l (by omega) w1 (hR.go hb1) 0 (by omega)).mono ?_
  rintro e w' ⟨rfl, rfl⟩
  go_wp2_with (at_builtin; refine wpList_append_run hrun3 rfl rfl rfl rfl rfl ?_)
  go_ret
  exact ⟨⟨A3, c3, by rw [seal32_length]; rfl, o3, z3⟩, hb1.trans hb3⟩

/-- What the document's opening answers: a part of what came in. -/
def RefPost (A : Option Addr) (c : Nat) (e : Ending) : Option (List UInt8) → Prop
  | none => e = .returned (.tuple #[.slice none 0 0, .int .i64 30])
  | some r => e = .returned (.tuple #[.slice A r.length c, .int .i64 0])

theorem bv_step (r : List UInt8) (k : Nat) : (bv r).set k (.int .u8 (IntKind.u8.wrap (bAt r k + 1))) = bv (r.set k (r.getD k 0 + 1)) := by
  have h : IntKind.u8.wrap (bAt r k + 1) = ((r.getD k 0 + 1).toNat : Int) := by
    rw [IntKind.wrap_u8, UInt8.toNat_add]; unfold bAt; simp
  rw [h]
  unfold bv
  rw [List.map_set]
theorem ref_kept {l r : List UInt8} {k : Nat} {sl : List UInt8 → List UInt8} (h : openOf sl k l = some r) : r = l.take (l.length - k) := by
  unfold openOf at h
  split at h
  · injection h with h; exact h.symm
  · cases h

end Go.Proofs.Ytfbeihfpflhdaaa
