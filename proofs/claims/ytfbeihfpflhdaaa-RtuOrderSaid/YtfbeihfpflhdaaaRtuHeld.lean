/-
  The iterator over a gatherer's pieces, walked: its contract. Conditions: at most 1,000 pieces, 1,000,000 bytes in all.
-/
import Derived.Test.YtfbeihfpflhdaaaRtuGather
namespace Go.Proofs.Ytfbeihfpflhdaaa
open Go Go.RowKit Go.Kw Go.Kw.Crc Go.Shelf
attribute [local go_sem] Oper.semAt_some
set_option linter.unusedVariables false
set_option linter.unusedSimpArgs false

/-- A piece as a slice: place, length, room. -/
structure PV where
  a : Option Addr
  n : Nat
  c : Nat
instance : Inhabited PV := ⟨⟨none, 0, 0⟩⟩
def PV.v (p : PV) : Value := .slice p.a p.n p.c
/-- How many bytes lie ahead of piece k. -/
def ahead (vs : List PV) (k : Nat) : Nat := ((vs.take k).map PV.n).sum
theorem ahead_succ (vs : List PV) (k : Nat) (p : PV) (h : vs[k]? = some p) : ahead vs (k + 1) = ahead vs k + p.n := by
  obtain ⟨hlt, rfl⟩ := List.getElem?_eq_some_iff.1 h
  unfold ahead
  rw [List.take_succ_eq_append_getElem hlt, List.map_append, List.sum_append]
  simp only [List.map_cons, List.map_nil, List.sum_cons, List.sum_nil, Nat.add_zero]
theorem ahead_le (vs : List PV) (k : Nat) : ahead vs k ≤ ahead vs vs.length := by
  unfold ahead
  rw [List.take_length]
  conv => rhs; rw [← List.take_append_drop k vs, List.map_append, List.sum_append]
  omega
def heldL (vs : List PV) : List (Nat × PV) := (List.range vs.length).map (fun k => (ahead vs k, vs.getD k default))
theorem heldL_get (vs : List PV) (k : Nat) (p : PV) (h : vs[k]? = some p) : (heldL vs)[k]? = some (ahead vs k, p) := by
  obtain ⟨hlt, hp⟩ := List.getElem?_eq_some_iff.1 h
  unfold heldL
  rw [List.getElem?_map, List.getElem?_range hlt]
  simp [List.getD_eq_getElem?_getD, h]

theorem held_calls (g : Nat) (w : World) :
    Calls Try.prog 30 #[.pointer (some ⟨g, 0, none⟩)] w fun e w' => e = .returned (.func (.func 35) #[] #[.pointer (some ⟨w.heap.size, 0, none⟩)]) ∧ w' = w.alloc (.cells #[.pointer (some ⟨g, 0, none⟩)] 41) := by
  go_enter Try.func30, Try.ntmps30
  go_wp2
  go_ret
  exact ⟨rfl, rfl⟩

set_option maxRecDepth 100000 in
set_option maxHeartbeats 2000000 in
theorem held_seq (B B0 g : Nat) (A : Option Addr) (c : Nat) (vs : List PV) (hl : vs.length ≤ 1000) (hs : ahead vs vs.length ≤ 1000000) :
    SeqW Try.prog 35 #[.pointer (some ⟨B, 0, none⟩)] (fun x : Nat × PV => #[.int .i64 x.1, x.2.v]) (heldL vs) (fun A B => A = B)
      (fun W => W.cell? ⟨B, 0, none⟩ = some (.pointer (some ⟨g, 0, none⟩)) ∧ W.cell? ⟨g, 1, none⟩ = some (.slice A vs.length c) ∧ Rd W B0 A vs.length (fun i => (vs.getD i default).v))
      (fun _ W => Rd W B0 A vs.length (fun i => (vs.getD i default).v)) (fun _ => True) (fun _ _ => True) := by
  intro lo J Jx hJ hJx hY W ⟨hB, hg, hR⟩ h0
  have hF := wide_fn
  refine callsIn_of_wp Try.func35 rfl (hF _) ?_ rfl
  simp only [Try.ntmps35, List.size_toArray, List.length_cons, List.length_nil, Nat.reduceAdd, Nat.reduceSub, Array.replicate_succ, Array.replicate_zero, List.push_toArray, List.append_toArray, List.nil_append, List.cons_append]
  gi_wp2_with (first | (refine wpIn_scope ?_) | (refine wpIn_label ?_))
  gi_loopw [3, 5, 11] (fun m _ i wr => ∃ k : Nat, k ≤ vs.length ∧ i = .int .i64 k ∧ m = .int .i64 (ahead vs k : Nat) ∧ J k wr ∧ Rd wr B0 A vs.length (fun i => (vs.getD i default).v))
    (fun _ _ i _ => vs.length - (intOf i).toNat)
  case atStart => exact ⟨0, Nat.zero_le _, rfl, rfl, h0, hR⟩
  case round =>
    obtain ⟨k, hk, rfl, rfl, hJs, hRs⟩ := hrel
    by_cases hlt : k < vs.length
    · obtain ⟨b, off, rfl, hbs, hc⟩ := Rd.at_ hRs hlt
      obtain ⟨⟨pa, pn, pc⟩, hp⟩ : ∃ p, vs[k]? = some p := ⟨_, List.getElem?_eq_getElem hlt⟩
      have hpv : vs.getD k default = ⟨pa, pn, pc⟩ := by rw [List.getD_eq_getElem?_getD, hp]; rfl
      have hc' : wr.cell? ⟨b, off + k, none⟩ = some (.slice pa pn pc) := by rw [hc]; show some ((vs.getD k default).v) = _; rw [hpv]; rfl
      have has := ahead_succ vs k _ hp
      have hale := ahead_le vs (k + 1)
      have hgl := heldL_get vs k _ hp
      obtain ⟨fn, tmps, assign, body, hy, hYR⟩ := hY k _ wr hgl hJs hRs
      have Has := Lib.hid has
      have hw : IntKind.i64.wrap ((ahead vs k : Int) + (pn : Int)) = (ahead vs k : Int) + (pn : Int) := IntWalk.i64_in _ (by simp at has; omega)
      clear hY hc hp hpv hgl has hale
      simp only [PV.v] at hy
      gi_wp2
      refine hYR.mono ?_
      rintro e W3 ⟨hR3, (⟨rfl, hJ3⟩ | ⟨rfl, hJx3⟩)⟩
      · gi_wp2
        go_roundw
        case rel => exact ⟨k + 1, by omega, by simp, by rw [Has.out]; simp, hJ3, hR3⟩
        case measure => simp [intOf]; omega
      · gi_wp2
        simp only [Exit.noGoto]
        go_end0
        exact ⟨⟨_, rfl⟩, .inr ⟨k, by simp [heldL]; exact hlt, hJx3, trivial⟩⟩
    · obtain rfl : k = vs.length := by omega
      gi_wp2
      simp only [Exit.noGoto]
      go_end0
      exact ⟨⟨_, rfl⟩, .inl ⟨by simp [heldL]; exact hJs, trivial⟩⟩
end Go.Proofs.Ytfbeihfpflhdaaa
