/-
  Slices of numbers of the call's own; the walk of FixqOrder. Conditions: none beyond the given rows.
-/
import Derived.Test.YtoollhkpbghodaaRRFixqLaws1
import Derived.Test.YtoollhkpbghodaaRRSlices
namespace Go.Proofs.YtoollhkpbghodaaRR
open Go Go.RowKit Go.Kw Go.Shelf
set_option linter.unusedVariables false
set_option linter.unusedSimpArgs false

theorem iv_length (l : List Int) : (iv l).length = l.length := by simp [iv]
theorem iv_append (a b : List Int) : iv (a ++ b) = iv a ++ iv b := by simp [iv]
theorem vals_ints (l : List Int) : vals (l.length * 1) (fun i => .int .i64 (l.getD i 0)) = iv l := by
  apply List.ext_getElem?
  intro i
  unfold vals iv
  by_cases h : i < l.length
  · rw [List.getElem?_map, List.getElem?_map, List.getElem?_range (by omega), List.getElem?_eq_getElem h]; simp [h]
  · rw [List.getElem?_eq_none (by simp; omega), List.getElem?_eq_none (by simp; omega)]
theorem eI : Elem Try.prog 27 2 (.int .i64 0) 1 8 := ⟨Try.underlying27, by kernel_rfl, rfl, by decide⟩
theorem own_lenI {w : World} {base : Nat} {e : TypeId} {v : Value} {n : Nat} {l : List Int} (h : w.ownsRow base e 1 v n (iv l)) : ∃ A c, v = .slice A l.length c ∧ n = l.length ∧ (A = none → l.length = 0 ∧ c = 0) := by
  have hn : n = l.length := by have := h.1; rw [iv_length] at this; omega
  rcases h.2 with ⟨rfl, h0⟩ | ⟨g, cap, cur, rfl, _⟩
  · exact ⟨none, 0, by rw [← hn, h0], hn, fun _ => ⟨by omega, rfl⟩⟩
  · exact ⟨_, _, by rw [← hn], hn, fun h => by cases h⟩
theorem rdI_own {w : World} {base : Nat} {e : TypeId} {A : Option Addr} {n k c : Nat} {l : List Int} (h : w.ownsRow base e 1 (.slice A k c) n (iv l)) : RdI w w.heap.size A l := by
  have hn : n = l.length := by have := h.1; rw [iv_length] at this; omega
  subst hn
  rcases h.2 with ⟨h', h0⟩ | ⟨g, cap, cur, h', hb, hg, _⟩
  · exact .inl h0
  · simp only [Value.slice.injEq] at h'
    obtain ⟨rfl, rfl, rfl⟩ := h'
    refine .inr ⟨g, 0, rfl, (Array.getElem?_eq_some_iff.1 hg).1, fun i hi => ?_⟩
    rw [Nat.zero_add, h.cellAt i (by omega)]
    unfold iv
    rw [List.getElem?_map, List.getElem?_eq_getElem hi]; simp [hi]
theorem append_int (w : World) (base : Nat) {v : Value} {n : Nat} {l : List Int} (hown : w.ownsRow base 2 1 v n (iv l)) (x : Int)
    (h63 : l.length ≤ 1000000000) (hbase : base ≤ w.heap.size) :
    ∃ A' c' w', (Builtin.append_ #[27, 27] 27 #[v, .slice (some ⟨w.heap.size, 0, none⟩) 1 1]).run Try.prog (w.alloc (.cells #[.int .i64 x] 2)) = .ok (.slice A' (l ++ [x]).length c') w' ∧ w'.ownsRow base 2 1 (.slice A' (l ++ [x]).length c') (l ++ [x]).length (iv (l ++ [x])) ∧ Below base w w' := by
  have hn : n = l.length := by have := hown.1; rw [iv_length] at this; omega
  have ho := hown.alloc (.cells #[.int .i64 x] 2)
  obtain ⟨v', w', hrun, o, g, i, b⟩ := run_append (P := Try.prog) (w.alloc (.cells #[.int .i64 x] 2)) base 27 eI ho 1 1 (f := fun i => .int .i64 ([x].getD i 0)) (rdI_new w #[.int .i64 x] 2 (0, 0) [x] rfl) (fun i _ => rfl) (by unfold maxLen; omega) (by omega) (by simp; omega) (by simp)
  rw [show vals (1 * 1) (fun i => Value.int .i64 ([x].getD i 0)) = iv [x] from rfl, ← iv_append] at o
  obtain ⟨A', c', rfl, hk, hz⟩ := own_lenI o
  rw [hk] at o
  exact ⟨A', c', w', hrun, o, ((Below.refl base w).alloc hbase _).trans (below_append ho (by simp; omega) g)⟩
theorem hr_mem {zs : List Int} (h : ∀ x ∈ zs, inR x) : ∀ i, i < zs.length → inR (zs.getD i 0) := by
  intro i hi
  rw [List.getD_eq_getElem?_getD, List.getElem?_eq_getElem hi]
  exact h _ (List.getElem_mem hi)
theorem sum_rev (l : List Int) : l.reverse.sum = l.sum := by
  induction l with
  | nil => rfl
  | cons x l ih => rw [List.reverse_cons, List.sum_append, ih, List.sum_cons]; simp; omega
theorem rev_step (zs : List Int) (j k : Nat) (h : j + 1 + k = zs.length) : zs.reverse.take k ++ [zs.getD j 0] = zs.reverse.take (k + 1) := by
  rw [List.take_succ_eq_append_getElem (by simp; omega), List.getElem_reverse]
  have : zs.length - 1 - k = j := by omega
  simp [this, List.getD_eq_getElem?_getD, List.getElem?_eq_getElem (show j < zs.length by omega)]
theorem isRow_ints {w : World} {a : Option Addr} {len cap : Nat} {zs : List Int} (h : IsRow .i64 w a len cap zs) : ∃ l : List Int, l.length = len ∧ (∀ x ∈ l, inR x) ∧ RdI w w.heap.size a l := by
  have hr := h.rd
  refine ⟨zs.take len, ?_, ?_, ?_⟩
  · rcases h with ⟨rfl, rfl, rfl, rfl⟩ | ⟨x, rfl, h1, h2, h3, _⟩
    · rfl
    · simp; omega
  · intro x hx
    rcases h with ⟨rfl, rfl, rfl, rfl⟩ | ⟨y, rfl, h1, h2, h3, h4, h5⟩
    · simp at hx
    · exact Go.bounds_i64 (h5 x (List.mem_of_mem_take hx))
  · have hlen : (zs.take len).length = len := by
      rcases h with ⟨rfl, rfl, rfl, rfl⟩ | ⟨x, rfl, h1, h2, h3, _⟩
      · rfl
      · simp; omega
    unfold RdI
    rw [hlen]
    rcases hr with hr | ⟨b, off, e, hb, hc⟩
    · exact .inl hr
    · refine .inr ⟨b, off, e, hb, fun i hi => ?_⟩
      rw [hc i hi]
      show some (Value.int .i64 (zs.getD i 0)) = some (Value.int .i64 ((zs.take len).getD i 0))
      rw [List.getD_eq_getElem?_getD, List.getD_eq_getElem?_getD, List.getElem?_take_of_lt hi]

set_option maxRecDepth 100000 in
set_option maxHeartbeats 2000000 in
theorem fixqOrder_walk (a0 : Option Addr) (len0 cap0 : Nat) (z0 : List Int) (a1 : Int) (a2 : Int) (w : World) (w0 : IsRow .i64 w a0 len0 cap0 z0) (w1 : (Lit.int .i64 a1).wf = true) (w2 : (Lit.int .i64 a2).wf = true) :
    Calls Try.prog 4 #[.slice a0 len0 cap0, .int .i64 a1, .int .i64 a2] w fun e w' => e = .returned (.bool true) ∧ Below w.heap.size w w' := by
  have h1 : inR a1 := Go.bounds_i64 w1
  have h2 : inR a2 := Go.bounds_i64 w2
  obtain ⟨hm1, hm2, hz0⟩ := w0.caps
  unfold maxLen at hm2
  obtain ⟨l, rfl, hr, hR⟩ := isRow_ints w0
  clear w0 w1 w2 hz0
  by_cases h : 100 < l.length
  · have h' : (100 : Int) < (l.length : Int) := by omega
    clear h1 h2
    go_enter Try.func4, Try.ntmps4
    go_wp2_with fail
    refine (alive_calls _).mono ?_
    rintro e w1 ⟨rfl, hb1⟩
    go_wp2_with fail
    go_ret
    exact ⟨rfl, hb1⟩
  · have h' : (l.length : Int) ≤ 100 := by omega
    have hs1 : IntKind.i64.wrap ((l.length : Int) - 1) = (l.length : Int) - 1 := IntWalk.i64_in _ (by omega)
    have cs := fun w => add_calls a1 a2 h1 h2 w
    have ct := fun (A : Option Addr) (w : World) hR => sum_n A 2 2 [a1, a2] rfl (by simp) (inR2 h1 h2) w hR
    rw [show ([a1, a2] : List Int).sum = a1 + a2 from by simp] at ct
    have Hr := Lib.hid hr
    have Hcs := Lib.hid cs
    have Hct := Lib.hid ct
    have Hh1 := Lib.hid h1
    have Hh2 := Lib.hid h2
    clear hr cs ct h1 h2
    go_enter Try.func4, Try.ntmps4
    go_wp2_with fail
    refine (alive_calls _).mono ?_
    rintro e w1 ⟨rfl, hb1⟩
    go_wp2_with fail
    go_loopw [8, 9] (fun s i wr => ∃ j k : Nat, j + k = l.length ∧ i = .int .i64 ((j : Int) - 1) ∧ (∃ A c, s = .slice A (l.reverse.take k).length c ∧ wr.ownsRow w.heap.size 2 1 (.slice A (l.reverse.take k).length c) (l.reverse.take k).length (iv (l.reverse.take k))) ∧ Below w.heap.size w wr)
      (fun _ i _ => (intOf i + 1).toNat)
    case atStart => exact ⟨l.length, 0, by omega, rfl, ⟨none, 0, rfl, ⟨by simp [iv], .inl ⟨rfl, rfl⟩⟩⟩, hb1⟩
    case round =>
      obtain ⟨j, k, hjk, rfl, ⟨A, c, rfl, o⟩, hb⟩ := hrel
      rcases j with _ | j
      · obtain rfl : k = l.length := by omega
        rw [show (l.reverse.take l.length) = l.reverse from by rw [List.take_of_length_le (by simp)]] at o ⊢
        clear hjk
        go_wp2_with fail
        refine (sum_n a0 cap0 _ l rfl (by omega) (hr_mem Hr.out) wr (Rd.go hR hb)).mono ?_
        rintro e w3 ⟨rfl, hb3⟩
        rw [okV_gen]
        have o' := own_below o hb3
        replace hb3 := bnext hb hb3
        clear hb o
        go_wp2_with fail
        refine (sum_n A c _ l.reverse (by simp) (by simp; omega) (hr_mem (by simpa using Hr.out)) w3 (rdI_own o')).mono ?_
        rintro e w4 ⟨rfl, hb4⟩
        rw [sum_rev, okV_gen]
        replace hb4 := bnext hb3 hb4
        clear hb3 o'
        go_wp2_with fail
        refine (Hcs.out w4).mono ?_
        rintro e w5 ⟨rfl, rfl⟩
        by_cases hin : inR (a1 + a2)
        · rw [okV_in hin]
          have Hin := Lib.hid hin
          clear hin
          go_wp2_with fail
          refine (sub_calls (a1 + a2) a2 Hin.out Hh2.out _).mono ?_
          rintro e w6 ⟨rfl, rfl⟩
          rw [Int.add_sub_cancel, okV_in Hh1.out]
          go_wp2_with fail
          refine (Hct.out _ _ (by simpa using rdI_new w6 #[.int .i64 a1, .int .i64 a2] 2 (0, 0) [a1, a2] rfl)).mono ?_
          rintro e w7 ⟨rfl, hb7⟩
          rw [okV_in Hin.out]
          have hb8 := (balloc hb4 _).trans (hb7.mono (by have := hb4.size; simp; omega))
          go_wp2_with fail
          go_ret
          exact ⟨rfl, hb8⟩
        · rw [okV_out hin]
          have Hin := Lib.hid hin
          clear hin
          go_wp2_with fail
          refine (Hct.out _ _ (by simpa using rdI_new w5 #[.int .i64 a1, .int .i64 a2] 2 (0, 0) [a1, a2] rfl)).mono ?_
          rintro e w7 ⟨rfl, hb7⟩
          rw [okV_out Hin.out]
          have hb8 := (balloc hb4 _).trans (hb7.mono (by have := hb4.size; simp; omega))
          go_wp2_with fail
          go_ret
          exact ⟨rfl, hb8⟩
      · have e0 : (((j + 1 : Nat) : Int) - 1) = (j : Int) := by omega
        rw [e0]
        obtain ⟨b, off, rfl, hbs, hc⟩ := Rd.at_ (hR.below hb) (k := j) (by omega)
        have hj : (j : Int) < (l.length : Int) := by omega
        have i1 : IntKind.i64.wrap ((j : Int) - 1) = (j : Int) - 1 := IntWalk.i64_in _ (by omega)
        obtain ⟨A2, c2, w2, hrun, o2, hb2⟩ := append_int wr w.heap.size o (l.getD j 0) (by simp; omega) hb.size
        have ho2 := rev_step l j k (by omega)
        rw [ho2] at o2 hrun
        have Hjk := Lib.hid hjk
        clear ho2 hjk e0
        go_wp2_with (at_builtin; refine wpList_append_run hrun rfl rfl rfl rfl rfl ?_)
        go_roundw
        case rel => exact ⟨j, k + 1, by have := Hjk.out; omega, by go_num, ⟨A2, c2, by simp, o2⟩, hb.trans hb2⟩
        case measure => simp [intOf]
end Go.Proofs.YtoollhkpbghodaaRR
