/-
  A meter: a span passes (pass), walked. Conditions stand at each theorem. (Printed by gen_mt4.py.)
-/
import Derived.Test.YtjmkbpgakfeceaaMt3
import Derived.Sort.CutIn
import Derived.Great.FillDense
import Derived.Deep.WholeRow
import Derived.Great.BuildSlice
namespace Go.Proofs.Ytjmkbpgakfeceaa
open Go Go.RowKit Go.Kw Go.Kw.Mt
attribute [local go_sem] Oper.semAt_some
set_option linter.unusedVariables false
set_option linter.unusedSimpArgs false

theorem keepsBel {W W' : World} (h : Below W.heap.size W W') : KeepsOthers W W' := ⟨h.size, fun k o hk _ => (h.block k (Array.getElem?_eq_some_iff.1 hk).1).trans hk⟩
theorem keepsO_kept {W W' : World} {b : Nat} {cs : Array Value} {t : TypeId} {fr : Nat × Nat} (h : Kept (fun x => x ≠ b) W W') (hb : W.heap[b]? = some (.cells cs t fr)) : KeepsOthers W W' :=
  ⟨h.size, fun k o hk ho => by
    by_cases e : k = b
    · subst e; rw [hb] at hk; injection hk with hk; subst hk; cases ho
    · exact (h.block k (Array.getElem?_eq_some_iff.1 hk).1 e).trans hk⟩
/-- Rows of entries. -/
def ensC (nr : Int) (l : List En) : List Value := l.flatMap (fun x => (enC nr x).toList)
theorem ensC_snoc (nr : Int) (l : List En) (x : En) : ensC nr l ++ (enC nr x).toList = ensC nr (l ++ [x]) := by simp [ensC]
theorem eE : Elem Try.prog 38 45 (.agg (#[.int .i64 0, .int .i64 0, .int .i64 0, .int .i64 0, .int .i64 0, .int .i64 0, .int .i64 0, .int .i64 0, .int .u32 0, .int .u64 0] ++ Array.replicate 32 (.int .u8 0))) 42 112 := ⟨Try.underlying38, by kernel_rfl, by simp [Value.cells], by decide⟩
theorem built_ens (en : Array Value) (hs : en.size = 42) (w : World) : (Instr.buildSlice 38 1 #[(0, .agg en)]).run Try.prog w = .ok (.slice (some ⟨w.heap.size, 0, none⟩) 1 1) (w.alloc (.cells en 45)) := by
  obtain ⟨i, hi, hz, hsz, hb⟩ := info_parts eE.inf
  refine run_buildSlice w _ _ 1 _ _ i _ eE.ht hi hz (by rw [hsz]; decide) (by rw [hsz]; decide) ?_
  rw [hsz]
  have := Great.fill_whole (s := 42) (by decide) [Value.agg en] ((Array.range (1 * 42)).map ((Value.agg (#[.int .i64 0, .int .i64 0, .int .i64 0, .int .i64 0, .int .i64 0, .int .i64 0, .int .i64 0, .int .i64 0, .int .u32 0, .int .u64 0] ++ Array.replicate 32 (.int .u8 0))).cells[· % (Value.agg (#[.int .i64 0, .int .i64 0, .int .i64 0, .int .i64 0, .int .i64 0, .int .i64 0, .int .i64 0, .int .i64 0, .int .u32 0, .int .u64 0] ++ Array.replicate 32 (.int .u8 0))).cells.size]!))
    (fun v hv => by obtain rfl := List.mem_singleton.1 hv; simp [Value.cells, hs]) (by simp)
  rw [show (#[(0, Value.agg en)] : Array (Nat × Value)).toList = ([Value.agg en].zipIdx 0).map (fun x => (x.2, x.1)) from rfl, this]
  simp [Value.cells]
theorem ent_append (w : World) (B : Nat) {A : Option Addr} {k c : Nat} {nr : Int} {l : List En} (hown : w.ownsRow B 45 42 (.slice A k c) k (ensC nr l)) (x : En) (hB : B ≤ w.heap.size) (hk : k ≤ 100000) :
    ∃ A' c' w', (Builtin.append_ #[38, 38] 38 #[.slice A k c, .slice (some ⟨w.heap.size, 0, none⟩) 1 1]).run Try.prog (w.alloc (.cells (enC nr x) 45)) = .ok (.slice A' (k + 1) c') w' ∧
      w'.ownsRow B 45 42 (.slice A' (k + 1) c') (k + 1) (ensC nr (l ++ [x])) ∧ (w.alloc (.cells (enC nr x) 45)).grownBy w' (Value.slice A k c).ownBlock ∧
      ((Value.slice A' (k + 1) c').ownBlock = (Value.slice A k c).ownBlock ∨ (Value.slice A' (k + 1) c').ownBlock = some (w.heap.size + 1)) := by
  have hs := enC_size nr x
  have hall := enC_all nr x
  have ho := ensC_snoc nr l x
  generalize enC nr x = en at hs hall ho ⊢
  have hr : Rd (w.alloc (.cells en 45)) (w.heap.size + 1) (some ⟨w.heap.size, 0, none⟩) (1 * 42) (fun i => en.toList.getD i undef) := by
    refine .inr ⟨w.heap.size, 0, rfl, by omega, fun i hi => ?_⟩
    have hi2 : i < en.toList.length := by rw [Array.length_toList]; omega
    rw [Nat.zero_add, World.cell?_alloc_mark, ← Array.getElem?_toList, List.getElem?_eq_getElem hi2]
    simp [List.getElem?_eq_getElem hi2]
  obtain ⟨v', w', hrun, o, g, -, b⟩ := run_append (P := Try.prog) _ B 38 eE (hown.alloc _) 1 1 hr (fun i hi => by
    have hi2 : i < en.size := by omega
    have h := Array.all_eq_true.1 hall i hi2
    rw [show en.toList.getD i undef = en[i] by simp [hi2]]
    exact h) (by unfold maxLen; omega) (by omega) (by simp; omega) (fun e => by cases e)
  rw [show vals (1 * 42) (fun i => en.toList.getD i undef) = en.toList by
    apply List.ext_getElem?
    intro j
    rcases Nat.lt_or_ge j 42 with hj | hj
    · have hj2 : j < en.toList.length := by rw [Array.length_toList]; omega
      rw [vals_getElem? (by omega)]
      simp [List.getElem?_eq_getElem hj2]
    · rw [List.getElem?_eq_none (by rw [vals_length]; omega), List.getElem?_eq_none (by rw [Array.length_toList]; omega)], ho] at o
  obtain ⟨A', c', rfl, -⟩ := own_form o
  rw [World.size_alloc] at b
  exact ⟨A', c', w', hrun, o, g, b⟩
/-- Within the range: the boxes of the meter's pointer, of the span, of the rows, of the error; the rows told; the meter. -/
def PassI (w : World) (b2 b3 bo be b B1 : Nat) (nr : Int) (s : Stp) (m : M) (t' : Int) (d fl : Nat) (k : Nat) (W : World) : Prop :=
  Boxed W b2 35 (.pointer (some ⟨b, 0, none⟩)) ∧ W.heap[b3]? = some (.cells (spC t' d fl) 81 (0, 0)) ∧ W.heap[be]? = some (.cells #[.int .i64 0] 26 (0, 0)) ∧
    (∃ A c, W.heap[bo]? = some (.cells #[.slice A k c] 38 (0, 0)) ∧ W.ownsRow B1 45 42 (.slice A k c) k (ensC nr (passE s m t' d fl k))) ∧ MtB W b nr s (passM s m t' d k) ∧ Kept (fun x => x ≠ b) w W
section
variable {w W W' : World} {b2 b3 bo be b B1 : Nat} {nr : Int} {s : Stp} {m : M} {t' : Int} {d fl k : Nat}
theorem PassI.own {B₀ : Nat} (hB : w.heap.size ≤ B₀) : OwnW B₀ (PassI w b2 b3 bo be b B1 nr s m t' d fl k) :=
  (boxed_ownW _ _ _ _).and (block_ownW.and (block_ownW.and ((OwnW.ex fun A => OwnW.ex fun c => block_ownW.and own_ownW).and (block_ownW.and (kept_own hB)))))
theorem PassI.go (h : PassI w b2 b3 bo be b B1 nr s m t' d fl k W) (hb : Below W.heap.size W W') : PassI w b2 b3 bo be b B1 nr s m t' d fl k W' := by
  obtain ⟨h1, h2, h3, ⟨A, c, h4, h5⟩, h6, h7⟩ := h
  exact ⟨blk_below h1 hb, blk_below h2 hb, blk_below h3 hb, ⟨A, c, blk_below h4 hb, own_below h5 hb⟩, blk_below h6 hb, h7.next hb⟩
end
theorem keepsO_setRow {W : World} {g : Nat} {cs : Array Value} {t : TypeId} {fr : Nat × Nat} (h : W.heap[g]? = some (.cells cs t fr)) (cs' : Array Value) : KeepsOthers W (W.setRow g cs') :=
  keepsO_kept ((Kept.refl (fun x => x ≠ g) W).setRow (fun e => e rfl) cs') h
theorem own_isCells {w : World} {B : Nat} {e : TypeId} {size : Nat} {v : Value} {n : Nat} {xs : List Value} (h : w.ownsRow B e size v n xs) (j : Nat) (o : Obj) (hj : v.ownBlock = some j) (ho : w.heap[j]? = some o) : o.isCells = true := by
  rcases h.2 with ⟨rfl, _⟩ | ⟨g, cap, cur, rfl, _, hg, _⟩
  · cases hj
  · injection hj with hj
    subst hj
    rw [hg] at ho
    injection ho with ho
    subst ho
    rfl
theorem belowSetRow {B : Nat} {a w : World} (h : Below B a w) {g : Nat} (hg : B ≤ g) (cs : Array Value) : Below B a (w.setRow g cs) := h.trans ⟨rfl, rfl, rfl, by simp [World.setRow], fun k hk => setRow_other w g k cs (by omega)⟩
theorem own_keptM {w w' : World} {S : Nat → Prop} {base : Nat} {e : TypeId} {size : Nat} {v : Value} {n : Nat} {xs : List Value} (h : w.ownsRow base e size v n xs) (hk : Kept S w w') (hs : ∀ g, v.ownBlock = some g → S g) : w'.ownsRow base e size v n xs := by
  refine ⟨h.1, ?_⟩
  rcases h.2 with h | ⟨g, cap, cur, hv, hg, hh, r⟩
  · exact .inl h
  · exact .inr ⟨g, cap, cur, hv, hg, (hk.block g (Array.getElem?_eq_some_iff.1 hh).1 (hs g (by subst hv; simp [Value.ownBlock]))).trans hh, r⟩
theorem Kept.cut {S S' : Nat → Prop} {w A B : World} (h1 : Kept S w A) (h2 : Kept S' A B) (h : ∀ k, k < w.heap.size → S k → S' k) : Kept S w B :=
  ⟨h2.os.trans h1.os, h2.tape.trans h1.tape, h2.output.trans h1.output, Nat.le_trans h1.size h2.size, fun k hk hs => (h2.block k (by have := h1.size; omega) (h k hk hs)).trans (h1.block k hk hs)⟩
theorem grownKept {w w' : World} {row : Option Nat} (h : w.grownBy w' row) : Kept (fun b => some b ≠ row) w w' := ⟨h.os, h.tape, h.output, h.size, fun k hk hs => h.block k hk hs⟩
theorem own_lowerM {w : World} {B B' : Nat} {e : TypeId} {size : Nat} {v : Value} {n : Nat} {xs : List Value} (h : w.ownsRow B e size v n xs) (hb : B' ≤ B) : w.ownsRow B' e size v n xs := by
  refine ⟨h.1, ?_⟩
  rcases h.2 with h | ⟨g, cap, cur, hv, hg, r⟩
  · exact .inl h
  · exact .inr ⟨g, cap, cur, hv, Nat.le_trans hb hg, r⟩
theorem results_tmp45 {fn : Func} (hr : fn.results = #[.tmp 4, .tmp 5]) (tmps : Array Value) (P : Program) (W : World) : (results fn tmps).run P W = .ok (.tuple #[tmps.getD 4 undef, tmps.getD 5 undef]) W := by
  simp [results, hr, go_sem]
def zMt : Array Value := #[.int .i64 0, .int .u64 0, .int .u64 0, .int .u32 0, .int .i64 0, .int .i64 0, .bool false, .int .i64 0, .int .u32 0, .int .u64 0, .int .i64 0, .int .i64 0, .int .i64 0, .int .i64 0]
theorem zMt_size : zMt.size = 14 := by simp [zMt]

set_option maxRecDepth 100000 in
set_option maxHeartbeats 64000000 in
theorem pass_calls (w : World) (b : Nat) (nr : Int) (s : Stp) (m : M) (t' : Int) (d fl i : Nat) (hs : MayS s) (hok : Ok s m i) (hi : i ≤ 200) (hB : MtB w b nr s m) (hbg : m.bg = true) (ht : m.t ≤ t') (ht2 : t' < 253402300800) (hd : d < 4294967296) (hfl : fl < 16) (hsp : ¬ t' / s.len - m.o > 1000) :
    Calls Try.prog 35 #[.pointer (some ⟨b, 0, none⟩), .agg #[.int .i64 t', .int .u32 (d : Int), .int .i64 (fl : Int)]] w fun e w' => ∃ A c, e = .returned (.tuple #[.slice A (many s m t') c, .int .i64 0]) ∧
      w'.ownsRow w.heap.size 45 42 (.slice A (many s m t') c) (many s m t') (ensC nr (passE s m t' d (passF s m t' fl) (many s m t'))) ∧ MtB w' b nr s (passZ s m t' d fl) ∧ Kept (fun x => x ≠ b) w w' := by
  have hF := wide_fn
  have hl := hs.ok.len
  have hmo := many_o hl.1 hok ht
  have htt := hok.t
  have hko := hok.k
  have hfr := hok.fr
  have hcc := hok.c
  have h2 := eng_add s hs.ok m.c d hd
  have hll : (i : Int) * 9007199254740992 ≤ 200 * 9007199254740992 := Int.mul_le_mul_of_nonneg_right (by omega) (by omega)
  have hic : i * 4294967296 ≤ 200 * 4294967296 := Nat.mul_le_mul_right _ hi
  have hq0 : 0 ≤ t' / s.len := Int.ediv_nonneg (by omega) (by omega)
  have hq1 : t' / s.len ≤ t' := Int.ediv_le_self _ (by omega)
  have ho0 : 0 ≤ m.o := by
    rcases Int.lt_or_le m.o 0 with h | h
    · have h1 := Int.mul_le_mul_of_nonneg_right (show m.o + 1 ≤ 0 by omega) (show 0 ≤ s.len by omega)
      have := hok.o
      omega
    · exact h
  have hspan : t' - m.t < 4294967296 := by
    have h3 := Int.lt_ediv_add_one_mul_self t' (show 0 < s.len by omega)
    have h4 := Int.mul_le_mul_of_nonneg_right (show t' / s.len + 1 ≤ m.o + 1001 by omega) (show 0 ≤ s.len by omega)
    have h5 : (m.o + 1001) * s.len = m.o * s.len + 1001 * s.len := Int.add_mul _ _ _
    have := hok.o
    omega
  obtain ⟨q0, hq⟩ : ∃ q0, t' / s.len = q0 := ⟨_, rfl⟩
  have HQ := Lib.hid (show IntKind.i64.wrap (t'.tdiv s.len) = q0 by rw [Int.tdiv_eq_ediv_of_nonneg (by omega), hq]; exact wrapI_at _ (by omega))
  have Hz := Lib.hid (show ¬ s.len = 0 by omega)
  rw [hq] at hq0 hq1 hsp hmo
  have X1 := Lib.hid (wrapI_at (q0 - m.o) (by omega))
  have X2 := Lib.hid (show IntKind.u64.wrap ((m.c : Int) + (d : Int)) = ((m.c + d : Nat) : Int) by rw [IntKind.wrap_u64]; push_cast; omega)
  have U1 := Lib.hid (show IntKind.u64.wrap (d : Int) = (d : Int) by rw [IntKind.wrap_u64]; omega)
  have X3 := Lib.hid (wrapI_at (t' - m.t) (by omega))
  have hEr := energy_calls (m.c + d) s.num s.den (s.bound : Int) s.gap s.len (by omega)
  have he := enV_ok (m.c + d) s.num s.den s.gap s.len hs.may (by have := hko; have := h2; unfold eng at *; omega)
  rw [he] at hEr
  unfold setV at hEr
  obtain ⟨E, hE⟩ : ∃ E : Nat, (m.c + d) * s.num / s.den = E := ⟨_, rfl⟩
  rw [hE] at hEr
  have HE := Lib.hid hEr
  obtain ⟨gB, hgB⟩ : ∃ gB : Bool, decide (t' - m.t > s.gap) = gB := ⟨_, rfl⟩
  have HgB := Lib.hid hgB
  have HH := Lib.hid (And.intro hs (And.intro hok (And.intro hi (And.intro hbg (And.intro ht (And.intro ht2 (And.intro hd (And.intro hfl (And.intro hsp (And.intro hspan (And.intro hmo ho0)))))))))))
  have HB := Lib.hid hB
  -- the boxes
  obtain ⟨b2, hb2⟩ : ∃ b2, w.heap.size = b2 := ⟨_, rfl⟩
  obtain ⟨w1, hw1⟩ : ∃ w1, (w.alloc (.cells #[.pointer (some ⟨b, 0, none⟩)] 35)).alloc (.cells (spC t' d fl) 81) = w1 := ⟨_, rfl⟩
  have hst : Below w.heap.size w w1 := hw1 ▸ bnext (bstep w _) (bstep _ _)
  have hx2 : Boxed w1 b2 35 (.pointer (some ⟨b, 0, none⟩)) := by rw [← hb2, ← hw1]; exact blk_below (blk_new w _ _) (bstep _ _)
  have hx3 : w1.heap[b2 + 1]? = some (.cells (spC t' d fl) 81 (0, 0)) := by
    have := blk_new (w.alloc (.cells #[.pointer (some ⟨b, 0, none⟩)] 35)) (spC t' d fl) 81
    rw [hw1, World.size_alloc, hb2] at this
    exact this
  have hsz : w1.heap.size = b2 + 2 := by rw [← hw1, World.size_alloc, World.size_alloc, hb2]
  have H1 := Lib.hid (And.intro hst (And.intro hx2 (And.intro hx3 (And.intro (hB.go hst) (And.intro hb2 hsz)))))
  have HC := Lib.hid (show ∀ Y, Kept (fun x => x = b ∨ x = b2 ∨ x = b2 + 1) w1 Y → (Y.cell? ⟨b2, 0, none⟩ = some (.pointer (some ⟨b, 0, none⟩)) ∧ Y.cell? ⟨b2 + 1, 0, none⟩ = some (.int .i64 t') ∧ Y.cell? ⟨b2 + 1, 1, none⟩ = some (.int .u32 (d : Int)) ∧ Y.cell? ⟨b, 1, none⟩ = some (.int .u64 (s.num : Int)) ∧ Y.cell? ⟨b, 2, none⟩ = some (.int .u64 (s.den : Int)) ∧ Y.cell? ⟨b, 3, none⟩ = some (.int .u32 (s.bound : Int)) ∧ Y.cell? ⟨b, 4, none⟩ = some (.int .i64 s.gap) ∧ Y.cell? ⟨b, 5, none⟩ = some (.int .i64 s.len) ∧ Y.cell? ⟨b, 7, none⟩ = some (.int .i64 m.t) ∧ Y.cell? ⟨b, 9, none⟩ = some (.int .u64 (m.c : Int)) ∧ Y.cell? ⟨b, 10, none⟩ = some (.int .i64 m.o)) from fun Y hY => by
    obtain ⟨c0, c1, c2, c3, c4, c5, c6, c7, c8, c9, c10, c11, c12, c13⟩ := (H1.out.2.2.2.1.kept hY (.inl rfl)).cells
    have h3 := heap_kept hY H1.out.2.2.1 (.inr (.inr rfl))
    exact ⟨Boxed.cell (heap_kept hY H1.out.2.1 (.inr (.inl rfl))), blk_cell h3 0 rfl, blk_cell h3 1 rfl, c1, c2, c3, c4, c5, c7, c9, c10⟩)
  clear hs hok hi hB hbg ht ht2 hd hfl hsp hl hmo htt hko hfr hcc h2 hll hic hq0 hq1 ho0 hspan hq hEr he hE hgB hst hx2 hx3 hsz
  refine calls_of_marks Try.func35 rfl ?_
  simp only [Try.ntmps35, List.size_toArray, List.length_cons, List.length_nil, Nat.reduceAdd, Nat.reduceSub, Array.replicate_succ, Array.replicate_zero, List.push_toArray, List.append_toArray, List.nil_append, List.cons_append]
  have hspc : spC t' d fl = #[.int .i64 t', .int .u32 (d : Int), .int .i64 (fl : Int)] := rfl
  rw [hspc] at hw1
  gi_wp2_with (first | (refine wpIn_scope ?_) | (refine wpIn_label ?_))
  clear hw1 hb2
  refine wpIn_normal (wpIn_wide.2 ?_)
  refine wp_region_held_drew (S := (fun Y => Y.cell? ⟨b2, 0, none⟩ = some (.pointer (some ⟨b, 0, none⟩)) ∧ Y.cell? ⟨b2 + 1, 0, none⟩ = some (.int .i64 t') ∧ Y.cell? ⟨b2 + 1, 1, none⟩ = some (.int .u32 (d : Int)) ∧ Y.cell? ⟨b, 1, none⟩ = some (.int .u64 (s.num : Int)) ∧ Y.cell? ⟨b, 2, none⟩ = some (.int .u64 (s.den : Int)) ∧ Y.cell? ⟨b, 3, none⟩ = some (.int .u32 (s.bound : Int)) ∧ Y.cell? ⟨b, 4, none⟩ = some (.int .i64 s.gap) ∧ Y.cell? ⟨b, 5, none⟩ = some (.int .i64 s.len) ∧ Y.cell? ⟨b, 7, none⟩ = some (.int .i64 m.t) ∧ Y.cell? ⟨b, 9, none⟩ = some (.int .u64 (m.c : Int)) ∧ Y.cell? ⟨b, 10, none⟩ = some (.int .i64 m.o))) (by kernel_rfl) (HC.out _ (Kept.refl _ _).drew) (fun hHeld => ?_)
  refine wpAnyH_take (i := 0) (v := ?_) rfl (by kernel_rfl) (by kernel_rfl) (by kernel_rfl) (fun _ _ _ h => h) (Or.inl ⟨by kernel_rfl, ?_⟩) (by assumption) ?_
  rotate_left
  · intro w hSw; (try dsimp only at hSw); go_simp; try with_reducible rfl
  simp only [Act.put, List.getElem_toArray, List.getElem_cons_succ, List.getElem_cons_zero, List.setIfInBounds_toArray, List.set_cons_zero, List.set_cons_succ]
  refine wpAnyH_take (i := 1) (v := ?_) rfl (by kernel_rfl) (by kernel_rfl) (by kernel_rfl) (fun _ _ _ h => h) (Or.inl ⟨by kernel_rfl, ?_⟩) (by assumption) ?_
  rotate_left
  · intro w hSw; (try dsimp only at hSw); go_simp; try with_reducible rfl
  simp only [Act.put, List.getElem_toArray, List.getElem_cons_succ, List.getElem_cons_zero, List.setIfInBounds_toArray, List.set_cons_zero, List.set_cons_succ]
  refine wpAnyH_take (i := 2) (v := ?_) rfl (by kernel_rfl) (by kernel_rfl) (by kernel_rfl) (fun _ _ _ h => h) (Or.inl ⟨by kernel_rfl, ?_⟩) (by assumption) ?_
  rotate_left
  · intro w hSw; (try dsimp only at hSw); go_simp; try with_reducible rfl
  simp only [Act.put, List.getElem_toArray, List.getElem_cons_succ, List.getElem_cons_zero, List.setIfInBounds_toArray, List.set_cons_zero, List.set_cons_succ]
  refine wpAnyH_take (i := 3) (v := ?_) rfl (by kernel_rfl) (by kernel_rfl) (by kernel_rfl) (fun _ _ _ h => h) (Or.inl ⟨by kernel_rfl, ?_⟩) (by assumption) ?_
  rotate_left
  · intro w hSw; (try dsimp only at hSw); go_simp; try with_reducible rfl
  simp only [Act.put, List.getElem_toArray, List.getElem_cons_succ, List.getElem_cons_zero, List.setIfInBounds_toArray, List.set_cons_zero, List.set_cons_succ]
  refine wpAnyH_take (i := 4) (v := ?_) rfl (by kernel_rfl) (by kernel_rfl) (by kernel_rfl) (fun _ _ _ h => h) (Or.inl ⟨by kernel_rfl, ?_⟩) (by assumption) ?_
  rotate_left
  · intro w hSw; (try dsimp only at hSw); go_simp; try with_reducible rfl
  simp only [Act.put, List.getElem_toArray, List.getElem_cons_succ, List.getElem_cons_zero, List.setIfInBounds_toArray, List.set_cons_zero, List.set_cons_succ]
  refine wpAnyH_take (i := 5) (v := ?_) rfl (by kernel_rfl) (by kernel_rfl) (by kernel_rfl) (fun _ _ _ h => h) (Or.inl ⟨by kernel_rfl, ?_⟩) (by assumption) ?_
  rotate_left
  · intro w hSw; (try dsimp only at hSw); go_simp; try with_reducible rfl
  simp only [Act.put, List.getElem_toArray, List.getElem_cons_succ, List.getElem_cons_zero, List.setIfInBounds_toArray, List.set_cons_zero, List.set_cons_succ]
  refine wpAnyH_take (i := 6) (v := ?_) rfl (by kernel_rfl) (by kernel_rfl) (by kernel_rfl) (fun _ _ _ h => h) (Or.inl ⟨by kernel_rfl, ?_⟩) (by assumption) ?_
  rotate_left
  · intro w hSw; (try dsimp only at hSw); go_simp; try with_reducible rfl
  simp only [Act.put, List.getElem_toArray, List.getElem_cons_succ, List.getElem_cons_zero, List.setIfInBounds_toArray, List.set_cons_zero, List.set_cons_succ]
  refine wpAnyH_take (i := 7) (v := .int .i64 q0) rfl (by kernel_rfl) (by kernel_rfl) (by kernel_rfl) (fun _ _ _ h => h) (Or.inl ⟨by kernel_rfl, ?_⟩) (by assumption) ?_
  · intro w hSw; (try dsimp only at hSw)
    have hq := HQ.out; go_simp; exact Hz.out
  simp only [Act.put, List.getElem_toArray, List.getElem_cons_succ, List.getElem_cons_zero, List.setIfInBounds_toArray, List.set_cons_zero, List.set_cons_succ]
  refine wpAnyH_take (i := 8) (v := ?_) rfl (by kernel_rfl) (by kernel_rfl) (by kernel_rfl) (fun _ _ _ h => h) (Or.inl ⟨by kernel_rfl, ?_⟩) (by assumption) ?_
  rotate_left
  · intro w hSw; (try dsimp only at hSw); go_simp; try with_reducible rfl
  simp only [Act.put, List.getElem_toArray, List.getElem_cons_succ, List.getElem_cons_zero, List.setIfInBounds_toArray, List.set_cons_zero, List.set_cons_succ]
  refine wpAnyH_take (i := 9) (v := ?_) rfl (by kernel_rfl) (by kernel_rfl) (by kernel_rfl) (fun _ _ _ h => h) (Or.inl ⟨by kernel_rfl, ?_⟩) (by assumption) ?_
  rotate_left
  · intro w hSw; (try dsimp only at hSw); go_simp; try with_reducible rfl
  simp only [Act.put, List.getElem_toArray, List.getElem_cons_succ, List.getElem_cons_zero, List.setIfInBounds_toArray, List.set_cons_zero, List.set_cons_succ]
  refine wpAnyH_take (i := 10) (v := ?_) rfl (by kernel_rfl) (by kernel_rfl) (by kernel_rfl) (fun _ _ _ h => h) (Or.inl ⟨by kernel_rfl, ?_⟩) (by assumption) ?_
  rotate_left
  · intro w hSw; (try dsimp only at hSw); go_simp; try with_reducible rfl
  simp only [Act.put, List.getElem_toArray, List.getElem_cons_succ, List.getElem_cons_zero, List.setIfInBounds_toArray, List.set_cons_zero, List.set_cons_succ]
  refine wpAnyH_take (i := 11) (v := ?_) rfl (by kernel_rfl) (by kernel_rfl) (by kernel_rfl) (fun _ _ _ h => h) (Or.inl ⟨by kernel_rfl, ?_⟩) (by assumption) ?_
  rotate_left
  · intro w hSw; (try dsimp only at hSw); go_simp; try with_reducible rfl
  simp only [Act.put, List.getElem_toArray, List.getElem_cons_succ, List.getElem_cons_zero, List.setIfInBounds_toArray, List.set_cons_zero, List.set_cons_succ]
  refine wpAnyH_take (i := 12) (v := .int .i64 (q0 - m.o)) rfl (by kernel_rfl) (by kernel_rfl) (by kernel_rfl) (fun _ _ _ h => h) (Or.inl ⟨by kernel_rfl, ?_⟩) (by assumption) ?_
  · intro w hSw; (try dsimp only at hSw)
    have x1 := X1.out; go_simp
  simp only [Act.put, List.getElem_toArray, List.getElem_cons_succ, List.getElem_cons_zero, List.setIfInBounds_toArray, List.set_cons_zero, List.set_cons_succ]
  refine wpAnyH_take (i := 13) (v := .bool false) rfl (by kernel_rfl) (by kernel_rfl) (by kernel_rfl) (fun _ _ _ h => h) (Or.inl ⟨by kernel_rfl, ?_⟩) (by assumption) ?_
  · intro w hSw; (try dsimp only at hSw)
    have k1 : decide (q0 - m.o > 1000) = false := decide_eq_false (by have := HH.out.2.2.2.2.2.2.2.2.1; omega)
    go_simp
  simp only [Act.put, List.getElem_toArray, List.getElem_cons_succ, List.getElem_cons_zero, List.setIfInBounds_toArray, List.set_cons_zero, List.set_cons_succ]
  refine wpAnyH_done (by kernel_rfl) ?_ _
  simp only [normalOnly]
  gi_wp2_with (first | (refine wpIn_scope ?_) | (refine wpIn_label ?_))
  refine wpIn_normal (wpIn_wide.2 ?_)
  refine wp_region_held_drew (S := (fun Y => Y.cell? ⟨b2, 0, none⟩ = some (.pointer (some ⟨b, 0, none⟩)) ∧ Y.cell? ⟨b2 + 1, 0, none⟩ = some (.int .i64 t') ∧ Y.cell? ⟨b2 + 1, 1, none⟩ = some (.int .u32 (d : Int)) ∧ Y.cell? ⟨b, 1, none⟩ = some (.int .u64 (s.num : Int)) ∧ Y.cell? ⟨b, 2, none⟩ = some (.int .u64 (s.den : Int)) ∧ Y.cell? ⟨b, 3, none⟩ = some (.int .u32 (s.bound : Int)) ∧ Y.cell? ⟨b, 4, none⟩ = some (.int .i64 s.gap) ∧ Y.cell? ⟨b, 5, none⟩ = some (.int .i64 s.len) ∧ Y.cell? ⟨b, 7, none⟩ = some (.int .i64 m.t) ∧ Y.cell? ⟨b, 9, none⟩ = some (.int .u64 (m.c : Int)) ∧ Y.cell? ⟨b, 10, none⟩ = some (.int .i64 m.o))) (by kernel_rfl) (HC.out _ (Kept.refl _ _).drew.drew) (fun hHeld => ?_)
  refine wpAnyH_take (i := 0) (v := ?_) rfl (by kernel_rfl) (by kernel_rfl) (by kernel_rfl) (fun _ _ _ h => h) (Or.inl ⟨by kernel_rfl, ?_⟩) (by assumption) ?_
  rotate_left
  · intro w hSw; (try dsimp only at hSw); go_simp; try with_reducible rfl
  simp only [Act.put, List.getElem_toArray, List.getElem_cons_succ, List.getElem_cons_zero, List.setIfInBounds_toArray, List.set_cons_zero, List.set_cons_succ]
  refine wpAnyH_take (i := 1) (v := ?_) rfl (by kernel_rfl) (by kernel_rfl) (by kernel_rfl) (fun _ _ _ h => h) (Or.inl ⟨by kernel_rfl, ?_⟩) (by assumption) ?_
  rotate_left
  · intro w hSw; (try dsimp only at hSw); go_simp; try with_reducible rfl
  simp only [Act.put, List.getElem_toArray, List.getElem_cons_succ, List.getElem_cons_zero, List.setIfInBounds_toArray, List.set_cons_zero, List.set_cons_succ]
  refine wpAnyH_take (i := 2) (v := ?_) rfl (by kernel_rfl) (by kernel_rfl) (by kernel_rfl) (fun _ _ _ h => h) (Or.inl ⟨by kernel_rfl, ?_⟩) (by assumption) ?_
  rotate_left
  · intro w hSw; (try dsimp only at hSw); go_simp; try with_reducible rfl
  simp only [Act.put, List.getElem_toArray, List.getElem_cons_succ, List.getElem_cons_zero, List.setIfInBounds_toArray, List.set_cons_zero, List.set_cons_succ]
  refine wpAnyH_take (i := 3) (v := ?_) rfl (by kernel_rfl) (by kernel_rfl) (by kernel_rfl) (fun _ _ _ h => h) (Or.inl ⟨by kernel_rfl, ?_⟩) (by assumption) ?_
  rotate_left
  · intro w hSw; (try dsimp only at hSw); go_simp; try with_reducible rfl
  simp only [Act.put, List.getElem_toArray, List.getElem_cons_succ, List.getElem_cons_zero, List.setIfInBounds_toArray, List.set_cons_zero, List.set_cons_succ]
  refine wpAnyH_take (i := 4) (v := ?_) rfl (by kernel_rfl) (by kernel_rfl) (by kernel_rfl) (fun _ _ _ h => h) (Or.inl ⟨by kernel_rfl, ?_⟩) (by assumption) ?_
  rotate_left
  · intro w hSw; (try dsimp only at hSw); go_simp; try with_reducible rfl
  simp only [Act.put, List.getElem_toArray, List.getElem_cons_succ, List.getElem_cons_zero, List.setIfInBounds_toArray, List.set_cons_zero, List.set_cons_succ]
  refine wpAnyH_take (i := 5) (v := ?_) rfl (by kernel_rfl) (by kernel_rfl) (by kernel_rfl) (fun _ _ _ h => h) (Or.inl ⟨by kernel_rfl, ?_⟩) (by assumption) ?_
  rotate_left
  · intro w hSw; (try dsimp only at hSw); go_simp; try with_reducible rfl
  simp only [Act.put, List.getElem_toArray, List.getElem_cons_succ, List.getElem_cons_zero, List.setIfInBounds_toArray, List.set_cons_zero, List.set_cons_succ]
  refine wpAnyH_take (i := 6) (v := ?_) rfl (by kernel_rfl) (by kernel_rfl) (by kernel_rfl) (fun _ _ _ h => h) (Or.inl ⟨by kernel_rfl, ?_⟩) (by assumption) ?_
  rotate_left
  · intro w hSw; (try dsimp only at hSw); go_simp; try with_reducible rfl
  simp only [Act.put, List.getElem_toArray, List.getElem_cons_succ, List.getElem_cons_zero, List.setIfInBounds_toArray, List.set_cons_zero, List.set_cons_succ]
  refine wpAnyH_take (i := 7) (v := ?_) rfl (by kernel_rfl) (by kernel_rfl) (by kernel_rfl) (fun _ _ _ h => h) (Or.inl ⟨by kernel_rfl, ?_⟩) (by assumption) ?_
  rotate_left
  · intro w hSw; (try dsimp only at hSw); go_simp; try with_reducible rfl
  simp only [Act.put, List.getElem_toArray, List.getElem_cons_succ, List.getElem_cons_zero, List.setIfInBounds_toArray, List.set_cons_zero, List.set_cons_succ]
  refine wpAnyH_take (i := 8) (v := ?_) rfl (by kernel_rfl) (by kernel_rfl) (by kernel_rfl) (fun _ _ _ h => h) (Or.inl ⟨by kernel_rfl, ?_⟩) (by assumption) ?_
  rotate_left
  · intro w hSw; (try dsimp only at hSw); go_simp; try with_reducible rfl
  simp only [Act.put, List.getElem_toArray, List.getElem_cons_succ, List.getElem_cons_zero, List.setIfInBounds_toArray, List.set_cons_zero, List.set_cons_succ]
  refine wpAnyH_take (i := 9) (v := ?_) rfl (by kernel_rfl) (by kernel_rfl) (by kernel_rfl) (fun _ _ _ h => h) (Or.inl ⟨by kernel_rfl, ?_⟩) (by assumption) ?_
  rotate_left
  · intro w hSw; (try dsimp only at hSw); go_simp; try with_reducible rfl
  simp only [Act.put, List.getElem_toArray, List.getElem_cons_succ, List.getElem_cons_zero, List.setIfInBounds_toArray, List.set_cons_zero, List.set_cons_succ]
  refine wpAnyH_take (i := 10) (v := .int .u64 (d : Int)) rfl (by kernel_rfl) (by kernel_rfl) (by kernel_rfl) (fun _ _ _ h => h) (Or.inl ⟨by kernel_rfl, ?_⟩) (by assumption) ?_
  · intro w hSw; (try dsimp only at hSw)
    have u1 := U1.out; go_simp
  simp only [Act.put, List.getElem_toArray, List.getElem_cons_succ, List.getElem_cons_zero, List.setIfInBounds_toArray, List.set_cons_zero, List.set_cons_succ]
  refine wpAnyH_take (i := 11) (v := .int .u64 ((m.c + d : Nat) : Int)) rfl (by kernel_rfl) (by kernel_rfl) (by kernel_rfl) (fun _ _ _ h => h) (Or.inl ⟨by kernel_rfl, ?_⟩) (by assumption) ?_
  · intro w hSw; (try dsimp only at hSw)
    have x2 := X2.out; go_simp
  simp only [Act.put, List.getElem_toArray, List.getElem_cons_succ, List.getElem_cons_zero, List.setIfInBounds_toArray, List.set_cons_zero, List.set_cons_succ]
  refine wpAnyH_ready (rs := [12]) (by kernel_rfl) (by simp) ?_
  refine AllReadyH.cons rfl (fun K hK => ?_) AllReadyH.nil
  go_simp
  refine (HE.out w1.drew.drew).mono ?_
  rintro e w2 ⟨rfl, hb⟩
  have H2 := Lib.hid (bnext (bnext (Below.refl w1.heap.size w1).drew (Below.refl _ _).drew) hb)
  clear hb
  try go_wp2_with fail
  refine hK.out _ _ (HC.out _ (H2.out.keptS _)) (fun hHeld => ?_)
  clear hK K
  try simp only [Act.put, List.getElem_toArray, List.getElem_cons_succ, List.getElem_cons_zero, List.setIfInBounds_toArray, List.set_cons_zero, List.set_cons_succ]
  refine wpAnyH_take (i := 13) (v := ?_) rfl (by kernel_rfl) (by kernel_rfl) (by kernel_rfl) (fun _ _ _ h => h) (Or.inl ⟨by kernel_rfl, ?_⟩) (by assumption) ?_
  rotate_left
  · intro w hSw; (try dsimp only at hSw); go_simp; try with_reducible rfl
  simp only [Act.put, List.getElem_toArray, List.getElem_cons_succ, List.getElem_cons_zero, List.setIfInBounds_toArray, List.set_cons_zero, List.set_cons_succ]
  refine wpAnyH_take (i := 14) (v := ?_) rfl (by kernel_rfl) (by kernel_rfl) (by kernel_rfl) (fun _ _ _ h => h) (Or.inl ⟨by kernel_rfl, ?_⟩) (by assumption) ?_
  rotate_left
  · intro w hSw; (try dsimp only at hSw); go_simp; try with_reducible rfl
  simp only [Act.put, List.getElem_toArray, List.getElem_cons_succ, List.getElem_cons_zero, List.setIfInBounds_toArray, List.set_cons_zero, List.set_cons_succ]
  refine wpAnyH_take (i := 15) (v := ?_) rfl (by kernel_rfl) (by kernel_rfl) (by kernel_rfl) (fun _ _ _ h => h) (Or.inl ⟨by kernel_rfl, ?_⟩) (by assumption) ?_
  rotate_left
  · intro w hSw; (try dsimp only at hSw); go_simp; try with_reducible rfl
  simp only [Act.put, List.getElem_toArray, List.getElem_cons_succ, List.getElem_cons_zero, List.setIfInBounds_toArray, List.set_cons_zero, List.set_cons_succ]
  refine wpAnyH_take (i := 16) (v := ?_) rfl (by kernel_rfl) (by kernel_rfl) (by kernel_rfl) (fun _ _ _ h => h) (Or.inl ⟨by kernel_rfl, ?_⟩) (by assumption) ?_
  rotate_left
  · intro w hSw; (try dsimp only at hSw); go_simp; try with_reducible rfl
  simp only [Act.put, List.getElem_toArray, List.getElem_cons_succ, List.getElem_cons_zero, List.setIfInBounds_toArray, List.set_cons_zero, List.set_cons_succ]
  refine wpAnyH_take (i := 17) (v := ?_) rfl (by kernel_rfl) (by kernel_rfl) (by kernel_rfl) (fun _ _ _ h => h) (Or.inl ⟨by kernel_rfl, ?_⟩) (by assumption) ?_
  rotate_left
  · intro w hSw; (try dsimp only at hSw); go_simp; try with_reducible rfl
  simp only [Act.put, List.getElem_toArray, List.getElem_cons_succ, List.getElem_cons_zero, List.setIfInBounds_toArray, List.set_cons_zero, List.set_cons_succ]
  refine wpAnyH_done (by kernel_rfl) ?_ _
  simp only [normalOnly]
  gi_wp2_with (first | (refine wpIn_scope ?_) | (refine wpIn_label ?_))
  refine wpIn_normal (wpIn_wide.2 ?_)
  refine wp_region_held_drew (S := (fun Y => Y.cell? ⟨b2, 0, none⟩ = some (.pointer (some ⟨b, 0, none⟩)) ∧ Y.cell? ⟨b2 + 1, 0, none⟩ = some (.int .i64 t') ∧ Y.cell? ⟨b2 + 1, 1, none⟩ = some (.int .u32 (d : Int)) ∧ Y.cell? ⟨b, 1, none⟩ = some (.int .u64 (s.num : Int)) ∧ Y.cell? ⟨b, 2, none⟩ = some (.int .u64 (s.den : Int)) ∧ Y.cell? ⟨b, 3, none⟩ = some (.int .u32 (s.bound : Int)) ∧ Y.cell? ⟨b, 4, none⟩ = some (.int .i64 s.gap) ∧ Y.cell? ⟨b, 5, none⟩ = some (.int .i64 s.len) ∧ Y.cell? ⟨b, 7, none⟩ = some (.int .i64 m.t) ∧ Y.cell? ⟨b, 9, none⟩ = some (.int .u64 (m.c : Int)) ∧ Y.cell? ⟨b, 10, none⟩ = some (.int .i64 m.o))) (by kernel_rfl) (HC.out _ (H2.out.keptS _).drew) (fun hHeld => ?_)
  refine wpAnyH_take (i := 0) (v := ?_) rfl (by kernel_rfl) (by kernel_rfl) (by kernel_rfl) (fun _ _ _ h => h) (Or.inl ⟨by kernel_rfl, ?_⟩) (by assumption) ?_
  rotate_left
  · intro w hSw; (try dsimp only at hSw); go_simp; try with_reducible rfl
  simp only [Act.put, List.getElem_toArray, List.getElem_cons_succ, List.getElem_cons_zero, List.setIfInBounds_toArray, List.set_cons_zero, List.set_cons_succ]
  refine wpAnyH_take (i := 1) (v := ?_) rfl (by kernel_rfl) (by kernel_rfl) (by kernel_rfl) (fun _ _ _ h => h) (Or.inl ⟨by kernel_rfl, ?_⟩) (by assumption) ?_
  rotate_left
  · intro w hSw; (try dsimp only at hSw); go_simp; try with_reducible rfl
  simp only [Act.put, List.getElem_toArray, List.getElem_cons_succ, List.getElem_cons_zero, List.setIfInBounds_toArray, List.set_cons_zero, List.set_cons_succ]
  refine wpAnyH_take (i := 2) (v := ?_) rfl (by kernel_rfl) (by kernel_rfl) (by kernel_rfl) (fun _ _ _ h => h) (Or.inl ⟨by kernel_rfl, ?_⟩) (by assumption) ?_
  rotate_left
  · intro w hSw; (try dsimp only at hSw); go_simp; try with_reducible rfl
  simp only [Act.put, List.getElem_toArray, List.getElem_cons_succ, List.getElem_cons_zero, List.setIfInBounds_toArray, List.set_cons_zero, List.set_cons_succ]
  refine wpAnyH_take (i := 3) (v := ?_) rfl (by kernel_rfl) (by kernel_rfl) (by kernel_rfl) (fun _ _ _ h => h) (Or.inl ⟨by kernel_rfl, ?_⟩) (by assumption) ?_
  rotate_left
  · intro w hSw; (try dsimp only at hSw); go_simp; try with_reducible rfl
  simp only [Act.put, List.getElem_toArray, List.getElem_cons_succ, List.getElem_cons_zero, List.setIfInBounds_toArray, List.set_cons_zero, List.set_cons_succ]
  refine wpAnyH_take (i := 4) (v := ?_) rfl (by kernel_rfl) (by kernel_rfl) (by kernel_rfl) (fun _ _ _ h => h) (Or.inl ⟨by kernel_rfl, ?_⟩) (by assumption) ?_
  rotate_left
  · intro w hSw; (try dsimp only at hSw); go_simp; try with_reducible rfl
  simp only [Act.put, List.getElem_toArray, List.getElem_cons_succ, List.getElem_cons_zero, List.setIfInBounds_toArray, List.set_cons_zero, List.set_cons_succ]
  refine wpAnyH_take (i := 5) (v := ?_) rfl (by kernel_rfl) (by kernel_rfl) (by kernel_rfl) (fun _ _ _ h => h) (Or.inl ⟨by kernel_rfl, ?_⟩) (by assumption) ?_
  rotate_left
  · intro w hSw; (try dsimp only at hSw); go_simp; try with_reducible rfl
  simp only [Act.put, List.getElem_toArray, List.getElem_cons_succ, List.getElem_cons_zero, List.setIfInBounds_toArray, List.set_cons_zero, List.set_cons_succ]
  refine wpAnyH_take (i := 6) (v := (.int .i64 (t' - m.t))) rfl (by kernel_rfl) (by kernel_rfl) (by kernel_rfl) (fun _ _ _ h => h) (Or.inl ⟨by kernel_rfl, ?_⟩) (by assumption) ?_
  · intro w hSw; (try dsimp only at hSw)
    have x3 := X3.out; go_simp
  simp only [Act.put, List.getElem_toArray, List.getElem_cons_succ, List.getElem_cons_zero, List.setIfInBounds_toArray, List.set_cons_zero, List.set_cons_succ]
  refine wpAnyH_take (i := 7) (v := ?_) rfl (by kernel_rfl) (by kernel_rfl) (by kernel_rfl) (fun _ _ _ h => h) (Or.inl ⟨by kernel_rfl, ?_⟩) (by assumption) ?_
  rotate_left
  · intro w hSw; (try dsimp only at hSw); go_simp; try with_reducible rfl
  simp only [Act.put, List.getElem_toArray, List.getElem_cons_succ, List.getElem_cons_zero, List.setIfInBounds_toArray, List.set_cons_zero, List.set_cons_succ]
  refine wpAnyH_take (i := 8) (v := ?_) rfl (by kernel_rfl) (by kernel_rfl) (by kernel_rfl) (fun _ _ _ h => h) (Or.inl ⟨by kernel_rfl, ?_⟩) (by assumption) ?_
  rotate_left
  · intro w hSw; (try dsimp only at hSw); go_simp; try with_reducible rfl
  simp only [Act.put, List.getElem_toArray, List.getElem_cons_succ, List.getElem_cons_zero, List.setIfInBounds_toArray, List.set_cons_zero, List.set_cons_succ]
  refine wpAnyH_take (i := 9) (v := ?_) rfl (by kernel_rfl) (by kernel_rfl) (by kernel_rfl) (fun _ _ _ h => h) (Or.inl ⟨by kernel_rfl, ?_⟩) (by assumption) ?_
  rotate_left
  · intro w hSw; (try dsimp only at hSw); go_simp; try with_reducible rfl
  simp only [Act.put, List.getElem_toArray, List.getElem_cons_succ, List.getElem_cons_zero, List.setIfInBounds_toArray, List.set_cons_zero, List.set_cons_succ]
  refine wpAnyH_take (i := 10) (v := ?_) rfl (by kernel_rfl) (by kernel_rfl) (by kernel_rfl) (fun _ _ _ h => h) (Or.inl ⟨by kernel_rfl, ?_⟩) (by assumption) ?_
  rotate_left
  · intro w hSw; (try dsimp only at hSw); go_simp; try with_reducible rfl
  simp only [Act.put, List.getElem_toArray, List.getElem_cons_succ, List.getElem_cons_zero, List.setIfInBounds_toArray, List.set_cons_zero, List.set_cons_succ]
  refine wpAnyH_take (i := 11) (v := ?_) rfl (by kernel_rfl) (by kernel_rfl) (by kernel_rfl) (fun _ _ _ h => h) (Or.inl ⟨by kernel_rfl, ?_⟩) (by assumption) ?_
  rotate_left
  · intro w hSw; (try dsimp only at hSw); go_simp; try with_reducible rfl
  simp only [Act.put, List.getElem_toArray, List.getElem_cons_succ, List.getElem_cons_zero, List.setIfInBounds_toArray, List.set_cons_zero, List.set_cons_succ]
  refine wpAnyH_take (i := 12) (v := .bool gB) rfl (by kernel_rfl) (by kernel_rfl) (by kernel_rfl) (fun _ _ _ h => h) (Or.inl ⟨by kernel_rfl, ?_⟩) (by assumption) ?_
  · intro w hSw; (try dsimp only at hSw)
    have hg := HgB.out; go_simp
  simp only [Act.put, List.getElem_toArray, List.getElem_cons_succ, List.getElem_cons_zero, List.setIfInBounds_toArray, List.set_cons_zero, List.set_cons_succ]
  refine wpAnyH_done (by kernel_rfl) ?_ _
  simp only [normalOnly]
  obtain ⟨F, hF2⟩ : ∃ F, passF s m t' fl = F := ⟨_, rfl⟩
  have HF := Lib.hid (show passF s m t' fl = F ∧ F < 16 from ⟨hF2, by rw [← hF2]; unfold passF; have := HH.out.2.2.2.2.2.2.2.1; split; exact or16 this (by omega); exact this⟩)
  clear hHeld hF2
  gi_upto_if 59 with fail
  gi_cut [3] from 60 (fun s3 wx => s3 = .pointer (some ⟨b2 + 1, 0, none⟩) ∧ wx.heap[b2 + 1]? = some (.cells (spC t' d F) 81 (0, 0)) ∧ Kept (fun x => x ≠ b2 + 1) w2 wx)
  case first =>
    have hx3 := blk_below (blk_below H1.out.2.2.1 H2.out) (Below.refl w2.heap.size w2).drew
    have d2 : w2.drew.cell? ⟨b2 + 1, 2, none⟩ = some (.int .i64 (fl : Int)) := blk_cell hx3 2 rfl
    have f2 := blk_frozen hx3 2
    cases gB with
    | true =>
      have hg := of_decide_eq_true HgB.out
      have hFe : passF s m t' fl = fl ||| 2 := if_pos hg
      have X4 := i64_or_nat fl 2 (by have := HH.out.2.2.2.2.2.2.2.1; omega) (by omega)
      rw [← hFe, HF.out.1] at X4
      have X4' : bits .or .i64 (fl : Int) 2 = (F : Int) := X4
      have Hx3 := Lib.hid hx3
      clear hx3 hg hFe X4
      gi_wp2_with (first | (refine wpIn_scope ?_) | (refine wpIn_label ?_))
      gi_meet
      refine ⟨rfl, ?_, ((Kept.refl _ w2).drew).setCell (fun hh => hh rfl) _⟩
      exact bset Hx3.out (i := 2) (.int .i64 (F : Int))
    | false =>
      have hg := of_decide_eq_false HgB.out
      have hFe : passF s m t' fl = fl := if_neg hg
      have Hx3 := Lib.hid hx3
      have HFe := Lib.hid (hFe.symm.trans HF.out.1)
      clear hx3 hg hFe
      gi_wp2_with (first | (refine wpIn_scope ?_) | (refine wpIn_label ?_))
      gi_meet
      refine ⟨rfl, ?_, (Kept.refl _ w2).drew⟩
      rw [← HFe.out]
      exact Hx3.out
  case rest =>
    obtain ⟨rfl, hx3, hkc⟩ := hcut
    have hx2 : Boxed wc b2 35 (.pointer (some ⟨b, 0, none⟩)) := heap_kept hkc (blk_below H1.out.2.1 H2.out) (by omega)
    have hbl := HB.out.lt
    have hMc : MtB wc b nr s m := heap_kept hkc (blk_below H1.out.2.2.2.1 H2.out) (by have := H1.out.2.2.2.2.1; omega)
    obtain ⟨bo, hbo⟩ : ∃ bo, wc.heap.size = bo := ⟨_, rfl⟩
    obtain ⟨w3, hw3⟩ : ∃ w3, wc.alloc (.cells #[.slice none 0 0] 38) = w3 := ⟨_, rfl⟩
    have hst3 : Below wc.heap.size wc w3 := hw3 ▸ bstep wc _
    have hro : w3.heap[bo]? = some (.cells #[.slice none 0 0] 38 (0, 0)) := by rw [← hbo, ← hw3]; exact blk_new wc _ _
    have hs3 : w3.heap.size = bo + 1 := by rw [← hw3, World.size_alloc, hbo]
    have hk3 : Kept (fun x => x ≠ b2 + 1) w1 w3 := ((H2.out.keptS _).trans hkc).trans (hst3.keptS _)
    have H3 := Lib.hid (And.intro (blk_below hx2 hst3) (And.intro (blk_below hx3 hst3) (And.intro (blk_below hMc hst3) (And.intro hro (And.intro hs3 (And.intro hk3 (And.intro hbo (And.intro hst3.size (hbo ▸ Nat.le_trans H2.out.size hkc.size : w1.heap.size ≤ bo)))))))))
    clear hx2 hx3 hbl hMc hst3 hro hs3 hk3 hkc HE HC X1 X2 U1 X3 HQ
    gi_upto_region 9 with fail
    clear hw3 hbo
    gi_cut [9, 10] from 64 (fun s9 s10 wx => ∃ be wb : Nat, s9 = .pointer (some ⟨be, 0, none⟩) ∧ s10 = .pointer (some ⟨wb, 0, none⟩) ∧ wx.heap[be]? = some (.cells #[.int .i64 0] 26 (0, 0)) ∧ MtB wx wb nr s m ∧ Below w3.heap.size w3 wx ∧ w3.heap.size ≤ be ∧ w3.heap.size ≤ wb ∧ be ≠ wb)
    case first =>
      refine wpIn_normal (wpIn_wide.2 ?_)
      refine wp_region_held_drew (S := (fun Y => Y.cell? ⟨b2, 0, none⟩ = some (.pointer (some ⟨b, 0, none⟩)) ∧ MtB Y b nr s m)) (by kernel_rfl) ⟨Boxed.cell (blk_below H3.out.1 (Below.refl _ w3).drew), blk_below H3.out.2.2.1 (Below.refl _ w3).drew⟩ (fun hHeld => ?_)
      refine wpAnyH_take (i := 0) (v := ?_) rfl (by kernel_rfl) (by kernel_rfl) (by kernel_rfl) (fun _ _ _ h => h) (Or.inl ⟨by kernel_rfl, ?_⟩) (by assumption) ?_
      rotate_left
      · intro w hSw; (try dsimp only at hSw); go_simp; try with_reducible rfl
      simp only [Act.put, List.getElem_toArray, List.getElem_cons_succ, List.getElem_cons_zero, List.setIfInBounds_toArray, List.set_cons_zero, List.set_cons_succ]
      refine wpAnyH_take (i := 1) (v := ?_) rfl (by kernel_rfl) (by kernel_rfl) (by kernel_rfl) (fun _ _ _ h => h) (Or.inl ⟨by kernel_rfl, ?_⟩) (by assumption) ?_
      rotate_left
      · intro w hSw; (try dsimp only at hSw); go_simp; try with_reducible rfl
      simp only [Act.put, List.getElem_toArray, List.getElem_cons_succ, List.getElem_cons_zero, List.setIfInBounds_toArray, List.set_cons_zero, List.set_cons_succ]
      refine wpAnyH_take (i := 2) (v := (.agg (mtC nr s m))) rfl (by kernel_rfl) (by kernel_rfl) (by kernel_rfl) (fun _ _ _ h => h) (Or.inl ⟨by kernel_rfl, ?_⟩) (by assumption) ?_
      · intro w hSw; (try dsimp only at hSw)
        obtain ⟨c0, c1, c2, c3, c4, c5, c6, c7, c8, c9, c10, c11, c12, c13⟩ := hSw.2.cells
        go_simp
        try rfl
      simp only [Act.put, List.getElem_toArray, List.getElem_cons_succ, List.getElem_cons_zero, List.setIfInBounds_toArray, List.set_cons_zero, List.set_cons_succ]
      refine wpAnyH_ready (rs := [3, 4]) (by kernel_rfl) (by simp) ?_
      refine (AllReadyH.cons rfl (fun K hK => ?_) (AllReadyH.cons rfl (fun K hK => ?_) AllReadyH.nil))
      ·
        obtain ⟨z1, hz1⟩ : ∃ z, w3.heap.size = z := ⟨_, rfl⟩
        obtain ⟨x1, hx1⟩ : ∃ x, w3.alloc (.cells #[.int .i64 0] 26) = x := ⟨_, rfl⟩
        have hb1 : Below w3.heap.size w3 x1 := hx1 ▸ bstep w3 _
        have hn1 : x1.heap[z1]? = some (.cells #[.int .i64 0] 26 (0, 0)) := by rw [← hz1, ← hx1]; exact blk_new w3 _ _
        have HX1 := Lib.hid (And.intro hb1 (And.intro hn1 hz1))
        clear hb1 hn1
        go_simp
        clear hx1 hz1
        refine hK.out _ _ ⟨Boxed.cell (blk_below H3.out.1 (bnext HX1.out.1 (Below.refl _ x1).drew)), blk_below H3.out.2.2.1 (bnext HX1.out.1 (Below.refl _ x1).drew)⟩ (fun hHeld => ?_)
        clear hK K
        try simp only [Act.put, List.getElem_toArray, List.getElem_cons_succ, List.getElem_cons_zero, List.setIfInBounds_toArray, List.set_cons_zero, List.set_cons_succ]
        obtain ⟨z2, hz2⟩ : ∃ z, x1.heap.size = z := ⟨_, rfl⟩
        obtain ⟨x2, hx2⟩ : ∃ x, x1.alloc (.cells #[.int .i64 0, .int .u64 0, .int .u64 0, .int .u32 0, .int .i64 0, .int .i64 0, .bool false, .int .i64 0, .int .u32 0, .int .u64 0, .int .i64 0, .int .i64 0, .int .i64 0, .int .i64 0] 72) = x := ⟨_, rfl⟩
        have hb2 : Below x1.heap.size x1 x2 := hx2 ▸ bstep x1 _
        have hn2 : x2.heap[z2]? = some (.cells zMt 72 (0, 0)) := by rw [← hz2, ← hx2]; exact blk_new x1 _ _
        have HX2 := Lib.hid (And.intro hb2 (And.intro hn2 hz2))
        have hsx := HX1.out.1.size
        have hl1 := blk_lt HX1.out.2.1
        have hb12 := bnext HX1.out.1 HX2.out.1
        clear hb2 hn2
        refine wpAnyH_ready (rs := [4]) (by kernel_rfl) (by simp) ?_
        refine AllReadyH.cons rfl (fun K hK => ?_) AllReadyH.nil
        go_simp
        clear hx2 hz2
        refine hK.out _ _ ⟨Boxed.cell (blk_below H3.out.1 (bnext (bnext HX1.out.1 HX2.out.1) (Below.refl _ x2).drew)), blk_below H3.out.2.2.1 (bnext (bnext HX1.out.1 HX2.out.1) (Below.refl _ x2).drew)⟩ (fun hHeld => ?_)
        clear hK K
        try simp only [Act.put, List.getElem_toArray, List.getElem_cons_succ, List.getElem_cons_zero, List.setIfInBounds_toArray, List.set_cons_zero, List.set_cons_succ]
        have hE2 : x2.drew.heap[z1]? = some (.cells #[.int .i64 0] 26 (0, 0)) := by show x2.heap[z1]? = _; exact (blk_below HX1.out.2.1 HX2.out.1)
        have hM2 : x2.drew.heap[z2]? = some (.cells zMt 72 (0, 0)) := by show x2.heap[z2]? = _; exact HX2.out.2.1
        have q1 := blk_cell hE2 0 rfl
        have q2 := blk_frozen hE2 0
        have hne : z1 ≠ z2 := by have := HX1.out.2.2; have := HX2.out.2.2; omega
        have hge : w3.heap.size ≤ z1 ∧ w3.heap.size ≤ z2 := by have := HX1.out.2.2; have := HX2.out.2.2; omega
        have hM3 : (x2.drew.setCell ⟨z1, 0, none⟩ (.int .i64 0)).heap[z2]? = some (.cells zMt 72 (0, 0)) := (Below.heap_setCell _ _ _ _ (fun e => hne e.symm)).trans hM2
        have HX3 := Lib.hid (And.intro hE2 (And.intro hM3 (And.intro hne hge)))
        have hbS : Below w3.heap.size w3 (x2.drew.setCell ⟨z1, 0, none⟩ (.int .i64 0)) := ((bnext HX1.out.1 HX2.out.1).trans ((Below.refl _ x2).drew.mono (bnext HX1.out.1 HX2.out.1).size)).setCell (p := ⟨z1, 0, none⟩) hge.1 _
        have hbR : Below w3.heap.size w3 ((x2.drew.setCell ⟨z1, 0, none⟩ (.int .i64 0)).setRow z2 (mtC nr s m)) := belowSetRow hbS hge.2 _
        have HBB := Lib.hid (And.intro hbS hbR)
        clear hE2 hM2 hM3 hge hbS hbR
        refine wpAnyH_ready (rs := [5]) (by kernel_rfl) (by simp) ?_
        refine AllReadyH.cons rfl (fun K hK => ?_) AllReadyH.nil
        go_simp
        clear q1 q2
        refine hK.out _ _ ⟨Boxed.cell (blk_below H3.out.1 HBB.out.1), blk_below H3.out.2.2.1 HBB.out.1⟩ (fun hHeld => ?_)
        clear hK K
        try simp only [Act.put, List.getElem_toArray, List.getElem_cons_succ, List.getElem_cons_zero, List.setIfInBounds_toArray, List.set_cons_zero, List.set_cons_succ]
        refine wpAnyH_ready (rs := [6]) (by kernel_rfl) (by simp) ?_
        refine AllReadyH.cons rfl (fun K hK => ?_) AllReadyH.nil
        rw [if_pos (by kernel_rfl)]
        simp only [List.getElem_toArray, List.getElem_cons_succ, List.getElem_cons_zero]
        refine wp_store_row 72 (.tmp 10) (.tmp 66) ?_ z2 (mtC nr s m) ?_ ?_ 72 zMt ?_ ?_ ?_ ?_ ?_
        · rfl
        · rfl
        · rfl
        · exact HX3.out.2.1
        · rw [mtC_size]; exact eMtS
        · rw [mtC_size]; exact zMt_size
        · exact mtC_all _ _ _
        refine hK.out _ _ ⟨Boxed.cell (blk_below H3.out.1 HBB.out.2), blk_below H3.out.2.2.1 HBB.out.2⟩ (fun hHeld => ?_)
        clear hK K
        try simp only [Act.put, List.getElem_toArray, List.getElem_cons_succ, List.getElem_cons_zero, List.setIfInBounds_toArray, List.set_cons_zero, List.set_cons_succ]
        refine wpAnyH_done (by kernel_rfl) ?_ _
        simp only [normalOnly]
        gi_wp2_with (first | (refine wpIn_scope ?_) | (refine wpIn_label ?_))
        gi_meet
        exact ⟨z1, z2, rfl, rfl, (setRow_other _ _ _ _ HX3.out.2.2.1).trans (bset HX3.out.1 (i := 0) (.int .i64 0)), setRow_heap _ _ _ _ _ _ HX3.out.2.1, HBB.out.2, HX3.out.2.2.2.1, HX3.out.2.2.2.2, HX3.out.2.2.1⟩
      ·
        obtain ⟨z1, hz1⟩ : ∃ z, w3.heap.size = z := ⟨_, rfl⟩
        obtain ⟨x1, hx1⟩ : ∃ x, w3.alloc (.cells #[.int .i64 0, .int .u64 0, .int .u64 0, .int .u32 0, .int .i64 0, .int .i64 0, .bool false, .int .i64 0, .int .u32 0, .int .u64 0, .int .i64 0, .int .i64 0, .int .i64 0, .int .i64 0] 72) = x := ⟨_, rfl⟩
        have hb1 : Below w3.heap.size w3 x1 := hx1 ▸ bstep w3 _
        have hn1 : x1.heap[z1]? = some (.cells zMt 72 (0, 0)) := by rw [← hz1, ← hx1]; exact blk_new w3 _ _
        have HX1 := Lib.hid (And.intro hb1 (And.intro hn1 hz1))
        clear hb1 hn1
        go_simp
        clear hx1 hz1
        refine hK.out _ _ ⟨Boxed.cell (blk_below H3.out.1 (bnext HX1.out.1 (Below.refl _ x1).drew)), blk_below H3.out.2.2.1 (bnext HX1.out.1 (Below.refl _ x1).drew)⟩ (fun hHeld => ?_)
        clear hK K
        try simp only [Act.put, List.getElem_toArray, List.getElem_cons_succ, List.getElem_cons_zero, List.setIfInBounds_toArray, List.set_cons_zero, List.set_cons_succ]
        obtain ⟨z2, hz2⟩ : ∃ z, x1.heap.size = z := ⟨_, rfl⟩
        obtain ⟨x2, hx2⟩ : ∃ x, x1.alloc (.cells #[.int .i64 0] 26) = x := ⟨_, rfl⟩
        have hb2 : Below x1.heap.size x1 x2 := hx2 ▸ bstep x1 _
        have hn2 : x2.heap[z2]? = some (.cells #[.int .i64 0] 26 (0, 0)) := by rw [← hz2, ← hx2]; exact blk_new x1 _ _
        have HX2 := Lib.hid (And.intro hb2 (And.intro hn2 hz2))
        have hsx := HX1.out.1.size
        have hl1 := blk_lt HX1.out.2.1
        have hb12 := bnext HX1.out.1 HX2.out.1
        clear hb2 hn2
        refine wpAnyH_ready (rs := [3]) (by kernel_rfl) (by simp) ?_
        refine AllReadyH.cons rfl (fun K hK => ?_) AllReadyH.nil
        go_simp
        clear hx2 hz2
        refine hK.out _ _ ⟨Boxed.cell (blk_below H3.out.1 (bnext (bnext HX1.out.1 HX2.out.1) (Below.refl _ x2).drew)), blk_below H3.out.2.2.1 (bnext (bnext HX1.out.1 HX2.out.1) (Below.refl _ x2).drew)⟩ (fun hHeld => ?_)
        clear hK K
        try simp only [Act.put, List.getElem_toArray, List.getElem_cons_succ, List.getElem_cons_zero, List.setIfInBounds_toArray, List.set_cons_zero, List.set_cons_succ]
        have hE2 : x2.drew.heap[z2]? = some (.cells #[.int .i64 0] 26 (0, 0)) := by show x2.heap[z2]? = _; exact HX2.out.2.1
        have hM2 : x2.drew.heap[z1]? = some (.cells zMt 72 (0, 0)) := by show x2.heap[z1]? = _; exact (blk_below HX1.out.2.1 HX2.out.1)
        have q1 := blk_cell hE2 0 rfl
        have q2 := blk_frozen hE2 0
        have hne : z2 ≠ z1 := by have := HX1.out.2.2; have := HX2.out.2.2; omega
        have hge : w3.heap.size ≤ z2 ∧ w3.heap.size ≤ z1 := by have := HX1.out.2.2; have := HX2.out.2.2; omega
        have hM3 : (x2.drew.setCell ⟨z2, 0, none⟩ (.int .i64 0)).heap[z1]? = some (.cells zMt 72 (0, 0)) := (Below.heap_setCell _ _ _ _ (fun e => hne e.symm)).trans hM2
        have HX3 := Lib.hid (And.intro hE2 (And.intro hM3 (And.intro hne hge)))
        have hbS : Below w3.heap.size w3 (x2.drew.setCell ⟨z2, 0, none⟩ (.int .i64 0)) := ((bnext HX1.out.1 HX2.out.1).trans ((Below.refl _ x2).drew.mono (bnext HX1.out.1 HX2.out.1).size)).setCell (p := ⟨z2, 0, none⟩) hge.1 _
        have hbR : Below w3.heap.size w3 ((x2.drew.setCell ⟨z2, 0, none⟩ (.int .i64 0)).setRow z1 (mtC nr s m)) := belowSetRow hbS hge.2 _
        have HBB := Lib.hid (And.intro hbS hbR)
        clear hE2 hM2 hM3 hge hbS hbR
        refine wpAnyH_ready (rs := [5]) (by kernel_rfl) (by simp) ?_
        refine AllReadyH.cons rfl (fun K hK => ?_) AllReadyH.nil
        go_simp
        clear q1 q2
        refine hK.out _ _ ⟨Boxed.cell (blk_below H3.out.1 HBB.out.1), blk_below H3.out.2.2.1 HBB.out.1⟩ (fun hHeld => ?_)
        clear hK K
        try simp only [Act.put, List.getElem_toArray, List.getElem_cons_succ, List.getElem_cons_zero, List.setIfInBounds_toArray, List.set_cons_zero, List.set_cons_succ]
        refine wpAnyH_ready (rs := [6]) (by kernel_rfl) (by simp) ?_
        refine AllReadyH.cons rfl (fun K hK => ?_) AllReadyH.nil
        rw [if_pos (by kernel_rfl)]
        simp only [List.getElem_toArray, List.getElem_cons_succ, List.getElem_cons_zero]
        refine wp_store_row 72 (.tmp 10) (.tmp 66) ?_ z1 (mtC nr s m) ?_ ?_ 72 zMt ?_ ?_ ?_ ?_ ?_
        · rfl
        · rfl
        · rfl
        · exact HX3.out.2.1
        · rw [mtC_size]; exact eMtS
        · rw [mtC_size]; exact zMt_size
        · exact mtC_all _ _ _
        refine hK.out _ _ ⟨Boxed.cell (blk_below H3.out.1 HBB.out.2), blk_below H3.out.2.2.1 HBB.out.2⟩ (fun hHeld => ?_)
        clear hK K
        try simp only [Act.put, List.getElem_toArray, List.getElem_cons_succ, List.getElem_cons_zero, List.setIfInBounds_toArray, List.set_cons_zero, List.set_cons_succ]
        refine wpAnyH_done (by kernel_rfl) ?_ _
        simp only [normalOnly]
        gi_wp2_with (first | (refine wpIn_scope ?_) | (refine wpIn_label ?_))
        gi_meet
        exact ⟨z2, z1, rfl, rfl, (setRow_other _ _ _ _ HX3.out.2.2.1).trans (bset HX3.out.1 (i := 0) (.int .i64 0)), setRow_heap _ _ _ _ _ _ HX3.out.2.1, HBB.out.2, HX3.out.2.2.2.1, HX3.out.2.2.2.2, HX3.out.2.2.1⟩
    case rest =>
      obtain ⟨be, wb, rfl, rfl, hbe, hwb, hbx, hbe1, hwb1, hne⟩ := hcut
      have hx2 := blk_below H3.out.1 hbx
      have hx3 := blk_below H3.out.2.1 hbx
      have hMx := blk_below H3.out.2.2.1 hbx
      have hox := blk_below H3.out.2.2.2.1 hbx
      have e0 : wc.cell? ⟨b2 + 1, 0, none⟩ = some (.int .i64 t') := blk_cell hx3 0 rfl
      have e1 : wc.cell? ⟨b2 + 1, 1, none⟩ = some (.int .u32 (d : Int)) := blk_cell hx3 1 rfl
      have e2 : wc.cell? ⟨b2 + 1, 2, none⟩ = some (.int .i64 (F : Int)) := blk_cell hx3 2 rfl
      have hsz0 : w.heap.size = b2 ∧ w1.heap.size = b2 + 2 ∧ w3.heap.size = bo + 1 ∧ w1.heap.size ≤ bo ∧ b < b2 := by
        have a1 := H1.out.2.2.2.2
        have a2 := H3.out.2.2.2.2.1
        have a5 := H3.out.2.2.2.2.2.2.2.2
        have a4 := HB.out.lt
        exact ⟨a1.1, a1.2, a2, a5, by omega⟩
      have H4 := Lib.hid (And.intro hx2 (And.intro hx3 (And.intro hMx (And.intro hox (And.intro hbe (And.intro hwb (And.intro hbx (And.intro hbe1 (And.intro hwb1 (And.intro hne hsz0))))))))))
      clear hx2 hx3 hMx hox hbe hwb hbx hbe1 hwb1 hne hsz0
      gi_wp2_with (first | (refine wpIn_scope ?_) | (refine wpIn_label ?_))
      refine (callsIn_wide.2 (ends_calls wc wb t' d F)).mono ?_
      rintro e w4 ⟨rfl, rfl⟩
      obtain ⟨b4, hb4⟩ : ∃ b4, wc.heap.size = b4 := ⟨_, rfl⟩
      obtain ⟨w5, hw5⟩ : ∃ w5, (wc.alloc (.cells #[.pointer (some ⟨wb, 0, none⟩)] 35)).alloc (.cells (spC t' d F) 81) = w5 := ⟨_, rfl⟩
      have hst : Below wc.heap.size wc w5 := hw5 ▸ bnext (bstep wc _) (bstep _ _)
      have hy2 : Boxed w5 b4 35 (.pointer (some ⟨wb, 0, none⟩)) := by rw [← hb4, ← hw5]; exact blk_below (blk_new wc _ _) (bstep _ _)
      have hy3 : w5.heap[b4 + 1]? = some (.cells (spC t' d F) 81 (0, 0)) := by
        have := blk_new (wc.alloc (.cells #[.pointer (some ⟨wb, 0, none⟩)] 35)) (spC t' d F) 81
        rw [hw5, World.size_alloc, hb4] at this
        exact this
      have hs5 : w5.heap.size = b4 + 2 := by rw [← hw5, World.size_alloc, World.size_alloc, hb4]
      rw [hw5, hb4]
      have hHold : HoldE b4 (b4 + 1) wb nr s m t' d F w5 := ⟨hy2, hy3, H4.out.2.2.2.2.2.1.go hst⟩
      have hI0 : PassI w b2 (b2 + 1) bo be b w5.heap.size nr s m t' d F 0 w5 := by
        refine ⟨blk_below H4.out.1 hst, blk_below H4.out.2.1 hst, blk_below H4.out.2.2.2.2.1 hst, ⟨none, 0, blk_below H4.out.2.2.2.1 hst, World.ownsRow_nil _ _ _ _⟩, blk_below H4.out.2.2.1 hst, ?_⟩
        have k1 : Kept (fun x => x ≠ b) w w1 := H1.out.1.keptS _
        have k2 : Kept (fun x => x ≠ b2 + 1) w1 w3 := H3.out.2.2.2.2.2.1
        refine ⟨?_, ?_, ?_, ?_, fun q hq hqb => ?_⟩
        · exact hst.os.trans (H4.out.2.2.2.2.2.2.1.os.trans (k2.os.trans k1.os))
        · exact hst.tape.trans (H4.out.2.2.2.2.2.2.1.tape.trans (k2.tape.trans k1.tape))
        · exact hst.output.trans (H4.out.2.2.2.2.2.2.1.output.trans (k2.output.trans k1.output))
        · have := hst.size; have := H4.out.2.2.2.2.2.2.1.size; have := k2.size; have := k1.size; omega
        · have a1 := k1.size; have a2 := k2.size; have a3 := H4.out.2.2.2.2.2.2.1.size
          have a4 := H4.out.2.2.2.2.2.2.2.2.2.2
          rw [hst.block q (by omega), H4.out.2.2.2.2.2.2.1.block q (by omega), k2.block q (by omega) (by omega), k1.block q hq hqb]
      have hw5s : w.heap.size ≤ w5.heap.size := hI0.2.2.2.2.2.size
      have H5 := Lib.hid (And.intro hs5 (And.intro hst.size (And.intro hb4 hw5s)))
      clear hw5 hb4 hst hy2 hy3 hs5
      have hsq := ends_seq b4 (b4 + 1) wb nr s m t' d F i HH.out.1 HH.out.2.1 HH.out.2.2.2.2.2.2.1 HH.out.2.2.2.2.1 HH.out.2.2.2.2.2.1 HH.out.2.2.2.2.2.2.2.2.2.1
      gi_wp2_with (first | (refine wpIn_scope ?_) | (refine wpIn_label ?_))
      refine wpIn_rangeX rfl (by decide) (gf := 56) (lb := #[.pointer (some ⟨b4, 0, none⟩), .pointer (some ⟨b4 + 1, 0, none⟩)]) rfl trivial (enters_of Try.func56 (by kernel_rfl) rfl)
        hsq (fun A B h => keepsBel h) (fun x => rfl)
        HoldE.own (fun _ => HoldE.own) (OwnW.const _) (fun _ => OwnW.const _) hHold
        (PassI w b2 (b2 + 1) bo be b w5.heap.size nr s m t' d F) (fun _ _ _ => False) (fun k => PassI.own hw5s) (fun c k => OwnW.const _) (fun k A B h hb => h.go hb) (fun c k A B h hb => h)
        hI0 ?round ?done (fun D c k W hD hk h => h.elim)

      case round =>
        rintro l k x W hx hI hG
        obtain ⟨hk, rfl⟩ : k < many s m t' ∧ k = x := by
          obtain ⟨h1, h2⟩ := List.getElem?_eq_some_iff.1 hx
          simp at h1 h2
          exact ⟨h1, h2⟩
        have hl := HH.out.1.ok.len
        have ho := HH.out.2.1.o
        have hat := atEnd (d := d) (i := i) HH.out.1.ok HH.out.2.1 HH.out.2.2.2.2.2.2.1 hk
        have hdd := HH.out.2.2.2.2.2.2.1
        have hi200 := HH.out.2.2.1
        have hcc := HH.out.2.1.c
        have ho0 := HH.out.2.2.2.2.2.2.2.2.2.2.2
        have hmo := HH.out.2.2.2.2.2.2.2.2.2.2.1
        have hsp := HH.out.2.2.2.2.2.2.2.2.1
        have ht2 := HH.out.2.2.2.2.2.1
        have hic : i * 4294967296 ≤ 200 * 4294967296 := Nat.mul_le_mul_right _ hi200
        have hii : ((i : Int) + 1) * 9007199254740992 ≤ 201 * 9007199254740992 := Int.mul_le_mul_of_nonneg_right (by omega) (by omega)
        have hcn : m.c + cnJ s m t' d k < 9223372036854775808 := by have := hat.cn; omega
        have hol : 0 ≤ m.o + k ∧ 0 ≤ (m.o + k) * s.len ∧ (m.o + k) * s.len < 4611686018427387904 ∧ m.o + k < 4611686018427387904 := by
          have h1 : 0 ≤ (m.o + (k : Int)) * s.len := Int.mul_nonneg (by omega) (by omega)
          have h2 : (m.o + (k : Int)) * 1 ≤ (m.o + (k : Int)) * s.len := Int.mul_le_mul_of_nonneg_left (by omega) (by omega)
          have h3 := hat.e.2
          unfold endJ at h3
          have h4 : (m.o + 1 + (k : Int)) * s.len = (m.o + (k : Int)) * s.len + s.len := by rw [show m.o + 1 + (k : Int) = (m.o + k) + 1 by omega, Int.add_mul (m.o + k) 1, Int.one_mul]
          omega
        have HT := Lib.hid (show ∀ Y, MtB Y b nr s (passM s m t' d k) → Calls Try.prog 48 #[.pointer (some ⟨b, 0, none⟩), .int .u64 ((m.c + cnJ s m t' d k : Nat) : Int), .int .i64 (F : Int)] Y (fun e w' => e = .returned (.tuple #[.agg (enC nr (tellE s (passM s m t' d k) (nowJ s m t' d k) F)), .int .i64 0]) ∧ MtB w' b nr s (passM s m t' d (k + 1)) ∧ Kept (fun x => x ≠ b) Y w') from
          fun Y hY => tell_calls Y b nr s (passM s m t' d k) HH.out.1 hY (m.c + cnJ s m t' d k) F hcn HF.out.2 (by rw [passM_f]; split; exact HH.out.2.1.f; decide) hat.fr ⟨hat.k, by have h1 := hat.sum; unfold nowJ at h1; omega⟩ (by rw [passM_o]; exact hol))
        have XC := Lib.hid (show IntKind.u64.wrap ((m.c : Int) + (cnJ s m t' d k : Int)) = ((m.c + cnJ s m t' d k : Nat) : Int) by rw [IntKind.wrap_u64]; push_cast; omega)
        obtain ⟨xE, hxE⟩ : ∃ xE, tellE s (passM s m t' d k) (nowJ s m t' d k) F = xE := ⟨_, rfl⟩
        have HXE := Lib.hid (show passE s m t' d F (k + 1) = passE s m t' d F k ++ [xE] by rw [← hxE]; rfl)
        rw [hxE] at HT
        obtain ⟨en, hen⟩ : ∃ en, enC nr xE = en := ⟨_, rfl⟩
        have HEN := Lib.hid (And.intro hen (And.intro (show en.size = 42 by rw [← hen]; exact enC_size _ _) (show en.all (·.oneCell') = true by rw [← hen]; exact enC_all _ _)))
        rw [hen] at HT
        have Hk := Lib.hid (And.intro hk (show k ≤ 100000 by omega))
        clear hl ho hat hdd hi200 hcc ho0 hmo hsp ht2 hic hii hcn hol hxE hen hk hx hI0 hHold hsq
        unfold endV
        simp only [List.zip_toArray, List.zip_cons_cons, List.zip_nil_left, List.zip_nil_right, List.size_toArray, List.foldl_toArray', List.foldl_cons, List.foldl_nil, List.setIfInBounds_toArray, List.set_cons_succ, List.set_cons_zero]
        gi_wp2_with (first | (refine wpIn_scope ?_) | (refine wpIn_label ?_))
        refine And.intro trivial ?_
        intro W1 hI1 hG1 hsz1
        obtain ⟨ob, hob⟩ : ∃ ob, W1.heap.size = ob := ⟨_, rfl⟩
        obtain ⟨W2, hW2⟩ : ∃ W2, W1.alloc (.cells #[.int .i64 0, .int .i64 0, .int .i64 0, .int .i64 0, .int .i64 0, .int .i64 0, .int .i64 0, .int .i64 0, .int .u32 0, .int .u64 0, .int .u8 0, .int .u8 0, .int .u8 0, .int .u8 0, .int .u8 0, .int .u8 0, .int .u8 0, .int .u8 0, .int .u8 0, .int .u8 0, .int .u8 0, .int .u8 0, .int .u8 0, .int .u8 0, .int .u8 0, .int .u8 0, .int .u8 0, .int .u8 0, .int .u8 0, .int .u8 0, .int .u8 0, .int .u8 0, .int .u8 0, .int .u8 0, .int .u8 0, .int .u8 0, .int .u8 0, .int .u8 0, .int .u8 0, .int .u8 0, .int .u8 0, .int .u8 0] 45) = W2 := ⟨_, rfl⟩
        have hst2 : Below W1.heap.size W1 W2 := hW2 ▸ bstep W1 _
        have hz2 : W2.heap[ob]? = some (.cells zEn 45 (0, 0)) := by rw [← hob, ← hW2]; exact blk_new W1 _ _
        have hs2 : W2.heap.size = ob + 1 := by rw [← hW2, World.size_alloc, hob]
        have H6 := Lib.hid (And.intro (hI1.go hst2) (And.intro (hG1.go hst2) (And.intro hz2 (And.intro hs2 (And.intro hst2 hob)))))
        have HI1 := Lib.hid hI1.2.2.2.1
        clear hst2 hz2 hs2 hI1 hG1
        gi_upto_region 13 with fail
        have HHc := Lib.hid (show HoldE b4 (b4 + 1) wb nr s m t' d F W2 ∧ PassI w b2 (b2 + 1) bo be b w5.heap.size nr s m t' d F k W2 from ⟨H6.out.2.1, H6.out.1⟩)
        have HL := Lib.hid (show b2 ≠ b ∧ b2 + 1 ≠ b ∧ bo ≠ b ∧ be ≠ b ∧ wb ≠ b ∧ b4 ≠ b ∧ b4 + 1 ≠ b ∧ b < w5.heap.size ∧ b2 + 1 < bo ∧ bo < be ∧ bo < w5.heap.size ∧ be < w5.heap.size ∧ wb < w5.heap.size ∧ b4 + 1 < w5.heap.size ∧ w5.heap.size ≤ ob ∧ wb ≠ be ∧ bo ≠ wb ∧ be < b4 by
          have a1 := H4.out.2.2.2.2.2.2.2
          have a2 := H5.out
          have a3 := blk_lt H4.out.2.2.2.2.1
          have a4 := H4.out.2.2.2.2.2.1.lt
          have a5 := H6.out.2.2.2.2.2
          omega)
        have HS := Lib.hid (show ∀ Y j, Kept (fun x => x ≠ b ∧ x ≠ ob ∧ x ≠ be) W2 Y → MtB Y b nr s (passM s m t' d j) → (fun Y => Y.cell? ⟨b2, 0, none⟩ = some (.pointer (some ⟨b, 0, none⟩)) ∧ Y.cell? ⟨b2 + 1, 2, none⟩ = some (.int .i64 (F : Int)) ∧ Y.cell? ⟨b, 9, none⟩ = some (.int .u64 (m.c : Int))) Y from fun Y j hk hm => by
          have l := HL.out
          have hc := hm.cells.2.2.2.2.2.2.2.2.2.1
          rw [passM_c] at hc
          exact ⟨Boxed.cell (heap_kept hk HHc.out.2.1 ⟨by omega, by omega, by omega⟩), blk_cell (heap_kept hk HHc.out.2.2.1 ⟨by omega, by omega, by omega⟩) 2 rfl, hc⟩)
        refine wpIn_region_held (S := (fun Y => Y.cell? ⟨b2, 0, none⟩ = some (.pointer (some ⟨b, 0, none⟩)) ∧ Y.cell? ⟨b2 + 1, 2, none⟩ = some (.int .i64 (F : Int)) ∧ Y.cell? ⟨b, 9, none⟩ = some (.int .u64 (m.c : Int)))) (by kernel_rfl) (HS.out _ k (Kept.refl _ _).drew HHc.out.2.2.2.2.2.1) (by kernel_rfl) (fun hHeld => ?_)
        refine wpAnyH_take (i := 0) (v := ?_) rfl (by kernel_rfl) (by kernel_rfl) (by kernel_rfl) (fun _ _ _ h => h) (Or.inl ⟨by kernel_rfl, ?_⟩) (by assumption) ?_
        rotate_left
        · intro w hSw; (try dsimp only at hSw); go_simp; try with_reducible rfl
        simp only [Act.put, List.getElem_toArray, List.getElem_cons_succ, List.getElem_cons_zero, List.setIfInBounds_toArray, List.set_cons_zero, List.set_cons_succ]
        refine wpAnyH_take (i := 1) (v := ?_) rfl (by kernel_rfl) (by kernel_rfl) (by kernel_rfl) (fun _ _ _ h => h) (Or.inl ⟨by kernel_rfl, ?_⟩) (by assumption) ?_
        rotate_left
        · intro w hSw; (try dsimp only at hSw); go_simp; try with_reducible rfl
        simp only [Act.put, List.getElem_toArray, List.getElem_cons_succ, List.getElem_cons_zero, List.setIfInBounds_toArray, List.set_cons_zero, List.set_cons_succ]
        refine wpAnyH_take (i := 2) (v := ?_) rfl (by kernel_rfl) (by kernel_rfl) (by kernel_rfl) (fun _ _ _ h => h) (Or.inl ⟨by kernel_rfl, ?_⟩) (by assumption) ?_
        rotate_left
        · intro w hSw; (try dsimp only at hSw); go_simp; try with_reducible rfl
        simp only [Act.put, List.getElem_toArray, List.getElem_cons_succ, List.getElem_cons_zero, List.setIfInBounds_toArray, List.set_cons_zero, List.set_cons_succ]
        refine wpAnyH_take (i := 3) (v := ?_) rfl (by kernel_rfl) (by kernel_rfl) (by kernel_rfl) (fun _ _ _ h => h) (Or.inl ⟨by kernel_rfl, ?_⟩) (by assumption) ?_
        rotate_left
        · intro w hSw; (try dsimp only at hSw); go_simp; try with_reducible rfl
        simp only [Act.put, List.getElem_toArray, List.getElem_cons_succ, List.getElem_cons_zero, List.setIfInBounds_toArray, List.set_cons_zero, List.set_cons_succ]
        refine wpAnyH_take (i := 4) (v := ?_) rfl (by kernel_rfl) (by kernel_rfl) (by kernel_rfl) (fun _ _ _ h => h) (Or.inl ⟨by kernel_rfl, ?_⟩) (by assumption) ?_
        rotate_left
        · intro w hSw; (try dsimp only at hSw); go_simp; try with_reducible rfl
        simp only [Act.put, List.getElem_toArray, List.getElem_cons_succ, List.getElem_cons_zero, List.setIfInBounds_toArray, List.set_cons_zero, List.set_cons_succ]
        refine wpAnyH_take (i := 5) (v := ?_) rfl (by kernel_rfl) (by kernel_rfl) (by kernel_rfl) (fun _ _ _ h => h) (Or.inl ⟨by kernel_rfl, ?_⟩) (by assumption) ?_
        rotate_left
        · intro w hSw; (try dsimp only at hSw); go_simp; try with_reducible rfl
        simp only [Act.put, List.getElem_toArray, List.getElem_cons_succ, List.getElem_cons_zero, List.setIfInBounds_toArray, List.set_cons_zero, List.set_cons_succ]
        refine wpAnyH_take (i := 6) (v := .int .u64 ((m.c + cnJ s m t' d k : Nat) : Int)) rfl (by kernel_rfl) (by kernel_rfl) (by kernel_rfl) (fun _ _ _ h => h) (Or.inl ⟨by kernel_rfl, ?_⟩) (by assumption) ?_
        · intro w hSw; (try dsimp only at hSw)
          have x2 := XC.out; go_simp
        simp only [Act.put, List.getElem_toArray, List.getElem_cons_succ, List.getElem_cons_zero, List.setIfInBounds_toArray, List.set_cons_zero, List.set_cons_succ]
        refine wpAnyH_take (i := 7) (v := ?_) rfl (by kernel_rfl) (by kernel_rfl) (by kernel_rfl) (fun _ _ _ h => h) (Or.inl ⟨by kernel_rfl, ?_⟩) (by assumption) ?_
        rotate_left
        · intro w hSw; (try dsimp only at hSw); go_simp; try with_reducible rfl
        simp only [Act.put, List.getElem_toArray, List.getElem_cons_succ, List.getElem_cons_zero, List.setIfInBounds_toArray, List.set_cons_zero, List.set_cons_succ]
        refine wpAnyH_take (i := 8) (v := ?_) rfl (by kernel_rfl) (by kernel_rfl) (by kernel_rfl) (fun _ _ _ h => h) (Or.inl ⟨by kernel_rfl, ?_⟩) (by assumption) ?_
        rotate_left
        · intro w hSw; (try dsimp only at hSw); go_simp; try with_reducible rfl
        simp only [Act.put, List.getElem_toArray, List.getElem_cons_succ, List.getElem_cons_zero, List.setIfInBounds_toArray, List.set_cons_zero, List.set_cons_succ]
        refine wpAnyH_ready (rs := [9]) (by kernel_rfl) (by simp) ?_
        refine AllReadyH.cons rfl (fun K hK => ?_) AllReadyH.nil
        go_simp
        refine (HT.out W2.drew HHc.out.2.2.2.2.2.1).mono ?_
        rintro e W3 ⟨rfl, hm3, hk3⟩
        have hke : Kept (fun x => x ≠ b ∧ x ≠ ob ∧ x ≠ be) W2 W3 := ((Kept.refl _ W2).drew).trans (hk3.mono (fun x _ h => h.1))
        have hz3 : W3.heap[ob]? = some (.cells zEn 45 (0, 0)) := heap_kept hk3 H6.out.2.2.1 (by have := HL.out; omega)
        have he3 : W3.heap[be]? = some (.cells #[.int .i64 0] 26 (0, 0)) := heap_kept hk3 HHc.out.2.2.2.1 (by have := HL.out; omega)
        have hk3' : Kept (fun x => x ≠ b) W2 W3 := ((Kept.refl _ W2).drew).trans hk3
        obtain ⟨W3r, hW3r⟩ : ∃ X, W3.setRow ob en = X := ⟨_, rfl⟩
        obtain ⟨W4, hW4⟩ : ∃ X, W3r.setCell ⟨be, 0, none⟩ (.int .i64 0) = X := ⟨_, rfl⟩
        have hr1 : W3r.heap[ob]? = some (.cells en 45 (0, 0)) := by rw [← hW3r]; exact setRow_heap _ _ _ _ _ _ hz3
        have hr2 : W3r.heap[be]? = some (.cells #[.int .i64 0] 26 (0, 0)) := by rw [← hW3r]; exact (setRow_other _ _ _ _ (by have := HL.out; omega)).trans he3
        have hr3 : MtB W3r b nr s (passM s m t' d (k + 1)) := by rw [← hW3r]; exact (setRow_other _ _ _ _ (by have := HL.out; omega)).trans hm3
        have hkr : Kept (fun x => x ≠ b ∧ x ≠ ob ∧ x ≠ be) W2 W3r := by rw [← hW3r]; exact hke.setRow (fun h => h.2.1 rfl) en
        have hr4 : MtB W4 b nr s (passM s m t' d (k + 1)) := by rw [← hW4]; exact (Below.heap_setCell _ _ _ _ (by have := HL.out; show b ≠ be; omega)).trans hr3
        have hr5 : W4.heap[ob]? = some (.cells en 45 (0, 0)) := by rw [← hW4]; exact (Below.heap_setCell _ _ _ _ (by have := HL.out; show ob ≠ be; omega)).trans hr1
        have hr6 : W4.heap[be]? = some (.cells #[.int .i64 0] 26 (0, 0)) := by rw [← hW4]; exact bset hr2 (i := 0) (.int .i64 0)
        have hk4 : Kept (fun x => x ≠ b ∧ x ≠ ob ∧ x ≠ be) W2 W4 := by rw [← hW4]; exact hkr.setCell (p := ⟨be, 0, none⟩) (fun h => h.2.2 rfl) _
        have hko4 : KeepsOthers W1 W4 := by
          rw [← hW4, ← hW3r]
          exact (((keepsBel H6.out.2.2.2.2.1).trans (keepsO_kept hk3' HHc.out.2.2.2.2.2.1)).trans (keepsO_setRow hz3 en)).trans (KeepsOthers.setCell _ ⟨be, 0, none⟩ _)
        have H7 := Lib.hid (And.intro hke (And.intro hm3 (And.intro hz3 (And.intro hkr (And.intro hr3 (And.intro hr2 (And.intro hk4 (And.intro hr4 (And.intro hr5 (And.intro hr6 hko4))))))))))
        have HW4 := Lib.hid hW4
        have HW3 := Lib.hid hW3r
        clear hm3 hk3 hke hz3 he3 hk3' hr1 hr2 hr3 hkr hr4 hr5 hr6 hk4 hko4 hW4 hW3r
        try go_wp2_with fail
        refine hK.out _ _ (HS.out _ (k + 1) H7.out.1 H7.out.2.1) (fun hHeld => ?_)
        clear hK K
        try simp only [Act.put, List.getElem_toArray, List.getElem_cons_succ, List.getElem_cons_zero, List.setIfInBounds_toArray, List.set_cons_zero, List.set_cons_succ]
        refine wpAnyH_take (i := 10) (v := ?_) rfl (by kernel_rfl) (by kernel_rfl) (by kernel_rfl) (fun _ _ _ h => h) (Or.inl ⟨by kernel_rfl, ?_⟩) (by assumption) ?_
        rotate_left
        · intro w hSw; (try dsimp only at hSw); go_simp; try with_reducible rfl
        simp only [Act.put, List.getElem_toArray, List.getElem_cons_succ, List.getElem_cons_zero, List.setIfInBounds_toArray, List.set_cons_zero, List.set_cons_succ]
        refine wpAnyH_take (i := 11) (v := ?_) rfl (by kernel_rfl) (by kernel_rfl) (by kernel_rfl) (fun _ _ _ h => h) (Or.inl ⟨by kernel_rfl, ?_⟩) (by assumption) ?_
        rotate_left
        · intro w hSw; (try dsimp only at hSw); go_simp; try with_reducible rfl
        simp only [Act.put, List.getElem_toArray, List.getElem_cons_succ, List.getElem_cons_zero, List.setIfInBounds_toArray, List.set_cons_zero, List.set_cons_succ]
        refine wpAnyH_take (i := 12) (v := ?_) rfl (by kernel_rfl) (by kernel_rfl) (by kernel_rfl) (fun _ _ _ h => h) (Or.inl ⟨by kernel_rfl, ?_⟩) (by assumption) ?_
        rotate_left
        · intro w hSw; (try dsimp only at hSw); go_simp; try with_reducible rfl
        simp only [Act.put, List.getElem_toArray, List.getElem_cons_succ, List.getElem_cons_zero, List.setIfInBounds_toArray, List.set_cons_zero, List.set_cons_succ]
        refine wpAnyH_ready (rs := [13]) (by kernel_rfl) (by simp) ?_
        refine AllReadyH.cons rfl (fun K hK => ?_) AllReadyH.nil
        rw [if_pos (by kernel_rfl)]
        simp only [List.getElem_toArray, List.getElem_cons_succ, List.getElem_cons_zero]
        refine wp_store_row 45 (.tmp 13) (.tmp 82) ?_ ob en ?_ ?_ 45 zEn ?_ ?_ ?_ ?_ ?_
        · rfl
        · rfl
        · rfl
        · exact H7.out.2.2.1
        · rw [HEN.out.2.1]; exact eEnS
        · rw [HEN.out.2.1]; exact zEn_size
        · exact HEN.out.2.2
        rw [HW3.out]
        refine hK.out _ _ (HS.out _ (k + 1) H7.out.2.2.2.1 H7.out.2.2.2.2.1) (fun hHeld => ?_)
        clear hK K
        try simp only [Act.put, List.getElem_toArray, List.getElem_cons_succ, List.getElem_cons_zero, List.setIfInBounds_toArray, List.set_cons_zero, List.set_cons_succ]
        refine wpAnyH_ready (rs := [14]) (by kernel_rfl) (by simp) ?_
        refine AllReadyH.cons rfl (fun K hK => ?_) AllReadyH.nil
        have q1 := blk_cell H7.out.2.2.2.2.2.1 0 rfl
        have q2 := blk_frozen H7.out.2.2.2.2.2.1 0
        go_simp
        clear q1 q2
        rw [HW4.out]
        refine hK.out _ _ (HS.out _ (k + 1) H7.out.2.2.2.2.2.2.1 H7.out.2.2.2.2.2.2.2.1) (fun hHeld => ?_)
        clear hK K
        try simp only [Act.put, List.getElem_toArray, List.getElem_cons_succ, List.getElem_cons_zero, List.setIfInBounds_toArray, List.set_cons_zero, List.set_cons_succ]
        refine wpAnyH_done (by kernel_rfl) ?_ _
        simp only [normalOnly]
        obtain ⟨A, c, hbo1, how1⟩ := HI1.out
        have hl := HL.out
        have hst2 := H6.out.2.2.2.2.1
        have hob := H6.out.2.2.2.2.2
        obtain ⟨-, -, -, -, -, -, hk4, hr4, hr5, hr6, hko4⟩ := H7.out
        have hgl : ∀ g, (Value.slice A k c).ownBlock = some g → w5.heap.size ≤ g ∧ g < ob := fun g e => by have := how1.lt g e; omega
        have how4 := own_keptM (own_below how1 hst2) hk4 (fun g e => by have := hgl g e; omega)
        have hbo4 := heap_kept hk4 (blk_below hbo1 hst2) (by omega)
        have hB4 : w5.heap.size ≤ W4.heap.size := by have := hst2.size; have := hk4.size; omega
        obtain ⟨A', c', W5, hrun, ho5, hg5, -⟩ := ent_append W4 w5.heap.size how4 xE hB4 Hk.out.2
        rw [HEN.out.1] at hrun hg5
        have hk5 : Kept (fun x => x < w5.heap.size) W4 W5 := ((bstep W4 _).keptS _).trans ((grownKept hg5).mono (fun x _ h e => by have := hgl x e.symm; omega))
        have hbo5 := heap_kept hk5 hbo4 (by omega)
        obtain ⟨W6, hW6⟩ : ∃ X, W5.setCell ⟨bo, 0, none⟩ (.slice A' (k + 1) c') = X := ⟨_, rfl⟩
        have hk56 : Kept (fun x => x ≠ bo) W5 W6 := by rw [← hW6]; exact (Kept.refl _ W5).setCell (p := ⟨bo, 0, none⟩) (fun h => h rfl) _
        have hk46 : Kept (fun x => x < w5.heap.size ∧ x ≠ bo) W4 W6 := (hk5.mono (fun x _ h => h.1)).trans (hk56.mono (fun x _ h => h.2))
        have hk26 : Kept (fun x => x < w5.heap.size ∧ x ≠ bo ∧ x ≠ b ∧ x ≠ be) W2 W6 := (hk4.mono (fun x _ h => ⟨h.2.2.1, by omega, h.2.2.2⟩)).trans (hk46.mono (fun x _ h => ⟨h.1, h.2.1⟩))
        have HH6 := Lib.hid (show KeepsOthers W1 W6 ∧ HoldE b4 (b4 + 1) wb nr s m t' d F W6 ∧ PassI w b2 (b2 + 1) bo be b w5.heap.size nr s m t' d F (k + 1) W6 from by
          refine ⟨?_, HHc.out.1.kept hk26 (by omega) (by omega) (by omega), heap_kept hk26 HHc.out.2.1 (by omega), heap_kept hk26 HHc.out.2.2.1 (by omega), heap_kept hk46 hr6 (by omega), ⟨A', c', ?_, ?_⟩, heap_kept hk46 hr4 (by omega), ?_⟩
          · rw [← hW6]
            exact ((hko4.trans (KeepsOthers.alloc W4 _)).trans (KeepsOthers.of_grownBy hg5 (fun j o ej hj => own_isCells (how4.alloc _) j o ej hj))).trans (KeepsOthers.setCell _ ⟨bo, 0, none⟩ _)
          · rw [← hW6]; exact bset hbo5 (i := 0) (.slice A' (k + 1) c')
          · rw [HXE.out]; exact own_keptM ho5 hk56 (fun g e => by have := ho5.lt g e; omega)
          · exact Kept.cut HHc.out.2.2.2.2.2.2 hk26 (fun q hq hqb => by have := H5.out.2.2.2; have := H4.out.2.2.2.2.2.2.2; omega))
        have HBS := Lib.hid (built_ens en HEN.out.2.1 W4)
        have HR := Lib.hid (show W4.rangeAt ob 0 en.toList from fun j v hv => blk_cell hr5 (0 + j) (by rw [Nat.zero_add]; simpa using hv))
        have HI := Lib.hid (show (Try.prog.info? 45).map (·.size) = some en.toList.length by rw [Array.length_toList, HEN.out.2.1]; exact eEnS)
        have hta : en.toList.toArray = en := by simp
        have d1 := blk_cell hr6 0 rfl
        have d2 := blk_cell hbo4 0 rfl
        have d3 := blk_cell hbo5 0 rfl
        have d4 := blk_frozen hbo5 0
        clear hl hst2 hob hk4 hr4 hr5 hr6 hko4 hgl how4 hbo4 hB4 ho5 hg5 hk5 hbo5 hk56 hk46 hk26 how1 hbo1
        gi_upto_region 15 with fail
        gi_wp2_with (first | (refine wpListIn_via (wide_round _) rfl (by intro c hc; cases hc) (fun K hK => wp_load_mid 45 (.tmp 13) (by rfl) ob 0 (by rfl) _ _ HR.out Try.underlying45 (by rfl) HI.out (hK _ _ ?_)); clear hK K; rw [hta]) | (refine wpListIn_via (wide_round _) rfl (by intro c hc; cases hc) (fun K hK => wp_run (v := .slice (some ⟨W4.heap.size, 0, none⟩) 1 1) (buildSlice_op 38 1 #[(0, .tmp 87)] (by rfl) (by simp only [List.map_toArray, List.map_cons, List.map_nil, Act.eval]; exact HBS.out)) (hK _ _ ?_)); clear hK K) | (gi_at_builtin; refine wpListIn_append_run hrun rfl rfl rfl rfl rfl ?_; clear hrun))
        exact HH6.out

      case done =>
        rintro Dd W hDd hI _ hK
        rw [List.length_range] at hI
        obtain ⟨hb2, hb3, hbe, ⟨A, c, hbo, how⟩, hmb, hkw⟩ := hI
        obtain ⟨J, hJ⟩ : ∃ J, many s m t' = J := ⟨_, rfl⟩
        rw [hJ] at hbo how hmb
        have hl := HH.out.1.ok.len
        have hok := HH.out.2.1
        have hi200 := HH.out.2.2.1
        have ht2 := HH.out.2.2.2.2.2.1
        have hdd := HH.out.2.2.2.2.2.2.1
        have hmo := HH.out.2.2.2.2.2.2.2.2.2.2.1
        have ho0 := HH.out.2.2.2.2.2.2.2.2.2.2.2
        have hsp := HH.out.2.2.2.2.2.2.2.2.1
        have hic : i * 4294967296 ≤ 200 * 4294967296 := Nat.mul_le_mul_right _ hi200
        have hcc := hok.c
        have htt := hok.t
        rw [hJ] at hmo
        obtain ⟨mz, hmz⟩ : ∃ mz, passM s m t' d J = mz := ⟨_, rfl⟩
        have hzt : mz.t = m.t := by rw [← hmz]; exact passM_t J
        have hzc : mz.c = m.c := by rw [← hmz]; exact passM_c J
        have hzo : mz.o = m.o + J := by rw [← hmz]; exact passM_o J
        have hzf : mz.f < 16 := by rw [← hmz, passM_f]; split; exact hok.f; decide
        rw [hmz] at hmb
        have hol : -9223372036854775808 ≤ mz.o * s.len ∧ mz.o * s.len < 9223372036854775808 := by
          have h1 : 0 ≤ mz.o * s.len := Int.mul_nonneg (by omega) (by omega)
          have h2 := Int.mul_le_mul_of_nonneg_left (show s.len ≤ 86400 by omega) (show 0 ≤ mz.o by omega)
          have h3 := Int.mul_le_mul_of_nonneg_left (show 1 ≤ s.len by omega) ho0
          have h4 := hok.o.1
          omega
        have Y1 := Lib.hid (wrapI_at (m.t + 1) (by omega))
        have Y2 := Lib.hid (wrapI_at (mz.o * s.len) hol)
        have Y3 := Lib.hid (show IntKind.u64.wrap (d : Int) = (d : Int) by rw [IntKind.wrap_u64]; omega)
        have Y4 := Lib.hid (show IntKind.u64.wrap ((m.c : Int) + (d : Int)) = ((m.c + d : Nat) : Int) by rw [IntKind.wrap_u64]; push_cast; omega)
        obtain ⟨mx, hmx⟩ : ∃ mx, max (m.t + 1) (mz.o * s.len) = mx := ⟨_, rfl⟩
        obtain ⟨gZ, hgZ⟩ : ∃ gZ, decide (mx < t') = gZ := ⟨_, rfl⟩
        obtain ⟨FZ, hFZ⟩ : ∃ FZ : Nat, (if gZ then mz.f ||| F else mz.f) = FZ := ⟨_, rfl⟩
        have HFZ := Lib.hid (And.intro hFZ (show passZ s m t' d fl = { mz with f := FZ, c := m.c + d, t := t' } by
          unfold passZ
          rw [hJ, hmz, HF.out.1, hmx, ← hFZ, ← hgZ]
          simp))
        have HJ := Lib.hid (And.intro hJ (And.intro hmz (And.intro hzt (And.intro hzc (And.intro hzf hmx)))))
        have HgZ := Lib.hid hgZ
        have HX := Lib.hid (show (if m.t + 1 < mz.o * s.len then mz.o * s.len else m.t + 1) = mx by rw [← hmx]; split <;> omega)
        have HI := Lib.hid (And.intro hb2 (And.intro hb3 (And.intro hbe (And.intro hbo (And.intro how (And.intro hmb (And.intro hkw (And.intro hK hDd))))))))
        have HL := Lib.hid (show b2 ≠ b ∧ b2 + 1 ≠ b ∧ bo ≠ b ∧ b < w5.heap.size ∧ b < w.heap.size ∧ w.heap.size ≤ w5.heap.size by
          have a1 := H4.out.2.2.2.2.2.2.2
          have a2 := H5.out
          omega)
        have HS := Lib.hid (show ∀ Y, Kept (fun x => x ≠ b) W Y → Y.cell? ⟨b2, 0, none⟩ = some (.pointer (some ⟨b, 0, none⟩)) ∧ Y.cell? ⟨b2 + 1, 0, none⟩ = some (.int .i64 t') ∧ Y.cell? ⟨b2 + 1, 1, none⟩ = some (.int .u32 (d : Int)) ∧ Y.cell? ⟨b2 + 1, 2, none⟩ = some (.int .i64 (F : Int)) from fun Y hk => by
          have l := HL.out
          have h3 := heap_kept hk HI.out.2.1 l.2.1
          exact ⟨Boxed.cell (heap_kept hk HI.out.1 l.1), blk_cell h3 0 rfl, blk_cell h3 1 rfl, blk_cell h3 2 rfl⟩)
        have HM := Lib.hid (show ∀ Y, MtB Y b nr s mz → Y.cell? ⟨b, 5, none⟩ = some (.int .i64 s.len) ∧ Y.cell? ⟨b, 7, none⟩ = some (.int .i64 m.t) ∧ Y.cell? ⟨b, 9, none⟩ = some (.int .u64 (m.c : Int)) ∧ Y.cell? ⟨b, 10, none⟩ = some (.int .i64 mz.o) ∧ Y.cell? ⟨b, 11, none⟩ = some (.int .i64 (mz.f : Int)) from fun Y h => by
          obtain ⟨c0, c1, c2, c3, c4, c5, c6, c7, c8, c9, c10, c11, c12, c13⟩ := h.cells
          rw [hzt] at c7
          rw [hzc] at c9
          exact ⟨c5, c7, c9, c10, c11⟩)
        have dbe := blk_cell hbe 0 rfl
        clear hb2 hb3 hbe hbo how hmb hkw hK hJ hl hok hi200 ht2 hdd hmo ho0 hsp hic hcc htt hmz hzt hzc hzo hzf hol hmx hgZ hFZ hI0 hHold hsq
        gi_wp2_with (first | (refine wpIn_scope ?_) | (refine wpIn_label ?_))
        refine wpIn_normal (wpIn_wide.2 ?_)

        refine wp_region_held_drew (S := (fun Y => (Y.cell? ⟨b2, 0, none⟩ = some (.pointer (some ⟨b, 0, none⟩)) ∧ Y.cell? ⟨b2 + 1, 0, none⟩ = some (.int .i64 t') ∧ Y.cell? ⟨b2 + 1, 1, none⟩ = some (.int .u32 (d : Int)) ∧ Y.cell? ⟨b2 + 1, 2, none⟩ = some (.int .i64 (F : Int))) ∧ (Y.cell? ⟨b, 5, none⟩ = some (.int .i64 s.len) ∧ Y.cell? ⟨b, 7, none⟩ = some (.int .i64 m.t) ∧ Y.cell? ⟨b, 9, none⟩ = some (.int .u64 (m.c : Int)) ∧ Y.cell? ⟨b, 10, none⟩ = some (.int .i64 mz.o) ∧ Y.cell? ⟨b, 11, none⟩ = some (.int .i64 (mz.f : Int))))) (by kernel_rfl) ⟨HS.out _ (Kept.refl _ _).drew, HM.out _ HI.out.2.2.2.2.2.1⟩ (fun hHeld => ?_)
        refine wpAnyH_take (i := 0) (v := ?_) rfl (by kernel_rfl) (by kernel_rfl) (by kernel_rfl) (fun _ _ _ h => h) (Or.inl ⟨by kernel_rfl, ?_⟩) (by assumption) ?_
        rotate_left
        · intro w hSw; (try dsimp only at hSw); go_simp; try with_reducible rfl
        simp only [Act.put, List.getElem_toArray, List.getElem_cons_succ, List.getElem_cons_zero, List.setIfInBounds_toArray, List.set_cons_zero, List.set_cons_succ]
        refine wpAnyH_take (i := 1) (v := ?_) rfl (by kernel_rfl) (by kernel_rfl) (by kernel_rfl) (fun _ _ _ h => h) (Or.inl ⟨by kernel_rfl, ?_⟩) (by assumption) ?_
        rotate_left
        · intro w hSw; (try dsimp only at hSw); go_simp; try with_reducible rfl
        simp only [Act.put, List.getElem_toArray, List.getElem_cons_succ, List.getElem_cons_zero, List.setIfInBounds_toArray, List.set_cons_zero, List.set_cons_succ]
        refine wpAnyH_take (i := 2) (v := ?_) rfl (by kernel_rfl) (by kernel_rfl) (by kernel_rfl) (fun _ _ _ h => h) (Or.inl ⟨by kernel_rfl, ?_⟩) (by assumption) ?_
        rotate_left
        · intro w hSw; (try dsimp only at hSw); go_simp; try with_reducible rfl
        simp only [Act.put, List.getElem_toArray, List.getElem_cons_succ, List.getElem_cons_zero, List.setIfInBounds_toArray, List.set_cons_zero, List.set_cons_succ]
        refine wpAnyH_take (i := 3) (v := ?_) rfl (by kernel_rfl) (by kernel_rfl) (by kernel_rfl) (fun _ _ _ h => h) (Or.inl ⟨by kernel_rfl, ?_⟩) (by assumption) ?_
        rotate_left
        · intro w hSw; (try dsimp only at hSw); go_simp; try with_reducible rfl
        simp only [Act.put, List.getElem_toArray, List.getElem_cons_succ, List.getElem_cons_zero, List.setIfInBounds_toArray, List.set_cons_zero, List.set_cons_succ]
        refine wpAnyH_take (i := 4) (v := .int .i64 (m.t + 1)) rfl (by kernel_rfl) (by kernel_rfl) (by kernel_rfl) (fun _ _ _ h => h) (Or.inl ⟨by kernel_rfl, ?_⟩) (by assumption) ?_
        · intro w hSw; (try dsimp only at hSw)
          have y1 := Y1.out; go_simp
        simp only [Act.put, List.getElem_toArray, List.getElem_cons_succ, List.getElem_cons_zero, List.setIfInBounds_toArray, List.set_cons_zero, List.set_cons_succ]
        refine wpAnyH_take (i := 5) (v := ?_) rfl (by kernel_rfl) (by kernel_rfl) (by kernel_rfl) (fun _ _ _ h => h) (Or.inl ⟨by kernel_rfl, ?_⟩) (by assumption) ?_
        rotate_left
        · intro w hSw; (try dsimp only at hSw); go_simp; try with_reducible rfl
        simp only [Act.put, List.getElem_toArray, List.getElem_cons_succ, List.getElem_cons_zero, List.setIfInBounds_toArray, List.set_cons_zero, List.set_cons_succ]
        refine wpAnyH_take (i := 6) (v := ?_) rfl (by kernel_rfl) (by kernel_rfl) (by kernel_rfl) (fun _ _ _ h => h) (Or.inl ⟨by kernel_rfl, ?_⟩) (by assumption) ?_
        rotate_left
        · intro w hSw; (try dsimp only at hSw); go_simp; try with_reducible rfl
        simp only [Act.put, List.getElem_toArray, List.getElem_cons_succ, List.getElem_cons_zero, List.setIfInBounds_toArray, List.set_cons_zero, List.set_cons_succ]
        refine wpAnyH_take (i := 7) (v := ?_) rfl (by kernel_rfl) (by kernel_rfl) (by kernel_rfl) (fun _ _ _ h => h) (Or.inl ⟨by kernel_rfl, ?_⟩) (by assumption) ?_
        rotate_left
        · intro w hSw; (try dsimp only at hSw); go_simp; try with_reducible rfl
        simp only [Act.put, List.getElem_toArray, List.getElem_cons_succ, List.getElem_cons_zero, List.setIfInBounds_toArray, List.set_cons_zero, List.set_cons_succ]
        refine wpAnyH_take (i := 8) (v := ?_) rfl (by kernel_rfl) (by kernel_rfl) (by kernel_rfl) (fun _ _ _ h => h) (Or.inl ⟨by kernel_rfl, ?_⟩) (by assumption) ?_
        rotate_left
        · intro w hSw; (try dsimp only at hSw); go_simp; try with_reducible rfl
        simp only [Act.put, List.getElem_toArray, List.getElem_cons_succ, List.getElem_cons_zero, List.setIfInBounds_toArray, List.set_cons_zero, List.set_cons_succ]
        refine wpAnyH_take (i := 9) (v := ?_) rfl (by kernel_rfl) (by kernel_rfl) (by kernel_rfl) (fun _ _ _ h => h) (Or.inl ⟨by kernel_rfl, ?_⟩) (by assumption) ?_
        rotate_left
        · intro w hSw; (try dsimp only at hSw); go_simp; try with_reducible rfl
        simp only [Act.put, List.getElem_toArray, List.getElem_cons_succ, List.getElem_cons_zero, List.setIfInBounds_toArray, List.set_cons_zero, List.set_cons_succ]
        refine wpAnyH_take (i := 10) (v := ?_) rfl (by kernel_rfl) (by kernel_rfl) (by kernel_rfl) (fun _ _ _ h => h) (Or.inl ⟨by kernel_rfl, ?_⟩) (by assumption) ?_
        rotate_left
        · intro w hSw; (try dsimp only at hSw); go_simp; try with_reducible rfl
        simp only [Act.put, List.getElem_toArray, List.getElem_cons_succ, List.getElem_cons_zero, List.setIfInBounds_toArray, List.set_cons_zero, List.set_cons_succ]
        refine wpAnyH_take (i := 11) (v := ?_) rfl (by kernel_rfl) (by kernel_rfl) (by kernel_rfl) (fun _ _ _ h => h) (Or.inl ⟨by kernel_rfl, ?_⟩) (by assumption) ?_
        rotate_left
        · intro w hSw; (try dsimp only at hSw); go_simp; try with_reducible rfl
        simp only [Act.put, List.getElem_toArray, List.getElem_cons_succ, List.getElem_cons_zero, List.setIfInBounds_toArray, List.set_cons_zero, List.set_cons_succ]
        refine wpAnyH_take (i := 12) (v := ?_) rfl (by kernel_rfl) (by kernel_rfl) (by kernel_rfl) (fun _ _ _ h => h) (Or.inl ⟨by kernel_rfl, ?_⟩) (by assumption) ?_
        rotate_left
        · intro w hSw; (try dsimp only at hSw); go_simp; try with_reducible rfl
        simp only [Act.put, List.getElem_toArray, List.getElem_cons_succ, List.getElem_cons_zero, List.setIfInBounds_toArray, List.set_cons_zero, List.set_cons_succ]
        refine wpAnyH_take (i := 13) (v := ?_) rfl (by kernel_rfl) (by kernel_rfl) (by kernel_rfl) (fun _ _ _ h => h) (Or.inl ⟨by kernel_rfl, ?_⟩) (by assumption) ?_
        rotate_left
        · intro w hSw; (try dsimp only at hSw); go_simp; try with_reducible rfl
        simp only [Act.put, List.getElem_toArray, List.getElem_cons_succ, List.getElem_cons_zero, List.setIfInBounds_toArray, List.set_cons_zero, List.set_cons_succ]
        refine wpAnyH_take (i := 14) (v := .int .i64 (mz.o * s.len)) rfl (by kernel_rfl) (by kernel_rfl) (by kernel_rfl) (fun _ _ _ h => h) (Or.inl ⟨by kernel_rfl, ?_⟩) (by assumption) ?_
        · intro w hSw; (try dsimp only at hSw)
          have y2 := Y2.out; go_simp
        simp only [Act.put, List.getElem_toArray, List.getElem_cons_succ, List.getElem_cons_zero, List.setIfInBounds_toArray, List.set_cons_zero, List.set_cons_succ]
        refine wpAnyH_take (i := 16) (v := ?_) rfl (by kernel_rfl) (by kernel_rfl) (by kernel_rfl) (fun _ _ _ h => h) (Or.inl ⟨by kernel_rfl, ?_⟩) (by assumption) ?_
        rotate_left
        · intro w hSw; (try dsimp only at hSw); go_simp; try with_reducible rfl
        simp only [Act.put, List.getElem_toArray, List.getElem_cons_succ, List.getElem_cons_zero, List.setIfInBounds_toArray, List.set_cons_zero, List.set_cons_succ]
        refine wpAnyH_take (i := 17) (v := ?_) rfl (by kernel_rfl) (by kernel_rfl) (by kernel_rfl) (fun _ _ _ h => h) (Or.inl ⟨by kernel_rfl, ?_⟩) (by assumption) ?_
        rotate_left
        · intro w hSw; (try dsimp only at hSw); go_simp; try with_reducible rfl
        simp only [Act.put, List.getElem_toArray, List.getElem_cons_succ, List.getElem_cons_zero, List.setIfInBounds_toArray, List.set_cons_zero, List.set_cons_succ]
        refine wpAnyH_ready (rs := [15]) (by kernel_rfl) (by simp) ?_
        refine AllReadyH.cons rfl (fun K hK => ?_) AllReadyH.nil
        go_simp
        rw [HX.out]
        refine hK.out _ _ ⟨HS.out _ (Kept.refl _ _).drew, HM.out _ HI.out.2.2.2.2.2.1⟩ (fun hHeld => ?_)
        clear hK K
        try simp only [Act.put, List.getElem_toArray, List.getElem_cons_succ, List.getElem_cons_zero, List.setIfInBounds_toArray, List.set_cons_zero, List.set_cons_succ]
        refine wpAnyH_take (i := 18) (v := .bool gZ) rfl (by kernel_rfl) (by kernel_rfl) (by kernel_rfl) (fun _ _ _ h => h) (Or.inl ⟨by kernel_rfl, ?_⟩) (by assumption) ?_
        · intro w hSw; (try dsimp only at hSw)
          have hg := HgZ.out; go_simp
        simp only [Act.put, List.getElem_toArray, List.getElem_cons_succ, List.getElem_cons_zero, List.setIfInBounds_toArray, List.set_cons_zero, List.set_cons_succ]
        refine wpAnyH_done (by kernel_rfl) ?_ _
        simp only [normalOnly]
        clear hHeld
        gi_upto_if 111 with fail
        gi_cut [3] from 112 (fun s3 wx => s3 = .pointer (some ⟨b2 + 1, 0, none⟩) ∧ MtB wx b nr s { mz with f := FZ } ∧ Kept (fun x => x ≠ b) W wx)
        case first =>
          cases gZ with
          | true =>
            have hFe : mz.f ||| F = FZ := HFZ.out.1
            have X4 := i64_or_nat mz.f F (by have := HJ.out.2.2.2.2.1; omega) (by have := HF.out.2; omega)
            rw [hFe] at X4
            have X4' : bits .or .i64 (mz.f : Int) (F : Int) = (FZ : Int) := X4
            have HX4 := Lib.hid X4'
            have c11 := (HI.out.2.2.2.2.2.1).cells.2.2.2.2.2.2.2.2.2.2.2.1
            have f11 := (HI.out.2.2.2.2.2.1).fr 11
            have HB11 := Lib.hid (And.intro c11 f11)
            clear hFe X4 X4' c11 f11
            gi_wp2_with (first | (refine wpIn_scope ?_) | (refine wpIn_label ?_))
            refine wpIn_normal (wpIn_wide.2 ?_)
            refine wp_region_held_drew (S := (fun Y => Y.cell? ⟨b2, 0, none⟩ = some (.pointer (some ⟨b, 0, none⟩)) ∧ Y.cell? ⟨b2 + 1, 0, none⟩ = some (.int .i64 t') ∧ Y.cell? ⟨b2 + 1, 1, none⟩ = some (.int .u32 (d : Int)) ∧ Y.cell? ⟨b2 + 1, 2, none⟩ = some (.int .i64 (F : Int)))) (by kernel_rfl) (HS.out _ (Kept.refl _ _).drew.drew) (fun hHeld => ?_)
            refine wpAnyH_take (i := 0) (v := ?_) rfl (by kernel_rfl) (by kernel_rfl) (by kernel_rfl) (fun _ _ _ h => h) (Or.inl ⟨by kernel_rfl, ?_⟩) (by assumption) ?_
            rotate_left
            · intro w hSw; (try dsimp only at hSw); go_simp; try with_reducible rfl
            simp only [Act.put, List.getElem_toArray, List.getElem_cons_succ, List.getElem_cons_zero, List.setIfInBounds_toArray, List.set_cons_zero, List.set_cons_succ]
            refine wpAnyH_take (i := 1) (v := ?_) rfl (by kernel_rfl) (by kernel_rfl) (by kernel_rfl) (fun _ _ _ h => h) (Or.inl ⟨by kernel_rfl, ?_⟩) (by assumption) ?_
            rotate_left
            · intro w hSw; (try dsimp only at hSw); go_simp; try with_reducible rfl
            simp only [Act.put, List.getElem_toArray, List.getElem_cons_succ, List.getElem_cons_zero, List.setIfInBounds_toArray, List.set_cons_zero, List.set_cons_succ]
            refine wpAnyH_take (i := 2) (v := ?_) rfl (by kernel_rfl) (by kernel_rfl) (by kernel_rfl) (fun _ _ _ h => h) (Or.inl ⟨by kernel_rfl, ?_⟩) (by assumption) ?_
            rotate_left
            · intro w hSw; (try dsimp only at hSw); go_simp; try with_reducible rfl
            simp only [Act.put, List.getElem_toArray, List.getElem_cons_succ, List.getElem_cons_zero, List.setIfInBounds_toArray, List.set_cons_zero, List.set_cons_succ]
            refine wpAnyH_take (i := 4) (v := ?_) rfl (by kernel_rfl) (by kernel_rfl) (by kernel_rfl) (fun _ _ _ h => h) (Or.inl ⟨by kernel_rfl, ?_⟩) (by assumption) ?_
            rotate_left
            · intro w hSw; (try dsimp only at hSw); go_simp; try with_reducible rfl
            simp only [Act.put, List.getElem_toArray, List.getElem_cons_succ, List.getElem_cons_zero, List.setIfInBounds_toArray, List.set_cons_zero, List.set_cons_succ]
            refine wpAnyH_take (i := 5) (v := ?_) rfl (by kernel_rfl) (by kernel_rfl) (by kernel_rfl) (fun _ _ _ h => h) (Or.inl ⟨by kernel_rfl, ?_⟩) (by assumption) ?_
            rotate_left
            · intro w hSw; (try dsimp only at hSw); go_simp; try with_reducible rfl
            simp only [Act.put, List.getElem_toArray, List.getElem_cons_succ, List.getElem_cons_zero, List.setIfInBounds_toArray, List.set_cons_zero, List.set_cons_succ]
            refine wpAnyH_ready (rs := [3]) (by kernel_rfl) (by simp) ?_
            refine AllReadyH.cons rfl (fun K hK => ?_) AllReadyH.nil
            have hm : MtB W.drew.drew b nr s mz := HI.out.2.2.2.2.2.1
            have q1 := (HM.out _ hm).2.2.2.2
            clear hm
            go_simp
            clear q1
            refine hK.out _ _ (HS.out _ (Kept.refl _ _).drew.drew) (fun hHeld => ?_)
            clear hK K
            try simp only [Act.put, List.getElem_toArray, List.getElem_cons_succ, List.getElem_cons_zero, List.setIfInBounds_toArray, List.set_cons_zero, List.set_cons_succ]
            refine wpAnyH_take (i := 6) (v := .int .i64 (FZ : Int)) rfl (by kernel_rfl) (by kernel_rfl) (by kernel_rfl) (fun _ _ _ h => h) (Or.inl ⟨by kernel_rfl, ?_⟩) (by assumption) ?_
            · intro w hSw; (try dsimp only at hSw)
              have x4 := HX4.out; go_simp
            simp only [Act.put, List.getElem_toArray, List.getElem_cons_succ, List.getElem_cons_zero, List.setIfInBounds_toArray, List.set_cons_zero, List.set_cons_succ]
            refine wpAnyH_take (i := 7) (v := ?_) rfl (by kernel_rfl) (by kernel_rfl) (by kernel_rfl) (fun _ _ _ h => h) (Or.inl ⟨by kernel_rfl, ?_⟩) (by assumption) ?_
            rotate_left
            · intro w hSw; (try dsimp only at hSw); go_simp; try with_reducible rfl
            simp only [Act.put, List.getElem_toArray, List.getElem_cons_succ, List.getElem_cons_zero, List.setIfInBounds_toArray, List.set_cons_zero, List.set_cons_succ]
            refine wpAnyH_take (i := 8) (v := ?_) rfl (by kernel_rfl) (by kernel_rfl) (by kernel_rfl) (fun _ _ _ h => h) (Or.inl ⟨by kernel_rfl, ?_⟩) (by assumption) ?_
            rotate_left
            · intro w hSw; (try dsimp only at hSw); go_simp; try with_reducible rfl
            simp only [Act.put, List.getElem_toArray, List.getElem_cons_succ, List.getElem_cons_zero, List.setIfInBounds_toArray, List.set_cons_zero, List.set_cons_succ]
            refine wpAnyH_ready (rs := [9]) (by kernel_rfl) (by simp) ?_
            refine AllReadyH.cons rfl (fun K hK => ?_) AllReadyH.nil
            have hm : MtB W.drew.drew b nr s mz := HI.out.2.2.2.2.2.1
            have q1 := (HM.out _ hm).2.2.2.2
            have q2 := hm.fr 11
            clear hm
            go_simp
            clear q1 q2
            refine hK.out _ _ (HS.out _ ((Kept.refl _ _).drew.drew.setCell (p := ⟨b, 11, none⟩) (fun h => h rfl) _)) (fun hHeld => ?_)
            clear hK K
            try simp only [Act.put, List.getElem_toArray, List.getElem_cons_succ, List.getElem_cons_zero, List.setIfInBounds_toArray, List.set_cons_zero, List.set_cons_succ]
            refine wpAnyH_done (by kernel_rfl) ?_ _
            simp only [normalOnly]
            gi_wp2_with (first | (refine wpIn_scope ?_) | (refine wpIn_label ?_))
            gi_meet
            refine ⟨rfl, ?_, (((Kept.refl _ W).drew).drew).setCell (fun hh => hh rfl) _⟩
            exact bset (W := W.drew.drew) HI.out.2.2.2.2.2.1 (i := 11) (.int .i64 (FZ : Int))
          | false =>
            have hFe : mz.f = FZ := HFZ.out.1
            gi_wp2_with (first | (refine wpIn_scope ?_) | (refine wpIn_label ?_))
            gi_meet
            refine ⟨rfl, ?_, (Kept.refl _ W).drew⟩
            rw [← hFe]
            exact HI.out.2.2.2.2.2.1
        case rest =>
          obtain ⟨rfl, hmz1, hkc⟩ := hcut
          have HMz := Lib.hid hmz1
          have HKc := Lib.hid hkc
          clear hmz1 hkc
          gi_wp2_with (first | (refine wpIn_scope ?_) | (refine wpIn_label ?_))
          refine wpIn_normal (wpIn_wide.2 ?_)
          refine wp_region_held_drew (S := (fun Y => Y.cell? ⟨b2, 0, none⟩ = some (.pointer (some ⟨b, 0, none⟩)) ∧ Y.cell? ⟨b2 + 1, 0, none⟩ = some (.int .i64 t') ∧ Y.cell? ⟨b2 + 1, 1, none⟩ = some (.int .u32 (d : Int)) ∧ Y.cell? ⟨b2 + 1, 2, none⟩ = some (.int .i64 (F : Int)))) (by kernel_rfl) (HS.out _ HKc.out.drew) (fun hHeld => ?_)
          refine wpAnyH_take (i := 0) (v := ?_) rfl (by kernel_rfl) (by kernel_rfl) (by kernel_rfl) (fun _ _ _ h => h) (Or.inl ⟨by kernel_rfl, ?_⟩) (by assumption) ?_
          rotate_left
          · intro w hSw; (try dsimp only at hSw); go_simp; try with_reducible rfl
          simp only [Act.put, List.getElem_toArray, List.getElem_cons_succ, List.getElem_cons_zero, List.setIfInBounds_toArray, List.set_cons_zero, List.set_cons_succ]
          refine wpAnyH_take (i := 1) (v := ?_) rfl (by kernel_rfl) (by kernel_rfl) (by kernel_rfl) (fun _ _ _ h => h) (Or.inl ⟨by kernel_rfl, ?_⟩) (by assumption) ?_
          rotate_left
          · intro w hSw; (try dsimp only at hSw); go_simp; try with_reducible rfl
          simp only [Act.put, List.getElem_toArray, List.getElem_cons_succ, List.getElem_cons_zero, List.setIfInBounds_toArray, List.set_cons_zero, List.set_cons_succ]
          refine wpAnyH_take (i := 2) (v := ?_) rfl (by kernel_rfl) (by kernel_rfl) (by kernel_rfl) (fun _ _ _ h => h) (Or.inl ⟨by kernel_rfl, ?_⟩) (by assumption) ?_
          rotate_left
          · intro w hSw; (try dsimp only at hSw); go_simp; try with_reducible rfl
          simp only [Act.put, List.getElem_toArray, List.getElem_cons_succ, List.getElem_cons_zero, List.setIfInBounds_toArray, List.set_cons_zero, List.set_cons_succ]
          refine wpAnyH_take (i := 4) (v := ?_) rfl (by kernel_rfl) (by kernel_rfl) (by kernel_rfl) (fun _ _ _ h => h) (Or.inl ⟨by kernel_rfl, ?_⟩) (by assumption) ?_
          rotate_left
          · intro w hSw; (try dsimp only at hSw); go_simp; try with_reducible rfl
          simp only [Act.put, List.getElem_toArray, List.getElem_cons_succ, List.getElem_cons_zero, List.setIfInBounds_toArray, List.set_cons_zero, List.set_cons_succ]
          refine wpAnyH_take (i := 5) (v := ?_) rfl (by kernel_rfl) (by kernel_rfl) (by kernel_rfl) (fun _ _ _ h => h) (Or.inl ⟨by kernel_rfl, ?_⟩) (by assumption) ?_
          rotate_left
          · intro w hSw; (try dsimp only at hSw); go_simp; try with_reducible rfl
          simp only [Act.put, List.getElem_toArray, List.getElem_cons_succ, List.getElem_cons_zero, List.setIfInBounds_toArray, List.set_cons_zero, List.set_cons_succ]
          refine wpAnyH_take (i := 6) (v := .int .u64 (d : Int)) rfl (by kernel_rfl) (by kernel_rfl) (by kernel_rfl) (fun _ _ _ h => h) (Or.inl ⟨by kernel_rfl, ?_⟩) (by assumption) ?_
          · intro w hSw; (try dsimp only at hSw)
            have y3 := Y3.out; go_simp
          simp only [Act.put, List.getElem_toArray, List.getElem_cons_succ, List.getElem_cons_zero, List.setIfInBounds_toArray, List.set_cons_zero, List.set_cons_succ]
          refine wpAnyH_ready (rs := [3]) (by kernel_rfl) (by simp) ?_
          refine AllReadyH.cons rfl (fun K hK => ?_) AllReadyH.nil
          have hm : MtB wc.drew b nr s { mz with f := FZ } := HMz.out
          have q1 : wc.drew.cell? ⟨b, 9, none⟩ = some (.int .u64 (m.c : Int)) := by have := hm.cells.2.2.2.2.2.2.2.2.2.1; rw [show ({ mz with f := FZ } : M).c = m.c from HJ.out.2.2.2.1] at this; exact this
          have q2 := hm.fr 9
          clear hm
          go_simp
          clear q1 q2
          refine hK.out _ _ (HS.out _ HKc.out.drew) (fun hHeld => ?_)
          clear hK K
          try simp only [Act.put, List.getElem_toArray, List.getElem_cons_succ, List.getElem_cons_zero, List.setIfInBounds_toArray, List.set_cons_zero, List.set_cons_succ]
          refine wpAnyH_take (i := 7) (v := .int .u64 ((m.c + d : Nat) : Int)) rfl (by kernel_rfl) (by kernel_rfl) (by kernel_rfl) (fun _ _ _ h => h) (Or.inl ⟨by kernel_rfl, ?_⟩) (by assumption) ?_
          · intro w hSw; (try dsimp only at hSw)
            have y4 := Y4.out; go_simp
          simp only [Act.put, List.getElem_toArray, List.getElem_cons_succ, List.getElem_cons_zero, List.setIfInBounds_toArray, List.set_cons_zero, List.set_cons_succ]
          refine wpAnyH_take (i := 8) (v := ?_) rfl (by kernel_rfl) (by kernel_rfl) (by kernel_rfl) (fun _ _ _ h => h) (Or.inl ⟨by kernel_rfl, ?_⟩) (by assumption) ?_
          rotate_left
          · intro w hSw; (try dsimp only at hSw); go_simp; try with_reducible rfl
          simp only [Act.put, List.getElem_toArray, List.getElem_cons_succ, List.getElem_cons_zero, List.setIfInBounds_toArray, List.set_cons_zero, List.set_cons_succ]
          refine wpAnyH_take (i := 9) (v := ?_) rfl (by kernel_rfl) (by kernel_rfl) (by kernel_rfl) (fun _ _ _ h => h) (Or.inl ⟨by kernel_rfl, ?_⟩) (by assumption) ?_
          rotate_left
          · intro w hSw; (try dsimp only at hSw); go_simp; try with_reducible rfl
          simp only [Act.put, List.getElem_toArray, List.getElem_cons_succ, List.getElem_cons_zero, List.setIfInBounds_toArray, List.set_cons_zero, List.set_cons_succ]
          refine wpAnyH_ready (rs := [10]) (by kernel_rfl) (by simp) ?_
          refine AllReadyH.cons rfl (fun K hK => ?_) AllReadyH.nil
          have hm : MtB wc.drew b nr s { mz with f := FZ } := HMz.out
          have q1 : wc.drew.cell? ⟨b, 9, none⟩ = some (.int .u64 (m.c : Int)) := by have := hm.cells.2.2.2.2.2.2.2.2.2.1; rw [show ({ mz with f := FZ } : M).c = m.c from HJ.out.2.2.2.1] at this; exact this
          have q2 := hm.fr 9
          clear hm
          go_simp
          clear q1 q2
          refine hK.out _ _ (HS.out _ (HKc.out.drew.setCell (p := ⟨b, 9, none⟩) (fun h => h rfl) _)) (fun hHeld => ?_)
          clear hK K
          try simp only [Act.put, List.getElem_toArray, List.getElem_cons_succ, List.getElem_cons_zero, List.setIfInBounds_toArray, List.set_cons_zero, List.set_cons_succ]
          refine wpAnyH_done (by kernel_rfl) ?_ _
          simp only [normalOnly]
          clear hHeld
          have hk8 := (HKc.out.setCell (p := ⟨b, 9, none⟩) (fun h => h rfl) (.int .u64 ((m.c : Int) + (d : Int)))).drew
          have hm8 : MtB (wc.setCell ⟨b, 9, none⟩ (.int .u64 ((m.c : Int) + (d : Int)))).drew b nr s { mz with f := FZ, c := m.c + d } := bset (W := wc) HMz.out (i := 9) (.int .u64 ((m.c : Int) + (d : Int)))
          obtain ⟨W8, hW8⟩ : ∃ X, (wc.setCell ⟨b, 9, none⟩ (.int .u64 ((m.c : Int) + (d : Int)))).drew = X := ⟨_, rfl⟩
          rw [hW8] at hk8 hm8
          rw [hW8]
          clear hW8
          obtain ⟨W9, hW9⟩ : ∃ X, W8.setCell ⟨b, 7, none⟩ (.int .i64 t') = X := ⟨_, rfl⟩
          have hm9 : MtB W9 b nr s (passZ s m t' d fl) := by rw [HFZ.out.2, ← hW9]; exact bset hm8 (i := 7) (.int .i64 t')
          have hk9 : Kept (fun x => x ≠ b) W W9 := by rw [← hW9]; exact hk8.setCell (p := ⟨b, 7, none⟩) (fun h => h rfl) _
          have e0 := (HS.out _ hk8).1
          have e1 := (HS.out _ hk8).2.1
          have e2 := hm8.cells.2.2.2.2.2.2.2.1
          have e3 := hm8.fr 7
          have e4 : W9.cell? ⟨bo, 0, none⟩ = some (.slice A J c) := blk_cell (heap_kept hk9 HI.out.2.2.2.1 (by have := HL.out; omega)) 0 rfl
          have Hm9 := Lib.hid (And.intro hm9 hk9)
          clear hm9 hk9 hm8 hk8
          gi_wp2_with (first | (refine wpIn_scope ?_) | (refine wpIn_label ?_))
          obtain ⟨hm9, hk9⟩ := Hm9.out
          obtain ⟨-, -, -, -, how, -, hkw, hK, hDd⟩ := HI.out
          have hl := HL.out
          have hK9 := (hk9.block Dd (Array.getElem?_eq_some_iff.1 hK).1 (by omega)).trans hK
          refine ⟨by simp, .inl ⟨_, _, rfl, run_takeDeferred hK9, ?_⟩⟩
          refine ⟨_, results_tmp45 rfl _ _ _, ?_⟩
          rw [HJ.out.1, HF.out.1]
          refine ⟨A, c, rfl, ?_, ?_, ?_⟩
          · exact own_lowerM ((own_ownW (B := w5.heap.size)).putObj (.deferred none) (own_keptM how hk9 (fun g e => by have := how.lt g e; omega)) hDd hK9 rfl) hl.2.2.2.2.2
          · exact (World.putObj_heap_other (by omega)).trans hm9
          · exact (hkw.trans hk9).putObj (by omega) _

end Go.Proofs.Ytjmkbpgakfeceaa
