/-
  A device of sectors: what Write hands to counted (a write more in the cache), walked. Conditions stand at each theorem. (Printed by gen_blk8.py.)
-/
import Derived.Test.YtpleaicpkpjkjaaBlk3
import Derived.Test.YtpleaicpkpjkjaaBlk5
import Derived.Great.BuildSlice
import Derived.Deep.MidRow
import Derived.Deep.RegionHeld3
namespace Go.Proofs.Ytpleaicpkpjkjaa
open Go Go.RowKit Go.Kw
set_option linter.unusedVariables false
set_option linter.unusedSimpArgs false

/-- An operation whose run is known. -/
theorem wp_run {P : Program} {o : Oper} {a : Act} {w w' : World} {K : Act → World → Prop} {Q : Exit → Act → World → Prop} {v : Value} (h : (execOp a.eval o).run P w = .ok (.value v) w') (hk : K (a.put o.dst v) w') : Oper.wp P o a w K Q := by
  unfold Oper.wp; rw [h]; exact hk
/-- The runs of three operations, from those of their instructions. -/
theorem build_op {P : Program} {o : Oper} {a : Act} (t : TypeId) (parts : Array (Nat × Operand)) (ho : o.op = .build t parts) (cells : Array Value) (h : P.built t (parts.map fun (i, x) => (i, a.eval x)).toList = some cells) (w : World) :
    (execOp a.eval o).run P w = .ok (.value (.agg cells)) w := by
  unfold execOp
  simp only [ho, Sem.run_bind, run_build w t _ cells h, Result.andThen_ok]
  rfl
theorem buildSlice_op {P : Program} {o : Oper} {a : Act} {w w' : World} (t : TypeId) (len : Nat) (parts : Array (Nat × Operand)) (ho : o.op = .buildSlice t len parts) {v : Value} (h : (Instr.buildSlice t len (parts.map fun (i, x) => (i, a.eval x))).run P w = .ok v w') :
    (execOp a.eval o).run P w = .ok (.value v) w' := by
  unfold execOp
  simp only [ho, Sem.run_bind, h, Result.andThen_ok]
  rfl
theorem append_op {P : Program} {o : Oper} {a : Act} {w w' : World} {s x : Operand} {t : TypeId} (ho : o.op = .call { callee := .builtin .append, args := #[s, x], argTypes := #[t, t] }) {v : Value} (h : (Builtin.append_ #[t, t] o.type #[a.eval s, a.eval x]).run P w = .ok v w') :
    (execOp a.eval o).run P w = .ok (.value v) w' := by
  unfold execOp
  simp only [ho, resolve, invoke, builtin, Sem.run_bind, Sem.run_pure, Result.andThen_ok, List.map_toArray, List.map_cons, List.map_nil, h]
/-- Parts that fill a struct of two fields, the second an array. -/
theorem fill_two (x : Value) (hx : x.cells.size = 1) (b : Array Value) (z : Array Value) (hz : z.size = 1 + b.size) (pl : Nat → Option (Nat × Nat)) (h0 : pl 0 = some (0, 1)) (h1 : pl 1 = some (1, b.size)) :
    Instr.fill pl z [(0, x), (1, .agg b)] = some (x.cells ++ b) := by
  have e1 : (Value.agg b).cells = b := rfl
  obtain ⟨a1, a2⟩ := Great.foldl_set 0 x.cells.toList 0 z
  obtain ⟨b1, b2⟩ := Great.foldl_set 1 b.toList 0 (x.cells.zipIdx.foldl (fun cs (c, j) => cs.setIfInBounds (0 + j) c) z)
  have q1 : x.cells.zipIdx.foldl (fun cs (c, j) => cs.setIfInBounds (0 + j) c) z = (x.cells.toList.zipIdx 0).foldl (fun cs (y : Value × Nat) => cs.setIfInBounds (0 + y.2) y.1) z := by
    rw [← Array.foldl_toList, Array.toList_zipIdx]
  have q2 : ∀ (y : Array Value), b.zipIdx.foldl (fun cs (c, j) => cs.setIfInBounds (1 + j) c) y = (b.toList.zipIdx 0).foldl (fun cs (u : Value × Nat) => cs.setIfInBounds (1 + u.2) u.1) y := fun y => by
    rw [← Array.foldl_toList, Array.toList_zipIdx]
  unfold Instr.fill
  rw [h0]
  dsimp only
  rw [if_neg (by simp [hx, hz])]
  unfold Instr.fill
  rw [h1]
  dsimp only
  rw [if_neg (by rw [e1, q1, a1]; simp [hz]), e1]
  unfold Instr.fill
  rw [q2]
  refine congrArg some (Array.ext_getElem? fun k => ?_)
  rw [b2 k, q1, a2 k, a1, Array.getElem?_append, hx]
  simp only [Nat.zero_add, Nat.add_zero, Array.length_toList, hx, Nat.sub_zero, hz]
  by_cases hk : k < 1
  · rw [if_neg (by omega), if_pos (by omega), if_pos hk]; simp
  · rw [if_neg hk]
    by_cases hk2 : k < 1 + b.size
    · rw [if_pos (by omega)]; simp
    · rw [if_neg (by omega), if_neg (by omega), Array.getElem?_eq_none (by omega), Array.getElem?_eq_none (by omega)]
theorem eW : Elem Try.prog 65 71 (.agg (#[.int .i64 0] ++ Array.replicate 128 (.int .u8 0))) 129 136 := ⟨Try.underlying65, by kernel_rfl, by simp [Value.cells], by decide⟩
/-- What 'Program.built' comes to at a write. -/
theorem built_write (n : Nat) (l : List UInt8) (hl : l.length = 128) : Try.prog.built 71 [(0, .int .i64 (n : Int)), (1, .agg (bv l).toArray)] = some (cW (n, l)).toArray := by
  have hz : (Try.prog.info? 71).map (fun i => i.zero) = some (some (.agg (#[.int .i64 0] ++ Array.replicate 128 (.int .u8 0)))) := by kernel_rfl
  obtain ⟨i, hi, hz⟩ := Option.map_eq_some_iff.1 hz
  have hf : ∃ fs, Try.prog.underlying 71 = some (.struct fs) ∧ fs.toList.mapM (fun f => (Try.prog.info? f.type).map fun i => (f.offset, i.size)) = some [(0, 1), (1, 128)] := ⟨_, rfl, by kernel_rfl⟩
  obtain ⟨fs, hu, hm⟩ := hf
  unfold Program.built
  rw [hi, hu]
  dsimp only
  rw [hz, hm]
  dsimp only
  rw [fill_two (.int .i64 (n : Int)) rfl (bv l).toArray _ (by simp [Value.cells, bv_length, hl]) _ rfl (by simp [bv_length, hl])]
  simp [cW, Value.cells]
theorem built_writes (n : Nat) (l : List UInt8) (hl : l.length = 128) (w : World) : (Instr.buildSlice 65 1 #[(0, .agg (cW (n, l)).toArray)]).run Try.prog w = .ok (.slice (some ⟨w.heap.size, 0, none⟩) 1 1) (w.alloc (.cells (cW (n, l)).toArray 71)) := by
  obtain ⟨i, hi, hz, hs, hb⟩ := info_parts eW.inf
  refine run_buildSlice w _ _ 1 _ _ i _ eW.ht hi hz (by rw [hs]; decide) (by rw [hs]; decide) ?_
  rw [hs]
  have := Great.fill_whole (s := 129) (by decide) [Value.agg (cW (n, l)).toArray] ((Array.range (1 * 129)).map ((Value.agg (#[.int .i64 0] ++ Array.replicate 128 (.int .u8 0))).cells[· % (Value.agg (#[.int .i64 0] ++ Array.replicate 128 (.int .u8 0))).cells.size]!))
    (fun v hv => by obtain rfl := List.mem_singleton.1 hv; simp [Value.cells, cW_len (x := (n, l)) hl]) (by simp)
  rw [show (#[(0, Value.agg (cW (n, l)).toArray)] : Array (Nat × Value)).toList = ([Value.agg (cW (n, l)).toArray].zipIdx 0).map (fun x => (x.2, x.1)) from rfl, this]
  simp [Value.cells]

/-- Write's closure: a write more in the cache. -/
def PutB (w : World) (B d : Nat) (A : Option Addr) (N c : Nat) (V : Value) (C : List (Nat × List UInt8)) (p : Int) (dn : Bool) (k : Int) (w' : World) : Prop :=
  ∃ CA' cc', DevH w' d A N c CA' C.length cc' p dn k ∧ w'.ownsRow B 71 129 (.slice CA' C.length cc') C.length (cacC C) ∧ Kept (fun b => b ≠ d ∧ V.ownBlock ≠ some b) w w' ∧
    ((Value.slice CA' C.length cc').ownBlock = V.ownBlock ∨ ∃ g, (Value.slice CA' C.length cc').ownBlock = some g ∧ w.heap.size ≤ g)
theorem DevH.set1 {W : World} {d : Nat} {A : Option Addr} {n c : Nat} {C : Option Addr} {m cc : Nat} {p : Int} {dn : Bool} {k : Int} (h : DevH W d A n c C m cc p dn k) (C' : Option Addr) (m' cc' : Nat) : DevH (W.setCell ⟨d, 1, none⟩ (.slice C' m' cc')) d A n c C' m' cc' p dn k := by
  have := heap_setCell_same W d 1 _ _ (.slice C' m' cc') h
  exact this
theorem own_set_other {w : World} {base : Nat} {e : TypeId} {size : Nat} {v : Value} {n : Nat} {xs : List Value} (h : w.ownsRow base e size v n xs) (d i : Nat) (hd : v.ownBlock ≠ some d) (u : Value) : (w.setCell ⟨d, i, none⟩ u).ownsRow base e size v n xs := by
  refine ⟨h.1, ?_⟩
  rcases h.2 with h | ⟨g, cap, cur, hv, hg, hh, r⟩
  · exact .inl h
  · refine .inr ⟨g, cap, cur, hv, hg, ?_, r⟩
    rw [Below.heap_setCell _ _ _ _ (fun e => hd (by subst hv; simp [Value.ownBlock, e]))]
    exact hh
theorem cw_vals (x : Nat × List UInt8) (h : x.2.length = 128) : vals (1 * 129) (fun i => (cW x).getD i undef) = cW x := by
  apply List.ext_getElem?
  intro j
  rcases Nat.lt_or_ge j 129 with hj | hj
  · have hj2 : j < (cW x).length := by rw [cW_len h]; exact hj
    rw [vals_getElem? (by omega)]
    simp [List.getElem?_eq_getElem hj2]
  · rw [List.getElem?_eq_none (by rw [vals_length]; omega), List.getElem?_eq_none (by rw [cW_len h]; exact hj)]
theorem cW_one (x : Nat × List UInt8) (i : Nat) (h : i < (cW x).length) : ((cW x).getD i undef).oneCell' = true := by
  rcases i with _ | i
  · simp [cW]; rfl
  · simp [cW, bv] at h ⊢
    rw [List.getElem?_eq_getElem h]; rfl
/-- The append of one write that lies in a new block. -/
theorem write_append (w : World) (B : Nat) {CA : Option Addr} {m cc : Nat} {C : List (Nat × List UInt8)} (hown : w.ownsRow B 71 129 (.slice CA m cc) m (cacC C)) (hC : ∀ x ∈ C, x.2.length = 128) (n : Nat) (l : List UInt8) (hl : l.length = 128) (hB : B ≤ w.heap.size) (hm : m ≤ 256) :
    ∃ CA' cc' w', (Builtin.append_ #[65, 65] 65 #[.slice CA m cc, .slice (some ⟨w.heap.size, 0, none⟩) 1 1]).run Try.prog (w.alloc (.cells (cW (n, l)).toArray 71)) = .ok (.slice CA' (m + 1) cc') w' ∧
      w'.ownsRow B 71 129 (.slice CA' (m + 1) cc') (m + 1) (cacC (C ++ [(n, l)])) ∧ (w.alloc (.cells (cW (n, l)).toArray 71)).grownBy w' (Value.slice CA m cc).ownBlock ∧
      ((Value.slice CA' (m + 1) cc').ownBlock = (Value.slice CA m cc).ownBlock ∨ (Value.slice CA' (m + 1) cc').ownBlock = some (w.heap.size + 1)) := by
  have hr : Rd (w.alloc (.cells (cW (n, l)).toArray 71)) (w.heap.size + 1) (some ⟨w.heap.size, 0, none⟩) (1 * 129) (fun i => (cW (n, l)).getD i undef) := by
    refine .inr ⟨w.heap.size, 0, rfl, by omega, fun i hi => ?_⟩
    have hi2 : i < (cW (n, l)).length := by rw [cW_len hl]; omega
    rw [Nat.zero_add, World.cell?_alloc_mark]
    simp [List.getElem?_eq_getElem hi2]
  obtain ⟨v', w', hrun, o, g, -, b⟩ := run_append (P := Try.prog) _ B 65 eW (hown.alloc _) 1 1 hr (fun i hi => cW_one _ i (by rw [cW_len hl]; omega)) (by unfold maxLen; omega) (by omega) (by simp; omega) (fun e => by cases e)
  rw [cw_vals _ hl, cacC_snoc] at o
  obtain ⟨A', c', rfl, -⟩ := own_form o
  rw [World.size_alloc] at b
  exact ⟨A', c', w', hrun, o, g, b⟩

set_option maxHeartbeats 8000000 in
theorem write1_calls (w : World) (B b0 b1 b2 d : Nat) (A : Option Addr) (N c : Nat) (CA : Option Addr) (m cc : Nat) (p : Int) (dn : Bool) (k : Int) (h : DevH w d A N c CA m cc p dn k) (C : List (Nat × List UInt8))
    (hown : w.ownsRow B 71 129 (.slice CA m cc) m (cacC C)) (hC : ∀ x ∈ C, x.2.length = 128) (hCm : C.length = m) (n : Nat) (l : List UInt8) (hl : l.length = 128) (bb off bc : Nat)
    (h0 : w.cell? ⟨b0, 0, none⟩ = some (.pointer (some ⟨d, 0, none⟩))) (h1 : w.cell? ⟨b1, 0, none⟩ = some (.int .i64 (n : Int))) (h2 : w.cell? ⟨b2, 0, none⟩ = some (.slice (some ⟨bb, off, none⟩) 128 bc)) (hr : w.rangeAt bb off (bv l))
    (hB : B ≤ w.heap.size) (hm : m ≤ 256) (hd : (Value.slice CA m cc).ownBlock ≠ some d) (hn : ∀ b ∈ [b0, b1, b2, bb], b ≠ d ∧ (Value.slice CA m cc).ownBlock ≠ some b) :
    Calls Try.prog 29 #[.pointer (some ⟨b0, 0, none⟩), .pointer (some ⟨b1, 0, none⟩), .pointer (some ⟨b2, 0, none⟩)] w fun e W => (∃ u, e = .returned u) ∧ PutB w B d A N c (.slice CA m cc) (C ++ [(n, l)]) p dn k W := by
  have HS := Lib.hid (show ∀ W, Kept (fun b => b ≠ d ∧ (Value.slice CA m cc).ownBlock ≠ some b) w W → (fun W => W.cell? ⟨b0, 0, none⟩ = some (.pointer (some ⟨d, 0, none⟩)) ∧ W.cell? ⟨b1, 0, none⟩ = some (.int .i64 (n : Int)) ∧ W.cell? ⟨b2, 0, none⟩ = some (.slice (some ⟨bb, off, none⟩) 128 bc) ∧ W.rangeAt bb off (bv l)) W from fun W hk => by
    have hx : ∀ b ∈ [b0, b1, b2, bb], ∀ i v, w.cell? ⟨b, i, none⟩ = some v → W.cell? ⟨b, i, none⟩ = some v := fun b hb i v hv =>
      (World.cell?_of_block (a := ⟨b, i, none⟩) (hk.block b (block_lt hv) (hn b hb))).trans hv
    exact ⟨hx b0 (by simp) _ _ h0, hx b1 (by simp) _ _ h1, hx b2 (by simp) _ _ h2, fun j v hv => hx bb (by simp) _ _ (hr j v hv)⟩)
  have HI := Lib.hid (show (Try.prog.info? 69).map (·.size) = some (bv l).length by rw [bv_length, hl]; kernel_rfl)
  have HB := Lib.hid (built_writes n l hl)
  obtain ⟨CA', cc', w3, hrun, o3, g3, b3⟩ := write_append w.drew B (CA := CA) (m := m) (cc := cc) (C := C) hown hC n l hl hB hm
  have hk2 : Kept (fun b => b ≠ d ∧ (Value.slice CA m cc).ownBlock ≠ some b) w (w.drew.alloc (.cells (cW (n, l)).toArray 71)) := ((Kept.refl _ w).drew).alloc _
  have hk3 : Kept (fun b => b ≠ d ∧ (Value.slice CA m cc).ownBlock ≠ some b) w w3 := hk2.grown g3 (fun k hk => .inr (fun hh => hh.2 hk))
  have hd3 : DevH w3 d A N c CA m cc p dn k := by
    have e1 : (w.drew.alloc (.cells (cW (n, l)).toArray 71)).heap[d]? = some (.cells (devC A N c CA m cc p dn k) 67 (0, 0)) := (Below.heap_alloc _ _ _ h.lt).trans h
    exact (g3.block d (Array.getElem?_eq_some_iff.1 e1).1 (fun e => hd e.symm)).trans e1
  have hk4 : Kept (fun b => b ≠ d ∧ (Value.slice CA m cc).ownBlock ≠ some b) w (w3.setCell ⟨d, 1, none⟩ (.slice CA' (m + 1) cc')) := hk3.setCell (fun hh => hh.1 rfl) _
  have HP := Lib.hid (show PutB w B d A N c (.slice CA m cc) (C ++ [(n, l)]) p dn k (w3.setCell ⟨d, 1, none⟩ (.slice CA' (m + 1) cc')) by
    have hlen : (C ++ [(n, l)]).length = m + 1 := by simp [hCm]
    unfold PutB
    rw [hlen]
    refine ⟨CA', cc', hd3.set1 _ _ _, own_set_other o3 d 1 ?_ _, hk4, ?_⟩
    · rcases b3 with b3 | b3
      · rw [b3]; exact hd
      · rw [b3]; intro e; injection e with e; have := h.lt; have : w.drew.heap.size = w.heap.size := rfl; omega
    · rcases b3 with b3 | b3
      · exact .inl b3
      · exact .inr ⟨_, b3, by have : w.drew.heap.size = w.heap.size := rfl; omega⟩)
  have HA := Lib.hid hrun
  have HK2 := Lib.hid hk2
  have HK3 := Lib.hid hk3
  have HK4 := Lib.hid hk4
  have c1 : w.cell? ⟨d, 1, none⟩ = some (.slice CA m cc) := h.cells.2.1
  have c1a : ((w.alloc (.cells (cW (n, l)).toArray 71)).drew).cell? ⟨d, 1, none⟩ = some (.slice CA m cc) := by show (w.alloc (.cells (cW (n, l)).toArray 71)).cell? _ = _; rw [World.cell?_alloc_lt _ _ _ h.lt]; exact c1
  have c1w := hd3.cells.2.1
  have q1w := hd3.fr 1
  have hbw := built_write n l hl
  have HBW := Lib.hid hbw
  have hsa : ∀ w : World, (Instr.arrayAt 69 (.slice (some ⟨bb, off, none⟩) 128 bc)).run Try.prog w = .ok (.pointer (some ⟨bb, off, none⟩)) w := fun w => by simp [Instr.arrayAt, run_underlying Try.underlying69]
  clear hbw hd3 hk4 hk3 hk2 hrun o3 g3 b3 h hown hC hCm hl h0 h1 h2 hr hB hm hd hn
  go_enter Try.func29, Try.ntmps29
  go_wp2_with fail
  refine wp_region_held_drew (S := (fun W => W.cell? ⟨b0, 0, none⟩ = some (.pointer (some ⟨d, 0, none⟩)) ∧ W.cell? ⟨b1, 0, none⟩ = some (.int .i64 (n : Int)) ∧ W.cell? ⟨b2, 0, none⟩ = some (.slice (some ⟨bb, off, none⟩) 128 bc) ∧ W.rangeAt bb off (bv l))) (by kernel_rfl) (HS.out _ ((Kept.refl _ w).drew)) (fun hHeld => ?_)
  refine wpAnyH_take (i := 0) (v := ?_) rfl (by kernel_rfl) (by kernel_rfl) (by kernel_rfl) (fun _ _ _ h => h) (Or.inl ⟨by kernel_rfl, ?_⟩) (by assumption) ?_
  rotate_left
  · intro w hSw; (try dsimp only at hSw); go_simp; try with_reducible rfl
  simp only [Act.put, List.getElem_toArray, List.getElem_cons_succ, List.getElem_cons_zero, List.setIfInBounds_toArray, List.set_cons_zero, List.set_cons_succ]
  refine wpAnyH_take (i := 1) (v := ?_) rfl (by kernel_rfl) (by kernel_rfl) (by kernel_rfl) (fun _ _ _ h => h) (Or.inl ⟨by kernel_rfl, ?_⟩) (by assumption) ?_
  rotate_left
  · intro w hSw; (try dsimp only at hSw); go_simp; try with_reducible rfl
  simp only [Act.put, List.getElem_toArray, List.getElem_cons_succ, List.getElem_cons_zero, List.setIfInBounds_toArray, List.set_cons_zero, List.set_cons_succ]
  refine wpAnyH_take (i := 2) (v := ?_) rfl (by kernel_rfl) (by kernel_rfl) (by kernel_rfl) (fun _ _ _ h => h) (Or.inl ⟨by kernel_rfl, ?_⟩) (by assumption) ?_
  rotate_left
  · intro w hSw; (try dsimp only at hSw); go_simp; try with_reducible rfl
  simp only [Act.put, List.getElem_toArray, List.getElem_cons_succ, List.getElem_cons_zero, List.setIfInBounds_toArray, List.set_cons_zero, List.set_cons_succ]
  refine wpAnyH_take (i := 3) (v := ?_) rfl (by kernel_rfl) (by kernel_rfl) (by kernel_rfl) (fun _ _ _ h => h) (Or.inl ⟨by kernel_rfl, ?_⟩) (by assumption) ?_
  rotate_left
  · intro w hSw; (try dsimp only at hSw); go_simp; try with_reducible rfl
  simp only [Act.put, List.getElem_toArray, List.getElem_cons_succ, List.getElem_cons_zero, List.setIfInBounds_toArray, List.set_cons_zero, List.set_cons_succ]
  refine wpAnyH_take (i := 5) (v := ?_) rfl (by kernel_rfl) (by kernel_rfl) (by kernel_rfl) (fun _ _ _ h => h) (Or.inl ⟨by kernel_rfl, ?_⟩) (by assumption) ?_
  rotate_left
  · intro w hSw; (try dsimp only at hSw); go_simp; try with_reducible rfl
  simp only [Act.put, List.getElem_toArray, List.getElem_cons_succ, List.getElem_cons_zero, List.setIfInBounds_toArray, List.set_cons_zero, List.set_cons_succ]
  refine wpAnyH_take (i := 6) (v := ?_) rfl (by kernel_rfl) (by kernel_rfl) (by kernel_rfl) (fun _ _ _ h => h) (Or.inl ⟨by kernel_rfl, ?_⟩) (by assumption) ?_
  rotate_left
  · intro w hSw; (try dsimp only at hSw); go_simp; try with_reducible rfl
  simp only [Act.put, List.getElem_toArray, List.getElem_cons_succ, List.getElem_cons_zero, List.setIfInBounds_toArray, List.set_cons_zero, List.set_cons_succ]
  refine wpAnyH_take (i := 7) (v := ?_) rfl (by kernel_rfl) (by kernel_rfl) (by kernel_rfl) (fun _ _ _ h => h) (Or.inl ⟨by kernel_rfl, ?_⟩) (by assumption) ?_
  rotate_left
  · intro w hSw; (try dsimp only at hSw); go_simp; try with_reducible rfl
  simp only [Act.put, List.getElem_toArray, List.getElem_cons_succ, List.getElem_cons_zero, List.setIfInBounds_toArray, List.set_cons_zero, List.set_cons_succ]
  refine wpAnyH_take (i := 8) (v := (.agg (bv l).toArray)) rfl (by kernel_rfl) (by kernel_rfl) (by kernel_rfl) (fun _ _ _ h => h) (yieldsIf_load_mid (by kernel_rfl) _ _ rfl bb off rfl (bv l) _ (fun w hw => hw.2.2.2) Try.underlying69 (by rfl) HI.out) (by assumption) ?_
  simp only [Act.put, List.getElem_toArray, List.getElem_cons_succ, List.getElem_cons_zero, List.setIfInBounds_toArray, List.set_cons_zero, List.set_cons_succ]
  refine wpAnyH_take (i := 9) (v := (.agg (cW (n, l)).toArray)) rfl (by kernel_rfl) (by kernel_rfl) (by kernel_rfl) (fun _ _ _ h => h) (Or.inl ⟨by kernel_rfl, ?_⟩) (by assumption) ?_
  · intro w hSw; (try dsimp only at hSw)
    refine build_op _ #[(0, .tmp 8), (1, .tmp 11)] rfl _ ?_ w
    simp only [List.map_toArray, List.map_cons, List.map_nil, Act.eval]
    exact HBW.out
  simp only [Act.put, List.getElem_toArray, List.getElem_cons_succ, List.getElem_cons_zero, List.setIfInBounds_toArray, List.set_cons_zero, List.set_cons_succ]
  refine wpAnyH_ready (rs := [4, 10]) (by kernel_rfl) (by simp) ?_
  refine (AllReadyH.cons rfl (fun K hK => ?_) (AllReadyH.cons rfl (fun K hK => ?_) AllReadyH.nil))
  ·
    go_simp
    refine hK.out _ _ (HS.out _ ((Kept.refl _ w).drew)) (fun hHeld => ?_)
    clear hK K
    try simp only [Act.put, List.getElem_toArray, List.getElem_cons_succ, List.getElem_cons_zero, List.setIfInBounds_toArray, List.set_cons_zero, List.set_cons_succ]
    refine wpAnyH_ready (rs := [10]) (by kernel_rfl) (by simp) ?_
    refine AllReadyH.cons rfl (fun K hK => ?_) AllReadyH.nil
    refine wp_run (v := .slice (some ⟨w.heap.size, 0, none⟩) 1 1) (buildSlice_op _ 1 #[(0, .tmp 12)] rfl (by simp only [List.map_toArray, List.map_cons, List.map_nil, Act.eval]; exact HB.out w.drew)) ?_
    refine hK.out _ _ (HS.out _ HK2.out) (fun hHeld => ?_)
    clear hK K
    try simp only [Act.put, List.getElem_toArray, List.getElem_cons_succ, List.getElem_cons_zero, List.setIfInBounds_toArray, List.set_cons_zero, List.set_cons_succ]
    refine wpAnyH_ready (rs := [11]) (by kernel_rfl) (by simp) ?_
    refine AllReadyH.cons rfl (fun K hK => ?_) AllReadyH.nil
    refine wp_run (v := .slice CA' (m + 1) cc') (append_op rfl HA.out) ?_
    try go_simp
    refine hK.out _ _ (HS.out _ HK3.out) (fun hHeld => ?_)
    clear hK K
    try simp only [Act.put, List.getElem_toArray, List.getElem_cons_succ, List.getElem_cons_zero, List.setIfInBounds_toArray, List.set_cons_zero, List.set_cons_succ]
    refine wpAnyH_take (i := 12) (v := ?_) rfl (by kernel_rfl) (by kernel_rfl) (by kernel_rfl) (fun _ _ _ h => h) (Or.inl ⟨by kernel_rfl, ?_⟩) (by assumption) ?_
    rotate_left
    · intro w hSw; (try dsimp only at hSw); go_simp; try with_reducible rfl
    simp only [Act.put, List.getElem_toArray, List.getElem_cons_succ, List.getElem_cons_zero, List.setIfInBounds_toArray, List.set_cons_zero, List.set_cons_succ]
    refine wpAnyH_take (i := 13) (v := ?_) rfl (by kernel_rfl) (by kernel_rfl) (by kernel_rfl) (fun _ _ _ h => h) (Or.inl ⟨by kernel_rfl, ?_⟩) (by assumption) ?_
    rotate_left
    · intro w hSw; (try dsimp only at hSw); go_simp; try with_reducible rfl
    simp only [Act.put, List.getElem_toArray, List.getElem_cons_succ, List.getElem_cons_zero, List.setIfInBounds_toArray, List.set_cons_zero, List.set_cons_succ]
    refine wpAnyH_ready (rs := [14]) (by kernel_rfl) (by simp) ?_
    refine AllReadyH.cons rfl (fun K hK => ?_) AllReadyH.nil
    have c1 := c1w
    have q1 := q1w
    go_simp
    refine hK.out _ _ (HS.out _ HK4.out) (fun hHeld => ?_)
    clear hK K
    try simp only [Act.put, List.getElem_toArray, List.getElem_cons_succ, List.getElem_cons_zero, List.setIfInBounds_toArray, List.set_cons_zero, List.set_cons_succ]
    refine wpAnyH_done (by kernel_rfl) ?_ _
    go_wp2_with fail
    go_end0
    exact ⟨⟨_, rfl⟩, HP.out⟩
  ·
    refine wp_run (v := .slice (some ⟨w.heap.size, 0, none⟩) 1 1) (buildSlice_op _ 1 #[(0, .tmp 12)] rfl (by simp only [List.map_toArray, List.map_cons, List.map_nil, Act.eval]; exact HB.out w.drew)) ?_
    refine hK.out _ _ (HS.out _ HK2.out) (fun hHeld => ?_)
    clear hK K
    try simp only [Act.put, List.getElem_toArray, List.getElem_cons_succ, List.getElem_cons_zero, List.setIfInBounds_toArray, List.set_cons_zero, List.set_cons_succ]
    refine wpAnyH_ready (rs := [4]) (by kernel_rfl) (by simp) ?_
    refine AllReadyH.cons rfl (fun K hK => ?_) AllReadyH.nil
    go_simp
    refine hK.out _ _ (HS.out _ HK2.out) (fun hHeld => ?_)
    clear hK K
    try simp only [Act.put, List.getElem_toArray, List.getElem_cons_succ, List.getElem_cons_zero, List.setIfInBounds_toArray, List.set_cons_zero, List.set_cons_succ]
    refine wpAnyH_ready (rs := [11]) (by kernel_rfl) (by simp) ?_
    refine AllReadyH.cons rfl (fun K hK => ?_) AllReadyH.nil
    refine wp_run (v := .slice CA' (m + 1) cc') (append_op rfl HA.out) ?_
    try go_simp
    refine hK.out _ _ (HS.out _ HK3.out) (fun hHeld => ?_)
    clear hK K
    try simp only [Act.put, List.getElem_toArray, List.getElem_cons_succ, List.getElem_cons_zero, List.setIfInBounds_toArray, List.set_cons_zero, List.set_cons_succ]
    refine wpAnyH_take (i := 12) (v := ?_) rfl (by kernel_rfl) (by kernel_rfl) (by kernel_rfl) (fun _ _ _ h => h) (Or.inl ⟨by kernel_rfl, ?_⟩) (by assumption) ?_
    rotate_left
    · intro w hSw; (try dsimp only at hSw); go_simp; try with_reducible rfl
    simp only [Act.put, List.getElem_toArray, List.getElem_cons_succ, List.getElem_cons_zero, List.setIfInBounds_toArray, List.set_cons_zero, List.set_cons_succ]
    refine wpAnyH_take (i := 13) (v := ?_) rfl (by kernel_rfl) (by kernel_rfl) (by kernel_rfl) (fun _ _ _ h => h) (Or.inl ⟨by kernel_rfl, ?_⟩) (by assumption) ?_
    rotate_left
    · intro w hSw; (try dsimp only at hSw); go_simp; try with_reducible rfl
    simp only [Act.put, List.getElem_toArray, List.getElem_cons_succ, List.getElem_cons_zero, List.setIfInBounds_toArray, List.set_cons_zero, List.set_cons_succ]
    refine wpAnyH_ready (rs := [14]) (by kernel_rfl) (by simp) ?_
    refine AllReadyH.cons rfl (fun K hK => ?_) AllReadyH.nil
    have c1 := c1w
    have q1 := q1w
    go_simp
    refine hK.out _ _ (HS.out _ HK4.out) (fun hHeld => ?_)
    clear hK K
    try simp only [Act.put, List.getElem_toArray, List.getElem_cons_succ, List.getElem_cons_zero, List.setIfInBounds_toArray, List.set_cons_zero, List.set_cons_succ]
    refine wpAnyH_done (by kernel_rfl) ?_ _
    go_wp2_with fail
    go_end0
    exact ⟨⟨_, rfl⟩, HP.out⟩

end Go.Proofs.Ytpleaicpkpjkjaa
