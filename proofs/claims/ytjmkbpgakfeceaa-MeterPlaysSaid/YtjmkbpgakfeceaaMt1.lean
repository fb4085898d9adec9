/-
  A meter in memory (package meter): its box; none, begin, tell, walked. Conditions stand at each theorem. (Printed by gen_mt1.py.)
-/
import Derived.Test.YtjmkbpgakfeceaaMtPlain3
import Derived.Test.YtjmkbpgakfeceaaMeterEn2
import Derived.Test.YtjmkbpgakfeceaaKept
import Derived.Test.YtjmkbpgakfeceaaBits
import Derived.Test.YtjmkbpgakfeceaaHeldIn
import Derived.Test.YtjmkbpgakfeceaaOpRun
import Derived.Deep.RegionHeld3
import Derived.Laws.Tables
import Derived.Deep.MidRow
import Derived.BigQuiet
import Derived.Deep.Cut
namespace Go.Proofs.Ytjmkbpgakfeceaa
open Go Go.RowKit Go.Kw Go.Kw.Mt
set_option linter.unusedVariables false
set_option linter.unusedSimpArgs false

theorem wrapI_at (x : Int) (h : -9223372036854775808 ≤ x ∧ x < 9223372036854775808) : IntKind.i64.wrap x = x := by
  rw [IntWalk.i64_left]; unfold wrap64; omega
theorem wrap64_at (x : Int) (h : -9223372036854775808 ≤ x ∧ x < 9223372036854775808) : wrap64 x = x := by unfold wrap64; omega
/-- A setup that may be. -/
structure MayS (s : Stp) : Prop where
  may : mayP (s.num : Int) (s.den : Int) s.gap s.len
  bound : s.bound < 4294967296
  gap : s.gap < 9223372036854775808
theorem MayS.ok {s : Stp} (h : MayS s) : s.Ok := by
  have hm := h.may
  unfold mayP at hm
  exact ⟨by omega, by omega, h.bound, ⟨by omega, h.gap⟩, by omega⟩
def mtC (nr : Int) (s : Stp) (m : M) : Array Value := #[.int .i64 nr, .int .u64 (s.num : Int), .int .u64 (s.den : Int), .int .u32 (s.bound : Int), .int .i64 s.gap, .int .i64 s.len, .bool m.bg, .int .i64 m.t, .int .u32 (m.v : Int), .int .u64 (m.c : Int), .int .i64 m.o, .int .i64 (m.f : Int), .int .i64 m.k, .int .i64 m.fr]
def MtB (W : World) (b : Nat) (nr : Int) (s : Stp) (m : M) : Prop := W.heap[b]? = some (.cells (mtC nr s m) 72 (0, 0))
section
variable {W W' : World} {b : Nat} {nr : Int} {s : Stp} {m : M}
theorem MtB.cells (h : MtB W b nr s m) : W.cell? ⟨b, 0, none⟩ = some (.int .i64 nr) ∧ W.cell? ⟨b, 1, none⟩ = some (.int .u64 (s.num : Int)) ∧ W.cell? ⟨b, 2, none⟩ = some (.int .u64 (s.den : Int)) ∧ W.cell? ⟨b, 3, none⟩ = some (.int .u32 (s.bound : Int)) ∧ W.cell? ⟨b, 4, none⟩ = some (.int .i64 s.gap) ∧ W.cell? ⟨b, 5, none⟩ = some (.int .i64 s.len) ∧
    W.cell? ⟨b, 6, none⟩ = some (.bool m.bg) ∧ W.cell? ⟨b, 7, none⟩ = some (.int .i64 m.t) ∧ W.cell? ⟨b, 8, none⟩ = some (.int .u32 (m.v : Int)) ∧ W.cell? ⟨b, 9, none⟩ = some (.int .u64 (m.c : Int)) ∧ W.cell? ⟨b, 10, none⟩ = some (.int .i64 m.o) ∧ W.cell? ⟨b, 11, none⟩ = some (.int .i64 (m.f : Int)) ∧ W.cell? ⟨b, 12, none⟩ = some (.int .i64 m.k) ∧ W.cell? ⟨b, 13, none⟩ = some (.int .i64 m.fr) := by
  unfold MtB mtC at h
  exact ⟨blk_cell h 0 rfl, blk_cell h 1 rfl, blk_cell h 2 rfl, blk_cell h 3 rfl, blk_cell h 4 rfl, blk_cell h 5 rfl, blk_cell h 6 rfl, blk_cell h 7 rfl, blk_cell h 8 rfl, blk_cell h 9 rfl, blk_cell h 10 rfl, blk_cell h 11 rfl, blk_cell h 12 rfl, blk_cell h 13 rfl⟩
theorem MtB.fr (h : MtB W b nr s m) (i : Nat) : W.frozen? ⟨b, i, none⟩ = false := blk_frozen h i
theorem MtB.lt (h : MtB W b nr s m) : b < W.heap.size := blk_lt h
theorem MtB.go (h : MtB W b nr s m) (hb : Below W.heap.size W W') : MtB W' b nr s m := blk_below h hb
theorem MtB.kept {S : Nat → Prop} (h : MtB W b nr s m) (hk : Kept S W W') (hs : S b) : MtB W' b nr s m := heap_kept hk h hs
end
theorem bset {W : World} {r i : Nat} {cs : Array Value} {t : TypeId} (h : W.heap[r]? = some (.cells cs t (0, 0))) (v : Value) : (W.setCell ⟨r, i, none⟩ v).heap[r]? = some (.cells (cs.setIfInBounds i v) t (0, 0)) := heap_setCell_same W r i _ _ v h
/-- An entry's cells. -/
def enC (nr : Int) (x : En) : Array Value := #[.int .i64 (x.kind : Int), .int .i64 nr, .int .i64 x.start, .int .i64 x.en, .int .i64 0, .int .i64 0, .int .i64 0, .int .i64 (x.f : Int), .int .u32 (x.cnt : Int), .int .u64 0, .int .u8 0, .int .u8 0, .int .u8 0, .int .u8 0, .int .u8 0, .int .u8 0, .int .u8 0, .int .u8 0, .int .u8 0, .int .u8 0, .int .u8 0, .int .u8 0, .int .u8 0, .int .u8 0, .int .u8 0, .int .u8 0, .int .u8 0, .int .u8 0, .int .u8 0, .int .u8 0, .int .u8 0, .int .u8 0, .int .u8 0, .int .u8 0, .int .u8 0, .int .u8 0, .int .u8 0, .int .u8 0, .int .u8 0, .int .u8 0, .int .u8 0, .int .u8 0]
theorem enC_all (nr : Int) (x : En) : (enC nr x).all (·.oneCell') = true := by simp [enC, Value.oneCell']
def zEn : Array Value := #[.int .i64 0, .int .i64 0, .int .i64 0, .int .i64 0, .int .i64 0, .int .i64 0, .int .i64 0, .int .i64 0, .int .u32 0, .int .u64 0, .int .u8 0, .int .u8 0, .int .u8 0, .int .u8 0, .int .u8 0, .int .u8 0, .int .u8 0, .int .u8 0, .int .u8 0, .int .u8 0, .int .u8 0, .int .u8 0, .int .u8 0, .int .u8 0, .int .u8 0, .int .u8 0, .int .u8 0, .int .u8 0, .int .u8 0, .int .u8 0, .int .u8 0, .int .u8 0, .int .u8 0, .int .u8 0, .int .u8 0, .int .u8 0, .int .u8 0, .int .u8 0, .int .u8 0, .int .u8 0, .int .u8 0, .int .u8 0]
theorem zEn_size : zEn.size = 42 := by simp [zEn]
theorem enC_size (nr : Int) (x : En) : (enC nr x).size = 42 := by simp [enC]

theorem results_cell_tmp {P : Program} {fn : Func} {p t2 : Tmp} {ty : TypeId} (h : fn.results = #[.cell p ty, .tmp t2]) (tmps : Array Value) (w : World) (g : Nat) (t : TypeId) (cs : Array Value) (fr : Nat × Nat) (d : TypeDesc)
    (hp : tmps.getD p undef = .pointer (some ⟨g, 0, none⟩)) (hg : w.heap[g]? = some (.cells cs t fr))
    (hu : P.underlying ty = some d) (hd : (match d with | .struct _ | .array _ _ => true | _ => false) = true) (hi : (P.info? ty).map (·.size) = some cs.size) :
    (results fn tmps).run P w = .ok (.tuple #[.agg cs, tmps.getD t2 undef]) w := by
  have hp' : tmps[p]?.getD undef = .pointer (some ⟨g, 0, none⟩) := by simpa using hp
  simp [results, h, hp', asAddr, run_loadVar_row w g t ty cs fr d hg hu hd hi]
theorem eEnS : (Try.prog.info? 45).map (·.size) = some 42 := by kernel_rfl
theorem _root_.Go.Kw.Kept.setRow {S : Nat → Prop} {a w : World} (h : Kept S a w) {g : Nat} (hg : ¬ S g) (cs : Array Value) : Kept S a (w.setRow g cs) :=
  h.trans ⟨rfl, rfl, rfl, by simp [World.setRow], fun k hk hs => setRow_other w g k cs (fun e => hg (e ▸ hs))⟩
theorem mnone_nil (w : World) : Calls Try.prog 36 #[.pointer none] w fun e w' => e = .returned (.bool true) ∧ Below w.heap.size w w' := by
  go_enter Try.func36, Try.ntmps36
  go_wp2_with fail
  go_ret
  exact ⟨rfl, Below.refl _ _⟩
theorem mnone_calls (w : World) (b : Nat) (nr : Int) (s : Stp) (m : M) (h : MtB w b nr s m) : Calls Try.prog 36 #[.pointer (some ⟨b, 0, none⟩)] w fun e w' => e = .returned (.bool (s.len == 0)) ∧ Below w.heap.size w w' := by
  obtain ⟨c0, c1, c2, c3, c4, c5, c6, c7, c8, c9, c10, c11, c12, c13⟩ := h.cells
  clear h
  go_enter Try.func36, Try.ntmps36
  go_wp2_with fail
  go_ret
  exact ⟨rfl, Below.refl _ _⟩
theorem wrap_calls (a b : Nat) (ha : a < 4294967296) (hb : b < 4294967296) (w : World) : Calls Try.prog 34 #[.int .u32 (a : Int), .int .u32 (b : Int)] w fun e w' => e = .returned (.int .u32 (((b + 4294967296 - a) % 4294967296 : Nat) : Int)) ∧ w' = w := by
  go_enter Try.func34, Try.ntmps34
  go_wp2_with fail
  go_ret
  refine ⟨congrArg Ending.returned (congrArg (Value.int .u32) ?_), rfl⟩
  omega

set_option maxRecDepth 100000 in
theorem eEn : (Try.prog.info? 45).map (fun i => i.zero) = some (some (.agg (#[.int .i64 0, .int .i64 0, .int .i64 0, .int .i64 0, .int .i64 0, .int .i64 0, .int .i64 0, .int .i64 0, .int .u32 0, .int .u64 0] ++ Array.replicate 32 (.int .u8 0)))) := by kernel_rfl
set_option maxRecDepth 100000 in
theorem built_en (nr st en : Int) (f : Nat) : Try.prog.built 45 [(0, .int .i64 1), (1, .int .i64 nr), (2, .int .i64 st), (3, .int .i64 en), (7, .int .i64 (f : Int))] = some (enC nr ⟨1, st, en, f, 0⟩) := by
  obtain ⟨i, hi, hz⟩ := Option.map_eq_some_iff.1 eEn
  have hf : ∃ fs, Try.prog.underlying 45 = some (.struct fs) ∧ fs.toList.mapM (fun f => (Try.prog.info? f.type).map fun i => (f.offset, i.size)) = some [(0, 1), (1, 1), (2, 1), (3, 1), (4, 1), (5, 1), (6, 1), (7, 1), (8, 1), (9, 1), (10, 32)] := ⟨_, rfl, by kernel_rfl⟩
  obtain ⟨fs, hu, hm⟩ := hf
  unfold Program.built
  rw [hi, hu]
  dsimp only
  rw [hz, hm]
  dsimp only
  unfold enC
  rfl
set_option maxRecDepth 100000 in
set_option maxHeartbeats 16000000 in
/-- tell: the open interval's entry; the next one is open. -/
theorem tell_calls (w : World) (b : Nat) (nr : Int) (s : Stp) (m : M) (hs : MayS s) (h : MtB w b nr s m) (cn fl : Nat) (hcn : cn < 9223372036854775808) (hfl : fl < 16) (hf : m.f < 16)
    (h1 : 0 ≤ m.fr ∧ m.fr ≤ (eng s cn : Int)) (h2 : 0 ≤ m.k ∧ m.k + (eng s cn : Int) ≤ 2305843009213693952) (h3 : 0 ≤ m.o ∧ 0 ≤ m.o * s.len ∧ m.o * s.len < 4611686018427387904 ∧ m.o < 4611686018427387904) :
    Calls Try.prog 48 #[.pointer (some ⟨b, 0, none⟩), .int .u64 (cn : Int), .int .i64 (fl : Int)] w fun e w' => e = .returned (.tuple #[.agg (enC nr (tellE s m (eng s cn) fl)), .int .i64 0]) ∧ MtB w' b nr s (tellM m (eng s cn)) ∧ Kept (fun x => x ≠ b) w w' := by
  have HE := energy_calls cn s.num s.den (s.bound : Int) s.gap s.len (by omega)
  have he := enV_ok cn s.num s.den s.gap s.len hs.may (by have := h1; have := h2; unfold eng at *; omega)
  rw [he] at HE
  unfold setV at HE
  obtain ⟨E, hE⟩ : ∃ E : Nat, cn * s.num / s.den = E := ⟨_, rfl⟩
  have hEn : eng s cn = E := hE
  rw [hE] at HE
  rw [hEn] at h1 h2 ⊢
  have HE := Lib.hid HE
  have H := Lib.hid h
  have HH := Lib.hid (And.intro h1 (And.intro h2 (And.intro h3 (And.intro hfl hf))))
  obtain ⟨w1, hw1⟩ : ∃ w1, w.alloc (.cells #[.int .i64 0, .int .i64 0, .int .i64 0, .int .i64 0, .int .i64 0, .int .i64 0, .int .i64 0, .int .i64 0, .int .u32 0, .int .u64 0, .int .u8 0, .int .u8 0, .int .u8 0, .int .u8 0, .int .u8 0, .int .u8 0, .int .u8 0, .int .u8 0, .int .u8 0, .int .u8 0, .int .u8 0, .int .u8 0, .int .u8 0, .int .u8 0, .int .u8 0, .int .u8 0, .int .u8 0, .int .u8 0, .int .u8 0, .int .u8 0, .int .u8 0, .int .u8 0, .int .u8 0, .int .u8 0, .int .u8 0, .int .u8 0, .int .u8 0, .int .u8 0, .int .u8 0, .int .u8 0, .int .u8 0, .int .u8 0] 45) = w1 := ⟨_, rfl⟩
  obtain ⟨rb, hrb⟩ : ∃ rb, w.heap.size = rb := ⟨_, rfl⟩
  have hb1 : Below w.heap.size w w1 := hw1 ▸ bstep w _
  have hr1 : w1.heap[rb]? = some (.cells zEn 45 (0, 0)) := by rw [← hrb, ← hw1]; exact blk_new w _ _
  have h1' := h.go hb1
  obtain ⟨c0, c1, c2, c3, c4, c5, c6, c7, c8, c9, c10, c11, c12, c13⟩ := h1'.cells
  have HB := Lib.hid (And.intro hb1 (And.intro hr1 (And.intro h1' (And.intro hrb h.lt))))
  clear hs h hcn hfl hf h1 h2 h3 he hE hEn hb1 hr1 h1'
  go_enter Try.func48, Try.ntmps48
  go_wp2_with fail
  clear hw1 hrb
  refine (HE.out w1).mono ?_
  rintro e w2 ⟨rfl, hb2⟩
  have HM := Lib.hid (And.intro (HB.out.2.2.1.go hb2) hb2)
  have HS := Lib.hid (show ∀ Y, Kept (fun x => x = b) w2 Y → (Y.cell? ⟨b, 0, none⟩ = some (.int .i64 nr) ∧ Y.cell? ⟨b, 5, none⟩ = some (.int .i64 s.len) ∧ Y.cell? ⟨b, 10, none⟩ = some (.int .i64 m.o) ∧ Y.cell? ⟨b, 11, none⟩ = some (.int .i64 (m.f : Int)) ∧ Y.cell? ⟨b, 12, none⟩ = some (.int .i64 m.k) ∧ Y.cell? ⟨b, 13, none⟩ = some (.int .i64 m.fr)) from fun Y hY => by
    obtain ⟨c0, c1, c2, c3, c4, c5, c6, c7, c8, c9, c10, c11, c12, c13⟩ := (HM.out.1.kept hY rfl).cells
    exact ⟨c0, c5, c10, c11, c12, c13⟩)
  have X1 := Lib.hid (wrapI_at ((E : Int) - m.fr) (by have := HH.out; omega))
  have X2 := Lib.hid (wrapI_at (4611686018427387904 - ((E : Int) - m.fr)) (by have := HH.out; omega))
  have X3 := Lib.hid (wrapI_at (m.o * s.len) (by have := HH.out; omega))
  have X4 := Lib.hid (wrapI_at (m.k + (E : Int)) (by have := HH.out; omega))
  have X5 := Lib.hid (wrapI_at (m.k + (E : Int) - m.fr) (by have := HH.out; omega))
  have X6 := Lib.hid (i64_or_nat m.f fl (by have := HH.out; omega) (by have := HH.out; omega))
  have HBu := Lib.hid (built_en nr (m.o * s.len) (m.k + (E : Int) - m.fr) (m.f ||| fl))
  clear hb2 c0 c1 c2 c3 c4 c5 c6 c7 c8 c9 c10 c11 c12 c13
  go_wp2_with fail
  refine wp_region_held_drew (S := (fun Y => Y.cell? ⟨b, 0, none⟩ = some (.int .i64 nr) ∧ Y.cell? ⟨b, 5, none⟩ = some (.int .i64 s.len) ∧ Y.cell? ⟨b, 10, none⟩ = some (.int .i64 m.o) ∧ Y.cell? ⟨b, 11, none⟩ = some (.int .i64 (m.f : Int)) ∧ Y.cell? ⟨b, 12, none⟩ = some (.int .i64 m.k) ∧ Y.cell? ⟨b, 13, none⟩ = some (.int .i64 m.fr))) (by kernel_rfl) (HS.out _ (Kept.refl _ _).drew) (fun hHeld => ?_)
  refine wpAnyH_take (i := 0) (v := ?_) rfl (by kernel_rfl) (by kernel_rfl) (by kernel_rfl) (fun _ _ _ h => h) (Or.inl ⟨by kernel_rfl, ?_⟩) (by assumption) ?_
  rotate_left
  · intro w hSw; (try dsimp only at hSw); go_simp; try with_reducible rfl
  simp only [Act.put, List.getElem_toArray, List.getElem_cons_succ, List.getElem_cons_zero, List.setIfInBounds_toArray, List.set_cons_zero, List.set_cons_succ]
  refine wpAnyH_take (i := 1) (v := .bool false) rfl (by kernel_rfl) (by kernel_rfl) (by kernel_rfl) (fun _ _ _ h => h) (Or.inl ⟨by kernel_rfl, ?_⟩) (by assumption) ?_
  · intro w hSw; (try dsimp only at hSw)
    go_simp
  simp only [Act.put, List.getElem_toArray, List.getElem_cons_succ, List.getElem_cons_zero, List.setIfInBounds_toArray, List.set_cons_zero, List.set_cons_succ]
  refine wpAnyH_take (i := 2) (v := ?_) rfl (by kernel_rfl) (by kernel_rfl) (by kernel_rfl) (fun _ _ _ h => h) (Or.inl ⟨by kernel_rfl, ?_⟩) (by assumption) ?_
  rotate_left
  · intro w hSw; (try dsimp only at hSw); go_simp; try with_reducible rfl
  simp only [Act.put, List.getElem_toArray, List.getElem_cons_succ, List.getElem_cons_zero, List.setIfInBounds_toArray, List.set_cons_zero, List.set_cons_succ]
  refine wpAnyH_take (i := 3) (v := ?_) rfl (by kernel_rfl) (by kernel_rfl) (by kernel_rfl) (fun _ _ _ h => h) (Or.inl ⟨by kernel_rfl, ?_⟩) (by assumption) ?_
  rotate_left
  · intro w hSw; (try dsimp only at hSw); go_simp; try with_reducible rfl
  simp only [Act.put, List.getElem_toArray, List.getElem_cons_succ, List.getElem_cons_zero, List.setIfInBounds_toArray, List.set_cons_zero, List.set_cons_succ]
  refine wpAnyH_take (i := 4) (v := ?_) rfl (by kernel_rfl) (by kernel_rfl) (by kernel_rfl) (fun _ _ _ h => h) (Or.inl ⟨by kernel_rfl, ?_⟩) (by assumption) ?_
  rotate_left
  · intro w hSw; (try dsimp only at hSw); go_simp; try with_reducible rfl
  simp only [Act.put, List.getElem_toArray, List.getElem_cons_succ, List.getElem_cons_zero, List.setIfInBounds_toArray, List.set_cons_zero, List.set_cons_succ]
  refine wpAnyH_take (i := 5) (v := ?_) rfl (by kernel_rfl) (by kernel_rfl) (by kernel_rfl) (fun _ _ _ h => h) (Or.inl ⟨by kernel_rfl, ?_⟩) (by assumption) ?_
  rotate_left
  · intro w hSw; (try dsimp only at hSw); go_simp; try with_reducible rfl
  simp only [Act.put, List.getElem_toArray, List.getElem_cons_succ, List.getElem_cons_zero, List.setIfInBounds_toArray, List.set_cons_zero, List.set_cons_succ]
  refine wpAnyH_take (i := 6) (v := ?_) rfl (by kernel_rfl) (by kernel_rfl) (by kernel_rfl) (fun _ _ _ h => h) (Or.inl ⟨by kernel_rfl, ?_⟩) (by assumption) ?_
  rotate_left
  · intro w hSw; (try dsimp only at hSw); go_simp; try with_reducible rfl
  simp only [Act.put, List.getElem_toArray, List.getElem_cons_succ, List.getElem_cons_zero, List.setIfInBounds_toArray, List.set_cons_zero, List.set_cons_succ]
  refine wpAnyH_take (i := 7) (v := ?_) rfl (by kernel_rfl) (by kernel_rfl) (by kernel_rfl) (fun _ _ _ h => h) (Or.inl ⟨by kernel_rfl, ?_⟩) (by assumption) ?_
  rotate_left
  · intro w hSw; (try dsimp only at hSw); go_simp; try with_reducible rfl
  simp only [Act.put, List.getElem_toArray, List.getElem_cons_succ, List.getElem_cons_zero, List.setIfInBounds_toArray, List.set_cons_zero, List.set_cons_succ]
  refine wpAnyH_take (i := 8) (v := ?_) rfl (by kernel_rfl) (by kernel_rfl) (by kernel_rfl) (fun _ _ _ h => h) (Or.inl ⟨by kernel_rfl, ?_⟩) (by assumption) ?_
  rotate_left
  · intro w hSw; (try dsimp only at hSw); go_simp; try with_reducible rfl
  simp only [Act.put, List.getElem_toArray, List.getElem_cons_succ, List.getElem_cons_zero, List.setIfInBounds_toArray, List.set_cons_zero, List.set_cons_succ]
  refine wpAnyH_take (i := 9) (v := ?_) rfl (by kernel_rfl) (by kernel_rfl) (by kernel_rfl) (fun _ _ _ h => h) (Or.inl ⟨by kernel_rfl, ?_⟩) (by assumption) ?_
  rotate_left
  · intro w hSw; (try dsimp only at hSw); go_simp; try with_reducible rfl
  simp only [Act.put, List.getElem_toArray, List.getElem_cons_succ, List.getElem_cons_zero, List.setIfInBounds_toArray, List.set_cons_zero, List.set_cons_succ]
  refine wpAnyH_take (i := 10) (v := ?_) rfl (by kernel_rfl) (by kernel_rfl) (by kernel_rfl) (fun _ _ _ h => h) (Or.inl ⟨by kernel_rfl, ?_⟩) (by assumption) ?_
  rotate_left
  · intro w hSw; (try dsimp only at hSw); go_simp; try with_reducible rfl
  simp only [Act.put, List.getElem_toArray, List.getElem_cons_succ, List.getElem_cons_zero, List.setIfInBounds_toArray, List.set_cons_zero, List.set_cons_succ]
  refine wpAnyH_take (i := 11) (v := ?_) rfl (by kernel_rfl) (by kernel_rfl) (by kernel_rfl) (fun _ _ _ h => h) (Or.inl ⟨by kernel_rfl, ?_⟩) (by assumption) ?_
  rotate_left
  · intro w hSw; (try dsimp only at hSw); go_simp; try with_reducible rfl
  simp only [Act.put, List.getElem_toArray, List.getElem_cons_succ, List.getElem_cons_zero, List.setIfInBounds_toArray, List.set_cons_zero, List.set_cons_succ]
  refine wpAnyH_take (i := 12) (v := .int .i64 ((E : Int) - m.fr)) rfl (by kernel_rfl) (by kernel_rfl) (by kernel_rfl) (fun _ _ _ h => h) (Or.inl ⟨by kernel_rfl, ?_⟩) (by assumption) ?_
  · intro w hSw; (try dsimp only at hSw)
    have x1 := X1.out; go_simp
  simp only [Act.put, List.getElem_toArray, List.getElem_cons_succ, List.getElem_cons_zero, List.setIfInBounds_toArray, List.set_cons_zero, List.set_cons_succ]
  refine wpAnyH_take (i := 13) (v := .int .i64 (4611686018427387904 - ((E : Int) - m.fr))) rfl (by kernel_rfl) (by kernel_rfl) (by kernel_rfl) (fun _ _ _ h => h) (Or.inl ⟨by kernel_rfl, ?_⟩) (by assumption) ?_
  · intro w hSw; (try dsimp only at hSw)
    have x2 := X2.out; go_simp
  simp only [Act.put, List.getElem_toArray, List.getElem_cons_succ, List.getElem_cons_zero, List.setIfInBounds_toArray, List.set_cons_zero, List.set_cons_succ]
  refine wpAnyH_take (i := 14) (v := .bool false) rfl (by kernel_rfl) (by kernel_rfl) (by kernel_rfl) (fun _ _ _ h => h) (Or.inl ⟨by kernel_rfl, ?_⟩) (by assumption) ?_
  · intro w hSw; (try dsimp only at hSw)
    have hk : decide (m.k > 4611686018427387904 - ((E : Int) - m.fr)) = false := decide_eq_false (by have := HH.out; omega)
    go_simp
  simp only [Act.put, List.getElem_toArray, List.getElem_cons_succ, List.getElem_cons_zero, List.setIfInBounds_toArray, List.set_cons_zero, List.set_cons_succ]
  refine wpAnyH_take (i := 15) (v := .bool false) rfl (by kernel_rfl) (by kernel_rfl) (by kernel_rfl) (fun _ _ _ h => h) (Or.inl ⟨by kernel_rfl, ?_⟩) (by assumption) ?_
  · intro w hSw; (try dsimp only at hSw)
    go_simp
  simp only [Act.put, List.getElem_toArray, List.getElem_cons_succ, List.getElem_cons_zero, List.setIfInBounds_toArray, List.set_cons_zero, List.set_cons_succ]
  refine wpAnyH_done (by kernel_rfl) ?_ _
  go_wp2_with fail
  refine wp_region_held_drew (S := (fun Y => Y.cell? ⟨b, 0, none⟩ = some (.int .i64 nr) ∧ Y.cell? ⟨b, 5, none⟩ = some (.int .i64 s.len) ∧ Y.cell? ⟨b, 10, none⟩ = some (.int .i64 m.o) ∧ Y.cell? ⟨b, 11, none⟩ = some (.int .i64 (m.f : Int)) ∧ Y.cell? ⟨b, 12, none⟩ = some (.int .i64 m.k) ∧ Y.cell? ⟨b, 13, none⟩ = some (.int .i64 m.fr))) (by kernel_rfl) (HS.out _ ((Kept.refl _ _).drew.drew)) (fun hHeld => ?_)
  refine wpAnyH_take (i := 0) (v := ?_) rfl (by kernel_rfl) (by kernel_rfl) (by kernel_rfl) (fun _ _ _ h => h) (Or.inl ⟨by kernel_rfl, ?_⟩) (by assumption) ?_
  rotate_left
  · intro w hSw; (try dsimp only at hSw); go_simp; try with_reducible rfl
  simp only [Act.put, List.getElem_toArray, List.getElem_cons_succ, List.getElem_cons_zero, List.setIfInBounds_toArray, List.set_cons_zero, List.set_cons_succ]
  refine wpAnyH_take (i := 1) (v := ?_) rfl (by kernel_rfl) (by kernel_rfl) (by kernel_rfl) (fun _ _ _ h => h) (Or.inl ⟨by kernel_rfl, ?_⟩) (by assumption) ?_
  rotate_left
  · intro w hSw; (try dsimp only at hSw); go_simp; try with_reducible rfl
  simp only [Act.put, List.getElem_toArray, List.getElem_cons_succ, List.getElem_cons_zero, List.setIfInBounds_toArray, List.set_cons_zero, List.set_cons_succ]
  refine wpAnyH_take (i := 2) (v := ?_) rfl (by kernel_rfl) (by kernel_rfl) (by kernel_rfl) (fun _ _ _ h => h) (Or.inl ⟨by kernel_rfl, ?_⟩) (by assumption) ?_
  rotate_left
  · intro w hSw; (try dsimp only at hSw); go_simp; try with_reducible rfl
  simp only [Act.put, List.getElem_toArray, List.getElem_cons_succ, List.getElem_cons_zero, List.setIfInBounds_toArray, List.set_cons_zero, List.set_cons_succ]
  refine wpAnyH_take (i := 3) (v := ?_) rfl (by kernel_rfl) (by kernel_rfl) (by kernel_rfl) (fun _ _ _ h => h) (Or.inl ⟨by kernel_rfl, ?_⟩) (by assumption) ?_
  rotate_left
  · intro w hSw; (try dsimp only at hSw); go_simp; try with_reducible rfl
  simp only [Act.put, List.getElem_toArray, List.getElem_cons_succ, List.getElem_cons_zero, List.setIfInBounds_toArray, List.set_cons_zero, List.set_cons_succ]
  refine wpAnyH_take (i := 4) (v := ?_) rfl (by kernel_rfl) (by kernel_rfl) (by kernel_rfl) (fun _ _ _ h => h) (Or.inl ⟨by kernel_rfl, ?_⟩) (by assumption) ?_
  rotate_left
  · intro w hSw; (try dsimp only at hSw); go_simp; try with_reducible rfl
  simp only [Act.put, List.getElem_toArray, List.getElem_cons_succ, List.getElem_cons_zero, List.setIfInBounds_toArray, List.set_cons_zero, List.set_cons_succ]
  refine wpAnyH_take (i := 5) (v := ?_) rfl (by kernel_rfl) (by kernel_rfl) (by kernel_rfl) (fun _ _ _ h => h) (Or.inl ⟨by kernel_rfl, ?_⟩) (by assumption) ?_
  rotate_left
  · intro w hSw; (try dsimp only at hSw); go_simp; try with_reducible rfl
  simp only [Act.put, List.getElem_toArray, List.getElem_cons_succ, List.getElem_cons_zero, List.setIfInBounds_toArray, List.set_cons_zero, List.set_cons_succ]
  refine wpAnyH_take (i := 6) (v := ?_) rfl (by kernel_rfl) (by kernel_rfl) (by kernel_rfl) (fun _ _ _ h => h) (Or.inl ⟨by kernel_rfl, ?_⟩) (by assumption) ?_
  rotate_left
  · intro w hSw; (try dsimp only at hSw); go_simp; try with_reducible rfl
  simp only [Act.put, List.getElem_toArray, List.getElem_cons_succ, List.getElem_cons_zero, List.setIfInBounds_toArray, List.set_cons_zero, List.set_cons_succ]
  refine wpAnyH_take (i := 7) (v := ?_) rfl (by kernel_rfl) (by kernel_rfl) (by kernel_rfl) (fun _ _ _ h => h) (Or.inl ⟨by kernel_rfl, ?_⟩) (by assumption) ?_
  rotate_left
  · intro w hSw; (try dsimp only at hSw); go_simp; try with_reducible rfl
  simp only [Act.put, List.getElem_toArray, List.getElem_cons_succ, List.getElem_cons_zero, List.setIfInBounds_toArray, List.set_cons_zero, List.set_cons_succ]
  refine wpAnyH_take (i := 8) (v := ?_) rfl (by kernel_rfl) (by kernel_rfl) (by kernel_rfl) (fun _ _ _ h => h) (Or.inl ⟨by kernel_rfl, ?_⟩) (by assumption) ?_
  rotate_left
  · intro w hSw; (try dsimp only at hSw); go_simp; try with_reducible rfl
  simp only [Act.put, List.getElem_toArray, List.getElem_cons_succ, List.getElem_cons_zero, List.setIfInBounds_toArray, List.set_cons_zero, List.set_cons_succ]
  refine wpAnyH_take (i := 9) (v := ?_) rfl (by kernel_rfl) (by kernel_rfl) (by kernel_rfl) (fun _ _ _ h => h) (Or.inl ⟨by kernel_rfl, ?_⟩) (by assumption) ?_
  rotate_left
  · intro w hSw; (try dsimp only at hSw); go_simp; try with_reducible rfl
  simp only [Act.put, List.getElem_toArray, List.getElem_cons_succ, List.getElem_cons_zero, List.setIfInBounds_toArray, List.set_cons_zero, List.set_cons_succ]
  refine wpAnyH_take (i := 10) (v := ?_) rfl (by kernel_rfl) (by kernel_rfl) (by kernel_rfl) (fun _ _ _ h => h) (Or.inl ⟨by kernel_rfl, ?_⟩) (by assumption) ?_
  rotate_left
  · intro w hSw; (try dsimp only at hSw); go_simp; try with_reducible rfl
  simp only [Act.put, List.getElem_toArray, List.getElem_cons_succ, List.getElem_cons_zero, List.setIfInBounds_toArray, List.set_cons_zero, List.set_cons_succ]
  refine wpAnyH_take (i := 11) (v := ?_) rfl (by kernel_rfl) (by kernel_rfl) (by kernel_rfl) (fun _ _ _ h => h) (Or.inl ⟨by kernel_rfl, ?_⟩) (by assumption) ?_
  rotate_left
  · intro w hSw; (try dsimp only at hSw); go_simp; try with_reducible rfl
  simp only [Act.put, List.getElem_toArray, List.getElem_cons_succ, List.getElem_cons_zero, List.setIfInBounds_toArray, List.set_cons_zero, List.set_cons_succ]
  refine wpAnyH_take (i := 12) (v := ?_) rfl (by kernel_rfl) (by kernel_rfl) (by kernel_rfl) (fun _ _ _ h => h) (Or.inl ⟨by kernel_rfl, ?_⟩) (by assumption) ?_
  rotate_left
  · intro w hSw; (try dsimp only at hSw); go_simp; try with_reducible rfl
  simp only [Act.put, List.getElem_toArray, List.getElem_cons_succ, List.getElem_cons_zero, List.setIfInBounds_toArray, List.set_cons_zero, List.set_cons_succ]
  refine wpAnyH_take (i := 13) (v := .int .i64 (m.o * s.len)) rfl (by kernel_rfl) (by kernel_rfl) (by kernel_rfl) (fun _ _ _ h => h) (Or.inl ⟨by kernel_rfl, ?_⟩) (by assumption) ?_
  · intro w hSw; (try dsimp only at hSw)
    have x3 := X3.out; go_simp
  simp only [Act.put, List.getElem_toArray, List.getElem_cons_succ, List.getElem_cons_zero, List.setIfInBounds_toArray, List.set_cons_zero, List.set_cons_succ]
  refine wpAnyH_take (i := 14) (v := ?_) rfl (by kernel_rfl) (by kernel_rfl) (by kernel_rfl) (fun _ _ _ h => h) (Or.inl ⟨by kernel_rfl, ?_⟩) (by assumption) ?_
  rotate_left
  · intro w hSw; (try dsimp only at hSw); go_simp; try with_reducible rfl
  simp only [Act.put, List.getElem_toArray, List.getElem_cons_succ, List.getElem_cons_zero, List.setIfInBounds_toArray, List.set_cons_zero, List.set_cons_succ]
  refine wpAnyH_take (i := 15) (v := ?_) rfl (by kernel_rfl) (by kernel_rfl) (by kernel_rfl) (fun _ _ _ h => h) (Or.inl ⟨by kernel_rfl, ?_⟩) (by assumption) ?_
  rotate_left
  · intro w hSw; (try dsimp only at hSw); go_simp; try with_reducible rfl
  simp only [Act.put, List.getElem_toArray, List.getElem_cons_succ, List.getElem_cons_zero, List.setIfInBounds_toArray, List.set_cons_zero, List.set_cons_succ]
  refine wpAnyH_take (i := 16) (v := ?_) rfl (by kernel_rfl) (by kernel_rfl) (by kernel_rfl) (fun _ _ _ h => h) (Or.inl ⟨by kernel_rfl, ?_⟩) (by assumption) ?_
  rotate_left
  · intro w hSw; (try dsimp only at hSw); go_simp; try with_reducible rfl
  simp only [Act.put, List.getElem_toArray, List.getElem_cons_succ, List.getElem_cons_zero, List.setIfInBounds_toArray, List.set_cons_zero, List.set_cons_succ]
  refine wpAnyH_take (i := 17) (v := ?_) rfl (by kernel_rfl) (by kernel_rfl) (by kernel_rfl) (fun _ _ _ h => h) (Or.inl ⟨by kernel_rfl, ?_⟩) (by assumption) ?_
  rotate_left
  · intro w hSw; (try dsimp only at hSw); go_simp; try with_reducible rfl
  simp only [Act.put, List.getElem_toArray, List.getElem_cons_succ, List.getElem_cons_zero, List.setIfInBounds_toArray, List.set_cons_zero, List.set_cons_succ]
  refine wpAnyH_take (i := 18) (v := ?_) rfl (by kernel_rfl) (by kernel_rfl) (by kernel_rfl) (fun _ _ _ h => h) (Or.inl ⟨by kernel_rfl, ?_⟩) (by assumption) ?_
  rotate_left
  · intro w hSw; (try dsimp only at hSw); go_simp; try with_reducible rfl
  simp only [Act.put, List.getElem_toArray, List.getElem_cons_succ, List.getElem_cons_zero, List.setIfInBounds_toArray, List.set_cons_zero, List.set_cons_succ]
  refine wpAnyH_take (i := 19) (v := .int .i64 (m.k + (E : Int))) rfl (by kernel_rfl) (by kernel_rfl) (by kernel_rfl) (fun _ _ _ h => h) (Or.inl ⟨by kernel_rfl, ?_⟩) (by assumption) ?_
  · intro w hSw; (try dsimp only at hSw)
    have x4 := X4.out; go_simp
  simp only [Act.put, List.getElem_toArray, List.getElem_cons_succ, List.getElem_cons_zero, List.setIfInBounds_toArray, List.set_cons_zero, List.set_cons_succ]
  refine wpAnyH_take (i := 20) (v := ?_) rfl (by kernel_rfl) (by kernel_rfl) (by kernel_rfl) (fun _ _ _ h => h) (Or.inl ⟨by kernel_rfl, ?_⟩) (by assumption) ?_
  rotate_left
  · intro w hSw; (try dsimp only at hSw); go_simp; try with_reducible rfl
  simp only [Act.put, List.getElem_toArray, List.getElem_cons_succ, List.getElem_cons_zero, List.setIfInBounds_toArray, List.set_cons_zero, List.set_cons_succ]
  refine wpAnyH_take (i := 21) (v := ?_) rfl (by kernel_rfl) (by kernel_rfl) (by kernel_rfl) (fun _ _ _ h => h) (Or.inl ⟨by kernel_rfl, ?_⟩) (by assumption) ?_
  rotate_left
  · intro w hSw; (try dsimp only at hSw); go_simp; try with_reducible rfl
  simp only [Act.put, List.getElem_toArray, List.getElem_cons_succ, List.getElem_cons_zero, List.setIfInBounds_toArray, List.set_cons_zero, List.set_cons_succ]
  refine wpAnyH_take (i := 22) (v := ?_) rfl (by kernel_rfl) (by kernel_rfl) (by kernel_rfl) (fun _ _ _ h => h) (Or.inl ⟨by kernel_rfl, ?_⟩) (by assumption) ?_
  rotate_left
  · intro w hSw; (try dsimp only at hSw); go_simp; try with_reducible rfl
  simp only [Act.put, List.getElem_toArray, List.getElem_cons_succ, List.getElem_cons_zero, List.setIfInBounds_toArray, List.set_cons_zero, List.set_cons_succ]
  refine wpAnyH_take (i := 23) (v := ?_) rfl (by kernel_rfl) (by kernel_rfl) (by kernel_rfl) (fun _ _ _ h => h) (Or.inl ⟨by kernel_rfl, ?_⟩) (by assumption) ?_
  rotate_left
  · intro w hSw; (try dsimp only at hSw); go_simp; try with_reducible rfl
  simp only [Act.put, List.getElem_toArray, List.getElem_cons_succ, List.getElem_cons_zero, List.setIfInBounds_toArray, List.set_cons_zero, List.set_cons_succ]
  refine wpAnyH_take (i := 24) (v := .int .i64 (m.k + (E : Int) - m.fr)) rfl (by kernel_rfl) (by kernel_rfl) (by kernel_rfl) (fun _ _ _ h => h) (Or.inl ⟨by kernel_rfl, ?_⟩) (by assumption) ?_
  · intro w hSw; (try dsimp only at hSw)
    have x5 := X5.out; go_simp
  simp only [Act.put, List.getElem_toArray, List.getElem_cons_succ, List.getElem_cons_zero, List.setIfInBounds_toArray, List.set_cons_zero, List.set_cons_succ]
  refine wpAnyH_take (i := 25) (v := ?_) rfl (by kernel_rfl) (by kernel_rfl) (by kernel_rfl) (fun _ _ _ h => h) (Or.inl ⟨by kernel_rfl, ?_⟩) (by assumption) ?_
  rotate_left
  · intro w hSw; (try dsimp only at hSw); go_simp; try with_reducible rfl
  simp only [Act.put, List.getElem_toArray, List.getElem_cons_succ, List.getElem_cons_zero, List.setIfInBounds_toArray, List.set_cons_zero, List.set_cons_succ]
  refine wpAnyH_take (i := 26) (v := ?_) rfl (by kernel_rfl) (by kernel_rfl) (by kernel_rfl) (fun _ _ _ h => h) (Or.inl ⟨by kernel_rfl, ?_⟩) (by assumption) ?_
  rotate_left
  · intro w hSw; (try dsimp only at hSw); go_simp; try with_reducible rfl
  simp only [Act.put, List.getElem_toArray, List.getElem_cons_succ, List.getElem_cons_zero, List.setIfInBounds_toArray, List.set_cons_zero, List.set_cons_succ]
  refine wpAnyH_take (i := 27) (v := ?_) rfl (by kernel_rfl) (by kernel_rfl) (by kernel_rfl) (fun _ _ _ h => h) (Or.inl ⟨by kernel_rfl, ?_⟩) (by assumption) ?_
  rotate_left
  · intro w hSw; (try dsimp only at hSw); go_simp; try with_reducible rfl
  simp only [Act.put, List.getElem_toArray, List.getElem_cons_succ, List.getElem_cons_zero, List.setIfInBounds_toArray, List.set_cons_zero, List.set_cons_succ]
  refine wpAnyH_take (i := 28) (v := ?_) rfl (by kernel_rfl) (by kernel_rfl) (by kernel_rfl) (fun _ _ _ h => h) (Or.inl ⟨by kernel_rfl, ?_⟩) (by assumption) ?_
  rotate_left
  · intro w hSw; (try dsimp only at hSw); go_simp; try with_reducible rfl
  simp only [Act.put, List.getElem_toArray, List.getElem_cons_succ, List.getElem_cons_zero, List.setIfInBounds_toArray, List.set_cons_zero, List.set_cons_succ]
  refine wpAnyH_take (i := 29) (v := ?_) rfl (by kernel_rfl) (by kernel_rfl) (by kernel_rfl) (fun _ _ _ h => h) (Or.inl ⟨by kernel_rfl, ?_⟩) (by assumption) ?_
  rotate_left
  · intro w hSw; (try dsimp only at hSw); go_simp; try with_reducible rfl
  simp only [Act.put, List.getElem_toArray, List.getElem_cons_succ, List.getElem_cons_zero, List.setIfInBounds_toArray, List.set_cons_zero, List.set_cons_succ]
  refine wpAnyH_take (i := 30) (v := .int .i64 ((m.f ||| fl : Nat) : Int)) rfl (by kernel_rfl) (by kernel_rfl) (by kernel_rfl) (fun _ _ _ h => h) (Or.inl ⟨by kernel_rfl, ?_⟩) (by assumption) ?_
  · intro w hSw; (try dsimp only at hSw)
    have x6 := X6.out; go_simp
  simp only [Act.put, List.getElem_toArray, List.getElem_cons_succ, List.getElem_cons_zero, List.setIfInBounds_toArray, List.set_cons_zero, List.set_cons_succ]
  refine wpAnyH_take (i := 31) (v := (.agg (enC nr ⟨1, m.o * s.len, m.k + (E : Int) - m.fr, m.f ||| fl, 0⟩))) rfl (by kernel_rfl) (by kernel_rfl) (by kernel_rfl) (fun _ _ _ h => h) (Or.inl ⟨by kernel_rfl, ?_⟩) (by assumption) ?_
  · intro w hSw; (try dsimp only at hSw)
    refine build_op _ #[(0, .const (.int .i64 1)), (1, .tmp 40), (2, .tmp 50), (3, .tmp 61), (7, .tmp 67)] rfl _ ?_ w
    simp only [List.map_toArray, List.map_cons, List.map_nil, Act.eval]
    exact HBu.out
  simp only [Act.put, List.getElem_toArray, List.getElem_cons_succ, List.getElem_cons_zero, List.setIfInBounds_toArray, List.set_cons_zero, List.set_cons_succ]
  have HR3 := Lib.hid (show ∃ w3, w2.alloc (.cells #[.int .i64 0, .int .i64 0, .int .i64 0, .int .i64 0, .int .i64 0, .int .i64 0, .int .i64 0, .int .i64 0, .int .u32 0, .int .u64 0, .int .u8 0, .int .u8 0, .int .u8 0, .int .u8 0, .int .u8 0, .int .u8 0, .int .u8 0, .int .u8 0, .int .u8 0, .int .u8 0, .int .u8 0, .int .u8 0, .int .u8 0, .int .u8 0, .int .u8 0, .int .u8 0, .int .u8 0, .int .u8 0, .int .u8 0, .int .u8 0, .int .u8 0, .int .u8 0, .int .u8 0, .int .u8 0, .int .u8 0, .int .u8 0, .int .u8 0, .int .u8 0, .int .u8 0, .int .u8 0, .int .u8 0, .int .u8 0] 45) = w3 from ⟨_, rfl⟩)
  obtain ⟨w3, hw3⟩ := HR3.out
  obtain ⟨zb, hzb⟩ : ∃ zb, w2.heap.size = zb := ⟨_, rfl⟩
  have hst3 : Below w2.heap.size w2 w3 := hw3 ▸ bstep w2 _
  have hr3 : w3.drew.drew.heap[zb]? = some (.cells zEn 45 (0, 0)) := by rw [← hzb, ← hw3]; exact blk_new w2 _ _
  have H3 := Lib.hid (And.intro hst3 (And.intro hr3 hzb))
  clear hst3 hr3 HR3
  refine wpAnyH_ready (rs := [32]) (by kernel_rfl) (by simp) ?_
  refine AllReadyH.cons rfl (fun K hK => ?_) AllReadyH.nil
  go_simp
  clear hw3 hzb
  refine hK.out _ _ (HS.out _ ((H3.out.1.keptS _).drew.drew)) (fun hHeld => ?_)
  clear hK K
  try simp only [Act.put, List.getElem_toArray, List.getElem_cons_succ, List.getElem_cons_zero, List.setIfInBounds_toArray, List.set_cons_zero, List.set_cons_succ]
  refine wpAnyH_ready (rs := [33]) (by kernel_rfl) (by simp) ?_
  refine AllReadyH.cons rfl (fun K hK => ?_) AllReadyH.nil
  rw [if_pos (by kernel_rfl)]
  simp only [List.getElem_toArray, List.getElem_cons_succ, List.getElem_cons_zero]
  refine wp_store_row 45 (.tmp 10) (.tmp 68) ?_ zb (enC nr ⟨1, m.o * s.len, m.k + (E : Int) - m.fr, m.f ||| fl, 0⟩) ?_ ?_ 45 zEn ?_ ?_ ?_ ?_ ?_
  · rfl
  · rfl
  · rfl
  · exact H3.out.2.1
  · rw [enC_size]; kernel_rfl
  · rw [enC_size]; exact zEn_size
  · exact enC_all _ _
  refine hK.out _ _ (HS.out _ ((H3.out.1.keptS _).drew.drew.setRow (by have := HB.out.2.2.2.2; have := H3.out.2.2; have := HM.out.1.lt; omega) _)) (fun hHeld => ?_)
  clear hK K
  try simp only [Act.put, List.getElem_toArray, List.getElem_cons_succ, List.getElem_cons_zero, List.setIfInBounds_toArray, List.set_cons_zero, List.set_cons_succ]
  refine wpAnyH_done (by kernel_rfl) ?_ _
  have hs3 := HM.out.1.lt
  have hz3 := H3.out.2.2
  have hn : enC nr ⟨1, m.o * s.len, m.k + (E : Int) - m.fr, m.f ||| fl, 0⟩ = enC nr (tellE s m E fl) := rfl
  rw [hn]
  obtain ⟨en, hen⟩ : ∃ en, enC nr (tellE s m E fl) = en := ⟨_, rfl⟩
  have hens : en.size = 42 := hen ▸ enC_size _ _
  have hena : en.all (·.oneCell') = true := hen ▸ enC_all _ _
  rw [hen]
  obtain ⟨w4, hw4⟩ : ∃ w4, w3.drew.drew.setRow zb en = w4 := ⟨_, rfl⟩
  rw [hw4]
  have hk4 : Kept (fun x => x ≠ zb) w2 w4 := hw4 ▸ ((H3.out.1.keptS _).drew.drew.setRow (fun e => e rfl) en)
  have hz4 : w4.heap[zb]? = some (.cells en 45 (0, 0)) := hw4 ▸ setRow_heap _ _ _ _ _ _ H3.out.2.1
  have hM4 : MtB w4 b nr s m := HM.out.1.kept hk4 (by omega)
  obtain ⟨c0, c1, c2, c3, c4, c5, c6, c7, c8, c9, c10, c11, c12, c13⟩ := hM4.cells
  have f10 := hM4.fr 10
  have f11 := hM4.fr 11
  have f12 := hM4.fr 12
  have f13 := hM4.fr 13
  have X7 := Lib.hid (wrap64_at (m.o + 1) (by have := HH.out; omega))
  have H4 := Lib.hid (And.intro hk4 (And.intro hz4 (And.intro hM4 (And.intro hens (And.intro hena hs3)))))
  have Hen := Lib.hid hen
  clear hw4 hk4 hz4 hM4 hens hena hs3 hz3 hn hen c0 c1 c2 c3 c4 c5 c6 c7 c8 c9
  go_upto_region 7 with fail
  rw [X7.out]
  obtain ⟨w5, hw5⟩ : ∃ w5, (((w4.setCell ⟨b, 10, none⟩ (.int .i64 (m.o + 1))).setCell ⟨b, 11, none⟩ (.int .i64 0)).setCell ⟨b, 12, none⟩ (.int .i64 0)).setCell ⟨b, 13, none⟩ (.int .i64 (E : Int)) = w5 := ⟨_, rfl⟩
  rw [hw5]
  have hk5 : Kept (fun x => x ≠ b) w4 w5 := hw5 ▸ ((((Kept.refl _ w4).setCell (fun e => e rfl) _).setCell (fun e => e rfl) _).setCell (fun e => e rfl) _).setCell (fun e => e rfl) _
  have hM5 : MtB w5 b nr s (tellM m E) := by
    have := bset (bset (bset (bset H4.out.2.2.1 (i := 10) (.int .i64 (m.o + 1))) (i := 11) (.int .i64 0)) (i := 12) (.int .i64 0)) (i := 13) (.int .i64 (E : Int))
    rw [hw5] at this
    exact this
  have hzb : zb ≠ b := by have := HM.out.1.lt; have := H3.out.2.2; omega
  have hrb : rb ≠ b := by have := HB.out.2.2.2; omega
  have hz5 : w5.heap[zb]? = some (.cells en 45 (0, 0)) := heap_kept hk5 H4.out.2.1 hzb
  have hrz : rb ≠ zb := by have := H3.out.2.2; have := HM.out.2.size; have := blk_lt HB.out.2.1; omega
  have hr5 : w5.heap[rb]? = some (.cells zEn 45 (0, 0)) := heap_kept hk5 (heap_kept H4.out.1 (blk_below HB.out.2.1 HM.out.2) hrz) hrb
  have HR := Lib.hid (show w5.rangeAt zb 0 en.toList from fun j v hv => blk_cell hz5 (0 + j) (by rw [Nat.zero_add]; simpa using hv))
  have HI := Lib.hid (show (Try.prog.info? 45).map (·.size) = some en.toList.length by rw [Array.length_toList, H4.out.2.2.2.1]; exact eEnS)
  have HI2 := Lib.hid (show (Try.prog.info? 45).map (·.size) = some en.size by rw [H4.out.2.2.2.1]; exact eEnS)
  have HO := Lib.hid (show zEn.size = en.size by rw [H4.out.2.2.2.1]; exact zEn_size)
  have HA := Lib.hid H4.out.2.2.2.2.1
  have HZ := Lib.hid hr5
  have hta : en.toList.toArray = en := by simp
  have H5 := Lib.hid (And.intro hk5 (And.intro hM5 (And.intro hrb (And.intro hrz hta))))
  clear hk5 hM5 hzb hrb hrz hz5 hr5 hw5 c10 c11 c12 c13 f10 f11 f12 f13 hta
  go_wp2_with (first | (refine' wpList_load_mid rfl _ _ rfl _ _ rfl _ _ HR.out Try.underlying45 (by rfl) HI.out ?_; rw [H5.out.2.2.2.2]) | (refine' wpList_store_row rfl _ _ _ rfl _ _ rfl rfl _ _ HZ.out HI2.out HO.out HA.out ?_))
  have hw6 : Kept (fun x => x ≠ b) w (w5.setRow rb en) := by
    have e0 : Kept (fun x => x ≠ b) w w2 := (HB.out.1.keptS _).trans (HM.out.2.keptS _)
    have hz := H3.out.2.2
    have hlt := HB.out.2.2.2.2
    have hs2 := HM.out.2.size
    have hs1 := HB.out.1.size
    have hrr := HB.out.2.2.2.1
    refine ⟨?_, ?_, ?_, ?_, fun k hk hne => ?_⟩
    · exact H5.out.1.os.trans (H4.out.1.os.trans e0.os)
    · exact H5.out.1.tape.trans (H4.out.1.tape.trans e0.tape)
    · exact H5.out.1.output.trans (H4.out.1.output.trans e0.output)
    · have h1 := H5.out.1.size; have h2 := H4.out.1.size; have h3 := e0.size; simp [World.setRow]; omega
    · have h2 := H4.out.1.size; have h3 := e0.size
      rw [setRow_other _ _ _ _ (by omega), H5.out.1.block k (by omega) hne, H4.out.1.block k (by omega) (by omega), e0.block k hk hne]
  refine bodyPost_ret (results_cell_tmp rfl _ _ rb _ en _ _ rfl (setRow_heap _ _ _ _ _ _ HZ.out) Try.underlying45 rfl HI2.out) rfl ?_
  exact ⟨by rw [Hen.out]; rfl, H5.out.2.1.kept (S := fun x => x ≠ rb) ((Kept.refl _ w5).setRow (fun e => e rfl) en) (fun e => H5.out.2.2.1 e.symm), hw6⟩
end Go.Proofs.Ytjmkbpgakfeceaa
