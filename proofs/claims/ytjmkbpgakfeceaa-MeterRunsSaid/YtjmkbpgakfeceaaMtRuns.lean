/-
  MeterRuns, walked. Conditions stand at each theorem. (Printed by gen_mtruns.py.)
-/
import Derived.Test.YtjmkbpgakfeceaaMt12
import Derived.Deep.CutRange
namespace Go.Proofs.Ytjmkbpgakfeceaa
open Go Go.RowKit Go.Kw Go.Kw.Mt
set_option linter.unusedVariables false
set_option linter.unusedSimpArgs false

/-- The end of what was told last. -/
def nxt (s : Stp) (m : M) : Int := if m.bg = true then m.o * s.len else -1
/-- .. within a call's list. -/
def nxK (s : Stp) (m : M) (n k : Nat) : Int := if m.bg = true then (m.o + (min k n : Nat)) * s.len else -1
theorem passE_f {s : Stp} {m : M} {t' : Int} {d fl : Nat} (hm : m.f < 16) (hf : fl < 16) (j : Nat) : ∀ x ∈ passE s m t' d fl j, x.f < 16 := by
  induction j with
  | zero => simp [passE]
  | succ j ih =>
    intro x hx
    rw [passE] at hx
    rcases List.mem_append.1 hx with hx | hx
    · exact ih x hx
    · rw [List.mem_singleton.1 hx]
      refine or16 ?_ hf
      rw [passM_f]; split
      · exact hm
      · decide
theorem passF_lt {s : Stp} {m : M} {t' : Int} {fl : Nat} (hf : fl < 16) : passF s m t' fl < 16 := by
  unfold passF; split
  · exact or16 hf (by decide)
  · exact hf
theorem sample_f {s : Stp} {m : M} {i : Nat} (h : Ok s m i) (t : Int) (v : Nat) : ∀ x ∈ (sampleV s m t v).2.1, x.f < 16 := by
  rw [sample_form]
  intro x hx
  split at hx
  · cases hx
  · split at hx
    · cases hx
    · split at hx
      · cases hx
      · rcases List.mem_append.1 hx with hx | hx
        · refine passE_f ?_ (passF_lt (smF_lt v)) _ x hx
          unfold backM; split
          · exact or16 h.f (by decide)
          · exact h.f
        · split at hx
          · rw [List.mem_singleton.1 hx]; show 0 < 16; decide
          · cases hx
theorem repl_f {s : Stp} {m : M} {i : Nat} (h : Ok s m i) (t : Int) (v : Nat) : ∀ x ∈ (replV s m t v).2.1, x.f < 16 := by
  rw [repl_form]
  intro x hx
  split at hx
  · cases hx
  · split at hx
    · cases hx
    · split at hx
      · cases hx
      · split at hx
        · cases hx
        · exact passE_f h.f (passF_lt (by decide)) _ x hx
/-- What the law's rounds ask of a call: it turns m to m2; mm stands for m where what was told counts. -/
structure LoopI (s : Stp) (m m2 mm : M) (E : List En) (i : Nat) (Pl Sl : List En) : Prop where
  e : E = Pl ++ Sl
  sk : ∀ x ∈ Sl, x.kind ≠ 1
  p : ∀ (k : Nat) (x : En), Pl[k]? = some x → mm.bg = true ∧ m.bg = true ∧ m2.bg = true ∧ x.kind = 1 ∧ x.start = (mm.o + k) * s.len ∧ 0 ≤ x.en ∧ x.start + s.len ≤ m2.t ∧ m.t < x.start + s.len ∧ (m2.t - m.t > s.gap → x.f &&& 2 ≠ 0)
  f : ∀ x ∈ E, x.f < 16
  bg : mm.bg = true → m2.bg = true
  o : mm.bg = true → m2.o = mm.o + (Pl.length : Int)
  g : m.bg = true → m2.bg = true → m2.t - m.t > s.gap → max (m.t + 1) (m2.o * s.len) < m2.t → m2.f &&& 2 ≠ 0
  ok : Ok s m2 (i + 1)
  oo : mm.bg = true → 0 ≤ mm.o
theorem o_nonneg {s : Stp} {m : M} {i : Nat} (hs : s.Ok) (h : Ok s m i) : 0 ≤ m.o := by
  have hl := hs.len
  have ho := h.o
  have ht := h.t
  rcases Int.lt_or_le m.o 0 with h | h
  · have h1 := Int.mul_le_mul_of_nonneg_right (show m.o + 1 ≤ 0 by omega) (show 0 ≤ s.len by omega)
    omega
  · exact h
theorem loop_run {s : Stp} {m m2 : M} {E : List En} {i : Nat} (hs : s.Ok) (h : RunI s m m2 E) (hok : Ok s m i) (hok2 : Ok s m2 (i + 1)) (hf : ∀ x ∈ E, x.f < 16) : ∃ Pl Sl, LoopI s m m2 m E i Pl Sl := by
  obtain ⟨Pl, Sl, hE, h1, h2, h3⟩ := h.e
  exact ⟨Pl, Sl, hE, h1, fun k x hx => by
    obtain ⟨a, b, c, d, e, f, g⟩ := h2 k x hx
    exact ⟨a, a, h.bg a, b, c, d, e, f, g⟩, hf, h.bg, h3, fun a _ => h.f a, hok2, fun _ => o_nonneg hs hok⟩
theorem loop_zero {s : Stp} {m : M} {i : Nat} (hs : s.Ok) : LoopI s m zeroM zeroM [] i [] [] :=
  ⟨rfl, by simp, by simp, by simp, (fun h => by cases h), (fun h => by cases h), (fun _ h => by cases h), zero_ok hs, (fun h => by cases h)⟩
theorem nxt_nxK (s : Stp) (m : M) (n : Nat) : nxt s m = nxK s m n 0 := by unfold nxt nxK; simp
theorem i64_and2 (a : Nat) (ha : a < 16) : bits .and .i64 (a : Int) 2 = ((a &&& 2 : Nat) : Int) := by
  have : a = 0 ∨ a = 1 ∨ a = 2 ∨ a = 3 ∨ a = 4 ∨ a = 5 ∨ a = 6 ∨ a = 7 ∨ a = 8 ∨ a = 9 ∨ a = 10 ∨ a = 11 ∨ a = 12 ∨ a = 13 ∨ a = 14 ∨ a = 15 := by omega
  rcases this with rfl | rfl | rfl | rfl | rfl | rfl | rfl | rfl | rfl | rfl | rfl | rfl | rfl | rfl | rfl | rfl <;> decide
theorem in_o {s : Stp} {m : M} {i : Nat} (hs : s.Ok) (h : Ok s m i) : 0 ≤ m.o * s.len ∧ m.o * s.len < 253402300800 := by
  have := h.o
  have := h.t
  have := Int.mul_nonneg (o_nonneg hs h) (show 0 ≤ s.len by have := hs.len; omega)
  omega

set_option maxRecDepth 100000 in
set_option maxHeartbeats 64000000 in
theorem meterRuns_walk (v0 : Value) (x0 : SetX) (v1 : Value) (x1 : Option Addr × Nat × Nat × (Nat → OpM)) (w : World) (w0 : v0 = x0.v ∧ x0.Ok) (w1 : v1 = .slice x1.1 x1.2.1 x1.2.2.1 ∧ RdOpM w x1.1 x1.2.1 x1.2.2.2) :
    Calls Try.prog 6 #[v0, v1] w fun e w' => e = .returned (.bool true) ∧ Below w.heap.size w w' := by
  obtain ⟨num, den, bound, gap, len⟩ := x0
  obtain ⟨A, n, c, g⟩ := x1
  obtain ⟨rfl, hx⟩ := w0
  obtain ⟨rfl, hl⟩ := w1
  obtain ⟨s, hs⟩ : ∃ s, fineS num den bound gap len = s := ⟨_, rfl⟩
  have hms : MayS s := hs ▸ fine_may num den bound gap len hx.bound hx.gap.2
  have hsb : s.bound = bound := by rw [← hs]; rfl
  have hF : ∀ W, Calls Try.prog 12 #[.agg #[.int .u64 (num : Int), .int .u64 (den : Int), .int .u32 (bound : Int), .int .i64 gap, .int .i64 len]] W fun e w' => e = .returned (.agg #[.int .u64 (s.num : Int), .int .u64 (s.den : Int), .int .u32 (s.bound : Int), .int .i64 s.gap, .int .i64 s.len]) ∧ Below W.heap.size W w' := fun W => by
    have h := fine_calls W num den bound gap len hx.num hx.den hx.bound hx.gap
    rw [hs] at h
    rw [hsb]
    exact h
  have HF := Lib.hid hF
  have HS := Lib.hid hms
  obtain ⟨b3, hb3⟩ : ∃ b3, w.heap.size = b3 := ⟨_, rfl⟩
  obtain ⟨wa, hwa⟩ : ∃ x, w.alloc (.cells #[.int .u64 (num : Int), .int .u64 (den : Int), .int .u32 (bound : Int), .int .i64 gap, .int .i64 len] 25) = x := ⟨_, rfl⟩
  have hst : Below w.heap.size w wa := hwa ▸ bstep w _
  have hr : wa.heap[b3]? = some (.cells #[.int .u64 (num : Int), .int .u64 (den : Int), .int .u32 (bound : Int), .int .i64 gap, .int .i64 len] 25 (0, 0)) := by rw [← hb3, ← hwa]; exact blk_new w _ _
  have H1 := Lib.hid (And.intro hst hr)
  have HL := Lib.hid hl
  have Hb3 := Lib.hid hb3
  show Calls Try.prog 6 #[.agg #[.int .u64 (num : Int), .int .u64 (den : Int), .int .u32 (bound : Int), .int .i64 gap, .int .i64 len], .slice A n c] w _
  clear hx hl hs hms hsb hF hst hr
  go_enter Try.func6, Try.ntmps6
  go_wp2_with fail
  clear hwa hb3
  refine (alive_calls wa).mono ?_
  rintro e w1 ⟨rfl, hb1⟩
  have H2 := Lib.hid (And.intro (bnext H1.out.1 hb1) (blk_below H1.out.2 hb1))
  clear hb1
  by_cases hn : (n : Int) > 100
  · have k0 : decide ((n : Int) > 100) = true := decide_eq_true hn
    clear hn
    go_wp2_with fail
    go_ret
    exact ⟨rfl, by rw [Hb3.out]; exact Hb3.out ▸ H2.out.1⟩
  have k0 : decide ((n : Int) > 100) = false := decide_eq_false hn
  have Hn := Lib.hid (show n ≤ 100 by omega)
  have q0 : w1.cell? ⟨b3, 0, none⟩ = some (.int .u64 (num : Int)) := blk_cell H2.out.2 0 rfl
  have q1 : w1.cell? ⟨b3, 1, none⟩ = some (.int .u64 (den : Int)) := blk_cell H2.out.2 1 rfl
  have q2 : w1.cell? ⟨b3, 2, none⟩ = some (.int .u32 (bound : Int)) := blk_cell H2.out.2 2 rfl
  have q3 : w1.cell? ⟨b3, 3, none⟩ = some (.int .i64 gap) := blk_cell H2.out.2 3 rfl
  have q4 : w1.cell? ⟨b3, 4, none⟩ = some (.int .i64 len) := blk_cell H2.out.2 4 rfl
  clear hn
  go_wp2_with fail
  refine (HF.out _).mono ?_
  rintro e w2 ⟨rfl, hb2⟩
  clear q0 q1 q2 q3 q4
  obtain ⟨w3, hw3⟩ : ∃ x, w2.setRow b3 #[.int .u64 (s.num : Int), .int .u64 (s.den : Int), .int .u32 (s.bound : Int), .int .i64 s.gap, .int .i64 s.len] = x := ⟨_, rfl⟩
  have HZ := Lib.hid (blk_below H2.out.2 hb2)
  have HI2 := Lib.hid (show (Try.prog.info? 25).map (·.size) = some (#[Value.int .u64 (s.num : Int), .int .u64 (s.den : Int), .int .u32 (s.bound : Int), .int .i64 s.gap, .int .i64 s.len]).size from eSetS)
  have hr3 : w3.heap[b3]? = some (.cells #[.int .u64 (s.num : Int), .int .u64 (s.den : Int), .int .u32 (s.bound : Int), .int .i64 s.gap, .int .i64 s.len] 25 (0, 0)) := by rw [← hw3]; exact setRow_heap _ _ _ _ _ _ HZ.out
  have H3 := Lib.hid (And.intro (show Below w.heap.size w w3 by rw [← hw3]; exact belowSetRow (bnext H2.out.1 hb2) (by rw [Hb3.out]; exact Nat.le_refl _) _) (And.intro hr3 (blk_lt hr3)))
  have HW3 := Lib.hid hw3
  clear hb2 hr3 hw3
  go_wp2_with (first | (refine' wpList_store_row rfl _ _ _ rfl _ _ rfl rfl _ _ HZ.out HI2.out rfl (by simp [Value.oneCell']) ?_; rw [HW3.out]; have q0 : w3.cell? ⟨b3, 0, none⟩ = some (.int .u64 (s.num : Int)) := blk_cell H3.out.2.1 0 rfl; have q1 : w3.cell? ⟨b3, 1, none⟩ = some (.int .u64 (s.den : Int)) := blk_cell H3.out.2.1 1 rfl; have q2 : w3.cell? ⟨b3, 2, none⟩ = some (.int .u32 (s.bound : Int)) := blk_cell H3.out.2.1 2 rfl; have q3 : w3.cell? ⟨b3, 3, none⟩ = some (.int .i64 s.gap) := blk_cell H3.out.2.1 3 rfl; have q4 : w3.cell? ⟨b3, 4, none⟩ = some (.int .i64 s.len) := blk_cell H3.out.2.1 4 rfl))
  refine (mnew_calls w3 0 s HS.out (by decide)).mono ?_
  rintro e w4 ⟨b, rfl, hbb, hm, hb4⟩
  have hlb : b3 < b := by have := H3.out.2.2; omega
  have H5 := Lib.hid (And.intro hm (And.intro (bnext H3.out.1 hb4) (And.intro (blk_below H3.out.2.1 hb4) hlb)))
  clear hm hbb hb4 q0 q1 q2 q3 q4 HW3 HZ HI2 k0 hlb
  go_wp2_with fail
  have HBel := Lib.hid (show ∀ Y, Kept (fun x => x ≠ b) w4 Y → Below w.heap.size w Y from fun Y hY => below_kept H5.out.2.1 hY (by have := H5.out.2.2.2; have := Hb3.out; omega) (Nat.le_refl _))
  have HBox := Lib.hid (show ∀ Y, Kept (fun x => x ≠ b) w4 Y → Y.heap[b3]? = some (.cells #[.int .u64 (s.num : Int), .int .u64 (s.den : Int), .int .u32 (s.bound : Int), .int .i64 s.gap, .int .i64 s.len] 25 (0, 0)) from fun Y hY => heap_kept hY H5.out.2.2.1 (by have := H5.out.2.2.2; omega))
  go_loopw [8, 43] (fun s8 iv wr => ∃ (i : Nat) (m : M), i ≤ n ∧ iv = .int .i64 i ∧ Ok s m i ∧ s8 = .int .i64 (nxt s m) ∧ MtB wr b 0 s m ∧ Kept (fun x => x ≠ b) w4 wr) (fun _ iv _ => n - (intOf iv).toNat)
  case atStart => exact ⟨0, zeroM, by omega, rfl, zero_ok HS.out.ok, rfl, H5.out.1, Kept.refl _ _⟩
  case round =>
    obtain ⟨i, m, hi, rfl, hE, rfl, hm, hk⟩ := hrel
    obtain ⟨wo, rfl⟩ : ∃ wo : World, wo = wr := ⟨_, rfl⟩
    by_cases hlt : i < n
    · have hI : (i : Int) < (n : Int) := by omega
      have hi0 : (0 : Int) ≤ (i : Int) := by omega
      have HM := Lib.hid (And.intro hE (And.intro hm (And.intro hk (And.intro hlt (show i ≤ 99 by have := Hn.out; omega)))))
      obtain ⟨B1, hB1⟩ : ∃ B1, m.bg = B1 := ⟨_, rfl⟩
      have hLa : ∀ W, MtB W b 0 s m → Calls Try.prog 18 #[.pointer (some ⟨b, 0, none⟩)] W fun e w' => e = .returned (.tuple #[.int .i64 m.t, .int .u32 (m.v : Int), .bool B1]) ∧ Below W.heap.size W w' := fun W h => by rw [← hB1]; exact mlast_calls W b 0 s m HS.out h HM.out.1.z
      have HLa := Lib.hid hLa
      have HB1 := Lib.hid hB1
      clear hLa hB1
      have X8 := Lib.hid (wrap64_at ((i : Int) + 1) (by have := Hn.out; omega))
      clear hE hm hk hlt hi
      go_wp2_with fail
      refine (HLa.out wo HM.out.2.1).mono ?_
      rintro e w5 ⟨rfl, hb5⟩
      have H6 := Lib.hid (And.intro (HM.out.2.1.go hb5) (HM.out.2.2.1.trans (hb5.keptS _)))
      clear hb5
      go_upto_region 13 with fail
      go_cut [13] from 13 to 13 (fun s13 wx => s13 = .slice none 0 0 ∧ w5 = wx)
      case first =>
        go_wp2_with fail
        go_meet
        exact ⟨rfl, by first | rfl | trivial⟩
      case rest =>
        obtain ⟨rfl, hw⟩ := hcut
        subst hw
        go_step
        go_step
        go_cut [8, 13] from 52 to 94 (fun s8 s13 wx => ∃ (E : List En) (m2 mm : M) (Pl Sl : List En) (A' : Option Addr) (c' : Nat), s13 = .slice A' E.length c' ∧ s8 = .int .i64 (nxt s mm) ∧ LoopI s m m2 mm E i Pl Sl ∧ RowE wx wx.heap.size A' 0 E ∧ E.length ≤ 9223372036854775807 ∧ MtB wx b 0 s m2 ∧ Kept (fun x => x ≠ b) w5 wx)
        case first =>
          as_aux_lemma =>
          obtain ⟨hv3, ht3, lb, lo, rfl, hlb, c0, c1, c2⟩ := (HL.out.go (HBel.out _ H6.out.2)).2 i HM.out.2.2.2.1
          have HLc := Lib.hid (show ∀ Y, Kept (fun x => x ≠ b) w5 Y → Y.cell? ⟨lb, lo + i * 3 + 1, none⟩ = some (.int .i64 (g i).t) ∧ Y.cell? ⟨lb, lo + i * 3 + 2, none⟩ = some (.int .u32 ((g i).v : Int)) from fun Y hY => by
            obtain ⟨-, -, lb2, lo2, hA, -, -, d1, d2⟩ := (HL.out.go (HBel.out _ (H6.out.2.trans hY))).2 i HM.out.2.2.2.1
            injection hA with hA
            injection hA with h1 h2
            subst h1 h2
            exact ⟨d1, d2⟩)
          obtain ⟨op, hop⟩ : ∃ op, g i = op := ⟨_, rfl⟩
          rw [hop] at hv3 ht3 c0 c1 c2 HLc
          have HV := Lib.hid hv3
          have HM1 := Lib.hid (show i ≤ 200 by have := HM.out.2.2.2.2; omega)
          clear hv3 ht3 hop hlb c1 c2
          by_cases k0 : op.kd = 0
          · have b0 : (op.kd == 0) = true := beq_iff_eq.2 k0
            clear k0
            go_upto_region 16 with fail
            have hc := mSample_calls w5.drew b 0 s m i HS.out HM.out.1 HM1.out H6.out.1 op.t op.v HV.out
            have hR : ∃ Pl Sl, LoopI s m (sampleV s m op.t op.v).2.2 m (sampleV s m op.t op.v).2.1 i Pl Sl := loop_run HS.out.ok (sample_run HS.out.ok HM.out.1 op.t op.v) HM.out.1 (sample_ok HS.out.ok HM.out.1 op.t HV.out) (sample_f HM.out.1 op.t op.v)
            obtain ⟨er, E, m2, hX⟩ : ∃ er E m2, sampleV s m op.t op.v = (er, E, m2) := ⟨_, _, _, rfl⟩
            rw [hX] at hc hR
            have HC := Lib.hid hc
            have HR := Lib.hid hR
            clear hc hR hX c0
            refine wp_region_held_drew (S := (fun Y => Y.cell? ⟨lb, lo + i * 3 + 1, none⟩ = some (.int .i64 op.t) ∧ Y.cell? ⟨lb, lo + i * 3 + 2, none⟩ = some (.int .u32 (op.v : Int)))) (by kernel_rfl) (HLc.out _ (Kept.refl _ w5).drew) (fun hHeld => ?_)
            refine wpAnyH_take (i := 0) (v := ?_) rfl (by kernel_rfl) (by kernel_rfl) (by kernel_rfl) (fun _ _ _ h => h) (Or.inl ⟨by kernel_rfl, ?_⟩) (by assumption) ?_
            rotate_left
            · intro w hSw; (try dsimp only at hSw); go_simp; try with_reducible rfl
            simp only [Act.put, List.getElem_toArray, List.getElem_cons_succ, List.getElem_cons_zero, List.setIfInBounds_toArray, List.set_cons_zero, List.set_cons_succ]
            refine wpAnyH_take (i := 1) (v := ?_) rfl (by kernel_rfl) (by kernel_rfl) (by kernel_rfl) (fun _ _ _ h => h) (Or.inl ⟨by kernel_rfl, ?_⟩) (by assumption) ?_
            rotate_left
            · intro w hSw; (try dsimp only at hSw); go_simp; try with_reducible rfl
            simp only [Act.put, List.getElem_toArray, List.getElem_cons_succ, List.getElem_cons_zero, List.setIfInBounds_toArray, List.set_cons_zero, List.set_cons_succ]
            refine wpAnyH_take (i := 2) (v := ?_) rfl (by kernel_rfl) (by kernel_rfl) (by kernel_rfl) (fun _ _ _ h => h) (Or.inl ⟨by kernel_rfl, ?_⟩) (by assumption) ?_
            rotate_left
            · intro w hSw; (try dsimp only at hSw); go_simp; try with_reducible rfl
            simp only [Act.put, List.getElem_toArray, List.getElem_cons_succ, List.getElem_cons_zero, List.setIfInBounds_toArray, List.set_cons_zero, List.set_cons_succ]
            refine wpAnyH_take (i := 3) (v := ?_) rfl (by kernel_rfl) (by kernel_rfl) (by kernel_rfl) (fun _ _ _ h => h) (Or.inl ⟨by kernel_rfl, ?_⟩) (by assumption) ?_
            rotate_left
            · intro w hSw; (try dsimp only at hSw); go_simp; try with_reducible rfl
            simp only [Act.put, List.getElem_toArray, List.getElem_cons_succ, List.getElem_cons_zero, List.setIfInBounds_toArray, List.set_cons_zero, List.set_cons_succ]
            refine wpAnyH_take (i := 4) (v := ?_) rfl (by kernel_rfl) (by kernel_rfl) (by kernel_rfl) (fun _ _ _ h => h) (Or.inl ⟨by kernel_rfl, ?_⟩) (by assumption) ?_
            rotate_left
            · intro w hSw; (try dsimp only at hSw); go_simp; try with_reducible rfl
            simp only [Act.put, List.getElem_toArray, List.getElem_cons_succ, List.getElem_cons_zero, List.setIfInBounds_toArray, List.set_cons_zero, List.set_cons_succ]
            refine wpAnyH_take (i := 5) (v := ?_) rfl (by kernel_rfl) (by kernel_rfl) (by kernel_rfl) (fun _ _ _ h => h) (Or.inl ⟨by kernel_rfl, ?_⟩) (by assumption) ?_
            rotate_left
            · intro w hSw; (try dsimp only at hSw); go_simp; try with_reducible rfl
            simp only [Act.put, List.getElem_toArray, List.getElem_cons_succ, List.getElem_cons_zero, List.setIfInBounds_toArray, List.set_cons_zero, List.set_cons_succ]
            refine wpAnyH_take (i := 6) (v := ?_) rfl (by kernel_rfl) (by kernel_rfl) (by kernel_rfl) (fun _ _ _ h => h) (Or.inl ⟨by kernel_rfl, ?_⟩) (by assumption) ?_
            rotate_left
            · intro w hSw; (try dsimp only at hSw); go_simp; try with_reducible rfl
            simp only [Act.put, List.getElem_toArray, List.getElem_cons_succ, List.getElem_cons_zero, List.setIfInBounds_toArray, List.set_cons_zero, List.set_cons_succ]
            refine wpAnyH_take (i := 7) (v := ?_) rfl (by kernel_rfl) (by kernel_rfl) (by kernel_rfl) (fun _ _ _ h => h) (Or.inl ⟨by kernel_rfl, ?_⟩) (by assumption) ?_
            rotate_left
            · intro w hSw; (try dsimp only at hSw); go_simp; try with_reducible rfl
            simp only [Act.put, List.getElem_toArray, List.getElem_cons_succ, List.getElem_cons_zero, List.setIfInBounds_toArray, List.set_cons_zero, List.set_cons_succ]
            refine wpAnyH_take (i := 8) (v := ?_) rfl (by kernel_rfl) (by kernel_rfl) (by kernel_rfl) (fun _ _ _ h => h) (Or.inl ⟨by kernel_rfl, ?_⟩) (by assumption) ?_
            rotate_left
            · intro w hSw; (try dsimp only at hSw); go_simp; try with_reducible rfl
            simp only [Act.put, List.getElem_toArray, List.getElem_cons_succ, List.getElem_cons_zero, List.setIfInBounds_toArray, List.set_cons_zero, List.set_cons_succ]
            refine wpAnyH_take (i := 9) (v := ?_) rfl (by kernel_rfl) (by kernel_rfl) (by kernel_rfl) (fun _ _ _ h => h) (Or.inl ⟨by kernel_rfl, ?_⟩) (by assumption) ?_
            rotate_left
            · intro w hSw; (try dsimp only at hSw); go_simp; try with_reducible rfl
            simp only [Act.put, List.getElem_toArray, List.getElem_cons_succ, List.getElem_cons_zero, List.setIfInBounds_toArray, List.set_cons_zero, List.set_cons_succ]
            refine wpAnyH_take (i := 10) (v := ?_) rfl (by kernel_rfl) (by kernel_rfl) (by kernel_rfl) (fun _ _ _ h => h) (Or.inl ⟨by kernel_rfl, ?_⟩) (by assumption) ?_
            rotate_left
            · intro w hSw; (try dsimp only at hSw); go_simp; try with_reducible rfl
            simp only [Act.put, List.getElem_toArray, List.getElem_cons_succ, List.getElem_cons_zero, List.setIfInBounds_toArray, List.set_cons_zero, List.set_cons_succ]
            refine wpAnyH_ready (rs := [11]) (by kernel_rfl) (by simp) ?_
            refine AllReadyH.cons rfl (fun K hK => ?_) AllReadyH.nil
            go_simp
            refine HC.out.mono ?_
            rintro e w6 ⟨A6, k6, c6, rfl, ho6, hm6, hk6, hkk⟩
            have hrow := own_rowE ho6 hkk
            obtain rfl : k6 = E.length := hkk
            have hcap : E.length ≤ 9223372036854775807 := by
              rcases ho6.2 with ⟨-, h2⟩ | ⟨_, _, _, -, -, -, h1, h2, -, -⟩
              · omega
              · unfold maxLen at h2; omega
            have H7 := Lib.hid (And.intro hm6 (And.intro (((Kept.refl (fun x => x ≠ b) w5).drew).trans hk6) (And.intro hrow hcap)))
            clear ho6 hm6 hk6 hrow hcap
            try go_wp2_with fail
            refine hK.out _ _ (HLc.out _ H7.out.2.1) (fun hHeld => ?_)
            clear hK K
            try simp only [Act.put, List.getElem_toArray, List.getElem_cons_succ, List.getElem_cons_zero, List.setIfInBounds_toArray, List.set_cons_zero, List.set_cons_succ]
            refine wpAnyH_take (i := 12) (v := ?_) rfl (by kernel_rfl) (by kernel_rfl) (by kernel_rfl) (fun _ _ _ h => h) (Or.inl ⟨by kernel_rfl, ?_⟩) (by assumption) ?_
            rotate_left
            · intro w hSw; (try dsimp only at hSw); go_simp; try with_reducible rfl
            simp only [Act.put, List.getElem_toArray, List.getElem_cons_succ, List.getElem_cons_zero, List.setIfInBounds_toArray, List.set_cons_zero, List.set_cons_succ]
            refine wpAnyH_take (i := 13) (v := ?_) rfl (by kernel_rfl) (by kernel_rfl) (by kernel_rfl) (fun _ _ _ h => h) (Or.inl ⟨by kernel_rfl, ?_⟩) (by assumption) ?_
            rotate_left
            · intro w hSw; (try dsimp only at hSw); go_simp; try with_reducible rfl
            simp only [Act.put, List.getElem_toArray, List.getElem_cons_succ, List.getElem_cons_zero, List.setIfInBounds_toArray, List.set_cons_zero, List.set_cons_succ]
            refine wpAnyH_take (i := 14) (v := ?_) rfl (by kernel_rfl) (by kernel_rfl) (by kernel_rfl) (fun _ _ _ h => h) (Or.inl ⟨by kernel_rfl, ?_⟩) (by assumption) ?_
            rotate_left
            · intro w hSw; (try dsimp only at hSw); go_simp; try with_reducible rfl
            simp only [Act.put, List.getElem_toArray, List.getElem_cons_succ, List.getElem_cons_zero, List.setIfInBounds_toArray, List.set_cons_zero, List.set_cons_succ]
            refine wpAnyH_take (i := 15) (v := ?_) rfl (by kernel_rfl) (by kernel_rfl) (by kernel_rfl) (fun _ _ _ h => h) (Or.inl ⟨by kernel_rfl, ?_⟩) (by assumption) ?_
            rotate_left
            · intro w hSw; (try dsimp only at hSw); go_simp; try with_reducible rfl
            simp only [Act.put, List.getElem_toArray, List.getElem_cons_succ, List.getElem_cons_zero, List.setIfInBounds_toArray, List.set_cons_zero, List.set_cons_succ]
            refine wpAnyH_done (by kernel_rfl) ?_ _
            go_wp2_with fail
            go_meet
            obtain ⟨Pl, Sl, hR⟩ := HR.out
            exact ⟨E, m2, m, Pl, Sl, A6, c6, rfl, rfl, hR, H7.out.2.2.1, H7.out.2.2.2, H7.out.1, H7.out.2.1⟩
          have b0 : (op.kd == 0) = false := beq_eq_false_iff_ne.2 k0
          by_cases k1 : op.kd = 1
          · have b1 : (op.kd == 1) = true := beq_iff_eq.2 k1
            clear k0 k1
            go_upto_region 18 with fail
            have hc := mReplace_calls w5.drew b 0 s m i HS.out HM.out.1 HM1.out H6.out.1 op.t op.v HV.out
            have hR : ∃ Pl Sl, LoopI s m (replV s m op.t op.v).2.2 m (replV s m op.t op.v).2.1 i Pl Sl := loop_run HS.out.ok (repl_run HS.out.ok HM.out.1 op.t op.v) HM.out.1 (repl_ok HS.out.ok HM.out.1 op.t HV.out) (repl_f HM.out.1 op.t op.v)
            obtain ⟨er, E, m2, hX⟩ : ∃ er E m2, replV s m op.t op.v = (er, E, m2) := ⟨_, _, _, rfl⟩
            rw [hX] at hc hR
            have HC := Lib.hid hc
            have HR := Lib.hid hR
            clear hc hR hX c0
            refine wp_region_held_drew (S := (fun Y => Y.cell? ⟨lb, lo + i * 3 + 1, none⟩ = some (.int .i64 op.t) ∧ Y.cell? ⟨lb, lo + i * 3 + 2, none⟩ = some (.int .u32 (op.v : Int)))) (by kernel_rfl) (HLc.out _ (Kept.refl _ w5).drew) (fun hHeld => ?_)
            refine wpAnyH_take (i := 0) (v := ?_) rfl (by kernel_rfl) (by kernel_rfl) (by kernel_rfl) (fun _ _ _ h => h) (Or.inl ⟨by kernel_rfl, ?_⟩) (by assumption) ?_
            rotate_left
            · intro w hSw; (try dsimp only at hSw); go_simp; try with_reducible rfl
            simp only [Act.put, List.getElem_toArray, List.getElem_cons_succ, List.getElem_cons_zero, List.setIfInBounds_toArray, List.set_cons_zero, List.set_cons_succ]
            refine wpAnyH_take (i := 1) (v := ?_) rfl (by kernel_rfl) (by kernel_rfl) (by kernel_rfl) (fun _ _ _ h => h) (Or.inl ⟨by kernel_rfl, ?_⟩) (by assumption) ?_
            rotate_left
            · intro w hSw; (try dsimp only at hSw); go_simp; try with_reducible rfl
            simp only [Act.put, List.getElem_toArray, List.getElem_cons_succ, List.getElem_cons_zero, List.setIfInBounds_toArray, List.set_cons_zero, List.set_cons_succ]
            refine wpAnyH_take (i := 2) (v := ?_) rfl (by kernel_rfl) (by kernel_rfl) (by kernel_rfl) (fun _ _ _ h => h) (Or.inl ⟨by kernel_rfl, ?_⟩) (by assumption) ?_
            rotate_left
            · intro w hSw; (try dsimp only at hSw); go_simp; try with_reducible rfl
            simp only [Act.put, List.getElem_toArray, List.getElem_cons_succ, List.getElem_cons_zero, List.setIfInBounds_toArray, List.set_cons_zero, List.set_cons_succ]
            refine wpAnyH_take (i := 3) (v := ?_) rfl (by kernel_rfl) (by kernel_rfl) (by kernel_rfl) (fun _ _ _ h => h) (Or.inl ⟨by kernel_rfl, ?_⟩) (by assumption) ?_
            rotate_left
            · intro w hSw; (try dsimp only at hSw); go_simp; try with_reducible rfl
            simp only [Act.put, List.getElem_toArray, List.getElem_cons_succ, List.getElem_cons_zero, List.setIfInBounds_toArray, List.set_cons_zero, List.set_cons_succ]
            refine wpAnyH_take (i := 4) (v := ?_) rfl (by kernel_rfl) (by kernel_rfl) (by kernel_rfl) (fun _ _ _ h => h) (Or.inl ⟨by kernel_rfl, ?_⟩) (by assumption) ?_
            rotate_left
            · intro w hSw; (try dsimp only at hSw); go_simp; try with_reducible rfl
            simp only [Act.put, List.getElem_toArray, List.getElem_cons_succ, List.getElem_cons_zero, List.setIfInBounds_toArray, List.set_cons_zero, List.set_cons_succ]
            refine wpAnyH_take (i := 5) (v := ?_) rfl (by kernel_rfl) (by kernel_rfl) (by kernel_rfl) (fun _ _ _ h => h) (Or.inl ⟨by kernel_rfl, ?_⟩) (by assumption) ?_
            rotate_left
            · intro w hSw; (try dsimp only at hSw); go_simp; try with_reducible rfl
            simp only [Act.put, List.getElem_toArray, List.getElem_cons_succ, List.getElem_cons_zero, List.setIfInBounds_toArray, List.set_cons_zero, List.set_cons_succ]
            refine wpAnyH_take (i := 6) (v := ?_) rfl (by kernel_rfl) (by kernel_rfl) (by kernel_rfl) (fun _ _ _ h => h) (Or.inl ⟨by kernel_rfl, ?_⟩) (by assumption) ?_
            rotate_left
            · intro w hSw; (try dsimp only at hSw); go_simp; try with_reducible rfl
            simp only [Act.put, List.getElem_toArray, List.getElem_cons_succ, List.getElem_cons_zero, List.setIfInBounds_toArray, List.set_cons_zero, List.set_cons_succ]
            refine wpAnyH_take (i := 7) (v := ?_) rfl (by kernel_rfl) (by kernel_rfl) (by kernel_rfl) (fun _ _ _ h => h) (Or.inl ⟨by kernel_rfl, ?_⟩) (by assumption) ?_
            rotate_left
            · intro w hSw; (try dsimp only at hSw); go_simp; try with_reducible rfl
            simp only [Act.put, List.getElem_toArray, List.getElem_cons_succ, List.getElem_cons_zero, List.setIfInBounds_toArray, List.set_cons_zero, List.set_cons_succ]
            refine wpAnyH_take (i := 8) (v := ?_) rfl (by kernel_rfl) (by kernel_rfl) (by kernel_rfl) (fun _ _ _ h => h) (Or.inl ⟨by kernel_rfl, ?_⟩) (by assumption) ?_
            rotate_left
            · intro w hSw; (try dsimp only at hSw); go_simp; try with_reducible rfl
            simp only [Act.put, List.getElem_toArray, List.getElem_cons_succ, List.getElem_cons_zero, List.setIfInBounds_toArray, List.set_cons_zero, List.set_cons_succ]
            refine wpAnyH_take (i := 9) (v := ?_) rfl (by kernel_rfl) (by kernel_rfl) (by kernel_rfl) (fun _ _ _ h => h) (Or.inl ⟨by kernel_rfl, ?_⟩) (by assumption) ?_
            rotate_left
            · intro w hSw; (try dsimp only at hSw); go_simp; try with_reducible rfl
            simp only [Act.put, List.getElem_toArray, List.getElem_cons_succ, List.getElem_cons_zero, List.setIfInBounds_toArray, List.set_cons_zero, List.set_cons_succ]
            refine wpAnyH_take (i := 10) (v := ?_) rfl (by kernel_rfl) (by kernel_rfl) (by kernel_rfl) (fun _ _ _ h => h) (Or.inl ⟨by kernel_rfl, ?_⟩) (by assumption) ?_
            rotate_left
            · intro w hSw; (try dsimp only at hSw); go_simp; try with_reducible rfl
            simp only [Act.put, List.getElem_toArray, List.getElem_cons_succ, List.getElem_cons_zero, List.setIfInBounds_toArray, List.set_cons_zero, List.set_cons_succ]
            refine wpAnyH_ready (rs := [11]) (by kernel_rfl) (by simp) ?_
            refine AllReadyH.cons rfl (fun K hK => ?_) AllReadyH.nil
            go_simp
            refine HC.out.mono ?_
            rintro e w6 ⟨A6, k6, c6, rfl, ho6, hm6, hk6, hkk⟩
            have hrow := own_rowE ho6 hkk
            obtain rfl : k6 = E.length := hkk
            have hcap : E.length ≤ 9223372036854775807 := by
              rcases ho6.2 with ⟨-, h2⟩ | ⟨_, _, _, -, -, -, h1, h2, -, -⟩
              · omega
              · unfold maxLen at h2; omega
            have H7 := Lib.hid (And.intro hm6 (And.intro (((Kept.refl (fun x => x ≠ b) w5).drew).trans hk6) (And.intro hrow hcap)))
            clear ho6 hm6 hk6 hrow hcap
            try go_wp2_with fail
            refine hK.out _ _ (HLc.out _ H7.out.2.1) (fun hHeld => ?_)
            clear hK K
            try simp only [Act.put, List.getElem_toArray, List.getElem_cons_succ, List.getElem_cons_zero, List.setIfInBounds_toArray, List.set_cons_zero, List.set_cons_succ]
            refine wpAnyH_take (i := 12) (v := ?_) rfl (by kernel_rfl) (by kernel_rfl) (by kernel_rfl) (fun _ _ _ h => h) (Or.inl ⟨by kernel_rfl, ?_⟩) (by assumption) ?_
            rotate_left
            · intro w hSw; (try dsimp only at hSw); go_simp; try with_reducible rfl
            simp only [Act.put, List.getElem_toArray, List.getElem_cons_succ, List.getElem_cons_zero, List.setIfInBounds_toArray, List.set_cons_zero, List.set_cons_succ]
            refine wpAnyH_take (i := 13) (v := ?_) rfl (by kernel_rfl) (by kernel_rfl) (by kernel_rfl) (fun _ _ _ h => h) (Or.inl ⟨by kernel_rfl, ?_⟩) (by assumption) ?_
            rotate_left
            · intro w hSw; (try dsimp only at hSw); go_simp; try with_reducible rfl
            simp only [Act.put, List.getElem_toArray, List.getElem_cons_succ, List.getElem_cons_zero, List.setIfInBounds_toArray, List.set_cons_zero, List.set_cons_succ]
            refine wpAnyH_take (i := 14) (v := ?_) rfl (by kernel_rfl) (by kernel_rfl) (by kernel_rfl) (fun _ _ _ h => h) (Or.inl ⟨by kernel_rfl, ?_⟩) (by assumption) ?_
            rotate_left
            · intro w hSw; (try dsimp only at hSw); go_simp; try with_reducible rfl
            simp only [Act.put, List.getElem_toArray, List.getElem_cons_succ, List.getElem_cons_zero, List.setIfInBounds_toArray, List.set_cons_zero, List.set_cons_succ]
            refine wpAnyH_take (i := 15) (v := ?_) rfl (by kernel_rfl) (by kernel_rfl) (by kernel_rfl) (fun _ _ _ h => h) (Or.inl ⟨by kernel_rfl, ?_⟩) (by assumption) ?_
            rotate_left
            · intro w hSw; (try dsimp only at hSw); go_simp; try with_reducible rfl
            simp only [Act.put, List.getElem_toArray, List.getElem_cons_succ, List.getElem_cons_zero, List.setIfInBounds_toArray, List.set_cons_zero, List.set_cons_succ]
            refine wpAnyH_done (by kernel_rfl) ?_ _
            go_wp2_with fail
            go_meet
            obtain ⟨Pl, Sl, hR⟩ := HR.out
            exact ⟨E, m2, m, Pl, Sl, A6, c6, rfl, rfl, hR, H7.out.2.2.1, H7.out.2.2.2, H7.out.1, H7.out.2.1⟩
          have b1 : (op.kd == 1) = false := beq_eq_false_iff_ne.2 k1
          by_cases k2 : op.kd = 2
          · have b2 : (op.kd == 2) = true := beq_iff_eq.2 k2
            clear k0 k1 k2
            have HC := Lib.hid (mreset_calls w5 b 0 s m HS.out H6.out.1)
            go_wp2_with fail
            refine HC.out.mono ?_
            rintro e w6 ⟨⟨u, rfl⟩, hm6, hk6⟩
            have H7 := Lib.hid (And.intro hm6 hk6)
            clear hm6 hk6
            go_wp2_with fail
            go_meet
            exact ⟨[], zeroM, zeroM, [], [], none, 0, rfl, rfl, loop_zero HS.out.ok, .inl rfl, by simp, H7.out.1, H7.out.2⟩
          · have b2 : (op.kd == 2) = false := beq_eq_false_iff_ne.2 k2
            clear k0 k1 k2
            go_wp2_with fail
            go_meet
            obtain ⟨Pl, Sl, hR⟩ := loop_run HS.out.ok (run_same (m := m) HS.out.ok) HM.out.1 (HM.out.1.mono (by omega)) (by simp)
            exact ⟨[], m, m, Pl, Sl, none, 0, rfl, rfl, hR, .inl rfl, by simp, H6.out.1, Kept.refl _ _⟩
        case rest =>
          obtain ⟨E, m2, mm, Pl, Sl, A', c', rfl, rfl, hR, hrow, hcap, hm7, hk7⟩ := hcut
          obtain ⟨w7, rfl⟩ : ∃ x : World, x = wc := ⟨_, rfl⟩
          have hkA := H6.out.2.trans hk7
          have H7 := Lib.hid (And.intro hR (And.intro hrow (And.intro hcap (And.intro hm7 hkA))))
          clear hR hrow hcap hm7 hk7 hkA
          obtain ⟨B2, hB2⟩ : ∃ B2, m2.bg = B2 := ⟨_, rfl⟩
          have hLa2 : ∀ W, MtB W b 0 s m2 → Calls Try.prog 18 #[.pointer (some ⟨b, 0, none⟩)] W fun e w' => e = .returned (.tuple #[.int .i64 m2.t, .int .u32 (m2.v : Int), .bool B2]) ∧ Below W.heap.size W w' := fun W h => by rw [← hB2]; exact mlast_calls W b 0 s m2 HS.out h H7.out.1.ok.z
          have HLa2 := Lib.hid hLa2
          have HB2 := Lib.hid hB2
          clear hLa2
          have hop : ∃ en fl st, (m2.bg = true → st = m2.o * s.len ∧ en = m2.k + (eng s m2.c : Int) - m2.fr ∧ fl = (m2.f : Int)) ∧ ∀ W, MtB W b 0 s m2 → Calls Try.prog 15 #[.pointer (some ⟨b, 0, none⟩)] W fun e w' => e = .returned (.tuple #[.int .i64 st, .int .i64 en, .int .i64 fl, .bool B2]) ∧ Below W.heap.size W w' := by
            rw [← hB2]
            cases hb : m2.bg with
            | true =>
              refine ⟨_, _, _, fun _ => ⟨rfl, rfl, rfl⟩, fun W hW => ?_⟩
              exact mopen_ok W b 0 s m2 (i + 1) HS.out H7.out.1.ok (by have := HM.out.2.2.2.2; omega) hW hb
            | false => exact ⟨0, 0, 0, (fun h => by cases h), fun W hW => mopen_no W b 0 s m2 HS.out hW hb⟩
          obtain ⟨en, fl, st, hop1, hop2⟩ := hop
          rw [hB2] at hop1
          clear hB2
          have HO := Lib.hid (And.intro hop1 hop2)
          clear hop1 hop2
          go_wp2_with fail
          refine (HLa2.out w7 H7.out.2.2.2.1).mono ?_
          rintro e w8 ⟨rfl, hb8⟩
          have H8 := Lib.hid (And.intro (H7.out.2.2.2.1.go hb8) hb8)
          clear hb8
          go_wp2_with fail
          refine (HO.out.2 w8 H8.out.1).mono ?_
          rintro e w9 ⟨rfl, hb9⟩
          have H9 := Lib.hid (And.intro (bnext H8.out.2 hb9) (And.intro (H8.out.1.go hb9) (H7.out.2.2.2.2.trans ((bnext H8.out.2 hb9).keptS _))))
          clear hb9
          obtain ⟨gB, hgB⟩ : ∃ gB : Bool, (B1 && B2 && decide (m2.t - m.t > s.gap)) = gB := ⟨_, rfl⟩
          have HgB := Lib.hid hgB
          clear hgB
          go_upto_region 24 with fail
          go_cut [21] from 108 to 119 (fun s21 wx => s21 = .bool gB ∧ w9 = wx)
          case first =>
            as_aux_lemma =>
            have q3 : w9.cell? ⟨b3, 3, none⟩ = some (.int .i64 s.gap) := blk_cell (HBox.out _ H9.out.2.2) 3 rfl
            have hg := HgB.out
            have h1 := HM.out.1.t
            have h2 := H7.out.1.ok.t
            have x1 : wrap64 (m2.t - m.t) = m2.t - m.t := wrap64_at _ (by omega)
            clear h1 h2
            cases B1 with
            | false =>
              have hg : gB = false := hg.symm
              subst hg
              go_wp2_with fail
              go_meet
              exact ⟨rfl, by first | rfl | trivial⟩
            | true =>
              cases B2 with
              | false =>
                have hg : gB = false := hg.symm
                subst hg
                go_wp2_with fail
                go_meet
                exact ⟨rfl, by first | rfl | trivial⟩
              | true =>
                have hg : decide (m2.t - m.t > s.gap) = gB := by simpa using hg
                go_wp2_with fail
                go_meet
                exact ⟨rfl, by first | rfl | trivial⟩
          case rest =>
            obtain ⟨rfl, hw⟩ := hcut
            subst hw
            go_wp2_with fail
            go_loopw [8, 122] (fun s8 kv wr2 => ∃ k : Nat, k ≤ E.length ∧ kv = .int .i64 k ∧ s8 = .int .i64 (nxK s mm Pl.length k) ∧ Below w9.heap.size w9 wr2) (fun _ kv _ => E.length - (intOf kv).toNat)
            case atStart => exact ⟨0, by omega, rfl, by rw [nxt_nxK s mm Pl.length], Below.refl _ _⟩
            case round =>
              obtain ⟨k, hk, rfl, rfl, hb⟩ := hrel
              obtain ⟨wq, rfl⟩ : ∃ x : World, x = wr := ⟨_, rfl⟩
              have HB := Lib.hid hb
              have hbox := HBox.out _ (H9.out.2.2.trans (hb.keptS _))
              by_cases hlt2 : k < E.length
              · have hI2 : (k : Int) < (E.length : Int) := by omega
                have hk0 : (0 : Int) ≤ (k : Int) := by omega
                obtain ⟨x, hx⟩ : ∃ x, E[k]? = some x := ⟨_, List.getElem?_eq_getElem hlt2⟩
                obtain ⟨gb, go, rfl, -, hrr⟩ := (H7.out.2.1.go (bnext H9.out.1 hb)).at_ hx
                have c0 := hrr 0 (.int .i64 (x.kind : Int)) rfl
                have c2 := hrr 2 (.int .i64 x.start) rfl
                have c3 := hrr 3 (.int .i64 x.en) rfl
                have c7 := hrr 7 (.int .i64 (x.f : Int)) rfl
                rw [Nat.add_zero] at c0
                have hcap := H7.out.2.2.1
                have Y2 := Lib.hid (show wrap64 ((k : Int) + 1) = ((k + 1 : Nat) : Int) by rw [wrap64_at _ (by omega)]; push_cast; rfl)
                have HK := Lib.hid hlt2
                by_cases hP : k < Pl.length
                · have hxP : Pl[k]? = some x := by
                    have h := hx
                    rw [H7.out.1.e, List.getElem?_append_left hP] at h
                    exact h
                  obtain ⟨p1, p2, p3, p4, p5, p6, p7, p8, p9⟩ := H7.out.1.p k x hxP
                  have hl := HS.out.ok.len
                  have hoo := H7.out.1.oo p1
                  have hst0 : 0 ≤ x.start := by rw [p5]; exact Int.mul_nonneg (by omega) (by omega)
                  have ht2 := H7.out.1.ok.t
                  have hf16 := H7.out.1.f x (List.mem_of_getElem? hx)
                  have hnx : nxK s mm Pl.length k = x.start := by unfold nxK; rw [if_pos p1, p5, Nat.min_eq_left (by omega)]
                  have hnx2 : nxK s mm Pl.length (k + 1) = x.start + s.len := by unfold nxK; rw [if_pos p1, p5, Nat.min_eq_left (by omega)]; rw [show mm.o + ((k + 1 : Nat) : Int) = (mm.o + k) + 1 by push_cast; omega, Int.add_mul (mm.o + k) 1, Int.one_mul]
                  have HNx := Lib.hid hnx2
                  have kb : ((x.kind : Int) != 1) = false := by rw [p4]; rfl
                  have HSx := Lib.hid (show ∀ Y, Below wq.heap.size wq Y → (Y.cell? ⟨gb, go + k * 42 + 2, none⟩ = some (.int .i64 x.start) ∧ Y.cell? ⟨gb, go + k * 42 + 3, none⟩ = some (.int .i64 x.en) ∧ Y.cell? ⟨gb, go + k * 42 + 7, none⟩ = some (.int .i64 (x.f : Int)) ∧ Y.cell? ⟨b3, 4, none⟩ = some (.int .i64 s.len)) from fun Y hY => ⟨(cell_same (hY.block _ (block_lt c2))).trans c2, (cell_same (hY.block _ (block_lt c3))).trans c3, (cell_same (hY.block _ (block_lt c7))).trans c7, blk_cell (blk_below hbox hY) 4 rfl⟩)
                  have T1 := Lib.hid (show decide (x.start ≥ 0) = true from decide_eq_true hst0)
                  have T2 := Lib.hid (show decide (x.en < 0) = false from decide_eq_false (by omega))
                  have T3 := Lib.hid (wrapI_at (x.start + s.len) (by omega))
                  have T4 := Lib.hid (show decide (x.start + s.len > m2.t) = false from decide_eq_false (by omega))
                  have T5 := Lib.hid (show decide (x.start + s.len ≤ m.t) = false from decide_eq_false (by omega))
                  have T6 := Lib.hid (i64_and2 x.f hf16)
                  have T7 : gB = true → (((x.f &&& 2 : Nat) : Int) == 0) = false := fun hg => by
                    refine beq_eq_false_iff_ne.2 ?_
                    have h1 := HgB.out
                    rw [hg] at h1
                    have h2 : decide (m2.t - m.t > s.gap) = true := by
                      cases B1 <;> cases B2 <;> simp_all
                    have h3 := p9 (of_decide_eq_true h2)
                    omega
                  have HT7 := Lib.hid T7
                  rw [hnx]
                  clear T7 hnx2 hnx hf16 ht2 hst0 hoo hl p1 p2 p3 p4 p5 p6 p7 p8 p9 hxP hP hx hrr c2 c3 c7 hcap hlt2 hk hb hbox
                  go_upto_region 29 with fail
                  clear c0
                  cases gB with

                  | true =>
                    as_aux_lemma =>
                    refine wp_region_held_drew (S := (fun Y => Y.cell? ⟨gb, go + k * 42 + 2, none⟩ = some (.int .i64 x.start) ∧ Y.cell? ⟨gb, go + k * 42 + 3, none⟩ = some (.int .i64 x.en) ∧ Y.cell? ⟨gb, go + k * 42 + 7, none⟩ = some (.int .i64 (x.f : Int)) ∧ Y.cell? ⟨b3, 4, none⟩ = some (.int .i64 s.len))) (by kernel_rfl) (HSx.out _ (Below.refl _ wq).drew) (fun hHeld => ?_)
                    refine wpAnyH_take (i := 0) (v := ?_) rfl (by kernel_rfl) (by kernel_rfl) (by kernel_rfl) (fun _ _ _ h => h) (Or.inl ⟨by kernel_rfl, ?_⟩) (by assumption) ?_
                    rotate_left
                    · intro w hSw; (try dsimp only at hSw); go_simp; try with_reducible rfl
                    simp only [Act.put, List.getElem_toArray, List.getElem_cons_succ, List.getElem_cons_zero, List.setIfInBounds_toArray, List.set_cons_zero, List.set_cons_succ]
                    refine wpAnyH_take (i := 1) (v := .bool true) rfl (by kernel_rfl) (by kernel_rfl) (by kernel_rfl) (fun _ _ _ h => h) (Or.inl ⟨by kernel_rfl, ?_⟩) (by assumption) ?_
                    · intro w hSw; (try dsimp only at hSw)
                      have t1 := T1.out; go_simp
                    simp only [Act.put, List.getElem_toArray, List.getElem_cons_succ, List.getElem_cons_zero, List.setIfInBounds_toArray, List.set_cons_zero, List.set_cons_succ]
                    refine wpAnyH_take (i := 2) (v := ?_) rfl (by kernel_rfl) (by kernel_rfl) (by kernel_rfl) (fun _ _ _ h => h) (Or.inl ⟨by kernel_rfl, ?_⟩) (by assumption) ?_
                    rotate_left
                    · intro w hSw; (try dsimp only at hSw); go_simp; try with_reducible rfl
                    simp only [Act.put, List.getElem_toArray, List.getElem_cons_succ, List.getElem_cons_zero, List.setIfInBounds_toArray, List.set_cons_zero, List.set_cons_succ]
                    refine wpAnyH_take (i := 3) (v := ?_) rfl (by kernel_rfl) (by kernel_rfl) (by kernel_rfl) (fun _ _ _ h => h) (Or.inl ⟨by kernel_rfl, ?_⟩) (by assumption) ?_
                    rotate_left
                    · intro w hSw; (try dsimp only at hSw); go_simp; try with_reducible rfl
                    simp only [Act.put, List.getElem_toArray, List.getElem_cons_succ, List.getElem_cons_zero, List.setIfInBounds_toArray, List.set_cons_zero, List.set_cons_succ]
                    refine wpAnyH_take (i := 4) (v := ?_) rfl (by kernel_rfl) (by kernel_rfl) (by kernel_rfl) (fun _ _ _ h => h) (Or.inl ⟨by kernel_rfl, ?_⟩) (by assumption) ?_
                    rotate_left
                    · intro w hSw; (try dsimp only at hSw); go_simp; try with_reducible rfl
                    simp only [Act.put, List.getElem_toArray, List.getElem_cons_succ, List.getElem_cons_zero, List.setIfInBounds_toArray, List.set_cons_zero, List.set_cons_succ]
                    refine wpAnyH_take (i := 5) (v := ?_) rfl (by kernel_rfl) (by kernel_rfl) (by kernel_rfl) (fun _ _ _ h => h) (Or.inl ⟨by kernel_rfl, ?_⟩) (by assumption) ?_
                    rotate_left
                    · intro w hSw; (try dsimp only at hSw); go_simp; try with_reducible rfl
                    simp only [Act.put, List.getElem_toArray, List.getElem_cons_succ, List.getElem_cons_zero, List.setIfInBounds_toArray, List.set_cons_zero, List.set_cons_succ]
                    refine wpAnyH_take (i := 6) (v := ?_) rfl (by kernel_rfl) (by kernel_rfl) (by kernel_rfl) (fun _ _ _ h => h) (Or.inl ⟨by kernel_rfl, ?_⟩) (by assumption) ?_
                    rotate_left
                    · intro w hSw; (try dsimp only at hSw); go_simp; try with_reducible rfl
                    simp only [Act.put, List.getElem_toArray, List.getElem_cons_succ, List.getElem_cons_zero, List.setIfInBounds_toArray, List.set_cons_zero, List.set_cons_succ]
                    refine wpAnyH_take (i := 7) (v := ?_) rfl (by kernel_rfl) (by kernel_rfl) (by kernel_rfl) (fun _ _ _ h => h) (Or.inl ⟨by kernel_rfl, ?_⟩) (by assumption) ?_
                    rotate_left
                    · intro w hSw; (try dsimp only at hSw); go_simp; try with_reducible rfl
                    simp only [Act.put, List.getElem_toArray, List.getElem_cons_succ, List.getElem_cons_zero, List.setIfInBounds_toArray, List.set_cons_zero, List.set_cons_succ]
                    refine wpAnyH_take (i := 8) (v := ?_) rfl (by kernel_rfl) (by kernel_rfl) (by kernel_rfl) (fun _ _ _ h => h) (Or.inl ⟨by kernel_rfl, ?_⟩) (by assumption) ?_
                    rotate_left
                    · intro w hSw; (try dsimp only at hSw); go_simp; try with_reducible rfl
                    simp only [Act.put, List.getElem_toArray, List.getElem_cons_succ, List.getElem_cons_zero, List.setIfInBounds_toArray, List.set_cons_zero, List.set_cons_succ]
                    refine wpAnyH_take (i := 9) (v := .bool false) rfl (by kernel_rfl) (by kernel_rfl) (by kernel_rfl) (fun _ _ _ h => h) (Or.inl ⟨by kernel_rfl, ?_⟩) (by assumption) ?_
                    · intro w hSw; (try dsimp only at hSw)
                      go_simp; try with_reducible rfl
                    simp only [Act.put, List.getElem_toArray, List.getElem_cons_succ, List.getElem_cons_zero, List.setIfInBounds_toArray, List.set_cons_zero, List.set_cons_succ]
                    refine wpAnyH_take (i := 10) (v := ?_) rfl (by kernel_rfl) (by kernel_rfl) (by kernel_rfl) (fun _ _ _ h => h) (Or.inl ⟨by kernel_rfl, ?_⟩) (by assumption) ?_
                    rotate_left
                    · intro w hSw; (try dsimp only at hSw); go_simp; try with_reducible rfl
                    simp only [Act.put, List.getElem_toArray, List.getElem_cons_succ, List.getElem_cons_zero, List.setIfInBounds_toArray, List.set_cons_zero, List.set_cons_succ]
                    refine wpAnyH_take (i := 11) (v := ?_) rfl (by kernel_rfl) (by kernel_rfl) (by kernel_rfl) (fun _ _ _ h => h) (Or.inl ⟨by kernel_rfl, ?_⟩) (by assumption) ?_
                    rotate_left
                    · intro w hSw; (try dsimp only at hSw); go_simp; try with_reducible rfl
                    simp only [Act.put, List.getElem_toArray, List.getElem_cons_succ, List.getElem_cons_zero, List.setIfInBounds_toArray, List.set_cons_zero, List.set_cons_succ]
                    refine wpAnyH_take (i := 12) (v := ?_) rfl (by kernel_rfl) (by kernel_rfl) (by kernel_rfl) (fun _ _ _ h => h) (Or.inl ⟨by kernel_rfl, ?_⟩) (by assumption) ?_
                    rotate_left
                    · intro w hSw; (try dsimp only at hSw); go_simp; try with_reducible rfl
                    simp only [Act.put, List.getElem_toArray, List.getElem_cons_succ, List.getElem_cons_zero, List.setIfInBounds_toArray, List.set_cons_zero, List.set_cons_succ]
                    refine wpAnyH_take (i := 13) (v := ?_) rfl (by kernel_rfl) (by kernel_rfl) (by kernel_rfl) (fun _ _ _ h => h) (Or.inl ⟨by kernel_rfl, ?_⟩) (by assumption) ?_
                    rotate_left
                    · intro w hSw; (try dsimp only at hSw); go_simp; try with_reducible rfl
                    simp only [Act.put, List.getElem_toArray, List.getElem_cons_succ, List.getElem_cons_zero, List.setIfInBounds_toArray, List.set_cons_zero, List.set_cons_succ]
                    refine wpAnyH_take (i := 14) (v := ?_) rfl (by kernel_rfl) (by kernel_rfl) (by kernel_rfl) (fun _ _ _ h => h) (Or.inl ⟨by kernel_rfl, ?_⟩) (by assumption) ?_
                    rotate_left
                    · intro w hSw; (try dsimp only at hSw); go_simp; try with_reducible rfl
                    simp only [Act.put, List.getElem_toArray, List.getElem_cons_succ, List.getElem_cons_zero, List.setIfInBounds_toArray, List.set_cons_zero, List.set_cons_succ]
                    refine wpAnyH_take (i := 15) (v := ?_) rfl (by kernel_rfl) (by kernel_rfl) (by kernel_rfl) (fun _ _ _ h => h) (Or.inl ⟨by kernel_rfl, ?_⟩) (by assumption) ?_
                    rotate_left
                    · intro w hSw; (try dsimp only at hSw); go_simp; try with_reducible rfl
                    simp only [Act.put, List.getElem_toArray, List.getElem_cons_succ, List.getElem_cons_zero, List.setIfInBounds_toArray, List.set_cons_zero, List.set_cons_succ]
                    refine wpAnyH_take (i := 16) (v := ?_) rfl (by kernel_rfl) (by kernel_rfl) (by kernel_rfl) (fun _ _ _ h => h) (Or.inl ⟨by kernel_rfl, ?_⟩) (by assumption) ?_
                    rotate_left
                    · intro w hSw; (try dsimp only at hSw); go_simp; try with_reducible rfl
                    simp only [Act.put, List.getElem_toArray, List.getElem_cons_succ, List.getElem_cons_zero, List.setIfInBounds_toArray, List.set_cons_zero, List.set_cons_succ]
                    refine wpAnyH_take (i := 17) (v := .bool false) rfl (by kernel_rfl) (by kernel_rfl) (by kernel_rfl) (fun _ _ _ h => h) (Or.inl ⟨by kernel_rfl, ?_⟩) (by assumption) ?_
                    · intro w hSw; (try dsimp only at hSw)
                      have t2 := T2.out; go_simp
                    simp only [Act.put, List.getElem_toArray, List.getElem_cons_succ, List.getElem_cons_zero, List.setIfInBounds_toArray, List.set_cons_zero, List.set_cons_succ]
                    refine wpAnyH_take (i := 18) (v := ?_) rfl (by kernel_rfl) (by kernel_rfl) (by kernel_rfl) (fun _ _ _ h => h) (Or.inl ⟨by kernel_rfl, ?_⟩) (by assumption) ?_
                    rotate_left
                    · intro w hSw; (try dsimp only at hSw); go_simp; try with_reducible rfl
                    simp only [Act.put, List.getElem_toArray, List.getElem_cons_succ, List.getElem_cons_zero, List.setIfInBounds_toArray, List.set_cons_zero, List.set_cons_succ]
                    refine wpAnyH_take (i := 19) (v := ?_) rfl (by kernel_rfl) (by kernel_rfl) (by kernel_rfl) (fun _ _ _ h => h) (Or.inl ⟨by kernel_rfl, ?_⟩) (by assumption) ?_
                    rotate_left
                    · intro w hSw; (try dsimp only at hSw); go_simp; try with_reducible rfl
                    simp only [Act.put, List.getElem_toArray, List.getElem_cons_succ, List.getElem_cons_zero, List.setIfInBounds_toArray, List.set_cons_zero, List.set_cons_succ]
                    refine wpAnyH_take (i := 20) (v := ?_) rfl (by kernel_rfl) (by kernel_rfl) (by kernel_rfl) (fun _ _ _ h => h) (Or.inl ⟨by kernel_rfl, ?_⟩) (by assumption) ?_
                    rotate_left
                    · intro w hSw; (try dsimp only at hSw); go_simp; try with_reducible rfl
                    simp only [Act.put, List.getElem_toArray, List.getElem_cons_succ, List.getElem_cons_zero, List.setIfInBounds_toArray, List.set_cons_zero, List.set_cons_succ]
                    refine wpAnyH_take (i := 21) (v := ?_) rfl (by kernel_rfl) (by kernel_rfl) (by kernel_rfl) (fun _ _ _ h => h) (Or.inl ⟨by kernel_rfl, ?_⟩) (by assumption) ?_
                    rotate_left
                    · intro w hSw; (try dsimp only at hSw); go_simp; try with_reducible rfl
                    simp only [Act.put, List.getElem_toArray, List.getElem_cons_succ, List.getElem_cons_zero, List.setIfInBounds_toArray, List.set_cons_zero, List.set_cons_succ]
                    refine wpAnyH_take (i := 22) (v := ?_) rfl (by kernel_rfl) (by kernel_rfl) (by kernel_rfl) (fun _ _ _ h => h) (Or.inl ⟨by kernel_rfl, ?_⟩) (by assumption) ?_
                    rotate_left
                    · intro w hSw; (try dsimp only at hSw); go_simp; try with_reducible rfl
                    simp only [Act.put, List.getElem_toArray, List.getElem_cons_succ, List.getElem_cons_zero, List.setIfInBounds_toArray, List.set_cons_zero, List.set_cons_succ]
                    refine wpAnyH_take (i := 23) (v := ?_) rfl (by kernel_rfl) (by kernel_rfl) (by kernel_rfl) (fun _ _ _ h => h) (Or.inl ⟨by kernel_rfl, ?_⟩) (by assumption) ?_
                    rotate_left
                    · intro w hSw; (try dsimp only at hSw); go_simp; try with_reducible rfl
                    simp only [Act.put, List.getElem_toArray, List.getElem_cons_succ, List.getElem_cons_zero, List.setIfInBounds_toArray, List.set_cons_zero, List.set_cons_succ]
                    refine wpAnyH_take (i := 24) (v := ?_) rfl (by kernel_rfl) (by kernel_rfl) (by kernel_rfl) (fun _ _ _ h => h) (Or.inl ⟨by kernel_rfl, ?_⟩) (by assumption) ?_
                    rotate_left
                    · intro w hSw; (try dsimp only at hSw); go_simp; try with_reducible rfl
                    simp only [Act.put, List.getElem_toArray, List.getElem_cons_succ, List.getElem_cons_zero, List.setIfInBounds_toArray, List.set_cons_zero, List.set_cons_succ]
                    refine wpAnyH_take (i := 25) (v := ?_) rfl (by kernel_rfl) (by kernel_rfl) (by kernel_rfl) (fun _ _ _ h => h) (Or.inl ⟨by kernel_rfl, ?_⟩) (by assumption) ?_
                    rotate_left
                    · intro w hSw; (try dsimp only at hSw); go_simp; try with_reducible rfl
                    simp only [Act.put, List.getElem_toArray, List.getElem_cons_succ, List.getElem_cons_zero, List.setIfInBounds_toArray, List.set_cons_zero, List.set_cons_succ]
                    refine wpAnyH_take (i := 26) (v := ?_) rfl (by kernel_rfl) (by kernel_rfl) (by kernel_rfl) (fun _ _ _ h => h) (Or.inl ⟨by kernel_rfl, ?_⟩) (by assumption) ?_
                    rotate_left
                    · intro w hSw; (try dsimp only at hSw); go_simp; try with_reducible rfl
                    simp only [Act.put, List.getElem_toArray, List.getElem_cons_succ, List.getElem_cons_zero, List.setIfInBounds_toArray, List.set_cons_zero, List.set_cons_succ]
                    refine wpAnyH_take (i := 27) (v := .int .i64 (x.start + s.len)) rfl (by kernel_rfl) (by kernel_rfl) (by kernel_rfl) (fun _ _ _ h => h) (Or.inl ⟨by kernel_rfl, ?_⟩) (by assumption) ?_
                    · intro w hSw; (try dsimp only at hSw)
                      have t3 := T3.out; go_simp
                    simp only [Act.put, List.getElem_toArray, List.getElem_cons_succ, List.getElem_cons_zero, List.setIfInBounds_toArray, List.set_cons_zero, List.set_cons_succ]
                    refine wpAnyH_take (i := 28) (v := ?_) rfl (by kernel_rfl) (by kernel_rfl) (by kernel_rfl) (fun _ _ _ h => h) (Or.inl ⟨by kernel_rfl, ?_⟩) (by assumption) ?_
                    rotate_left
                    · intro w hSw; (try dsimp only at hSw); go_simp; try with_reducible rfl
                    simp only [Act.put, List.getElem_toArray, List.getElem_cons_succ, List.getElem_cons_zero, List.setIfInBounds_toArray, List.set_cons_zero, List.set_cons_succ]
                    refine wpAnyH_take (i := 29) (v := .bool false) rfl (by kernel_rfl) (by kernel_rfl) (by kernel_rfl) (fun _ _ _ h => h) (Or.inl ⟨by kernel_rfl, ?_⟩) (by assumption) ?_
                    · intro w hSw; (try dsimp only at hSw)
                      have t4 := T4.out; go_simp
                    simp only [Act.put, List.getElem_toArray, List.getElem_cons_succ, List.getElem_cons_zero, List.setIfInBounds_toArray, List.set_cons_zero, List.set_cons_succ]
                    refine wpAnyH_take (i := 30) (v := ?_) rfl (by kernel_rfl) (by kernel_rfl) (by kernel_rfl) (fun _ _ _ h => h) (Or.inl ⟨by kernel_rfl, ?_⟩) (by assumption) ?_
                    rotate_left
                    · intro w hSw; (try dsimp only at hSw); go_simp; try with_reducible rfl
                    simp only [Act.put, List.getElem_toArray, List.getElem_cons_succ, List.getElem_cons_zero, List.setIfInBounds_toArray, List.set_cons_zero, List.set_cons_succ]
                    refine wpAnyH_take (i := 31) (v := ?_) rfl (by kernel_rfl) (by kernel_rfl) (by kernel_rfl) (fun _ _ _ h => h) (Or.inl ⟨by kernel_rfl, ?_⟩) (by assumption) ?_
                    rotate_left
                    · intro w hSw; (try dsimp only at hSw); go_simp; try with_reducible rfl
                    simp only [Act.put, List.getElem_toArray, List.getElem_cons_succ, List.getElem_cons_zero, List.setIfInBounds_toArray, List.set_cons_zero, List.set_cons_succ]
                    refine wpAnyH_take (i := 32) (v := ?_) rfl (by kernel_rfl) (by kernel_rfl) (by kernel_rfl) (fun _ _ _ h => h) (Or.inl ⟨by kernel_rfl, ?_⟩) (by assumption) ?_
                    rotate_left
                    · intro w hSw; (try dsimp only at hSw); go_simp; try with_reducible rfl
                    simp only [Act.put, List.getElem_toArray, List.getElem_cons_succ, List.getElem_cons_zero, List.setIfInBounds_toArray, List.set_cons_zero, List.set_cons_succ]
                    refine wpAnyH_take (i := 33) (v := ?_) rfl (by kernel_rfl) (by kernel_rfl) (by kernel_rfl) (fun _ _ _ h => h) (Or.inl ⟨by kernel_rfl, ?_⟩) (by assumption) ?_
                    rotate_left
                    · intro w hSw; (try dsimp only at hSw); go_simp; try with_reducible rfl
                    simp only [Act.put, List.getElem_toArray, List.getElem_cons_succ, List.getElem_cons_zero, List.setIfInBounds_toArray, List.set_cons_zero, List.set_cons_succ]
                    refine wpAnyH_take (i := 34) (v := ?_) rfl (by kernel_rfl) (by kernel_rfl) (by kernel_rfl) (fun _ _ _ h => h) (Or.inl ⟨by kernel_rfl, ?_⟩) (by assumption) ?_
                    rotate_left
                    · intro w hSw; (try dsimp only at hSw); go_simp; try with_reducible rfl
                    simp only [Act.put, List.getElem_toArray, List.getElem_cons_succ, List.getElem_cons_zero, List.setIfInBounds_toArray, List.set_cons_zero, List.set_cons_succ]
                    refine wpAnyH_take (i := 35) (v := ?_) rfl (by kernel_rfl) (by kernel_rfl) (by kernel_rfl) (fun _ _ _ h => h) (Or.inl ⟨by kernel_rfl, ?_⟩) (by assumption) ?_
                    rotate_left
                    · intro w hSw; (try dsimp only at hSw); go_simp; try with_reducible rfl
                    simp only [Act.put, List.getElem_toArray, List.getElem_cons_succ, List.getElem_cons_zero, List.setIfInBounds_toArray, List.set_cons_zero, List.set_cons_succ]
                    refine wpAnyH_take (i := 36) (v := ?_) rfl (by kernel_rfl) (by kernel_rfl) (by kernel_rfl) (fun _ _ _ h => h) (Or.inl ⟨by kernel_rfl, ?_⟩) (by assumption) ?_
                    rotate_left
                    · intro w hSw; (try dsimp only at hSw); go_simp; try with_reducible rfl
                    simp only [Act.put, List.getElem_toArray, List.getElem_cons_succ, List.getElem_cons_zero, List.setIfInBounds_toArray, List.set_cons_zero, List.set_cons_succ]
                    refine wpAnyH_take (i := 37) (v := ?_) rfl (by kernel_rfl) (by kernel_rfl) (by kernel_rfl) (fun _ _ _ h => h) (Or.inl ⟨by kernel_rfl, ?_⟩) (by assumption) ?_
                    rotate_left
                    · intro w hSw; (try dsimp only at hSw); go_simp; try with_reducible rfl
                    simp only [Act.put, List.getElem_toArray, List.getElem_cons_succ, List.getElem_cons_zero, List.setIfInBounds_toArray, List.set_cons_zero, List.set_cons_succ]
                    refine wpAnyH_take (i := 38) (v := ?_) rfl (by kernel_rfl) (by kernel_rfl) (by kernel_rfl) (fun _ _ _ h => h) (Or.inl ⟨by kernel_rfl, ?_⟩) (by assumption) ?_
                    rotate_left
                    · intro w hSw; (try dsimp only at hSw); go_simp; try with_reducible rfl
                    simp only [Act.put, List.getElem_toArray, List.getElem_cons_succ, List.getElem_cons_zero, List.setIfInBounds_toArray, List.set_cons_zero, List.set_cons_succ]
                    refine wpAnyH_take (i := 39) (v := .int .i64 (x.start + s.len)) rfl (by kernel_rfl) (by kernel_rfl) (by kernel_rfl) (fun _ _ _ h => h) (Or.inl ⟨by kernel_rfl, ?_⟩) (by assumption) ?_
                    · intro w hSw; (try dsimp only at hSw)
                      have t3 := T3.out; go_simp
                    simp only [Act.put, List.getElem_toArray, List.getElem_cons_succ, List.getElem_cons_zero, List.setIfInBounds_toArray, List.set_cons_zero, List.set_cons_succ]
                    refine wpAnyH_take (i := 40) (v := ?_) rfl (by kernel_rfl) (by kernel_rfl) (by kernel_rfl) (fun _ _ _ h => h) (Or.inl ⟨by kernel_rfl, ?_⟩) (by assumption) ?_
                    rotate_left
                    · intro w hSw; (try dsimp only at hSw); go_simp; try with_reducible rfl
                    simp only [Act.put, List.getElem_toArray, List.getElem_cons_succ, List.getElem_cons_zero, List.setIfInBounds_toArray, List.set_cons_zero, List.set_cons_succ]
                    refine wpAnyH_take (i := 41) (v := .bool false) rfl (by kernel_rfl) (by kernel_rfl) (by kernel_rfl) (fun _ _ _ h => h) (Or.inl ⟨by kernel_rfl, ?_⟩) (by assumption) ?_
                    · intro w hSw; (try dsimp only at hSw)
                      have t5 := T5.out; go_simp
                    simp only [Act.put, List.getElem_toArray, List.getElem_cons_succ, List.getElem_cons_zero, List.setIfInBounds_toArray, List.set_cons_zero, List.set_cons_succ]
                    refine wpAnyH_take (i := 42) (v := ?_) rfl (by kernel_rfl) (by kernel_rfl) (by kernel_rfl) (fun _ _ _ h => h) (Or.inl ⟨by kernel_rfl, ?_⟩) (by assumption) ?_
                    rotate_left
                    · intro w hSw; (try dsimp only at hSw); go_simp; try with_reducible rfl
                    simp only [Act.put, List.getElem_toArray, List.getElem_cons_succ, List.getElem_cons_zero, List.setIfInBounds_toArray, List.set_cons_zero, List.set_cons_succ]
                    refine wpAnyH_take (i := 43) (v := ?_) rfl (by kernel_rfl) (by kernel_rfl) (by kernel_rfl) (fun _ _ _ h => h) (Or.inl ⟨by kernel_rfl, ?_⟩) (by assumption) ?_
                    rotate_left
                    · intro w hSw; (try dsimp only at hSw); go_simp; try with_reducible rfl
                    simp only [Act.put, List.getElem_toArray, List.getElem_cons_succ, List.getElem_cons_zero, List.setIfInBounds_toArray, List.set_cons_zero, List.set_cons_succ]
                    refine wpAnyH_take (i := 44) (v := ?_) rfl (by kernel_rfl) (by kernel_rfl) (by kernel_rfl) (fun _ _ _ h => h) (Or.inl ⟨by kernel_rfl, ?_⟩) (by assumption) ?_
                    rotate_left
                    · intro w hSw; (try dsimp only at hSw); go_simp; try with_reducible rfl
                    simp only [Act.put, List.getElem_toArray, List.getElem_cons_succ, List.getElem_cons_zero, List.setIfInBounds_toArray, List.set_cons_zero, List.set_cons_succ]
                    refine wpAnyH_take (i := 45) (v := ?_) rfl (by kernel_rfl) (by kernel_rfl) (by kernel_rfl) (fun _ _ _ h => h) (Or.inl ⟨by kernel_rfl, ?_⟩) (by assumption) ?_
                    rotate_left
                    · intro w hSw; (try dsimp only at hSw); go_simp; try with_reducible rfl
                    simp only [Act.put, List.getElem_toArray, List.getElem_cons_succ, List.getElem_cons_zero, List.setIfInBounds_toArray, List.set_cons_zero, List.set_cons_succ]
                    refine wpAnyH_take (i := 46) (v := ?_) rfl (by kernel_rfl) (by kernel_rfl) (by kernel_rfl) (fun _ _ _ h => h) (Or.inl ⟨by kernel_rfl, ?_⟩) (by assumption) ?_
                    rotate_left
                    · intro w hSw; (try dsimp only at hSw); go_simp; try with_reducible rfl
                    simp only [Act.put, List.getElem_toArray, List.getElem_cons_succ, List.getElem_cons_zero, List.setIfInBounds_toArray, List.set_cons_zero, List.set_cons_succ]
                    refine wpAnyH_take (i := 47) (v := ?_) rfl (by kernel_rfl) (by kernel_rfl) (by kernel_rfl) (fun _ _ _ h => h) (Or.inl ⟨by kernel_rfl, ?_⟩) (by assumption) ?_
                    rotate_left
                    · intro w hSw; (try dsimp only at hSw); go_simp; try with_reducible rfl
                    simp only [Act.put, List.getElem_toArray, List.getElem_cons_succ, List.getElem_cons_zero, List.setIfInBounds_toArray, List.set_cons_zero, List.set_cons_succ]
                    refine wpAnyH_take (i := 48) (v := ?_) rfl (by kernel_rfl) (by kernel_rfl) (by kernel_rfl) (fun _ _ _ h => h) (Or.inl ⟨by kernel_rfl, ?_⟩) (by assumption) ?_
                    rotate_left
                    · intro w hSw; (try dsimp only at hSw); go_simp; try with_reducible rfl
                    simp only [Act.put, List.getElem_toArray, List.getElem_cons_succ, List.getElem_cons_zero, List.setIfInBounds_toArray, List.set_cons_zero, List.set_cons_succ]
                    refine wpAnyH_take (i := 49) (v := ?_) rfl (by kernel_rfl) (by kernel_rfl) (by kernel_rfl) (fun _ _ _ h => h) (Or.inl ⟨by kernel_rfl, ?_⟩) (by assumption) ?_
                    rotate_left
                    · intro w hSw; (try dsimp only at hSw); go_simp; try with_reducible rfl
                    simp only [Act.put, List.getElem_toArray, List.getElem_cons_succ, List.getElem_cons_zero, List.setIfInBounds_toArray, List.set_cons_zero, List.set_cons_succ]
                    refine wpAnyH_take (i := 50) (v := ?_) rfl (by kernel_rfl) (by kernel_rfl) (by kernel_rfl) (fun _ _ _ h => h) (Or.inl ⟨by kernel_rfl, ?_⟩) (by assumption) ?_
                    rotate_left
                    · intro w hSw; (try dsimp only at hSw); go_simp; try with_reducible rfl
                    simp only [Act.put, List.getElem_toArray, List.getElem_cons_succ, List.getElem_cons_zero, List.setIfInBounds_toArray, List.set_cons_zero, List.set_cons_succ]
                    refine wpAnyH_take (i := 51) (v := .int .i64 ((x.f &&& 2 : Nat) : Int)) rfl (by kernel_rfl) (by kernel_rfl) (by kernel_rfl) (fun _ _ _ h => h) (Or.inl ⟨by kernel_rfl, ?_⟩) (by assumption) ?_
                    · intro w hSw; (try dsimp only at hSw)
                      have t6 := T6.out; go_simp
                    simp only [Act.put, List.getElem_toArray, List.getElem_cons_succ, List.getElem_cons_zero, List.setIfInBounds_toArray, List.set_cons_zero, List.set_cons_succ]
                    refine wpAnyH_take (i := 52) (v := .bool false) rfl (by kernel_rfl) (by kernel_rfl) (by kernel_rfl) (fun _ _ _ h => h) (Or.inl ⟨by kernel_rfl, ?_⟩) (by assumption) ?_
                    · intro w hSw; (try dsimp only at hSw)
                      have t7 := HT7.out rfl; go_simp
                    simp only [Act.put, List.getElem_toArray, List.getElem_cons_succ, List.getElem_cons_zero, List.setIfInBounds_toArray, List.set_cons_zero, List.set_cons_succ]
                    refine wpAnyH_take (i := 53) (v := ?_) rfl (by kernel_rfl) (by kernel_rfl) (by kernel_rfl) (fun _ _ _ h => h) (Or.inl ⟨by kernel_rfl, ?_⟩) (by assumption) ?_
                    rotate_left
                    · intro w hSw; (try dsimp only at hSw); go_simp; try with_reducible rfl
                    simp only [Act.put, List.getElem_toArray, List.getElem_cons_succ, List.getElem_cons_zero, List.setIfInBounds_toArray, List.set_cons_zero, List.set_cons_succ]
                    refine wpAnyH_take (i := 54) (v := ?_) rfl (by kernel_rfl) (by kernel_rfl) (by kernel_rfl) (fun _ _ _ h => h) (Or.inl ⟨by kernel_rfl, ?_⟩) (by assumption) ?_
                    rotate_left
                    · intro w hSw; (try dsimp only at hSw); go_simp; try with_reducible rfl
                    simp only [Act.put, List.getElem_toArray, List.getElem_cons_succ, List.getElem_cons_zero, List.setIfInBounds_toArray, List.set_cons_zero, List.set_cons_succ]
                    refine wpAnyH_done (by kernel_rfl) ?_ _
                    clear hHeld
                    go_upto_region 31 with fail
                    refine wp_region_held_drew (S := (fun Y => Y.cell? ⟨gb, go + k * 42 + 2, none⟩ = some (.int .i64 x.start) ∧ Y.cell? ⟨gb, go + k * 42 + 3, none⟩ = some (.int .i64 x.en) ∧ Y.cell? ⟨gb, go + k * 42 + 7, none⟩ = some (.int .i64 (x.f : Int)) ∧ Y.cell? ⟨b3, 4, none⟩ = some (.int .i64 s.len))) (by kernel_rfl) (HSx.out _ (Below.refl _ wq).drew.drew) (fun hHeld => ?_)
                    refine wpAnyH_take (i := 0) (v := ?_) rfl (by kernel_rfl) (by kernel_rfl) (by kernel_rfl) (fun _ _ _ h => h) (Or.inl ⟨by kernel_rfl, ?_⟩) (by assumption) ?_
                    rotate_left
                    · intro w hSw; (try dsimp only at hSw); go_simp; try with_reducible rfl
                    simp only [Act.put, List.getElem_toArray, List.getElem_cons_succ, List.getElem_cons_zero, List.setIfInBounds_toArray, List.set_cons_zero, List.set_cons_succ]
                    refine wpAnyH_take (i := 1) (v := ?_) rfl (by kernel_rfl) (by kernel_rfl) (by kernel_rfl) (fun _ _ _ h => h) (Or.inl ⟨by kernel_rfl, ?_⟩) (by assumption) ?_
                    rotate_left
                    · intro w hSw; (try dsimp only at hSw); go_simp; try with_reducible rfl
                    simp only [Act.put, List.getElem_toArray, List.getElem_cons_succ, List.getElem_cons_zero, List.setIfInBounds_toArray, List.set_cons_zero, List.set_cons_succ]
                    refine wpAnyH_take (i := 2) (v := ?_) rfl (by kernel_rfl) (by kernel_rfl) (by kernel_rfl) (fun _ _ _ h => h) (Or.inl ⟨by kernel_rfl, ?_⟩) (by assumption) ?_
                    rotate_left
                    · intro w hSw; (try dsimp only at hSw); go_simp; try with_reducible rfl
                    simp only [Act.put, List.getElem_toArray, List.getElem_cons_succ, List.getElem_cons_zero, List.setIfInBounds_toArray, List.set_cons_zero, List.set_cons_succ]
                    refine wpAnyH_take (i := 3) (v := ?_) rfl (by kernel_rfl) (by kernel_rfl) (by kernel_rfl) (fun _ _ _ h => h) (Or.inl ⟨by kernel_rfl, ?_⟩) (by assumption) ?_
                    rotate_left
                    · intro w hSw; (try dsimp only at hSw); go_simp; try with_reducible rfl
                    simp only [Act.put, List.getElem_toArray, List.getElem_cons_succ, List.getElem_cons_zero, List.setIfInBounds_toArray, List.set_cons_zero, List.set_cons_succ]
                    refine wpAnyH_take (i := 4) (v := ?_) rfl (by kernel_rfl) (by kernel_rfl) (by kernel_rfl) (fun _ _ _ h => h) (Or.inl ⟨by kernel_rfl, ?_⟩) (by assumption) ?_
                    rotate_left
                    · intro w hSw; (try dsimp only at hSw); go_simp; try with_reducible rfl
                    simp only [Act.put, List.getElem_toArray, List.getElem_cons_succ, List.getElem_cons_zero, List.setIfInBounds_toArray, List.set_cons_zero, List.set_cons_succ]
                    refine wpAnyH_take (i := 5) (v := ?_) rfl (by kernel_rfl) (by kernel_rfl) (by kernel_rfl) (fun _ _ _ h => h) (Or.inl ⟨by kernel_rfl, ?_⟩) (by assumption) ?_
                    rotate_left
                    · intro w hSw; (try dsimp only at hSw); go_simp; try with_reducible rfl
                    simp only [Act.put, List.getElem_toArray, List.getElem_cons_succ, List.getElem_cons_zero, List.setIfInBounds_toArray, List.set_cons_zero, List.set_cons_succ]
                    refine wpAnyH_take (i := 6) (v := ?_) rfl (by kernel_rfl) (by kernel_rfl) (by kernel_rfl) (fun _ _ _ h => h) (Or.inl ⟨by kernel_rfl, ?_⟩) (by assumption) ?_
                    rotate_left
                    · intro w hSw; (try dsimp only at hSw); go_simp; try with_reducible rfl
                    simp only [Act.put, List.getElem_toArray, List.getElem_cons_succ, List.getElem_cons_zero, List.setIfInBounds_toArray, List.set_cons_zero, List.set_cons_succ]
                    refine wpAnyH_take (i := 7) (v := .int .i64 (x.start + s.len)) rfl (by kernel_rfl) (by kernel_rfl) (by kernel_rfl) (fun _ _ _ h => h) (Or.inl ⟨by kernel_rfl, ?_⟩) (by assumption) ?_
                    · intro w hSw; (try dsimp only at hSw)
                      have t3 := T3.out; go_simp
                    simp only [Act.put, List.getElem_toArray, List.getElem_cons_succ, List.getElem_cons_zero, List.setIfInBounds_toArray, List.set_cons_zero, List.set_cons_succ]
                    refine wpAnyH_take (i := 8) (v := ?_) rfl (by kernel_rfl) (by kernel_rfl) (by kernel_rfl) (fun _ _ _ h => h) (Or.inl ⟨by kernel_rfl, ?_⟩) (by assumption) ?_
                    rotate_left
                    · intro w hSw; (try dsimp only at hSw); go_simp; try with_reducible rfl
                    simp only [Act.put, List.getElem_toArray, List.getElem_cons_succ, List.getElem_cons_zero, List.setIfInBounds_toArray, List.set_cons_zero, List.set_cons_succ]
                    refine wpAnyH_done (by kernel_rfl) ?_ _
                    clear hHeld
                    go_wp2_with fail
                    rw [Y2.out]
                    exact ⟨⟨k + 1, HK.out, rfl, by rw [HNx.out], HB.out.drew.drew⟩, by have := HK.out; simp [intOf]; omega⟩
                  | false =>
                    as_aux_lemma =>
                    refine wp_region_held_drew (S := (fun Y => Y.cell? ⟨gb, go + k * 42 + 2, none⟩ = some (.int .i64 x.start) ∧ Y.cell? ⟨gb, go + k * 42 + 3, none⟩ = some (.int .i64 x.en) ∧ Y.cell? ⟨gb, go + k * 42 + 7, none⟩ = some (.int .i64 (x.f : Int)) ∧ Y.cell? ⟨b3, 4, none⟩ = some (.int .i64 s.len))) (by kernel_rfl) (HSx.out _ (Below.refl _ wq).drew) (fun hHeld => ?_)
                    refine wpAnyH_take (i := 0) (v := ?_) rfl (by kernel_rfl) (by kernel_rfl) (by kernel_rfl) (fun _ _ _ h => h) (Or.inl ⟨by kernel_rfl, ?_⟩) (by assumption) ?_
                    rotate_left
                    · intro w hSw; (try dsimp only at hSw); go_simp; try with_reducible rfl
                    simp only [Act.put, List.getElem_toArray, List.getElem_cons_succ, List.getElem_cons_zero, List.setIfInBounds_toArray, List.set_cons_zero, List.set_cons_succ]
                    refine wpAnyH_take (i := 1) (v := .bool true) rfl (by kernel_rfl) (by kernel_rfl) (by kernel_rfl) (fun _ _ _ h => h) (Or.inl ⟨by kernel_rfl, ?_⟩) (by assumption) ?_
                    · intro w hSw; (try dsimp only at hSw)
                      have t1 := T1.out; go_simp
                    simp only [Act.put, List.getElem_toArray, List.getElem_cons_succ, List.getElem_cons_zero, List.setIfInBounds_toArray, List.set_cons_zero, List.set_cons_succ]
                    refine wpAnyH_take (i := 2) (v := ?_) rfl (by kernel_rfl) (by kernel_rfl) (by kernel_rfl) (fun _ _ _ h => h) (Or.inl ⟨by kernel_rfl, ?_⟩) (by assumption) ?_
                    rotate_left
                    · intro w hSw; (try dsimp only at hSw); go_simp; try with_reducible rfl
                    simp only [Act.put, List.getElem_toArray, List.getElem_cons_succ, List.getElem_cons_zero, List.setIfInBounds_toArray, List.set_cons_zero, List.set_cons_succ]
                    refine wpAnyH_take (i := 3) (v := ?_) rfl (by kernel_rfl) (by kernel_rfl) (by kernel_rfl) (fun _ _ _ h => h) (Or.inl ⟨by kernel_rfl, ?_⟩) (by assumption) ?_
                    rotate_left
                    · intro w hSw; (try dsimp only at hSw); go_simp; try with_reducible rfl
                    simp only [Act.put, List.getElem_toArray, List.getElem_cons_succ, List.getElem_cons_zero, List.setIfInBounds_toArray, List.set_cons_zero, List.set_cons_succ]
                    refine wpAnyH_take (i := 4) (v := ?_) rfl (by kernel_rfl) (by kernel_rfl) (by kernel_rfl) (fun _ _ _ h => h) (Or.inl ⟨by kernel_rfl, ?_⟩) (by assumption) ?_
                    rotate_left
                    · intro w hSw; (try dsimp only at hSw); go_simp; try with_reducible rfl
                    simp only [Act.put, List.getElem_toArray, List.getElem_cons_succ, List.getElem_cons_zero, List.setIfInBounds_toArray, List.set_cons_zero, List.set_cons_succ]
                    refine wpAnyH_take (i := 5) (v := ?_) rfl (by kernel_rfl) (by kernel_rfl) (by kernel_rfl) (fun _ _ _ h => h) (Or.inl ⟨by kernel_rfl, ?_⟩) (by assumption) ?_
                    rotate_left
                    · intro w hSw; (try dsimp only at hSw); go_simp; try with_reducible rfl
                    simp only [Act.put, List.getElem_toArray, List.getElem_cons_succ, List.getElem_cons_zero, List.setIfInBounds_toArray, List.set_cons_zero, List.set_cons_succ]
                    refine wpAnyH_take (i := 6) (v := ?_) rfl (by kernel_rfl) (by kernel_rfl) (by kernel_rfl) (fun _ _ _ h => h) (Or.inl ⟨by kernel_rfl, ?_⟩) (by assumption) ?_
                    rotate_left
                    · intro w hSw; (try dsimp only at hSw); go_simp; try with_reducible rfl
                    simp only [Act.put, List.getElem_toArray, List.getElem_cons_succ, List.getElem_cons_zero, List.setIfInBounds_toArray, List.set_cons_zero, List.set_cons_succ]
                    refine wpAnyH_take (i := 7) (v := ?_) rfl (by kernel_rfl) (by kernel_rfl) (by kernel_rfl) (fun _ _ _ h => h) (Or.inl ⟨by kernel_rfl, ?_⟩) (by assumption) ?_
                    rotate_left
                    · intro w hSw; (try dsimp only at hSw); go_simp; try with_reducible rfl
                    simp only [Act.put, List.getElem_toArray, List.getElem_cons_succ, List.getElem_cons_zero, List.setIfInBounds_toArray, List.set_cons_zero, List.set_cons_succ]
                    refine wpAnyH_take (i := 8) (v := ?_) rfl (by kernel_rfl) (by kernel_rfl) (by kernel_rfl) (fun _ _ _ h => h) (Or.inl ⟨by kernel_rfl, ?_⟩) (by assumption) ?_
                    rotate_left
                    · intro w hSw; (try dsimp only at hSw); go_simp; try with_reducible rfl
                    simp only [Act.put, List.getElem_toArray, List.getElem_cons_succ, List.getElem_cons_zero, List.setIfInBounds_toArray, List.set_cons_zero, List.set_cons_succ]
                    refine wpAnyH_take (i := 9) (v := .bool false) rfl (by kernel_rfl) (by kernel_rfl) (by kernel_rfl) (fun _ _ _ h => h) (Or.inl ⟨by kernel_rfl, ?_⟩) (by assumption) ?_
                    · intro w hSw; (try dsimp only at hSw)
                      go_simp; try with_reducible rfl
                    simp only [Act.put, List.getElem_toArray, List.getElem_cons_succ, List.getElem_cons_zero, List.setIfInBounds_toArray, List.set_cons_zero, List.set_cons_succ]
                    refine wpAnyH_take (i := 10) (v := ?_) rfl (by kernel_rfl) (by kernel_rfl) (by kernel_rfl) (fun _ _ _ h => h) (Or.inl ⟨by kernel_rfl, ?_⟩) (by assumption) ?_
                    rotate_left
                    · intro w hSw; (try dsimp only at hSw); go_simp; try with_reducible rfl
                    simp only [Act.put, List.getElem_toArray, List.getElem_cons_succ, List.getElem_cons_zero, List.setIfInBounds_toArray, List.set_cons_zero, List.set_cons_succ]
                    refine wpAnyH_take (i := 11) (v := ?_) rfl (by kernel_rfl) (by kernel_rfl) (by kernel_rfl) (fun _ _ _ h => h) (Or.inl ⟨by kernel_rfl, ?_⟩) (by assumption) ?_
                    rotate_left
                    · intro w hSw; (try dsimp only at hSw); go_simp; try with_reducible rfl
                    simp only [Act.put, List.getElem_toArray, List.getElem_cons_succ, List.getElem_cons_zero, List.setIfInBounds_toArray, List.set_cons_zero, List.set_cons_succ]
                    refine wpAnyH_take (i := 12) (v := ?_) rfl (by kernel_rfl) (by kernel_rfl) (by kernel_rfl) (fun _ _ _ h => h) (Or.inl ⟨by kernel_rfl, ?_⟩) (by assumption) ?_
                    rotate_left
                    · intro w hSw; (try dsimp only at hSw); go_simp; try with_reducible rfl
                    simp only [Act.put, List.getElem_toArray, List.getElem_cons_succ, List.getElem_cons_zero, List.setIfInBounds_toArray, List.set_cons_zero, List.set_cons_succ]
                    refine wpAnyH_take (i := 13) (v := ?_) rfl (by kernel_rfl) (by kernel_rfl) (by kernel_rfl) (fun _ _ _ h => h) (Or.inl ⟨by kernel_rfl, ?_⟩) (by assumption) ?_
                    rotate_left
                    · intro w hSw; (try dsimp only at hSw); go_simp; try with_reducible rfl
                    simp only [Act.put, List.getElem_toArray, List.getElem_cons_succ, List.getElem_cons_zero, List.setIfInBounds_toArray, List.set_cons_zero, List.set_cons_succ]
                    refine wpAnyH_take (i := 14) (v := ?_) rfl (by kernel_rfl) (by kernel_rfl) (by kernel_rfl) (fun _ _ _ h => h) (Or.inl ⟨by kernel_rfl, ?_⟩) (by assumption) ?_
                    rotate_left
                    · intro w hSw; (try dsimp only at hSw); go_simp; try with_reducible rfl
                    simp only [Act.put, List.getElem_toArray, List.getElem_cons_succ, List.getElem_cons_zero, List.setIfInBounds_toArray, List.set_cons_zero, List.set_cons_succ]
                    refine wpAnyH_take (i := 15) (v := ?_) rfl (by kernel_rfl) (by kernel_rfl) (by kernel_rfl) (fun _ _ _ h => h) (Or.inl ⟨by kernel_rfl, ?_⟩) (by assumption) ?_
                    rotate_left
                    · intro w hSw; (try dsimp only at hSw); go_simp; try with_reducible rfl
                    simp only [Act.put, List.getElem_toArray, List.getElem_cons_succ, List.getElem_cons_zero, List.setIfInBounds_toArray, List.set_cons_zero, List.set_cons_succ]
                    refine wpAnyH_take (i := 16) (v := ?_) rfl (by kernel_rfl) (by kernel_rfl) (by kernel_rfl) (fun _ _ _ h => h) (Or.inl ⟨by kernel_rfl, ?_⟩) (by assumption) ?_
                    rotate_left
                    · intro w hSw; (try dsimp only at hSw); go_simp; try with_reducible rfl
                    simp only [Act.put, List.getElem_toArray, List.getElem_cons_succ, List.getElem_cons_zero, List.setIfInBounds_toArray, List.set_cons_zero, List.set_cons_succ]
                    refine wpAnyH_take (i := 17) (v := .bool false) rfl (by kernel_rfl) (by kernel_rfl) (by kernel_rfl) (fun _ _ _ h => h) (Or.inl ⟨by kernel_rfl, ?_⟩) (by assumption) ?_
                    · intro w hSw; (try dsimp only at hSw)
                      have t2 := T2.out; go_simp
                    simp only [Act.put, List.getElem_toArray, List.getElem_cons_succ, List.getElem_cons_zero, List.setIfInBounds_toArray, List.set_cons_zero, List.set_cons_succ]
                    refine wpAnyH_take (i := 18) (v := ?_) rfl (by kernel_rfl) (by kernel_rfl) (by kernel_rfl) (fun _ _ _ h => h) (Or.inl ⟨by kernel_rfl, ?_⟩) (by assumption) ?_
                    rotate_left
                    · intro w hSw; (try dsimp only at hSw); go_simp; try with_reducible rfl
                    simp only [Act.put, List.getElem_toArray, List.getElem_cons_succ, List.getElem_cons_zero, List.setIfInBounds_toArray, List.set_cons_zero, List.set_cons_succ]
                    refine wpAnyH_take (i := 19) (v := ?_) rfl (by kernel_rfl) (by kernel_rfl) (by kernel_rfl) (fun _ _ _ h => h) (Or.inl ⟨by kernel_rfl, ?_⟩) (by assumption) ?_
                    rotate_left
                    · intro w hSw; (try dsimp only at hSw); go_simp; try with_reducible rfl
                    simp only [Act.put, List.getElem_toArray, List.getElem_cons_succ, List.getElem_cons_zero, List.setIfInBounds_toArray, List.set_cons_zero, List.set_cons_succ]
                    refine wpAnyH_take (i := 20) (v := ?_) rfl (by kernel_rfl) (by kernel_rfl) (by kernel_rfl) (fun _ _ _ h => h) (Or.inl ⟨by kernel_rfl, ?_⟩) (by assumption) ?_
                    rotate_left
                    · intro w hSw; (try dsimp only at hSw); go_simp; try with_reducible rfl
                    simp only [Act.put, List.getElem_toArray, List.getElem_cons_succ, List.getElem_cons_zero, List.setIfInBounds_toArray, List.set_cons_zero, List.set_cons_succ]
                    refine wpAnyH_take (i := 21) (v := ?_) rfl (by kernel_rfl) (by kernel_rfl) (by kernel_rfl) (fun _ _ _ h => h) (Or.inl ⟨by kernel_rfl, ?_⟩) (by assumption) ?_
                    rotate_left
                    · intro w hSw; (try dsimp only at hSw); go_simp; try with_reducible rfl
                    simp only [Act.put, List.getElem_toArray, List.getElem_cons_succ, List.getElem_cons_zero, List.setIfInBounds_toArray, List.set_cons_zero, List.set_cons_succ]
                    refine wpAnyH_take (i := 22) (v := ?_) rfl (by kernel_rfl) (by kernel_rfl) (by kernel_rfl) (fun _ _ _ h => h) (Or.inl ⟨by kernel_rfl, ?_⟩) (by assumption) ?_
                    rotate_left
                    · intro w hSw; (try dsimp only at hSw); go_simp; try with_reducible rfl
                    simp only [Act.put, List.getElem_toArray, List.getElem_cons_succ, List.getElem_cons_zero, List.setIfInBounds_toArray, List.set_cons_zero, List.set_cons_succ]
                    refine wpAnyH_take (i := 23) (v := ?_) rfl (by kernel_rfl) (by kernel_rfl) (by kernel_rfl) (fun _ _ _ h => h) (Or.inl ⟨by kernel_rfl, ?_⟩) (by assumption) ?_
                    rotate_left
                    · intro w hSw; (try dsimp only at hSw); go_simp; try with_reducible rfl
                    simp only [Act.put, List.getElem_toArray, List.getElem_cons_succ, List.getElem_cons_zero, List.setIfInBounds_toArray, List.set_cons_zero, List.set_cons_succ]
                    refine wpAnyH_take (i := 24) (v := ?_) rfl (by kernel_rfl) (by kernel_rfl) (by kernel_rfl) (fun _ _ _ h => h) (Or.inl ⟨by kernel_rfl, ?_⟩) (by assumption) ?_
                    rotate_left
                    · intro w hSw; (try dsimp only at hSw); go_simp; try with_reducible rfl
                    simp only [Act.put, List.getElem_toArray, List.getElem_cons_succ, List.getElem_cons_zero, List.setIfInBounds_toArray, List.set_cons_zero, List.set_cons_succ]
                    refine wpAnyH_take (i := 25) (v := ?_) rfl (by kernel_rfl) (by kernel_rfl) (by kernel_rfl) (fun _ _ _ h => h) (Or.inl ⟨by kernel_rfl, ?_⟩) (by assumption) ?_
                    rotate_left
                    · intro w hSw; (try dsimp only at hSw); go_simp; try with_reducible rfl
                    simp only [Act.put, List.getElem_toArray, List.getElem_cons_succ, List.getElem_cons_zero, List.setIfInBounds_toArray, List.set_cons_zero, List.set_cons_succ]
                    refine wpAnyH_take (i := 26) (v := ?_) rfl (by kernel_rfl) (by kernel_rfl) (by kernel_rfl) (fun _ _ _ h => h) (Or.inl ⟨by kernel_rfl, ?_⟩) (by assumption) ?_
                    rotate_left
                    · intro w hSw; (try dsimp only at hSw); go_simp; try with_reducible rfl
                    simp only [Act.put, List.getElem_toArray, List.getElem_cons_succ, List.getElem_cons_zero, List.setIfInBounds_toArray, List.set_cons_zero, List.set_cons_succ]
                    refine wpAnyH_take (i := 27) (v := .int .i64 (x.start + s.len)) rfl (by kernel_rfl) (by kernel_rfl) (by kernel_rfl) (fun _ _ _ h => h) (Or.inl ⟨by kernel_rfl, ?_⟩) (by assumption) ?_
                    · intro w hSw; (try dsimp only at hSw)
                      have t3 := T3.out; go_simp
                    simp only [Act.put, List.getElem_toArray, List.getElem_cons_succ, List.getElem_cons_zero, List.setIfInBounds_toArray, List.set_cons_zero, List.set_cons_succ]
                    refine wpAnyH_take (i := 28) (v := ?_) rfl (by kernel_rfl) (by kernel_rfl) (by kernel_rfl) (fun _ _ _ h => h) (Or.inl ⟨by kernel_rfl, ?_⟩) (by assumption) ?_
                    rotate_left
                    · intro w hSw; (try dsimp only at hSw); go_simp; try with_reducible rfl
                    simp only [Act.put, List.getElem_toArray, List.getElem_cons_succ, List.getElem_cons_zero, List.setIfInBounds_toArray, List.set_cons_zero, List.set_cons_succ]
                    refine wpAnyH_take (i := 29) (v := .bool false) rfl (by kernel_rfl) (by kernel_rfl) (by kernel_rfl) (fun _ _ _ h => h) (Or.inl ⟨by kernel_rfl, ?_⟩) (by assumption) ?_
                    · intro w hSw; (try dsimp only at hSw)
                      have t4 := T4.out; go_simp
                    simp only [Act.put, List.getElem_toArray, List.getElem_cons_succ, List.getElem_cons_zero, List.setIfInBounds_toArray, List.set_cons_zero, List.set_cons_succ]
                    refine wpAnyH_take (i := 30) (v := ?_) rfl (by kernel_rfl) (by kernel_rfl) (by kernel_rfl) (fun _ _ _ h => h) (Or.inl ⟨by kernel_rfl, ?_⟩) (by assumption) ?_
                    rotate_left
                    · intro w hSw; (try dsimp only at hSw); go_simp; try with_reducible rfl
                    simp only [Act.put, List.getElem_toArray, List.getElem_cons_succ, List.getElem_cons_zero, List.setIfInBounds_toArray, List.set_cons_zero, List.set_cons_succ]
                    refine wpAnyH_take (i := 31) (v := ?_) rfl (by kernel_rfl) (by kernel_rfl) (by kernel_rfl) (fun _ _ _ h => h) (Or.inl ⟨by kernel_rfl, ?_⟩) (by assumption) ?_
                    rotate_left
                    · intro w hSw; (try dsimp only at hSw); go_simp; try with_reducible rfl
                    simp only [Act.put, List.getElem_toArray, List.getElem_cons_succ, List.getElem_cons_zero, List.setIfInBounds_toArray, List.set_cons_zero, List.set_cons_succ]
                    refine wpAnyH_take (i := 32) (v := ?_) rfl (by kernel_rfl) (by kernel_rfl) (by kernel_rfl) (fun _ _ _ h => h) (Or.inl ⟨by kernel_rfl, ?_⟩) (by assumption) ?_
                    rotate_left
                    · intro w hSw; (try dsimp only at hSw); go_simp; try with_reducible rfl
                    simp only [Act.put, List.getElem_toArray, List.getElem_cons_succ, List.getElem_cons_zero, List.setIfInBounds_toArray, List.set_cons_zero, List.set_cons_succ]
                    refine wpAnyH_take (i := 33) (v := ?_) rfl (by kernel_rfl) (by kernel_rfl) (by kernel_rfl) (fun _ _ _ h => h) (Or.inl ⟨by kernel_rfl, ?_⟩) (by assumption) ?_
                    rotate_left
                    · intro w hSw; (try dsimp only at hSw); go_simp; try with_reducible rfl
                    simp only [Act.put, List.getElem_toArray, List.getElem_cons_succ, List.getElem_cons_zero, List.setIfInBounds_toArray, List.set_cons_zero, List.set_cons_succ]
                    refine wpAnyH_take (i := 34) (v := ?_) rfl (by kernel_rfl) (by kernel_rfl) (by kernel_rfl) (fun _ _ _ h => h) (Or.inl ⟨by kernel_rfl, ?_⟩) (by assumption) ?_
                    rotate_left
                    · intro w hSw; (try dsimp only at hSw); go_simp; try with_reducible rfl
                    simp only [Act.put, List.getElem_toArray, List.getElem_cons_succ, List.getElem_cons_zero, List.setIfInBounds_toArray, List.set_cons_zero, List.set_cons_succ]
                    refine wpAnyH_take (i := 35) (v := ?_) rfl (by kernel_rfl) (by kernel_rfl) (by kernel_rfl) (fun _ _ _ h => h) (Or.inl ⟨by kernel_rfl, ?_⟩) (by assumption) ?_
                    rotate_left
                    · intro w hSw; (try dsimp only at hSw); go_simp; try with_reducible rfl
                    simp only [Act.put, List.getElem_toArray, List.getElem_cons_succ, List.getElem_cons_zero, List.setIfInBounds_toArray, List.set_cons_zero, List.set_cons_succ]
                    refine wpAnyH_take (i := 36) (v := ?_) rfl (by kernel_rfl) (by kernel_rfl) (by kernel_rfl) (fun _ _ _ h => h) (Or.inl ⟨by kernel_rfl, ?_⟩) (by assumption) ?_
                    rotate_left
                    · intro w hSw; (try dsimp only at hSw); go_simp; try with_reducible rfl
                    simp only [Act.put, List.getElem_toArray, List.getElem_cons_succ, List.getElem_cons_zero, List.setIfInBounds_toArray, List.set_cons_zero, List.set_cons_succ]
                    refine wpAnyH_take (i := 37) (v := ?_) rfl (by kernel_rfl) (by kernel_rfl) (by kernel_rfl) (fun _ _ _ h => h) (Or.inl ⟨by kernel_rfl, ?_⟩) (by assumption) ?_
                    rotate_left
                    · intro w hSw; (try dsimp only at hSw); go_simp; try with_reducible rfl
                    simp only [Act.put, List.getElem_toArray, List.getElem_cons_succ, List.getElem_cons_zero, List.setIfInBounds_toArray, List.set_cons_zero, List.set_cons_succ]
                    refine wpAnyH_take (i := 38) (v := ?_) rfl (by kernel_rfl) (by kernel_rfl) (by kernel_rfl) (fun _ _ _ h => h) (Or.inl ⟨by kernel_rfl, ?_⟩) (by assumption) ?_
                    rotate_left
                    · intro w hSw; (try dsimp only at hSw); go_simp; try with_reducible rfl
                    simp only [Act.put, List.getElem_toArray, List.getElem_cons_succ, List.getElem_cons_zero, List.setIfInBounds_toArray, List.set_cons_zero, List.set_cons_succ]
                    refine wpAnyH_take (i := 39) (v := .int .i64 (x.start + s.len)) rfl (by kernel_rfl) (by kernel_rfl) (by kernel_rfl) (fun _ _ _ h => h) (Or.inl ⟨by kernel_rfl, ?_⟩) (by assumption) ?_
                    · intro w hSw; (try dsimp only at hSw)
                      have t3 := T3.out; go_simp
                    simp only [Act.put, List.getElem_toArray, List.getElem_cons_succ, List.getElem_cons_zero, List.setIfInBounds_toArray, List.set_cons_zero, List.set_cons_succ]
                    refine wpAnyH_take (i := 40) (v := ?_) rfl (by kernel_rfl) (by kernel_rfl) (by kernel_rfl) (fun _ _ _ h => h) (Or.inl ⟨by kernel_rfl, ?_⟩) (by assumption) ?_
                    rotate_left
                    · intro w hSw; (try dsimp only at hSw); go_simp; try with_reducible rfl
                    simp only [Act.put, List.getElem_toArray, List.getElem_cons_succ, List.getElem_cons_zero, List.setIfInBounds_toArray, List.set_cons_zero, List.set_cons_succ]
                    refine wpAnyH_take (i := 41) (v := .bool false) rfl (by kernel_rfl) (by kernel_rfl) (by kernel_rfl) (fun _ _ _ h => h) (Or.inl ⟨by kernel_rfl, ?_⟩) (by assumption) ?_
                    · intro w hSw; (try dsimp only at hSw)
                      have t5 := T5.out; go_simp
                    simp only [Act.put, List.getElem_toArray, List.getElem_cons_succ, List.getElem_cons_zero, List.setIfInBounds_toArray, List.set_cons_zero, List.set_cons_succ]
                    refine wpAnyH_take (i := 42) (v := ?_) rfl (by kernel_rfl) (by kernel_rfl) (by kernel_rfl) (fun _ _ _ h => h) (Or.inl ⟨by kernel_rfl, ?_⟩) (by assumption) ?_
                    rotate_left
                    · intro w hSw; (try dsimp only at hSw); go_simp; try with_reducible rfl
                    simp only [Act.put, List.getElem_toArray, List.getElem_cons_succ, List.getElem_cons_zero, List.setIfInBounds_toArray, List.set_cons_zero, List.set_cons_succ]
                    refine wpAnyH_take (i := 43) (v := ?_) rfl (by kernel_rfl) (by kernel_rfl) (by kernel_rfl) (fun _ _ _ h => h) (Or.inl ⟨by kernel_rfl, ?_⟩) (by assumption) ?_
                    rotate_left
                    · intro w hSw; (try dsimp only at hSw); go_simp; try with_reducible rfl
                    simp only [Act.put, List.getElem_toArray, List.getElem_cons_succ, List.getElem_cons_zero, List.setIfInBounds_toArray, List.set_cons_zero, List.set_cons_succ]
                    refine wpAnyH_take (i := 44) (v := ?_) rfl (by kernel_rfl) (by kernel_rfl) (by kernel_rfl) (fun _ _ _ h => h) (Or.inl ⟨by kernel_rfl, ?_⟩) (by assumption) ?_
                    rotate_left
                    · intro w hSw; (try dsimp only at hSw); go_simp; try with_reducible rfl
                    simp only [Act.put, List.getElem_toArray, List.getElem_cons_succ, List.getElem_cons_zero, List.setIfInBounds_toArray, List.set_cons_zero, List.set_cons_succ]
                    refine wpAnyH_take (i := 45) (v := ?_) rfl (by kernel_rfl) (by kernel_rfl) (by kernel_rfl) (fun _ _ _ h => h) (Or.inl ⟨by kernel_rfl, ?_⟩) (by assumption) ?_
                    rotate_left
                    · intro w hSw; (try dsimp only at hSw); go_simp; try with_reducible rfl
                    simp only [Act.put, List.getElem_toArray, List.getElem_cons_succ, List.getElem_cons_zero, List.setIfInBounds_toArray, List.set_cons_zero, List.set_cons_succ]
                    refine wpAnyH_take (i := 46) (v := undef) rfl (by kernel_rfl) (by kernel_rfl) (by kernel_rfl) (fun _ _ _ h => h) (Or.inr ⟨by kernel_rfl, rfl⟩) (by assumption) ?_
                    simp only [Act.put, List.getElem_toArray, List.getElem_cons_succ, List.getElem_cons_zero, List.setIfInBounds_toArray, List.set_cons_zero, List.set_cons_succ]
                    refine wpAnyH_take (i := 47) (v := undef) rfl (by kernel_rfl) (by kernel_rfl) (by kernel_rfl) (fun _ _ _ h => h) (Or.inr ⟨by kernel_rfl, rfl⟩) (by assumption) ?_
                    simp only [Act.put, List.getElem_toArray, List.getElem_cons_succ, List.getElem_cons_zero, List.setIfInBounds_toArray, List.set_cons_zero, List.set_cons_succ]
                    refine wpAnyH_take (i := 48) (v := undef) rfl (by kernel_rfl) (by kernel_rfl) (by kernel_rfl) (fun _ _ _ h => h) (Or.inr ⟨by kernel_rfl, rfl⟩) (by assumption) ?_
                    simp only [Act.put, List.getElem_toArray, List.getElem_cons_succ, List.getElem_cons_zero, List.setIfInBounds_toArray, List.set_cons_zero, List.set_cons_succ]
                    refine wpAnyH_take (i := 49) (v := undef) rfl (by kernel_rfl) (by kernel_rfl) (by kernel_rfl) (fun _ _ _ h => h) (Or.inr ⟨by kernel_rfl, rfl⟩) (by assumption) ?_
                    simp only [Act.put, List.getElem_toArray, List.getElem_cons_succ, List.getElem_cons_zero, List.setIfInBounds_toArray, List.set_cons_zero, List.set_cons_succ]
                    refine wpAnyH_take (i := 50) (v := undef) rfl (by kernel_rfl) (by kernel_rfl) (by kernel_rfl) (fun _ _ _ h => h) (Or.inr ⟨by kernel_rfl, rfl⟩) (by assumption) ?_
                    simp only [Act.put, List.getElem_toArray, List.getElem_cons_succ, List.getElem_cons_zero, List.setIfInBounds_toArray, List.set_cons_zero, List.set_cons_succ]
                    refine wpAnyH_take (i := 51) (v := undef) rfl (by kernel_rfl) (by kernel_rfl) (by kernel_rfl) (fun _ _ _ h => h) (Or.inr ⟨by kernel_rfl, rfl⟩) (by assumption) ?_
                    simp only [Act.put, List.getElem_toArray, List.getElem_cons_succ, List.getElem_cons_zero, List.setIfInBounds_toArray, List.set_cons_zero, List.set_cons_succ]
                    refine wpAnyH_take (i := 52) (v := undef) rfl (by kernel_rfl) (by kernel_rfl) (by kernel_rfl) (fun _ _ _ h => h) (Or.inr ⟨by kernel_rfl, rfl⟩) (by assumption) ?_
                    simp only [Act.put, List.getElem_toArray, List.getElem_cons_succ, List.getElem_cons_zero, List.setIfInBounds_toArray, List.set_cons_zero, List.set_cons_succ]
                    refine wpAnyH_take (i := 53) (v := ?_) rfl (by kernel_rfl) (by kernel_rfl) (by kernel_rfl) (fun _ _ _ h => h) (Or.inl ⟨by kernel_rfl, ?_⟩) (by assumption) ?_
                    rotate_left
                    · intro w hSw; (try dsimp only at hSw); go_simp; try with_reducible rfl
                    simp only [Act.put, List.getElem_toArray, List.getElem_cons_succ, List.getElem_cons_zero, List.setIfInBounds_toArray, List.set_cons_zero, List.set_cons_succ]
                    refine wpAnyH_take (i := 54) (v := ?_) rfl (by kernel_rfl) (by kernel_rfl) (by kernel_rfl) (fun _ _ _ h => h) (Or.inl ⟨by kernel_rfl, ?_⟩) (by assumption) ?_
                    rotate_left
                    · intro w hSw; (try dsimp only at hSw); go_simp; try with_reducible rfl
                    simp only [Act.put, List.getElem_toArray, List.getElem_cons_succ, List.getElem_cons_zero, List.setIfInBounds_toArray, List.set_cons_zero, List.set_cons_succ]
                    refine wpAnyH_done (by kernel_rfl) ?_ _
                    clear hHeld
                    go_upto_region 31 with fail
                    refine wp_region_held_drew (S := (fun Y => Y.cell? ⟨gb, go + k * 42 + 2, none⟩ = some (.int .i64 x.start) ∧ Y.cell? ⟨gb, go + k * 42 + 3, none⟩ = some (.int .i64 x.en) ∧ Y.cell? ⟨gb, go + k * 42 + 7, none⟩ = some (.int .i64 (x.f : Int)) ∧ Y.cell? ⟨b3, 4, none⟩ = some (.int .i64 s.len))) (by kernel_rfl) (HSx.out _ (Below.refl _ wq).drew.drew) (fun hHeld => ?_)
                    refine wpAnyH_take (i := 0) (v := ?_) rfl (by kernel_rfl) (by kernel_rfl) (by kernel_rfl) (fun _ _ _ h => h) (Or.inl ⟨by kernel_rfl, ?_⟩) (by assumption) ?_
                    rotate_left
                    · intro w hSw; (try dsimp only at hSw); go_simp; try with_reducible rfl
                    simp only [Act.put, List.getElem_toArray, List.getElem_cons_succ, List.getElem_cons_zero, List.setIfInBounds_toArray, List.set_cons_zero, List.set_cons_succ]
                    refine wpAnyH_take (i := 1) (v := ?_) rfl (by kernel_rfl) (by kernel_rfl) (by kernel_rfl) (fun _ _ _ h => h) (Or.inl ⟨by kernel_rfl, ?_⟩) (by assumption) ?_
                    rotate_left
                    · intro w hSw; (try dsimp only at hSw); go_simp; try with_reducible rfl
                    simp only [Act.put, List.getElem_toArray, List.getElem_cons_succ, List.getElem_cons_zero, List.setIfInBounds_toArray, List.set_cons_zero, List.set_cons_succ]
                    refine wpAnyH_take (i := 2) (v := ?_) rfl (by kernel_rfl) (by kernel_rfl) (by kernel_rfl) (fun _ _ _ h => h) (Or.inl ⟨by kernel_rfl, ?_⟩) (by assumption) ?_
                    rotate_left
                    · intro w hSw; (try dsimp only at hSw); go_simp; try with_reducible rfl
                    simp only [Act.put, List.getElem_toArray, List.getElem_cons_succ, List.getElem_cons_zero, List.setIfInBounds_toArray, List.set_cons_zero, List.set_cons_succ]
                    refine wpAnyH_take (i := 3) (v := ?_) rfl (by kernel_rfl) (by kernel_rfl) (by kernel_rfl) (fun _ _ _ h => h) (Or.inl ⟨by kernel_rfl, ?_⟩) (by assumption) ?_
                    rotate_left
                    · intro w hSw; (try dsimp only at hSw); go_simp; try with_reducible rfl
                    simp only [Act.put, List.getElem_toArray, List.getElem_cons_succ, List.getElem_cons_zero, List.setIfInBounds_toArray, List.set_cons_zero, List.set_cons_succ]
                    refine wpAnyH_take (i := 4) (v := ?_) rfl (by kernel_rfl) (by kernel_rfl) (by kernel_rfl) (fun _ _ _ h => h) (Or.inl ⟨by kernel_rfl, ?_⟩) (by assumption) ?_
                    rotate_left
                    · intro w hSw; (try dsimp only at hSw); go_simp; try with_reducible rfl
                    simp only [Act.put, List.getElem_toArray, List.getElem_cons_succ, List.getElem_cons_zero, List.setIfInBounds_toArray, List.set_cons_zero, List.set_cons_succ]
                    refine wpAnyH_take (i := 5) (v := ?_) rfl (by kernel_rfl) (by kernel_rfl) (by kernel_rfl) (fun _ _ _ h => h) (Or.inl ⟨by kernel_rfl, ?_⟩) (by assumption) ?_
                    rotate_left
                    · intro w hSw; (try dsimp only at hSw); go_simp; try with_reducible rfl
                    simp only [Act.put, List.getElem_toArray, List.getElem_cons_succ, List.getElem_cons_zero, List.setIfInBounds_toArray, List.set_cons_zero, List.set_cons_succ]
                    refine wpAnyH_take (i := 6) (v := ?_) rfl (by kernel_rfl) (by kernel_rfl) (by kernel_rfl) (fun _ _ _ h => h) (Or.inl ⟨by kernel_rfl, ?_⟩) (by assumption) ?_
                    rotate_left
                    · intro w hSw; (try dsimp only at hSw); go_simp; try with_reducible rfl
                    simp only [Act.put, List.getElem_toArray, List.getElem_cons_succ, List.getElem_cons_zero, List.setIfInBounds_toArray, List.set_cons_zero, List.set_cons_succ]
                    refine wpAnyH_take (i := 7) (v := .int .i64 (x.start + s.len)) rfl (by kernel_rfl) (by kernel_rfl) (by kernel_rfl) (fun _ _ _ h => h) (Or.inl ⟨by kernel_rfl, ?_⟩) (by assumption) ?_
                    · intro w hSw; (try dsimp only at hSw)
                      have t3 := T3.out; go_simp
                    simp only [Act.put, List.getElem_toArray, List.getElem_cons_succ, List.getElem_cons_zero, List.setIfInBounds_toArray, List.set_cons_zero, List.set_cons_succ]
                    refine wpAnyH_take (i := 8) (v := ?_) rfl (by kernel_rfl) (by kernel_rfl) (by kernel_rfl) (fun _ _ _ h => h) (Or.inl ⟨by kernel_rfl, ?_⟩) (by assumption) ?_
                    rotate_left
                    · intro w hSw; (try dsimp only at hSw); go_simp; try with_reducible rfl
                    simp only [Act.put, List.getElem_toArray, List.getElem_cons_succ, List.getElem_cons_zero, List.setIfInBounds_toArray, List.set_cons_zero, List.set_cons_succ]
                    refine wpAnyH_done (by kernel_rfl) ?_ _
                    clear hHeld
                    go_wp2_with fail
                    rw [Y2.out]
                    exact ⟨⟨k + 1, HK.out, rfl, by rw [HNx.out], HB.out.drew.drew⟩, by have := HK.out; simp [intOf]; omega⟩
                · as_aux_lemma =>
                  have hxS : x ∈ Sl := by
                    have h := hx
                    rw [H7.out.1.e, List.getElem?_append_right (by omega)] at h
                    exact List.mem_of_getElem? h
                  have kb : ((x.kind : Int) != 1) = true := by
                    have := H7.out.1.sk x hxS
                    exact bne_iff_ne.2 (by omega)
                  have HNx := Lib.hid (show nxK s mm Pl.length (k + 1) = nxK s mm Pl.length k by unfold nxK; rw [Nat.min_eq_right (by omega), Nat.min_eq_right (by omega)])
                  clear hxS hP hx hrr c2 c3 c7 hcap hlt2 hk hb hbox
                  go_wp2_with fail
                  rw [Y2.out]
                  exact ⟨⟨k + 1, HK.out, rfl, by rw [HNx.out], HB.out⟩, by have := HK.out; simp [intOf]; omega⟩
              · obtain rfl : k = E.length := by omega
                have hle : Pl.length ≤ E.length := by rw [H7.out.1.e, List.length_append]; omega
                have HE := Lib.hid (And.intro (H9.out.2.1.go hb) (H9.out.2.2.trans (hb.keptS _)))
                have hnx : nxK s mm Pl.length E.length = if mm.bg = true then m2.o * s.len else -1 := by
                  unfold nxK
                  rw [Nat.min_eq_right hle]
                  split
                  · next h => rw [H7.out.1.o h]
                  · rfl
                have q4 : wq.cell? ⟨b3, 4, none⟩ = some (.int .i64 s.len) := blk_cell hbox 4 rfl
                have hfin : ∀ N : Int, N = nxt s m2 → (∃ (i' : Nat) (m' : M), i' ≤ n ∧ Value.int .i64 ((i : Int) + 1) = .int .i64 i' ∧ Ok s m' i' ∧ Value.int .i64 N = .int .i64 (nxt s m') ∧ MtB wq b 0 s m' ∧ Kept (fun x => x ≠ b) w4 wq) ∧ n - (intOf (Value.int .i64 ((i : Int) + 1))).toNat < n - (intOf (Value.int .i64 (i : Int))).toNat := fun N hN => by
                  refine ⟨⟨i + 1, m2, HM.out.2.2.2.1, by push_cast; rfl, H7.out.1.ok, by rw [hN], HE.out.1, HE.out.2⟩, ?_⟩
                  have := HM.out.2.2.2.1
                  simp [intOf]; omega
                have HFin := Lib.hid hfin
                rw [hnx]
                clear hfin hnx hle hk hb hbox hlt2
                cases B2 with
                | false =>
                  as_aux_lemma =>
                  have hmb : ¬ mm.bg = true := fun h => by have h1 := H7.out.1.bg h; rw [HB2.out] at h1; cases h1
                  rw [if_neg hmb]
                  have HN := Lib.hid (show (-1 : Int) = nxt s m2 by unfold nxt; rw [if_neg (by rw [HB2.out]; decide)])
                  clear hmb q4
                  go_wp2_with fail
                  rw [X8.out]
                  exact HFin.out _ HN.out
                | true =>
                  obtain ⟨z1, z2, z3⟩ := HO.out.1 rfl
                  have hok2 := H7.out.1.ok
                  have hin := in_o HS.out.ok hok2
                  rw [← z1] at hin ⊢
                  have hoo := hok2.o
                  have htt := hok2.t
                  have hmt := HM.out.1.t
                  have hl := HS.out.ok.len
                  have hadd : (m2.o + 1) * s.len = st + s.len := by rw [z1, Int.add_mul, Int.one_mul]
                  rw [hadd, ← z1] at hoo
                  have hfr := hok2.fr
                  have hkk := hok2.k
                  have r1 : decide (st ≥ 0) = true := decide_eq_true hin.1
                  have r2 : decide (en < 0) = false := decide_eq_false (by omega)
                  have r3 : decide (m2.t < st) = false := decide_eq_false (by omega)
                  have HR4 := Lib.hid (wrap64_at (st + s.len) (by omega))
                  have r5 : decide (m2.t ≥ st + s.len) = false := decide_eq_false (by omega)
                  have HR6 := Lib.hid (wrap64_at (m.t + 1) (by omega))
                  have HN := Lib.hid (show st = nxt s m2 by unfold nxt; rw [if_pos HB2.out, z1])
                  have hg : gB = true → m.bg = true ∧ m2.t - m.t > s.gap := fun h => by
                    have h1 := HgB.out
                    rw [h] at h1
                    have h2 := HB1.out
                    cases B1 with
                    | false => cases h1
                    | true => exact ⟨h2, by simpa using h1⟩
                  have hgg : gB = true → max (m.t + 1) st < m2.t → m2.f &&& 2 ≠ 0 := fun h h2 => by
                    have h3 := hg h
                    exact H7.out.1.g h3.1 HB2.out h3.2 (by rw [← z1]; exact h2)
                  have r7 : bits .and .i64 fl 2 = ((m2.f &&& 2 : Nat) : Int) := by rw [z3]; exact i64_and2 _ hok2.f
                  have HGG := Lib.hid hgg
                  obtain ⟨fz, hfz⟩ : ∃ fz : Nat, m2.f &&& 2 = fz := ⟨_, rfl⟩
                  rw [hfz] at r7 HGG
                  obtain ⟨NN, hNN⟩ : ∃ NN : Int, (if mm.bg = true then st else -1) = NN := ⟨_, rfl⟩
                  have hNc : NN = st ∨ NN = -1 := by rw [← hNN]; split <;> simp
                  rw [hNN]
                  clear z1 z2 z3 hok2 hin hoo htt hmt hl hadd hfr hkk hg hgg hfz hNN
                  rcases hNc with hNc | hNc
                  all_goals
                    rw [hNc]
                    clear hNc
                    cases gB with
                    | false =>
                      as_aux_lemma =>
                      have r4 := HR4.out
                      have r6 := HR6.out
                      go_wp2_with fail
                      rw [X8.out]
                      exact HFin.out _ HN.out
                    | true =>
                      by_cases c1 : m.t + 1 < st
                      · have s1 : decide (m.t + 1 < st) = true := decide_eq_true c1
                        by_cases c2 : st < m2.t
                        · as_aux_lemma =>
                          have s2 : decide (st < m2.t) = true := decide_eq_true c2
                          have s3 : ((fz : Int) == 0) = false := beq_eq_false_iff_ne.2 (by have := HGG.out rfl (by omega); omega)
                          have r4 := HR4.out
                          have r6 := HR6.out
                          go_wp2_with fail
                          rw [X8.out]
                          exact HFin.out _ HN.out
                        · as_aux_lemma =>
                          have s2 : decide (st < m2.t) = false := decide_eq_false c2
                          have r4 := HR4.out
                          have r6 := HR6.out
                          go_wp2_with fail
                          rw [X8.out]
                          exact HFin.out _ HN.out
                      · have s1 : decide (m.t + 1 < st) = false := decide_eq_false c1
                        by_cases c2 : m.t + 1 < m2.t
                        · as_aux_lemma =>
                          have s2 : decide (m.t + 1 < m2.t) = true := decide_eq_true c2
                          have s3 : ((fz : Int) == 0) = false := beq_eq_false_iff_ne.2 (by have := HGG.out rfl (by omega); omega)
                          have r4 := HR4.out
                          have r6 := HR6.out
                          go_wp2_with fail
                          rw [X8.out]
                          exact HFin.out _ HN.out
                        · as_aux_lemma =>
                          have s2 : decide (m.t + 1 < m2.t) = false := decide_eq_false c2
                          have r4 := HR4.out
                          have r6 := HR6.out
                          go_wp2_with fail
                          rw [X8.out]
                          exact HFin.out _ HN.out
    · obtain rfl : i = n := by omega
      have HF2 := Lib.hid (HBel.out _ hk)
      clear hE hm hk hi hlt
      go_wp2_with fail
      go_ret
      exact ⟨rfl, HF2.out⟩
end Go.Proofs.Ytjmkbpgakfeceaa
