/-
  MeterStretch, walked. Conditions stand at each theorem. (Printed by gen_mtstretch.py.)
-/
import Derived.Test.YtjmkbpgakfeceaaMtExact
namespace Go.Proofs.Ytjmkbpgakfeceaa
open Go Go.RowKit Go.Kw Go.Kw.Mt Go.Joins Go.ChangeShapes Go.WideShapes Go.ChangeAt
set_option linter.unusedVariables false
set_option linter.unusedSimpArgs false

def zero_t50 : Value := .agg #[.slice none 0 0, .slice none 0 0]
/-- A list of pairs: address, length, capacity, pairs. -/
abbrev PX := Option Addr × Nat × Nat × (Nat → Nat × Nat)
theorem okWide_arr {P : Program} {w : World} {r : Reach} {base : Nat} {t e : TypeId} {n : Nat} {v : Value} (ht : P.underlying t = some (.array n e)) (h : Value.okWide P w r base t v) : ∃ cs, v = .agg cs ∧ cs.size = P.cellsOf t := by
  simp only [Value.okWide, ht] at h
  obtain ⟨cs, h1, h2, _⟩ := h
  exact ⟨cs, h1, h2⟩
set_option maxRecDepth 100000 in
theorem open_t50 {H : Type} {enc : TypeId × Value → H} {W : World} {base : Nat} {v : Value} {d : DataW H} {p : List MemPlace} (hv : Value.okWide Try.prog W .any base 50 v) (h : DataW.Trod enc Try.prog W 0 (fun _ => true) true 50 v d p) :
    ∃ x : PX × PX, v = .agg #[.slice x.1.1 x.1.2.1 x.1.2.2.1, .slice x.2.1 x.2.2.1 x.2.2.2.1] ∧ RdP W x.1.1 x.1.2.1 x.1.2.2.2 ∧ RdP W x.2.1 x.2.2.1 x.2.2.2.2 := by
  obtain ⟨cs, rfl, hsz⟩ := okWide_arr Try.underlying50 hv
  obtain ⟨fuel, hf⟩ := h
  have hc : Try.prog.cellsOf 32 = 1 := by kernel_rfl
  obtain ⟨c0, c1, rfl⟩ : ∃ c0 c1, cs = #[c0, c1] := by
    have h2 : cs.size = 2 := hsz.trans (by kernel_rfl)
    obtain ⟨l⟩ := cs
    match l, h2 with
    | [c0, c1], _ => exact ⟨c0, c1, rfl⟩
  obtain ⟨xs, m, rfl, hx, hl, hxl, hall⟩ := DataW.trod_array Try.underlying50 hf
  match xs, hxl with
  | [y0, y1], _ =>
    have t0 := hall 0 (by decide)
    have t1 := hall 1 (by decide)
    simp only [hc, Value.cells, List.drop, List.take, List.getElem?_cons_zero, List.getElem?_cons_succ, Nat.zero_mul, Nat.one_mul, Nat.mul_one] at t0 t1
    obtain ⟨A0, n0, k0, g0, e0, r0⟩ := open_irows (by omega) Try.underlying32 (show Try.prog.cellsOf 41 = 2 by kernel_rfl) (fun _ _ _ h => pair_cells h) t0
    obtain ⟨A1, n1, k1, g1, e1, r1⟩ := open_irows (by omega) Try.underlying32 (show Try.prog.cellsOf 41 = 2 by kernel_rfl) (fun _ _ _ h => pair_cells h) t1
    simp at e0 e1
    subst e0 e1
    exact ⟨((A0, n0, k0, _), (A1, n1, k1, _)), rfl, irows_rdP r0, irows_rdP r1⟩
theorem i64_and8 (a : Nat) (ha : a < 16) : bits .and .i64 (a : Int) 8 = ((a &&& 8 : Nat) : Int) := by
  have : a = 0 ∨ a = 1 ∨ a = 2 ∨ a = 3 ∨ a = 4 ∨ a = 5 ∨ a = 6 ∨ a = 7 ∨ a = 8 ∨ a = 9 ∨ a = 10 ∨ a = 11 ∨ a = 12 ∨ a = 13 ∨ a = 14 ∨ a = 15 := by omega
  rcases this with rfl | rfl | rfl | rfl | rfl | rfl | rfl | rfl | rfl | rfl | rfl | rfl | rfl | rfl | rfl | rfl <;> decide
/-- A round's numbers. -/
structure FwI (s : Stp) (m m2 : M) (E : List En) (i y : Nat) : Prop where
  ok2 : Ok s m2 (i + 2)
  bg : m2.bg = true
  sum : sumE E = (m2.fr - m2.k) - (m.fr - m.k)
  c : m2.c = m.c + (if y > s.bound then 0 else y)
  nn : ∀ x ∈ E, 0 ≤ x.en
theorem fw_round {s : Stp} {m : M} {i d y : Nat} (hs : s.Ok) (h : Ok s m (i + 1)) (hb : m.bg = true) (hy : y < 4294967296) {t2 : Int} (ht2 : m.t + (d : Int) % 60000 = t2) (h3 : t2 < 253402300800) {vv : Nat} (hvv : (m.v + y) % 4294967296 = vv) :
    ∃ E m2, sampleV s m t2 vv = (0, E, m2) ∧ FwI s m m2 E i y ∧ m2.t = t2 ∧ m2.v = vv := by
  obtain ⟨E, m2, hf⟩ := sample_fwd hs h hb (t2 := t2) (by omega) (by omega) h3 vv
  have hok2 := sample_ok hs h t2 (v := vv) (by omega)
  have hnn := en_nonneg hs h t2 vv
  rw [hf.v] at hok2 hnn
  have hdv : difV m vv = y := by rw [← hvv]; exact dif_add h.v hy
  refine ⟨E, m2, hf.v, ⟨hok2, hf.bg, hf.sum, ?_, hnn⟩, hf.t, hf.vv⟩
  have hc := hf.c
  unfold smD at hc
  rw [hdv] at hc
  exact hc

set_option maxRecDepth 100000 in
set_option maxHeartbeats 64000000 in
theorem meterStretch_walk (v0 : Value) (x0 : SetX) (v1 : Value) (x1 : PX × PX) (a2 : Int) (w : World) (w0 : v0 = x0.v ∧ x0.Ok) (w1 : v1 = .agg #[.slice x1.1.1 x1.1.2.1 x1.1.2.2.1, .slice x1.2.1 x1.2.2.1 x1.2.2.2.1] ∧ RdP w x1.1.1 x1.1.2.1 x1.1.2.2.2 ∧ RdP w x1.2.1 x1.2.2.1 x1.2.2.2.2) (w2 : (Lit.int .u32 a2).wf = true) :
    Calls Try.prog 5 #[v0, v1, .int .u32 a2] w fun e w' => e = .returned (.bool true) ∧ Below w.heap.size w w' := by
  obtain ⟨num, den, bound, gap, len⟩ := x0
  obtain ⟨⟨A, n, c, g⟩, ⟨A', n', c', g'⟩⟩ := x1
  obtain ⟨rfl, hx⟩ := w0
  obtain ⟨rfl, hl, hl'⟩ := w1
  have hb1 := Go.bounds_u32 w2
  obtain ⟨v, rfl⟩ := Int.eq_ofNat_of_zero_le hb1.1
  have hv : v < 4294967296 := by omega
  obtain ⟨s, hs⟩ : ∃ s, fineS num den bound gap len = s := ⟨_, rfl⟩
  have hms : MayS s := hs ▸ fine_may num den bound gap len hx.bound hx.gap.2
  have hsb : s.bound = bound := by rw [← hs]; rfl
  have hF : ∀ W, Calls Try.prog 12 #[.agg #[.int .u64 (num : Int), .int .u64 (den : Int), .int .u32 (bound : Int), .int .i64 gap, .int .i64 len]] W fun e w' => e = .returned (.agg #[.int .u64 (s.num : Int), .int .u64 (s.den : Int), .int .u32 (s.bound : Int), .int .i64 s.gap, .int .i64 s.len]) ∧ Below W.heap.size W w' := fun W => by
    have h := fine_calls W num den bound gap len hx.num hx.den hx.bound hx.gap
    rw [hs] at h
    rw [hsb]
    exact h
  have HF := Lib.hid hF
  have HS := Lib.hid (And.intro hms hv)
  obtain ⟨b3, hb3⟩ : ∃ b3, w.heap.size = b3 := ⟨_, rfl⟩
  obtain ⟨wa, hwa⟩ : ∃ x, (w.alloc (.cells #[.int .u64 (num : Int), .int .u64 (den : Int), .int .u32 (bound : Int), .int .i64 gap, .int .i64 len] 25)).alloc (.cells #[.slice A n c, .slice A' n' c'] 50) = x := ⟨_, rfl⟩
  have hst : Below w.heap.size w wa := hwa ▸ bnext (bstep w _) (bstep _ _)
  have hr : wa.heap[b3]? = some (.cells #[.int .u64 (num : Int), .int .u64 (den : Int), .int .u32 (bound : Int), .int .i64 gap, .int .i64 len] 25 (0, 0)) := by rw [← hb3, ← hwa]; exact blk_below (blk_new w _ _) (bstep _ _)
  have hr4 : wa.heap[b3 + 1]? = some (.cells #[.slice A n c, .slice A' n' c'] 50 (0, 0)) := by
    have := blk_new (w.alloc (.cells #[.int .u64 (num : Int), .int .u64 (den : Int), .int .u32 (bound : Int), .int .i64 gap, .int .i64 len] 25)) #[.slice A n c, .slice A' n' c'] 50
    rw [hwa, World.size_alloc, hb3] at this
    exact this
  have H1 := Lib.hid (And.intro hst (And.intro hr hr4))
  have HL := Lib.hid (And.intro hl hl')
  have Hb3 := Lib.hid hb3
  show Calls Try.prog 5 #[.agg #[.int .u64 (num : Int), .int .u64 (den : Int), .int .u32 (bound : Int), .int .i64 gap, .int .i64 len], .agg #[.slice A n c, .slice A' n' c'], .int .u32 (v : Int)] w _
  clear hx hl hl' hb1 hv w2 hs hms hsb hF hst hr hr4
  go_enter Try.func5, Try.ntmps5
  go_wp2_with fail
  clear hwa hb3
  refine (alive_calls wa).mono ?_
  rintro e w1 ⟨rfl, hb1⟩
  have H2 := Lib.hid (And.intro (bnext H1.out.1 hb1) (And.intro (blk_below H1.out.2.1 hb1) (blk_below H1.out.2.2 hb1)))
  clear hb1
  have l0 : w1.cell? ⟨b3 + 1, 0, none⟩ = some (.slice A n c) := blk_cell H2.out.2.2 0 rfl
  have l1 : w1.cell? ⟨b3 + 1, 1, none⟩ = some (.slice A' n' c') := blk_cell H2.out.2.2 1 rfl
  by_cases hn : (n : Int) > 50
  · have k0 : decide ((n : Int) > 50) = true := decide_eq_true hn
    clear hn
    go_wp2_with fail
    go_ret
    exact ⟨rfl, by rw [Hb3.out]; exact Hb3.out ▸ H2.out.1⟩
  have k0 : decide ((n : Int) > 50) = false := decide_eq_false hn
  by_cases hn2 : (n' : Int) > 50
  · have k1 : decide ((n' : Int) > 50) = true := decide_eq_true hn2
    clear hn hn2
    go_wp2_with fail
    go_ret
    exact ⟨rfl, by rw [Hb3.out]; exact Hb3.out ▸ H2.out.1⟩
  have k1 : decide ((n' : Int) > 50) = false := decide_eq_false hn2
  have Hn := Lib.hid (show n ≤ 50 ∧ n' ≤ 50 by omega)
  have q0 : w1.cell? ⟨b3, 0, none⟩ = some (.int .u64 (num : Int)) := blk_cell H2.out.2.1 0 rfl
  have q1 : w1.cell? ⟨b3, 1, none⟩ = some (.int .u64 (den : Int)) := blk_cell H2.out.2.1 1 rfl
  have q2 : w1.cell? ⟨b3, 2, none⟩ = some (.int .u32 (bound : Int)) := blk_cell H2.out.2.1 2 rfl
  have q3 : w1.cell? ⟨b3, 3, none⟩ = some (.int .i64 gap) := blk_cell H2.out.2.1 3 rfl
  have q4 : w1.cell? ⟨b3, 4, none⟩ = some (.int .i64 len) := blk_cell H2.out.2.1 4 rfl
  clear hn hn2
  go_wp2_with fail
  refine (HF.out _).mono ?_
  rintro e w2 ⟨rfl, hb2⟩
  clear q0 q1 q2 q3 q4 l0 l1
  obtain ⟨w3, hw3⟩ : ∃ x, w2.setRow b3 #[.int .u64 (s.num : Int), .int .u64 (s.den : Int), .int .u32 (s.bound : Int), .int .i64 s.gap, .int .i64 s.len] = x := ⟨_, rfl⟩
  have HZ := Lib.hid (blk_below H2.out.2.1 hb2)
  have HI2 := Lib.hid (show (Try.prog.info? 25).map (·.size) = some (#[Value.int .u64 (s.num : Int), .int .u64 (s.den : Int), .int .u32 (s.bound : Int), .int .i64 s.gap, .int .i64 s.len]).size from eSetS)
  have hr3 : w3.heap[b3]? = some (.cells #[.int .u64 (s.num : Int), .int .u64 (s.den : Int), .int .u32 (s.bound : Int), .int .i64 s.gap, .int .i64 s.len] 25 (0, 0)) := by rw [← hw3]; exact setRow_heap _ _ _ _ _ _ HZ.out
  have hr4 : w3.heap[b3 + 1]? = some (.cells #[.slice A n c, .slice A' n' c'] 50 (0, 0)) := by rw [← hw3]; exact (setRow_other _ _ _ _ (by omega)).trans (blk_below H2.out.2.2 hb2)
  have H3 := Lib.hid (And.intro (show Below w.heap.size w w3 by rw [← hw3]; exact belowSetRow (bnext H2.out.1 hb2) (by rw [Hb3.out]; exact Nat.le_refl _) _) (And.intro hr3 (And.intro hr4 (blk_lt hr4))))
  have HW3 := Lib.hid hw3
  clear hb2 hr3 hr4 hw3
  go_wp2_with (first | (refine' wpList_store_row rfl _ _ _ rfl _ _ rfl rfl _ _ HZ.out HI2.out rfl (by simp [Value.oneCell']) ?_; rw [HW3.out]; have q0 : w3.cell? ⟨b3, 0, none⟩ = some (.int .u64 (s.num : Int)) := blk_cell H3.out.2.1 0 rfl; have q1 : w3.cell? ⟨b3, 1, none⟩ = some (.int .u64 (s.den : Int)) := blk_cell H3.out.2.1 1 rfl; have q2 : w3.cell? ⟨b3, 2, none⟩ = some (.int .u32 (s.bound : Int)) := blk_cell H3.out.2.1 2 rfl; have q3 : w3.cell? ⟨b3, 3, none⟩ = some (.int .i64 s.gap) := blk_cell H3.out.2.1 3 rfl; have q4 : w3.cell? ⟨b3, 4, none⟩ = some (.int .i64 s.len) := blk_cell H3.out.2.1 4 rfl))
  refine (mnew_calls w3 0 s HS.out.1 (by decide)).mono ?_
  rintro e w4 ⟨b, rfl, hbb, hm, hb4⟩
  have H4 := Lib.hid (And.intro hm (And.intro hbb (And.intro (bnext H3.out.1 hb4) (And.intro (blk_below H3.out.2.1 hb4) (blk_below H3.out.2.2.1 hb4)))))
  clear hm hbb hb4 q0 q1 q2 q3 q4 HW3 HZ HI2 k0 k1
  go_wp2_with fail
  have hc := mSample_calls w4 b 0 s zeroM 0 HS.out.1 (zero_ok HS.out.1.ok) (by decide) H4.out.1 1000000 7 (by decide)
  rw [sample_first s 1000000 7 (by unfold timeBad; omega)] at hc
  refine hc.mono ?_
  clear hc
  rintro e w5 ⟨A5, k5, c5, rfl, -, hm5, hk5, -⟩
  have hlb : b3 + 1 < b := by have := H3.out.2.2.2; have := H4.out.2.1; omega
  have H5 := Lib.hid (And.intro hm5 (And.intro (below_kept H4.out.2.2.1 hk5 (by rw [Hb3.out]; omega) (Nat.le_refl _)) (And.intro (heap_kept hk5 H4.out.2.2.2.1 (show b3 ≠ b by omega)) (And.intro (heap_kept hk5 H4.out.2.2.2.2 (show b3 + 1 ≠ b by omega)) hlb))))
  clear hm5 hk5 hlb
  have l0 : w5.cell? ⟨b3 + 1, 0, none⟩ = some (.slice A n c) := blk_cell H5.out.2.2.2.1 0 rfl
  go_wp2_with fail
  clear l0
  have HBel := Lib.hid (show ∀ Y, Kept (fun x => x ≠ b) w5 Y → Below w.heap.size w Y from fun Y hY => below_kept H5.out.2.1 hY (by have := H5.out.2.2.2.2; have := Hb3.out; omega) (Nat.le_refl _))
  have Hok0 := Lib.hid (show ExI s (beginM s 1000000 7) 0 from ⟨begin_ok HS.out.1.ok (by unfold timeBad; omega) (by decide), rfl, by show (1000000 : Int) ≤ 1000000; omega, by show (1000000 : Int) ≤ 1000000 + _; omega⟩)
  go_loopw [10, 11, 65] (fun s10 s11 iv wr => ∃ (i : Nat) (m : M), i ≤ n ∧ iv = .int .i64 i ∧ ExI s m i ∧ s11 = .int .u32 (m.v : Int) ∧ s10 = .int .i64 m.t ∧ MtB wr b 0 s m ∧ Kept (fun x => x ≠ b) w5 wr) (fun _ _ iv _ => n - (intOf iv).toNat)
  case atStart => exact ⟨0, beginM s 1000000 7, by omega, rfl, Hok0.out, rfl, rfl, H5.out.1, Kept.refl _ _⟩
  case round =>
    obtain ⟨i, m, hi, rfl, hE, rfl, rfl, hm, hk⟩ := hrel
    obtain ⟨wo, rfl⟩ : ∃ wo : World, wo = wr := ⟨_, rfl⟩
    by_cases hlt : i < n
    · have hI : (i : Int) < (n : Int) := by omega
      have hi0 : (0 : Int) ≤ (i : Int) := by omega
      obtain ⟨hd1, hy1, lb, lo, rfl, hlb, c0, c1⟩ := (HL.out.1.go (HBel.out _ hk)).2 i hlt
      obtain ⟨d, hd⟩ : ∃ d, (g i).1 = d := ⟨_, rfl⟩
      obtain ⟨y, hy⟩ : ∃ y, (g i).2 = y := ⟨_, rfl⟩
      rw [hd] at hd1 c0
      rw [hy] at hy1 c1
      have hn100 := Hn.out.1
      obtain ⟨t2, ht2⟩ : ∃ t2, m.t + (d : Int) % 60000 = t2 := ⟨_, rfl⟩
      obtain ⟨vv, hvv⟩ : ∃ vv, (m.v + y) % 4294967296 = vv := ⟨_, rfl⟩
      have hmt := hE.2.2
      have hmti : (i : Int) * 59999 ≤ 100 * 59999 := Int.mul_le_mul_of_nonneg_right (by omega) (by omega)
      obtain ⟨E, m2, hf, hfw, hf2, hf3⟩ := fw_round HS.out.1.ok hE.1 hE.2.1 hy1 ht2 (by omega) hvv
      obtain ⟨bx, hbx⟩ : ∃ bx, wo.heap.size = bx := ⟨_, rfl⟩
      obtain ⟨wx, hwx⟩ : ∃ x, wo.alloc (.cells #[.int .u32 (d : Int), .int .u32 (y : Int)] 41) = x := ⟨_, rfl⟩
      have hstx : Below wo.heap.size wo wx := hwx ▸ bstep wo _
      have hrx : wx.heap[bx]? = some (.cells #[.int .u32 (d : Int), .int .u32 (y : Int)] 41 (0, 0)) := by rw [← hbx, ← hwx]; exact blk_new wo _ _
      have hcalls := mSample_calls wx.drew b 0 s m (i + 1) HS.out.1 hE.1 (by omega) (show MtB wx.drew b 0 s m from (show MtB wx b 0 s m from hm.go hstx)) t2 vv (by omega)
      rw [hf] at hcalls
      have HC := Lib.hid hcalls
      have HSx := Lib.hid (show wx.drew.cell? ⟨bx, 0, none⟩ = some (.int .u32 (d : Int)) ∧ wx.drew.cell? ⟨bx, 1, none⟩ = some (.int .u32 (y : Int)) from ⟨blk_cell (show wx.drew.heap[bx]? = _ from hrx) 0 rfl, blk_cell (show wx.drew.heap[bx]? = _ from hrx) 1 rfl⟩)
      have HR := Lib.hid (show Kept (fun x => x ≠ b) w5 wx.drew from (hk.trans (hstx.keptS _)).drew)
      have HE2 := Lib.hid (show ExI s m2 (i + 1) ∧ m2.t = t2 ∧ m2.v = vv from ⟨⟨hfw.ok2, hfw.bg, by omega, by push_cast; omega⟩, hf2, hf3⟩)
      have X1 := Lib.hid (show IntKind.i64.wrap (m.t + IntKind.i64.wrap ((d : Int).tmod 60000)) = t2 by rw [Int.tmod_eq_emod_of_nonneg (by omega), wrapI_at ((d : Int) % 60000) (by omega), ht2]; exact wrapI_at _ (by omega))
      have X3 := Lib.hid (show IntKind.u32.wrap ((m.v : Int) + (y : Int)) = (vv : Int) by rw [IntKind.wrap_u32]; omega)
      have X8 := Lib.hid (wrap64_at ((i : Int) + 1) (by omega))
      have Hlt := Lib.hid hlt
      clear hE hmt hmti hf hfw hf2 hf3 hstx hrx hcalls hd1 hy1 hvv ht2 hlt hi hm hk hlb hn100
      go_upto_region 13 with fail
      clear hwx hbx c0 c1
      refine wp_region_held_drew (S := (fun Y => Y.cell? ⟨bx, 0, none⟩ = some (.int .u32 (d : Int)) ∧ Y.cell? ⟨bx, 1, none⟩ = some (.int .u32 (y : Int)))) (by kernel_rfl) HSx.out (fun hHeld => ?_)
      refine wpAnyH_take (i := 0) (v := ?_) rfl (by kernel_rfl) (by kernel_rfl) (by kernel_rfl) (fun _ _ _ h => h) (Or.inl ⟨by kernel_rfl, ?_⟩) (by assumption) ?_
      rotate_left
      · intro w hSw; (try dsimp only at hSw); go_simp; try with_reducible rfl
      simp only [Act.put, List.getElem_toArray, List.getElem_cons_succ, List.getElem_cons_zero, List.setIfInBounds_toArray, List.set_cons_zero, List.set_cons_succ]
      refine wpAnyH_take (i := 1) (v := ?_) rfl (by kernel_rfl) (by kernel_rfl) (by kernel_rfl) (fun _ _ _ h => h) (Or.inl ⟨by kernel_rfl, ?_⟩) (by assumption) ?_
      rotate_left
      · intro w hSw; (try dsimp only at hSw); go_simp; try with_reducible rfl
      simp only [Act.put, List.getElem_toArray, List.getElem_cons_succ, List.getElem_cons_zero, List.setIfInBounds_toArray, List.set_cons_zero, List.set_cons_succ]
      refine wpAnyH_take (i := 2) (v := ?_) rfl (by kernel_rfl) (by kernel_rfl) (by kernel_rfl) (fun _ _ _ h => h) (Or.inl ⟨by kernel_rfl, ?_⟩) (by assumption) ?_
      rotate_left
      · intro w hSw; (try dsimp only at hSw); go_simp; try with_reducible rfl
      simp only [Act.put, List.getElem_toArray, List.getElem_cons_succ, List.getElem_cons_zero, List.setIfInBounds_toArray, List.set_cons_zero, List.set_cons_succ]
      refine wpAnyH_take (i := 3) (v := ?_) rfl (by kernel_rfl) (by kernel_rfl) (by kernel_rfl) (fun _ _ _ h => h) (Or.inl ⟨by kernel_rfl, ?_⟩) (by assumption) ?_
      rotate_left
      · intro w hSw; (try dsimp only at hSw); go_simp; try with_reducible rfl
      simp only [Act.put, List.getElem_toArray, List.getElem_cons_succ, List.getElem_cons_zero, List.setIfInBounds_toArray, List.set_cons_zero, List.set_cons_succ]
      refine wpAnyH_take (i := 4) (v := ?_) rfl (by kernel_rfl) (by kernel_rfl) (by kernel_rfl) (fun _ _ _ h => h) (Or.inl ⟨by kernel_rfl, ?_⟩) (by assumption) ?_
      rotate_left
      · intro w hSw; (try dsimp only at hSw); go_simp; try with_reducible rfl
      simp only [Act.put, List.getElem_toArray, List.getElem_cons_succ, List.getElem_cons_zero, List.setIfInBounds_toArray, List.set_cons_zero, List.set_cons_succ]
      refine wpAnyH_take (i := 5) (v := .int .i64 t2) rfl (by kernel_rfl) (by kernel_rfl) (by kernel_rfl) (fun _ _ _ h => h) (Or.inl ⟨by kernel_rfl, ?_⟩) (by assumption) ?_
      · intro w hSw; (try dsimp only at hSw)
        have x1 := X1.out; go_simp
      simp only [Act.put, List.getElem_toArray, List.getElem_cons_succ, List.getElem_cons_zero, List.setIfInBounds_toArray, List.set_cons_zero, List.set_cons_succ]
      refine wpAnyH_take (i := 6) (v := ?_) rfl (by kernel_rfl) (by kernel_rfl) (by kernel_rfl) (fun _ _ _ h => h) (Or.inl ⟨by kernel_rfl, ?_⟩) (by assumption) ?_
      rotate_left
      · intro w hSw; (try dsimp only at hSw); go_simp; try with_reducible rfl
      simp only [Act.put, List.getElem_toArray, List.getElem_cons_succ, List.getElem_cons_zero, List.setIfInBounds_toArray, List.set_cons_zero, List.set_cons_succ]
      refine wpAnyH_take (i := 7) (v := ?_) rfl (by kernel_rfl) (by kernel_rfl) (by kernel_rfl) (fun _ _ _ h => h) (Or.inl ⟨by kernel_rfl, ?_⟩) (by assumption) ?_
      rotate_left
      · intro w hSw; (try dsimp only at hSw); go_simp; try with_reducible rfl
      simp only [Act.put, List.getElem_toArray, List.getElem_cons_succ, List.getElem_cons_zero, List.setIfInBounds_toArray, List.set_cons_zero, List.set_cons_succ]
      refine wpAnyH_take (i := 8) (v := ?_) rfl (by kernel_rfl) (by kernel_rfl) (by kernel_rfl) (fun _ _ _ h => h) (Or.inl ⟨by kernel_rfl, ?_⟩) (by assumption) ?_
      rotate_left
      · intro w hSw; (try dsimp only at hSw); go_simp; try with_reducible rfl
      simp only [Act.put, List.getElem_toArray, List.getElem_cons_succ, List.getElem_cons_zero, List.setIfInBounds_toArray, List.set_cons_zero, List.set_cons_succ]
      refine wpAnyH_take (i := 9) (v := .int .u32 (vv : Int)) rfl (by kernel_rfl) (by kernel_rfl) (by kernel_rfl) (fun _ _ _ h => h) (Or.inl ⟨by kernel_rfl, ?_⟩) (by assumption) ?_
      · intro w hSw; (try dsimp only at hSw)
        have x3 := X3.out; go_simp
      simp only [Act.put, List.getElem_toArray, List.getElem_cons_succ, List.getElem_cons_zero, List.setIfInBounds_toArray, List.set_cons_zero, List.set_cons_succ]
      refine wpAnyH_take (i := 10) (v := ?_) rfl (by kernel_rfl) (by kernel_rfl) (by kernel_rfl) (fun _ _ _ h => h) (Or.inl ⟨by kernel_rfl, ?_⟩) (by assumption) ?_
      rotate_left
      · intro w hSw; (try dsimp only at hSw); go_simp; try with_reducible rfl
      simp only [Act.put, List.getElem_toArray, List.getElem_cons_succ, List.getElem_cons_zero, List.setIfInBounds_toArray, List.set_cons_zero, List.set_cons_succ]
      refine wpAnyH_take (i := 11) (v := ?_) rfl (by kernel_rfl) (by kernel_rfl) (by kernel_rfl) (fun _ _ _ h => h) (Or.inl ⟨by kernel_rfl, ?_⟩) (by assumption) ?_
      rotate_left
      · intro w hSw; (try dsimp only at hSw); go_simp; try with_reducible rfl
      simp only [Act.put, List.getElem_toArray, List.getElem_cons_succ, List.getElem_cons_zero, List.setIfInBounds_toArray, List.set_cons_zero, List.set_cons_succ]
      refine wpAnyH_done (by kernel_rfl) ?_ _
      clear hHeld
      go_wp2_with fail
      refine HC.out.mono ?_
      rintro e w6 ⟨A6, k6, c6, rfl, -, hm6, hk6, -⟩
      have H6 := Lib.hid (And.intro hm6 (HR.out.trans hk6))
      clear hm6 hk6
      go_wp2_with fail
      rw [X8.out]
      exact ⟨⟨i + 1, m2, Hlt.out, by push_cast; rfl, HE2.out.1, by rw [HE2.out.2.2], by rw [HE2.out.2.1], H6.out.1, H6.out.2⟩, by have := Hlt.out; simp [intOf]; omega⟩
    · obtain rfl : i = n := by omega
      have hn100 := Hn.out
      have hmti : (i : Int) * 59999 ≤ 50 * 59999 := Int.mul_le_mul_of_nonneg_right (by omega) (by omega)
      have hmt := hE.2.2
      obtain ⟨t1, ht1⟩ : ∃ t1, m.t + 60 = t1 := ⟨_, rfl⟩
      obtain ⟨E1, m1, hf, hbg1, hft, hfv, hfc, hffr, hf8⟩ := repl_fwd HS.out.1.ok hE.1 hE.2.1 (t2 := t1) (by omega) (by omega) (by omega) v
      have hok1 := repl_ok HS.out.1.ok hE.1 t1 (v := v) HS.out.2
      have hcalls := mReplace_calls wo b 0 s m (i + 1) HS.out.1 hE.1 (by omega) hm t1 v HS.out.2
      rw [hf] at hcalls hok1
      have HC := Lib.hid hcalls
      have X1 := Lib.hid (show wrap64 (m.t + 60) = t1 by rw [ht1]; exact wrap64_at _ (by omega))
      have H1' := Lib.hid (show Ok s m1 (i + 2) ∧ m1.bg = true ∧ m1.t = t1 ∧ m1.v = v ∧ m1.c = 0 ∧ m1.fr = 0 ∧ m1.f &&& 8 ≠ 0 ∧ (1000000 ≤ t1 ∧ t1 ≤ 5000000) ∧ Kept (fun x => x ≠ b) w5 wo from ⟨hok1, hbg1, hft, hfv, hfc, hffr, hf8, by omega, hk⟩)
      clear hn100 hmti hmt ht1 hf hbg1 hft hfv hfc hffr hf8 hok1 hcalls hE hm hk hi hlt
      go_wp2_with fail
      rw [X1.out]
      refine HC.out.mono ?_
      rintro e w6 ⟨A6, k6, c6, rfl, -, hm6, hk6, -⟩
      have H6 := Lib.hid (And.intro hm6 (H1'.out.2.2.2.2.2.2.2.2.trans hk6))
      clear hm6 hk6
      have hop := mopen_ok w6 b 0 s m1 (i + 2) HS.out.1 H1'.out.1 (by have := Hn.out; omega) H6.out.1 H1'.out.2.1
      obtain ⟨K0, hK0⟩ : ∃ K0, m1.k + (eng s m1.c : Int) - m1.fr = K0 := ⟨_, rfl⟩
      have HK0 := Lib.hid (show K0 = m1.k by rw [← hK0, H1'.out.2.2.2.2.1, H1'.out.2.2.2.2.2.1]; have : eng s 0 = 0 := by unfold eng; simp
                                             rw [this]; show m1.k + 0 - 0 = m1.k; omega)
      rw [hK0] at hop
      have HO := Lib.hid hop
      clear hop hK0
      go_wp2_with fail
      refine HO.out.mono ?_
      rintro e w7 ⟨rfl, hb7⟩
      have H7 := Lib.hid (And.intro (H6.out.1.go hb7) (H6.out.2.trans (hb7.keptS _)))
      clear hb7
      have r7 : bits .and .i64 (m1.f : Int) 8 = ((m1.f &&& 8 : Nat) : Int) := i64_and8 _ H1'.out.1.f
      obtain ⟨fz, hfz⟩ : ∃ fz : Nat, m1.f &&& 8 = fz := ⟨_, rfl⟩
      rw [hfz] at r7
      have s3 : ((fz : Int) == 0) = false := beq_eq_false_iff_ne.2 (by have := H1'.out.2.2.2.2.2.2.1; rw [hfz] at this; omega)
      have hcc := mcounts_calls w7 b 0 s m1 HS.out.1 H7.out.1
      rw [H1'.out.2.2.2.2.1] at hcc
      have HCc := Lib.hid hcc
      clear hfz hcc
      go_wp2_with fail
      refine HCc.out.mono ?_
      rintro e w8 ⟨rfl, hb8⟩
      have H8 := Lib.hid (And.intro (H7.out.1.go hb8) (H7.out.2.trans (hb8.keptS _)))
      clear hb8 r7 s3
      have l1 : w8.cell? ⟨b3 + 1, 1, none⟩ = some (.slice A' n' c') := blk_cell (heap_kept H8.out.2 H5.out.2.2.2.1 (show b3 + 1 ≠ b by have := H5.out.2.2.2.2; omega)) 1 rfl
      go_wp2_with fail
      clear l1
      have HBl2 := Lib.hid (show ∀ Y, Kept (fun x => x ≠ b) w8 Y → Below w.heap.size w Y from fun Y hY => HBel.out Y (H8.out.2.trans hY))
      have HBx2 := Lib.hid (show ∀ Y, Kept (fun x => x ≠ b) w8 Y → Y.heap[b3]? = some (.cells #[.int .u64 (s.num : Int), .int .u64 (s.den : Int), .int .u32 (s.bound : Int), .int .i64 s.gap, .int .i64 s.len] 25 (0, 0)) from fun Y hY => heap_kept (H8.out.2.trans hY) H5.out.2.2.1 (by have := H5.out.2.2.2.2; omega))
      have HK1 := Lib.hid (show 0 ≤ K0 ∧ K0 ≤ 1801439850948198400 by have h1 := told_in H1'.out.1 (by have := Hn.out; omega); have h2 := HK0.out; omega)
      go_loopw [2, 10, 20, 21, 115] (fun s2 s10 s20 s21 iv wr => ∃ (j : Nat) (m : M), j ≤ n' ∧ iv = .int .i64 j ∧ (Ok s m (i + j + 2) ∧ m.bg = true ∧ 1000000 ≤ m.t ∧ m.t ≤ 5000000 + (j : Int) * 59999) ∧ s2 = .int .u32 (m.v : Int) ∧ s10 = .int .i64 m.t ∧ s20 = .int .u64 (m.c : Int) ∧ s21 = .int .i64 (m.fr - m.k + K0) ∧ MtB wr b 0 s m ∧ Kept (fun x => x ≠ b) w8 wr) (fun _ _ _ _ iv _ => n' - (intOf iv).toNat)
      case atStart => exact ⟨0, m1, by omega, rfl, ⟨H1'.out.1, H1'.out.2.1, by rw [H1'.out.2.2.1]; exact H1'.out.2.2.2.2.2.2.2.1.1, by rw [H1'.out.2.2.1]; have := H1'.out.2.2.2.2.2.2.2.1.2; omega⟩, by rw [H1'.out.2.2.2.1], by rw [H1'.out.2.2.1], by rw [H1'.out.2.2.2.2.1]; rfl, congrArg (Value.int .i64) (by rw [H1'.out.2.2.2.2.2.1, HK0.out]; omega), H8.out.1, Kept.refl _ _⟩
      case round =>
        obtain ⟨j, m, hj, rfl, hE, rfl, rfl, rfl, rfl, hm, hk⟩ := hrel
        obtain ⟨wo2, rfl⟩ : ∃ wo : World, wo = wr := ⟨_, rfl⟩
        by_cases hlt : j < n'
        · have hI : (j : Int) < (n' : Int) := by omega
          have hi0 : (0 : Int) ≤ (j : Int) := by omega
          obtain ⟨hd1, hy1, lb, lo, rfl, hlb, c0, c1⟩ := (HL.out.2.go (HBl2.out _ hk)).2 j hlt
          obtain ⟨d, hd⟩ : ∃ d, (g' j).1 = d := ⟨_, rfl⟩
          obtain ⟨y, hy⟩ : ∃ y, (g' j).2 = y := ⟨_, rfl⟩
          rw [hd] at hd1 c0
          rw [hy] at hy1 c1
          have hn100 := Hn.out
          obtain ⟨t2, ht2⟩ : ∃ t2, m.t + (d : Int) % 60000 = t2 := ⟨_, rfl⟩
          obtain ⟨vv, hvv⟩ : ∃ vv, (m.v + y) % 4294967296 = vv := ⟨_, rfl⟩
          have hmt := hE.2.2
          have hmti : (j : Int) * 59999 ≤ 100 * 59999 := Int.mul_le_mul_of_nonneg_right (by omega) (by omega)
          obtain ⟨E, m2, hf, hfw, hf2, hf3⟩ := fw_round (i := i + j + 1) HS.out.1.ok hE.1 hE.2.1 hy1 ht2 (by omega) hvv
          obtain ⟨bx, hbx⟩ : ∃ bx, wo2.heap.size = bx := ⟨_, rfl⟩
          obtain ⟨wx, hwx⟩ : ∃ x, wo2.alloc (.cells #[.int .u32 (d : Int), .int .u32 (y : Int)] 41) = x := ⟨_, rfl⟩
          have hstx : Below wo2.heap.size wo2 wx := hwx ▸ bstep wo2 _
          have hrx : wx.heap[bx]? = some (.cells #[.int .u32 (d : Int), .int .u32 (y : Int)] 41 (0, 0)) := by rw [← hbx, ← hwx]; exact blk_new wo2 _ _
          have hcalls := mSample_calls wx.drew b 0 s m (i + j + 2) HS.out.1 hE.1 (by omega) (show MtB wx.drew b 0 s m from (show MtB wx b 0 s m from hm.go hstx)) t2 vv (by omega)
          rw [hf] at hcalls
          have HC := Lib.hid hcalls
          have hbb : bx ≠ b := by have := hm.lt; omega
          have HSx := Lib.hid (show ∀ Y, Kept (fun x => x ≠ b) wx Y → (Y.cell? ⟨bx, 0, none⟩ = some (.int .u32 (d : Int)) ∧ Y.cell? ⟨bx, 1, none⟩ = some (.int .u32 (y : Int))) from fun Y hY => ⟨blk_cell (heap_kept hY hrx hbb) 0 rfl, blk_cell (heap_kept hY hrx hbb) 1 rfl⟩)
          have HR := Lib.hid (show Kept (fun x => x ≠ b) w8 wx from hk.trans (hstx.keptS _))
          have HE2 := Lib.hid (show (Ok s m2 (i + (j + 1) + 2) ∧ m2.bg = true ∧ 1000000 ≤ m2.t ∧ m2.t ≤ 5000000 + ((j + 1 : Nat) : Int) * 59999) ∧ m2.t = t2 ∧ m2.v = vv from ⟨⟨hfw.ok2.mono (by omega), hfw.bg, by omega, by push_cast; omega⟩, hf2, hf3⟩)
          have HFw := Lib.hid (And.intro hfw (And.intro hE.1 hy1))
          have X1 := Lib.hid (show IntKind.i64.wrap (m.t + IntKind.i64.wrap ((d : Int).tmod 60000)) = t2 by rw [Int.tmod_eq_emod_of_nonneg (by omega), wrapI_at ((d : Int) % 60000) (by omega), ht2]; exact wrapI_at _ (by omega))
          have X3 := Lib.hid (show IntKind.u32.wrap ((m.v : Int) + (y : Int)) = (vv : Int) by rw [IntKind.wrap_u32]; omega)
          have X8 := Lib.hid (wrap64_at ((j : Int) + 1) (by omega))
          have Hlt := Lib.hid hlt
          clear hE hmt hmti hf hfw hf2 hf3 hstx hrx hcalls hd1 hy1 hvv ht2 hlt hj hm hk hlb hn100 hbb
          go_upto_region 25 with fail
          clear hwx hbx c0 c1
          refine wp_region_held_drew (S := (fun Y => Y.cell? ⟨bx, 0, none⟩ = some (.int .u32 (d : Int)) ∧ Y.cell? ⟨bx, 1, none⟩ = some (.int .u32 (y : Int)))) (by kernel_rfl) (HSx.out _ (Kept.refl _ wx).drew) (fun hHeld => ?_)
          refine wpAnyH_take (i := 0) (v := ?_) rfl (by kernel_rfl) (by kernel_rfl) (by kernel_rfl) (fun _ _ _ h => h) (Or.inl ⟨by kernel_rfl, ?_⟩) (by assumption) ?_
          rotate_left
          · intro w hSw; (try dsimp only at hSw); go_simp; try with_reducible rfl
          simp only [Act.put, List.getElem_toArray, List.getElem_cons_succ, List.getElem_cons_zero, List.setIfInBounds_toArray, List.set_cons_zero, List.set_cons_succ]
          refine wpAnyH_take (i := 1) (v := ?_) rfl (by kernel_rfl) (by kernel_rfl) (by kernel_rfl) (fun _ _ _ h => h) (Or.inl ⟨by kernel_rfl, ?_⟩) (by assumption) ?_
          rotate_left
          · intro w hSw; (try dsimp only at hSw); go_simp; try with_reducible rfl
          simp only [Act.put, List.getElem_toArray, List.getElem_cons_succ, List.getElem_cons_zero, List.setIfInBounds_toArray, List.set_cons_zero, List.set_cons_succ]
          refine wpAnyH_take (i := 2) (v := ?_) rfl (by kernel_rfl) (by kernel_rfl) (by kernel_rfl) (fun _ _ _ h => h) (Or.inl ⟨by kernel_rfl, ?_⟩) (by assumption) ?_
          rotate_left
          · intro w hSw; (try dsimp only at hSw); go_simp; try with_reducible rfl
          simp only [Act.put, List.getElem_toArray, List.getElem_cons_succ, List.getElem_cons_zero, List.setIfInBounds_toArray, List.set_cons_zero, List.set_cons_succ]
          refine wpAnyH_take (i := 3) (v := ?_) rfl (by kernel_rfl) (by kernel_rfl) (by kernel_rfl) (fun _ _ _ h => h) (Or.inl ⟨by kernel_rfl, ?_⟩) (by assumption) ?_
          rotate_left
          · intro w hSw; (try dsimp only at hSw); go_simp; try with_reducible rfl
          simp only [Act.put, List.getElem_toArray, List.getElem_cons_succ, List.getElem_cons_zero, List.setIfInBounds_toArray, List.set_cons_zero, List.set_cons_succ]
          refine wpAnyH_take (i := 4) (v := ?_) rfl (by kernel_rfl) (by kernel_rfl) (by kernel_rfl) (fun _ _ _ h => h) (Or.inl ⟨by kernel_rfl, ?_⟩) (by assumption) ?_
          rotate_left
          · intro w hSw; (try dsimp only at hSw); go_simp; try with_reducible rfl
          simp only [Act.put, List.getElem_toArray, List.getElem_cons_succ, List.getElem_cons_zero, List.setIfInBounds_toArray, List.set_cons_zero, List.set_cons_succ]
          refine wpAnyH_take (i := 5) (v := .int .i64 t2) rfl (by kernel_rfl) (by kernel_rfl) (by kernel_rfl) (fun _ _ _ h => h) (Or.inl ⟨by kernel_rfl, ?_⟩) (by assumption) ?_
          · intro w hSw; (try dsimp only at hSw)
            have x1 := X1.out; go_simp
          simp only [Act.put, List.getElem_toArray, List.getElem_cons_succ, List.getElem_cons_zero, List.setIfInBounds_toArray, List.set_cons_zero, List.set_cons_succ]
          refine wpAnyH_take (i := 6) (v := ?_) rfl (by kernel_rfl) (by kernel_rfl) (by kernel_rfl) (fun _ _ _ h => h) (Or.inl ⟨by kernel_rfl, ?_⟩) (by assumption) ?_
          rotate_left
          · intro w hSw; (try dsimp only at hSw); go_simp; try with_reducible rfl
          simp only [Act.put, List.getElem_toArray, List.getElem_cons_succ, List.getElem_cons_zero, List.setIfInBounds_toArray, List.set_cons_zero, List.set_cons_succ]
          refine wpAnyH_take (i := 7) (v := ?_) rfl (by kernel_rfl) (by kernel_rfl) (by kernel_rfl) (fun _ _ _ h => h) (Or.inl ⟨by kernel_rfl, ?_⟩) (by assumption) ?_
          rotate_left
          · intro w hSw; (try dsimp only at hSw); go_simp; try with_reducible rfl
          simp only [Act.put, List.getElem_toArray, List.getElem_cons_succ, List.getElem_cons_zero, List.setIfInBounds_toArray, List.set_cons_zero, List.set_cons_succ]
          refine wpAnyH_take (i := 8) (v := ?_) rfl (by kernel_rfl) (by kernel_rfl) (by kernel_rfl) (fun _ _ _ h => h) (Or.inl ⟨by kernel_rfl, ?_⟩) (by assumption) ?_
          rotate_left
          · intro w hSw; (try dsimp only at hSw); go_simp; try with_reducible rfl
          simp only [Act.put, List.getElem_toArray, List.getElem_cons_succ, List.getElem_cons_zero, List.setIfInBounds_toArray, List.set_cons_zero, List.set_cons_succ]
          refine wpAnyH_take (i := 9) (v := .int .u32 (vv : Int)) rfl (by kernel_rfl) (by kernel_rfl) (by kernel_rfl) (fun _ _ _ h => h) (Or.inl ⟨by kernel_rfl, ?_⟩) (by assumption) ?_
          · intro w hSw; (try dsimp only at hSw)
            have x3 := X3.out; go_simp
          simp only [Act.put, List.getElem_toArray, List.getElem_cons_succ, List.getElem_cons_zero, List.setIfInBounds_toArray, List.set_cons_zero, List.set_cons_succ]
          refine wpAnyH_take (i := 10) (v := ?_) rfl (by kernel_rfl) (by kernel_rfl) (by kernel_rfl) (fun _ _ _ h => h) (Or.inl ⟨by kernel_rfl, ?_⟩) (by assumption) ?_
          rotate_left
          · intro w hSw; (try dsimp only at hSw); go_simp; try with_reducible rfl
          simp only [Act.put, List.getElem_toArray, List.getElem_cons_succ, List.getElem_cons_zero, List.setIfInBounds_toArray, List.set_cons_zero, List.set_cons_succ]
          refine wpAnyH_take (i := 11) (v := ?_) rfl (by kernel_rfl) (by kernel_rfl) (by kernel_rfl) (fun _ _ _ h => h) (Or.inl ⟨by kernel_rfl, ?_⟩) (by assumption) ?_
          rotate_left
          · intro w hSw; (try dsimp only at hSw); go_simp; try with_reducible rfl
          simp only [Act.put, List.getElem_toArray, List.getElem_cons_succ, List.getElem_cons_zero, List.setIfInBounds_toArray, List.set_cons_zero, List.set_cons_succ]
          refine wpAnyH_done (by kernel_rfl) ?_ _
          clear hHeld
          go_wp2_with fail
          refine HC.out.mono ?_
          rintro e w9 ⟨A6, k6, c6, rfl, ho6, hm6, hk6, hkk⟩
          have hrow := own_rowE ho6 hkk
          obtain rfl : k6 = E.length := hkk
          have hcap : E.length ≤ 9223372036854775807 := by
            rcases ho6.2 with ⟨-, h2⟩ | ⟨_, _, _, -, -, -, h1, h2, -, -⟩
            · omega
            · unfold maxLen at h2; omega
          have H9 := Lib.hid (And.intro hm6 (And.intro ((Kept.refl (fun x => x ≠ b) wx).drew.trans hk6) (And.intro hrow hcap)))
          clear ho6 hm6 hk6 hrow hcap
          go_wp2_with fail
          go_loopw [21, 140] (fun s21 kv wr2 => ∃ k : Nat, k ≤ E.length ∧ kv = .int .i64 k ∧ s21 = .int .i64 (m.fr - m.k + K0 + sumE (E.take k)) ∧ w9 = wr2) (fun _ kv _ => E.length - (intOf kv).toNat)
          case atStart => exact ⟨0, by omega, rfl, by simp [sumE], by first | rfl | trivial⟩
          case round =>
            obtain ⟨k, hk, rfl, rfl, hw6⟩ := hrel
            subst hw6
            by_cases hlt : k < E.length
            · have hI2 : (k : Int) < (E.length : Int) := by omega
              have hk0 : (0 : Int) ≤ (k : Int) := by omega
              obtain ⟨x, hx⟩ : ∃ x, E[k]? = some x := ⟨_, List.getElem?_eq_getElem hlt⟩
              obtain ⟨gb, go, rfl, -, hrr⟩ := H9.out.2.2.1.at_ hx
              have c3 := hrr 3 (.int .i64 x.en) rfl
              have hs2 := sumE_take_succ E k x hx
              have hb1 := sumE_take_le E HFw.out.1.nn (k + 1)
              have hb2 := told_in HFw.out.2.1 (by have := Hn.out; have := Hlt.out; omega)
              have hb3 := told_in HE2.out.1.1 (by have := Hn.out; have := Hlt.out; omega)
              have hb4 := HFw.out.1.sum
              have hb5 := HK1.out
              have hcap := H9.out.2.2.2
              have Y1 := Lib.hid (show wrap64 (m.fr - m.k + K0 + sumE (E.take k) + x.en) = m.fr - m.k + K0 + sumE (E.take (k + 1)) by rw [hs2]; rw [wrap64_at _ (by omega)]; omega)
              have Y2 := Lib.hid (show wrap64 ((k : Int) + 1) = ((k + 1 : Nat) : Int) by rw [wrap64_at _ (by omega)]; push_cast; rfl)
              have HK := Lib.hid hlt
              clear hx hrr hs2 hb1 hb2 hb3 hb4 hb5 hcap hlt hk
              go_wp2_with fail
              rw [Y1.out, Y2.out]
              exact ⟨⟨k + 1, HK.out, rfl, rfl, by first | rfl | trivial⟩, by have := HK.out; simp [intOf]; omega⟩
            · obtain rfl : k = E.length := by omega
              have htk : E.take E.length = E := List.take_length
              have hb4 := HFw.out.1.sum
              have htold : m.fr - m.k + K0 + sumE E = m2.fr - m2.k + K0 := by omega
              rw [htk, htold]
              have hKa := HR.out.trans H9.out.2.1
              have cb : w9.cell? ⟨b3, 2, none⟩ = some (.int .u32 (s.bound : Int)) := blk_cell (HBx2.out _ hKa) 2 rfl
              have cy := (HSx.out _ H9.out.2.1).2
              have hsd := HFw.out.1.c
              have hm2v := HE2.out.2.2
              have hm2t := HE2.out.2.1
              have hcb := told_in HE2.out.1.1 (by have := Hn.out; have := Hlt.out; omega)
              have HKa := Lib.hid hKa
              clear hk hlt htk hb4 htold hKa
              by_cases hys : y > s.bound
              · have ky : decide (y ≤ s.bound) = false := decide_eq_false (by omega)
                rw [if_pos hys] at hsd
                have X7 := Lib.hid (show m.c = m2.c by omega)
                have HM2 := Lib.hid (And.intro hm2v hm2t)
                clear hys hsd hm2v hm2t hcb
                go_wp2_with fail
                rw [X8.out]
                exact ⟨⟨j + 1, m2, Hlt.out, by push_cast; rfl, HE2.out.1, by rw [HM2.out.1], by rw [HM2.out.2], by rw [X7.out], rfl, H9.out.1, HKa.out⟩, by have := Hlt.out; simp [intOf]; omega⟩
              · have ky : decide (y ≤ s.bound) = true := decide_eq_true (by omega)
                rw [if_neg hys] at hsd
                have X7 := Lib.hid (show IntKind.u64.wrap ((m.c : Int) + IntKind.u64.wrap (y : Int)) = (m2.c : Int) by rw [IntKind.wrap_u64, IntKind.wrap_u64]; have := hcb.2.2.2.2; have := HFw.out.2.2; omega)
                have HM2 := Lib.hid (And.intro hm2v hm2t)
                clear hys hsd hm2v hm2t hcb
                go_wp2_with fail
                rw [X8.out]
                exact ⟨⟨j + 1, m2, Hlt.out, by push_cast; rfl, HE2.out.1, by rw [HM2.out.1], by rw [HM2.out.2], by rw [X7.out], rfl, H9.out.1, HKa.out⟩, by have := Hlt.out; simp [intOf]; omega⟩
        · obtain rfl : j = n' := by omega
          have HM := Lib.hid (And.intro hE.1 (And.intro hm hk))
          have hop := mopen_ok wo2 b 0 s m (i + j + 2) HS.out.1 hE.1 (by have := Hn.out; omega) hm hE.2.1
          have HO := Lib.hid hop
          have hcb := told_in hE.1 (by have := Hn.out; omega)
          have hfr := hE.1.fr
          have hEr := energy_calls m.c s.num s.den (s.bound : Int) s.gap s.len (by omega)
          have he := enV_ok m.c s.num s.den s.gap s.len HS.out.1.may (by unfold eng at hcb; omega)
          rw [he] at hEr
          unfold setV at hEr
          have hEr' : ∀ W : World, Calls Try.prog 9 #[.agg #[.int .u64 (s.num : Int), .int .u64 (s.den : Int), .int .u32 (s.bound : Int), .int .i64 s.gap, .int .i64 s.len], .int .u64 (m.c : Int)] W fun e w' => e = .returned (.tuple #[.int .i64 (eng s m.c : Int), .int .i64 0]) ∧ Below W.heap.size W w' := hEr
          have HEr := Lib.hid hEr'
          obtain ⟨En, hEn⟩ : ∃ En : Int, (eng s m.c : Int) = En := ⟨_, rfl⟩
          rw [hEn] at HO HEr hcb hfr
          have hb5 := HK1.out
          obtain ⟨z9, hz9⟩ : ∃ z9 : Int, En + K0 = z9 := ⟨_, rfl⟩
          have X9 := Lib.hid (show wrap64 (m.fr - m.k + K0 + (m.k + En - m.fr)) = z9 by rw [wrap64_at _ (by omega)]; omega)
          have X10 := Lib.hid (show wrap64 (z9 - K0) = En by rw [wrap64_at _ (by omega)]; omega)
          have HBX := Lib.hid (And.intro (HBx2.out _ hk) (HBl2.out _ hk))
          clear hE hm hk hop hcb hfr hEr he hEr' hEn hb5 hz9 hj hlt
          go_wp2_with fail
          refine HO.out.mono ?_
          rintro e w9 ⟨rfl, hb9⟩
          have hbx9 := blk_below HBX.out.1 hb9
          have q0 : w9.cell? ⟨b3, 0, none⟩ = some (.int .u64 (s.num : Int)) := blk_cell hbx9 0 rfl
          have q1 : w9.cell? ⟨b3, 1, none⟩ = some (.int .u64 (s.den : Int)) := blk_cell hbx9 1 rfl
          have q2 : w9.cell? ⟨b3, 2, none⟩ = some (.int .u32 (s.bound : Int)) := blk_cell hbx9 2 rfl
          have q3 : w9.cell? ⟨b3, 3, none⟩ = some (.int .i64 s.gap) := blk_cell hbx9 3 rfl
          have q4 : w9.cell? ⟨b3, 4, none⟩ = some (.int .i64 s.len) := blk_cell hbx9 4 rfl
          have H9 := Lib.hid (And.intro (HM.out.2.1.go hb9) (bnext HBX.out.2 hb9))
          clear hb9 hbx9
          go_wp2_with fail
          refine (HEr.out _).mono ?_
          rintro e w10 ⟨rfl, hb10⟩
          have H10 := Lib.hid (And.intro (H9.out.1.go hb10) (bnext H9.out.2 hb10))
          clear hb10 q0 q1 q2 q3 q4
          have x9 := X9.out
          have x10 := X10.out
          have q5 : (En == En) = true := beq_self_eq_true _
          have q6 : ((m.c : Int) == (m.c : Int)) = true := beq_self_eq_true _
          go_wp2_with fail
          refine (mcounts_calls w10 b 0 s m HS.out.1 H10.out.1).mono ?_
          rintro e w11 ⟨rfl, hb11⟩
          have H11 := Lib.hid (bnext H10.out.2 hb11)
          clear hb11
          go_wp2_with fail
          go_ret
          exact ⟨rfl, H11.out⟩
end Go.Proofs.Ytjmkbpgakfeceaa
