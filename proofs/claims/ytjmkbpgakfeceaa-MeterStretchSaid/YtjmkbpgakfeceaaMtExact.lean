/-
  MeterExact, walked. Conditions stand at each theorem. (Printed by gen_mtexact.py.)
-/
import Derived.Test.YtjmkbpgakfeceaaMt12
namespace Go.Proofs.Ytjmkbpgakfeceaa
open Go Go.RowKit Go.Kw Go.Kw.Mt
set_option linter.unusedVariables false
set_option linter.unusedSimpArgs false

def ExI (s : Stp) (m : M) (i : Nat) : Prop := Ok s m (i + 1) ∧ m.bg = true ∧ 1000000 ≤ m.t ∧ m.t ≤ 1000000 + (i : Int) * 59999
theorem sample_first (s : Stp) (t : Int) (v : Nat) (ht : ¬ timeBad t) : sampleV s zeroM t v = (0, [], beginM s t v) := by
  rw [sample_form, if_neg ht]
  exact if_pos rfl
theorem cnt2_kinds {E Pl Sl : List En} (h : E = Pl ++ Sl) (h1 : ∀ x ∈ Pl, x.kind = 1) (h2 : ∀ x ∈ Sl, x.kind = 2) : cnt2 E = Sl.length := by
  subst h
  unfold cnt2
  rw [List.countP_append]
  have e1 : List.countP (fun x : En => x.kind == 2) Pl = 0 := List.countP_eq_zero.2 (fun x hx => by rw [h1 x hx]; decide)
  have e2 : List.countP (fun x : En => x.kind == 2) Sl = Sl.length := List.countP_eq_length.2 (fun x hx => by rw [h2 x hx]; decide)
  omega
theorem en_nonneg {s : Stp} {m : M} {i : Nat} (hs : s.Ok) (h : Ok s m i) (t : Int) (v : Nat) : ∀ x ∈ (sampleV s m t v).2.1, 0 ≤ x.en := by
  have hr := sample_run hs h t v
  obtain ⟨Pl, Sl, hE, h1, h2, -⟩ := hr.e
  have h0 : ∀ x ∈ (sampleV s m t v).2.1, x.kind = 1 ∨ x.en = 0 := by
    rw [sample_form]
    intro x hx
    split at hx
    · cases hx
    · split at hx
      · cases hx
      · split at hx
        · cases hx
        · rcases List.mem_append.1 hx with hx | hx
          · exact .inl (passE_kind _ x hx)
          · right
            split at hx
            · rw [List.mem_singleton.1 hx]
            · cases hx
  intro x hx
  rcases h0 x hx with hk | h0
  · have hx' : x ∈ Pl ++ Sl := hE ▸ hx
    rcases List.mem_append.1 hx' with hp | hq
    · obtain ⟨j, hj⟩ := List.getElem?_of_mem hp
      exact (h2 j x hj).2.2.2.1
    · exact absurd hk (h1 x hq)
  · omega
theorem told_in {s : Stp} {m : M} {i : Nat} (h : Ok s m i) (hi : i ≤ 200) : -1801439850948198400 ≤ m.fr - m.k ∧ m.fr - m.k ≤ 1801439850948198400 ∧ 0 ≤ m.k ∧ m.k + (eng s m.c : Int) ≤ 1801439850948198400 ∧ m.c ≤ 858993459200 := by
  have h1 := h.fr
  have h2 := h.k
  have h3 := h.c
  have hii : (i : Int) * 9007199254740992 ≤ 200 * 9007199254740992 := Int.mul_le_mul_of_nonneg_right (by omega) (by omega)
  have hic : i * 4294967296 ≤ 200 * 4294967296 := Nat.mul_le_mul_right _ hi
  omega

set_option maxRecDepth 100000 in
set_option maxHeartbeats 64000000 in
theorem meterExact_walk (v0 : Value) (x0 : SetX) (a1 : Int) (v2 : Value) (x2 : Option Addr × Nat × Nat × (Nat → Nat × Nat)) (w : World) (w0 : v0 = x0.v ∧ x0.Ok) (w1 : (Lit.int .u32 a1).wf = true) (w2 : v2 = .slice x2.1 x2.2.1 x2.2.2.1 ∧ RdP w x2.1 x2.2.1 x2.2.2.2) :
    Calls Try.prog 4 #[v0, .int .u32 a1, v2] w fun e w' => e = .returned (.bool true) ∧ Below w.heap.size w w' := by
  obtain ⟨num, den, bound, gap, len⟩ := x0
  obtain ⟨A, n, c, g⟩ := x2
  obtain ⟨rfl, hx⟩ := w0
  obtain ⟨rfl, hl⟩ := w2
  have hb1 := Go.bounds_u32 w1
  obtain ⟨v, rfl⟩ := Int.eq_ofNat_of_zero_le hb1.1
  have hv : v < 4294967296 := by omega
  obtain ⟨s, hs⟩ : ∃ s, fineS num den bound gap len = s := ⟨_, rfl⟩
  have hms : MayS s := hs ▸ fine_may num den bound gap len hx.bound hx.gap.2
  have hsb : s.bound = bound := by rw [← hs]; rfl
  have hF : ∀ W, Calls Try.prog 12 #[.agg #[.int .u64 (num : Int), .int .u64 (den : Int), .int .u32 (bound : Int), .int .i64 gap, .int .i64 len]] W fun e w' => e = .returned (.agg #[.int .u64 (s.num : Int), .int .u64 (s.den : Int), .int .u32 (s.bound : Int), .int .i64 s.gap, .int .i64 s.len]) ∧ Below W.heap.size W w' := fun W => by
    have h := fine_calls W num den bound gap len hx.num hx.den hx.bound hx.gap
    rw [hs] at h
    rw [hsb]
    exact h
  have HF := Lib.hid hF
  have HS := Lib.hid (And.intro hms hv)
  obtain ⟨b3, hb3⟩ : ∃ b3, w.heap.size = b3 := ⟨_, rfl⟩
  obtain ⟨wa, hwa⟩ : ∃ x, w.alloc (.cells #[.int .u64 (num : Int), .int .u64 (den : Int), .int .u32 (bound : Int), .int .i64 gap, .int .i64 len] 25) = x := ⟨_, rfl⟩
  have hst : Below w.heap.size w wa := hwa ▸ bstep w _
  have hr : wa.heap[b3]? = some (.cells #[.int .u64 (num : Int), .int .u64 (den : Int), .int .u32 (bound : Int), .int .i64 gap, .int .i64 len] 25 (0, 0)) := by rw [← hb3, ← hwa]; exact blk_new w _ _
  have H1 := Lib.hid (And.intro hst hr)
  have HL := Lib.hid hl
  have Hb3 := Lib.hid hb3
  show Calls Try.prog 4 #[.agg #[.int .u64 (num : Int), .int .u64 (den : Int), .int .u32 (bound : Int), .int .i64 gap, .int .i64 len], .int .u32 (v : Int), .slice A n c] w _
  clear hx hl hb1 hv w1 hs hms hsb hF hst hr
  go_enter Try.func4, Try.ntmps4
  go_wp2_with fail
  clear hwa hb3
  refine (alive_calls wa).mono ?_
  rintro e w1 ⟨rfl, hb1⟩
  have H2 := Lib.hid (And.intro (bnext H1.out.1 hb1) (blk_below H1.out.2 hb1))
  clear hb1
  by_cases hn : (n : Int) > 100
  · have k0 : decide ((n : Int) > 100) = true := decide_eq_true hn
    clear hn
    go_wp2_with fail
    go_ret
    exact ⟨rfl, by rw [Hb3.out]; exact Hb3.out ▸ H2.out.1⟩
  have k0 : decide ((n : Int) > 100) = false := decide_eq_false hn
  have Hn := Lib.hid (show n ≤ 100 by omega)
  have q0 : w1.cell? ⟨b3, 0, none⟩ = some (.int .u64 (num : Int)) := blk_cell H2.out.2 0 rfl
  have q1 : w1.cell? ⟨b3, 1, none⟩ = some (.int .u64 (den : Int)) := blk_cell H2.out.2 1 rfl
  have q2 : w1.cell? ⟨b3, 2, none⟩ = some (.int .u32 (bound : Int)) := blk_cell H2.out.2 2 rfl
  have q3 : w1.cell? ⟨b3, 3, none⟩ = some (.int .i64 gap) := blk_cell H2.out.2 3 rfl
  have q4 : w1.cell? ⟨b3, 4, none⟩ = some (.int .i64 len) := blk_cell H2.out.2 4 rfl
  clear hn
  go_wp2_with fail
  refine (HF.out _).mono ?_
  rintro e w2 ⟨rfl, hb2⟩
  clear q0 q1 q2 q3 q4
  obtain ⟨w3, hw3⟩ : ∃ x, w2.setRow b3 #[.int .u64 (s.num : Int), .int .u64 (s.den : Int), .int .u32 (s.bound : Int), .int .i64 s.gap, .int .i64 s.len] = x := ⟨_, rfl⟩
  have HZ := Lib.hid (blk_below H2.out.2 hb2)
  have HI2 := Lib.hid (show (Try.prog.info? 25).map (·.size) = some (#[Value.int .u64 (s.num : Int), .int .u64 (s.den : Int), .int .u32 (s.bound : Int), .int .i64 s.gap, .int .i64 s.len]).size from eSetS)
  have hr3 : w3.heap[b3]? = some (.cells #[.int .u64 (s.num : Int), .int .u64 (s.den : Int), .int .u32 (s.bound : Int), .int .i64 s.gap, .int .i64 s.len] 25 (0, 0)) := by rw [← hw3]; exact setRow_heap _ _ _ _ _ _ HZ.out
  have H3 := Lib.hid (And.intro (show Below w.heap.size w w3 by rw [← hw3]; exact belowSetRow (bnext H2.out.1 hb2) (by rw [Hb3.out]; exact Nat.le_refl _) _) (And.intro hr3 (blk_lt hr3)))
  have HW3 := Lib.hid hw3
  clear hb2 hr3 hw3
  go_wp2_with (first | (refine' wpList_store_row rfl _ _ _ rfl _ _ rfl rfl _ _ HZ.out HI2.out rfl (by simp [Value.oneCell']) ?_; rw [HW3.out]; have q0 : w3.cell? ⟨b3, 0, none⟩ = some (.int .u64 (s.num : Int)) := blk_cell H3.out.2.1 0 rfl; have q1 : w3.cell? ⟨b3, 1, none⟩ = some (.int .u64 (s.den : Int)) := blk_cell H3.out.2.1 1 rfl; have q2 : w3.cell? ⟨b3, 2, none⟩ = some (.int .u32 (s.bound : Int)) := blk_cell H3.out.2.1 2 rfl; have q3 : w3.cell? ⟨b3, 3, none⟩ = some (.int .i64 s.gap) := blk_cell H3.out.2.1 3 rfl; have q4 : w3.cell? ⟨b3, 4, none⟩ = some (.int .i64 s.len) := blk_cell H3.out.2.1 4 rfl))
  refine (mnew_calls w3 0 s HS.out.1 (by decide)).mono ?_
  rintro e w4 ⟨b, rfl, hbb, hm, hb4⟩
  have H4 := Lib.hid (And.intro hm (And.intro hbb (And.intro (bnext H3.out.1 hb4) (blk_below H3.out.2.1 hb4))))
  clear hm hbb hb4 q0 q1 q2 q3 q4 HW3 HZ HI2 k0
  go_wp2_with fail
  have hc := mSample_calls w4 b 0 s zeroM 0 HS.out.1 (zero_ok HS.out.1.ok) (by decide) H4.out.1 1000000 v HS.out.2
  rw [sample_first s 1000000 v (by unfold timeBad; omega)] at hc
  refine hc.mono ?_
  clear hc
  rintro e w5 ⟨A5, k5, c5, rfl, -, hm5, hk5, -⟩
  have hlb : b3 < b := by have := H3.out.2.2; have := H4.out.2.1; omega
  have H5 := Lib.hid (And.intro hm5 (And.intro (below_kept H4.out.2.2.1 hk5 (by rw [Hb3.out]; omega) (Nat.le_refl _)) (And.intro (heap_kept hk5 H4.out.2.2.2 (show b3 ≠ b by omega)) hlb)))
  clear hm5 hk5 hlb
  go_wp2_with fail
  have HBel := Lib.hid (show ∀ Y, Kept (fun x => x ≠ b) w5 Y → Below w.heap.size w Y from fun Y hY => below_kept H5.out.2.1 hY (by have := H5.out.2.2.2; have := Hb3.out; omega) (Nat.le_refl _))
  have Hok0 := Lib.hid (show ExI s (beginM s 1000000 v) 0 from ⟨begin_ok HS.out.1.ok (by unfold timeBad; omega) HS.out.2, rfl, by show (1000000 : Int) ≤ 1000000; omega, by show (1000000 : Int) ≤ 1000000 + _; omega⟩)
  go_loopw [1, 10, 11, 12, 48] (fun s1 s10 s11 s12 iv wr => ∃ (i : Nat) (m : M), i ≤ n ∧ iv = .int .i64 i ∧ ExI s m i ∧ s1 = .int .u32 (m.v : Int) ∧ s10 = .int .i64 m.t ∧ s11 = .int .u64 (m.c : Int) ∧ s12 = .int .i64 (m.fr - m.k) ∧ MtB wr b 0 s m ∧ Kept (fun x => x ≠ b) w5 wr) (fun _ _ _ _ iv _ => n - (intOf iv).toNat)
  case atStart => exact ⟨0, beginM s 1000000 v, by omega, rfl, Hok0.out, rfl, rfl, rfl, rfl, H5.out.1, Kept.refl _ _⟩
  case round =>
    obtain ⟨i, m, hi, rfl, hE, rfl, rfl, rfl, rfl, hm, hk⟩ := hrel
    obtain ⟨wo, rfl⟩ : ∃ wo : World, wo = wr := ⟨_, rfl⟩
    by_cases hlt : i < n
    · have hI : (i : Int) < (n : Int) := by omega
      have hi0 : (0 : Int) ≤ (i : Int) := by omega
      obtain ⟨hd1, hy1, lb, lo, rfl, hlb, c0, c1⟩ := (HL.out.go (HBel.out _ hk)).2 i hlt
      obtain ⟨d, hd⟩ : ∃ d, (g i).1 = d := ⟨_, rfl⟩
      obtain ⟨y, hy⟩ : ∃ y, (g i).2 = y := ⟨_, rfl⟩
      rw [hd] at hd1 c0
      rw [hy] at hy1 c1
      have hn100 := Hn.out
      obtain ⟨t2, ht2⟩ : ∃ t2, m.t + (d : Int) % 60000 = t2 := ⟨_, rfl⟩
      obtain ⟨vv, hvv⟩ : ∃ vv, (m.v + y) % 4294967296 = vv := ⟨_, rfl⟩
      have hmt := hE.2.2
      have hti : t2 ≤ m.t + 59999 ∧ m.t ≤ t2 := by omega
      have hmti : (i : Int) * 59999 ≤ 100 * 59999 := Int.mul_le_mul_of_nonneg_right (by omega) (by omega)
      obtain ⟨E, m2, hf⟩ := sample_fwd HS.out.1.ok hE.1 hE.2.1 (t2 := t2) hti.2 hti.1 (by omega) vv
      have hdv : difV m vv = y := by rw [← hvv]; exact dif_add hE.1.v hy1
      have hcalls := mSample_calls wo b 0 s m (i + 1) HS.out.1 hE.1 (by omega) hm t2 vv (by omega)
      rw [hf.v] at hcalls
      have HC := Lib.hid hcalls
      have hok2 : Ok s m2 (i + 1 + 1) := by have h := sample_ok HS.out.1.ok hE.1 t2 (v := vv) (by omega); rw [hf.v] at h; exact h
      obtain ⟨Pl, Sl, hEP, hP1, hS2, hSl⟩ := hf.kinds
      have hnn : ∀ x ∈ E, 0 ≤ x.en := by have h := en_nonneg HS.out.1.ok hE.1 t2 vv; rw [hf.v] at h; exact h
      have hcn := cnt2_kinds hEP hP1 hS2
      rw [hdv] at hSl
      have HFw := Lib.hid (And.intro hf (And.intro hok2 (And.intro hnn (And.intro (hcn.trans hSl) (And.intro hdv (And.intro hy1 (And.intro hE (And.intro hk (And.intro hlt hti)))))))))
      have X1 : wrap64 (m.t + (d : Int) % 60000) = t2 := by rw [ht2]; exact wrap64_at _ (by omega)
      have X3 : ((m.v : Int) + (y : Int)) % 4294967296 = (vv : Int) := by omega
      have HX := Lib.hid (And.intro hd1 (And.intro hvv ht2))
      clear hE hmt hti hmti hf hdv hok2 hEP hP1 hS2 hSl hnn hcn hd1 hy1 hvv ht2 hlt hi hm hk hlb hcalls hn100
      have X8 := Lib.hid (wrap64_at ((i : Int) + 1) (by have := Hn.out; omega))
      have X3' := Lib.hid X3
      have X1' := Lib.hid X1
      go_wp2_with fail
      refine HC.out.mono ?_
      rintro e w6 ⟨A6, k6, c6, rfl, ho6, hm6, hk6, hkk⟩
      have hrow := own_rowE ho6 hkk
      obtain rfl : k6 = E.length := hkk
      have hcap : E.length ≤ 9223372036854775807 := by
        rcases ho6.2 with ⟨-, h2⟩ | ⟨_, _, _, -, -, -, h1, h2, -, -⟩
        · omega
        · unfold maxLen at h2; omega
      have H6 := Lib.hid (And.intro hm6 (And.intro (HFw.out.2.2.2.2.2.2.2.1.trans hk6) (And.intro hrow hcap)))
      rw [X1'.out, X3'.out]
      clear ho6 hm6 hk6 hrow hcap X1 X3 c0 c1
      go_wp2_with fail
      go_loopw [12, 16, 78] (fun s12 s16 kv wr2 => ∃ k : Nat, k ≤ E.length ∧ kv = .int .i64 k ∧ s12 = .int .i64 (m.fr - m.k + sumE (E.take k)) ∧ s16 = .int .i64 (cnt2 (E.take k) : Int) ∧ w6 = wr2) (fun _ _ kv _ => E.length - (intOf kv).toNat)
      case atStart => exact ⟨0, by omega, rfl, by simp [sumE], by simp [cnt2], rfl⟩
      case round =>
        obtain ⟨k, hk, rfl, rfl, rfl, hw6⟩ := hrel
        subst hw6
        by_cases hlt : k < E.length
        · have hI2 : (k : Int) < (E.length : Int) := by omega
          have hk0 : (0 : Int) ≤ (k : Int) := by omega
          obtain ⟨x, hx⟩ : ∃ x, E[k]? = some x := ⟨_, List.getElem?_eq_getElem hlt⟩
          obtain ⟨gb, go, rfl, -, hrr⟩ := H6.out.2.2.1.at_ hx
          have c3 := hrr 3 (.int .i64 x.en) rfl
          have c0 := hrr 0 (.int .i64 (x.kind : Int)) rfl
          rw [Nat.add_zero] at c0
          have hs2 := sumE_take_succ E k x hx
          have hn2 := cnt2_take_succ E k x hx
          have hb1 := sumE_take_le E HFw.out.2.2.1 (k + 1)
          have hb2 := told_in HFw.out.2.2.2.2.2.2.1.1 (by have := Hn.out; omega)
          have hb3 := told_in HFw.out.2.1 (by have := Hn.out; omega)
          have hb4 := HFw.out.1.sum
          have hcap := H6.out.2.2.2
          have Y1 := Lib.hid (show wrap64 (m.fr - m.k + sumE (E.take k) + x.en) = m.fr - m.k + sumE (E.take (k + 1)) by rw [hs2]; rw [wrap64_at _ (by omega)]; omega)
          have Y2 := Lib.hid (show wrap64 ((k : Int) + 1) = ((k + 1 : Nat) : Int) by rw [wrap64_at _ (by omega)]; push_cast; rfl)
          have hcl : cnt2 (E.take k) ≤ k := by
            have h := List.countP_le_length (p := fun x : En => x.kind == 2) (l := E.take k)
            unfold cnt2
            rw [List.length_take] at h
            omega
          have Y3 := Lib.hid (show wrap64 ((cnt2 (E.take k) : Int) + 1) = (cnt2 (E.take k) : Int) + 1 from wrap64_at _ (by omega))
          have HK := Lib.hid hlt
          by_cases hk2 : x.kind = 2
          · have kb : ((x.kind : Int) == 2) = true := beq_iff_eq.2 (by omega)
            have Hn2 := Lib.hid (show cnt2 (E.take (k + 1)) = cnt2 (E.take k) + 1 by rw [hn2, if_pos hk2])
            clear hx hrr hs2 hn2 hb1 hb2 hb3 hb4 hcap hcl hk2 hlt hk
            go_wp2_with fail
            rw [Y1.out, Y2.out, Y3.out]
            exact ⟨⟨k + 1, HK.out, rfl, rfl, by rw [Hn2.out]; push_cast; rfl, by first | rfl | trivial⟩, by have := HK.out; simp [intOf]; omega⟩
          · have kb : ((x.kind : Int) == 2) = false := beq_eq_false_iff_ne.2 (by omega)
            have Hn2 := Lib.hid (show cnt2 (E.take (k + 1)) = cnt2 (E.take k) by rw [hn2, if_neg hk2]; rfl)
            clear hx hrr hs2 hn2 hb1 hb2 hb3 hb4 hcap hcl hk2 hlt hk
            go_wp2_with fail
            rw [Y1.out, Y2.out]
            exact ⟨⟨k + 1, HK.out, rfl, rfl, by rw [Hn2.out], by first | rfl | trivial⟩, by have := HK.out; simp [intOf]; omega⟩
        · obtain rfl : k = E.length := by omega
          have htk : E.take E.length = E := List.take_length
          have hb4 := HFw.out.1.sum
          have htold : m.fr - m.k + sumE E = m2.fr - m2.k := by omega
          rw [htk, htold, HFw.out.2.2.2.1]
          have HB6 := Lib.hid (HBel.out _ H6.out.2.1)
          obtain ⟨-, -, lb2, lo2, hA2, -, -, cy⟩ := (HL.out.go HB6.out).2 i HFw.out.2.2.2.2.2.2.2.2.1
          obtain ⟨rfl, rfl⟩ : lb = lb2 ∧ lo = lo2 := by injection hA2 with h; injection h with h1 h2; exact ⟨h1, h2⟩
          rw [hy] at cy
          have cb : w6.cell? ⟨b3, 2, none⟩ = some (.int .u32 (s.bound : Int)) := blk_cell (heap_kept H6.out.2.1 H5.out.2.2.1 (show b3 ≠ b by have := H5.out.2.2.2; omega)) 2 rfl
          have HS27 := Lib.hid (show w6.drew.cell? ⟨lb, lo + i * 2 + 1, none⟩ = some (.int .u32 (y : Int)) ∧ w6.drew.cell? ⟨b3, 2, none⟩ = some (.int .u32 (s.bound : Int)) from ⟨cy, cb⟩)
          have hsd : m2.c = m.c + (if y > s.bound then 0 else y) := by have h := HFw.out.1.c; unfold smD at h; rw [HFw.out.2.2.2.2.1] at h; exact h
          have hm2v : m2.v = vv := HFw.out.1.vv
          have hm2t : m2.t = t2 := HFw.out.1.t
          have hcb := told_in HFw.out.2.1 (by have := Hn.out; omega)
          clear hk hlt htk hb4 htold hA2 cy cb
          by_cases hys : y > s.bound

          · have KY := Lib.hid (show decide (s.bound < y) = true from decide_eq_true hys)
            rw [if_pos hys] at hsd
            rw [if_pos hys]
            have X7 := Lib.hid (show m.c = m2.c by omega)
            have HM2 := Lib.hid (And.intro hm2v hm2t)
            clear hys hsd hm2v hm2t hcb
            go_upto_region 27 with fail
            refine wp_region_held_drew (S := (fun Y => Y.cell? ⟨lb, lo + i * 2 + 1, none⟩ = some (.int .u32 (y : Int)) ∧ Y.cell? ⟨b3, 2, none⟩ = some (.int .u32 (s.bound : Int)))) (by kernel_rfl) HS27.out (fun hHeld => ?_)
            refine wpAnyH_take (i := 0) (v := ?_) rfl (by kernel_rfl) (by kernel_rfl) (by kernel_rfl) (fun _ _ _ h => h) (Or.inl ⟨by kernel_rfl, ?_⟩) (by assumption) ?_
            rotate_left
            · intro w hSw; (try dsimp only at hSw); go_simp; try with_reducible rfl
            simp only [Act.put, List.getElem_toArray, List.getElem_cons_succ, List.getElem_cons_zero, List.setIfInBounds_toArray, List.set_cons_zero, List.set_cons_succ]
            refine wpAnyH_take (i := 1) (v := ?_) rfl (by kernel_rfl) (by kernel_rfl) (by kernel_rfl) (fun _ _ _ h => h) (Or.inl ⟨by kernel_rfl, ?_⟩) (by assumption) ?_
            rotate_left
            · intro w hSw; (try dsimp only at hSw); go_simp; try with_reducible rfl
            simp only [Act.put, List.getElem_toArray, List.getElem_cons_succ, List.getElem_cons_zero, List.setIfInBounds_toArray, List.set_cons_zero, List.set_cons_succ]
            refine wpAnyH_take (i := 2) (v := ?_) rfl (by kernel_rfl) (by kernel_rfl) (by kernel_rfl) (fun _ _ _ h => h) (Or.inl ⟨by kernel_rfl, ?_⟩) (by assumption) ?_
            rotate_left
            · intro w hSw; (try dsimp only at hSw); go_simp; try with_reducible rfl
            simp only [Act.put, List.getElem_toArray, List.getElem_cons_succ, List.getElem_cons_zero, List.setIfInBounds_toArray, List.set_cons_zero, List.set_cons_succ]
            refine wpAnyH_take (i := 3) (v := ?_) rfl (by kernel_rfl) (by kernel_rfl) (by kernel_rfl) (fun _ _ _ h => h) (Or.inl ⟨by kernel_rfl, ?_⟩) (by assumption) ?_
            rotate_left
            · intro w hSw; (try dsimp only at hSw); go_simp; try with_reducible rfl
            simp only [Act.put, List.getElem_toArray, List.getElem_cons_succ, List.getElem_cons_zero, List.setIfInBounds_toArray, List.set_cons_zero, List.set_cons_succ]
            refine wpAnyH_take (i := 4) (v := ?_) rfl (by kernel_rfl) (by kernel_rfl) (by kernel_rfl) (fun _ _ _ h => h) (Or.inl ⟨by kernel_rfl, ?_⟩) (by assumption) ?_
            rotate_left
            · intro w hSw; (try dsimp only at hSw); go_simp; try with_reducible rfl
            simp only [Act.put, List.getElem_toArray, List.getElem_cons_succ, List.getElem_cons_zero, List.setIfInBounds_toArray, List.set_cons_zero, List.set_cons_succ]
            refine wpAnyH_take (i := 5) (v := ?_) rfl (by kernel_rfl) (by kernel_rfl) (by kernel_rfl) (fun _ _ _ h => h) (Or.inl ⟨by kernel_rfl, ?_⟩) (by assumption) ?_
            rotate_left
            · intro w hSw; (try dsimp only at hSw); go_simp; try with_reducible rfl
            simp only [Act.put, List.getElem_toArray, List.getElem_cons_succ, List.getElem_cons_zero, List.setIfInBounds_toArray, List.set_cons_zero, List.set_cons_succ]
            refine wpAnyH_take (i := 6) (v := ?_) rfl (by kernel_rfl) (by kernel_rfl) (by kernel_rfl) (fun _ _ _ h => h) (Or.inl ⟨by kernel_rfl, ?_⟩) (by assumption) ?_
            rotate_left
            · intro w hSw; (try dsimp only at hSw); go_simp; try with_reducible rfl
            simp only [Act.put, List.getElem_toArray, List.getElem_cons_succ, List.getElem_cons_zero, List.setIfInBounds_toArray, List.set_cons_zero, List.set_cons_succ]
            refine wpAnyH_take (i := 7) (v := ?_) rfl (by kernel_rfl) (by kernel_rfl) (by kernel_rfl) (fun _ _ _ h => h) (Or.inl ⟨by kernel_rfl, ?_⟩) (by assumption) ?_
            rotate_left
            · intro w hSw; (try dsimp only at hSw); go_simp; try with_reducible rfl
            simp only [Act.put, List.getElem_toArray, List.getElem_cons_succ, List.getElem_cons_zero, List.setIfInBounds_toArray, List.set_cons_zero, List.set_cons_succ]
            refine wpAnyH_take (i := 8) (v := ?_) rfl (by kernel_rfl) (by kernel_rfl) (by kernel_rfl) (fun _ _ _ h => h) (Or.inl ⟨by kernel_rfl, ?_⟩) (by assumption) ?_
            rotate_left
            · intro w hSw; (try dsimp only at hSw); go_simp; try with_reducible rfl
            simp only [Act.put, List.getElem_toArray, List.getElem_cons_succ, List.getElem_cons_zero, List.setIfInBounds_toArray, List.set_cons_zero, List.set_cons_succ]
            refine wpAnyH_take (i := 9) (v := .bool true) rfl (by kernel_rfl) (by kernel_rfl) (by kernel_rfl) (fun _ _ _ h => h) (Or.inl ⟨by kernel_rfl, ?_⟩) (by assumption) ?_
            · intro w hSw; (try dsimp only at hSw)
              have ky := KY.out; go_simp
            simp only [Act.put, List.getElem_toArray, List.getElem_cons_succ, List.getElem_cons_zero, List.setIfInBounds_toArray, List.set_cons_zero, List.set_cons_succ]
            refine wpAnyH_take (i := 10) (v := .bool false) rfl (by kernel_rfl) (by kernel_rfl) (by kernel_rfl) (fun _ _ _ h => h) (Or.inl ⟨by kernel_rfl, ?_⟩) (by assumption) ?_
            · intro w hSw; (try dsimp only at hSw)
              go_simp; try with_reducible rfl
            simp only [Act.put, List.getElem_toArray, List.getElem_cons_succ, List.getElem_cons_zero, List.setIfInBounds_toArray, List.set_cons_zero, List.set_cons_succ]
            refine wpAnyH_take (i := 11) (v := ?_) rfl (by kernel_rfl) (by kernel_rfl) (by kernel_rfl) (fun _ _ _ h => h) (Or.inl ⟨by kernel_rfl, ?_⟩) (by assumption) ?_
            rotate_left
            · intro w hSw; (try dsimp only at hSw); go_simp; try with_reducible rfl
            simp only [Act.put, List.getElem_toArray, List.getElem_cons_succ, List.getElem_cons_zero, List.setIfInBounds_toArray, List.set_cons_zero, List.set_cons_succ]
            refine wpAnyH_take (i := 12) (v := ?_) rfl (by kernel_rfl) (by kernel_rfl) (by kernel_rfl) (fun _ _ _ h => h) (Or.inl ⟨by kernel_rfl, ?_⟩) (by assumption) ?_
            rotate_left
            · intro w hSw; (try dsimp only at hSw); go_simp; try with_reducible rfl
            simp only [Act.put, List.getElem_toArray, List.getElem_cons_succ, List.getElem_cons_zero, List.setIfInBounds_toArray, List.set_cons_zero, List.set_cons_succ]
            refine wpAnyH_take (i := 13) (v := ?_) rfl (by kernel_rfl) (by kernel_rfl) (by kernel_rfl) (fun _ _ _ h => h) (Or.inl ⟨by kernel_rfl, ?_⟩) (by assumption) ?_
            rotate_left
            · intro w hSw; (try dsimp only at hSw); go_simp; try with_reducible rfl
            simp only [Act.put, List.getElem_toArray, List.getElem_cons_succ, List.getElem_cons_zero, List.setIfInBounds_toArray, List.set_cons_zero, List.set_cons_succ]
            refine wpAnyH_take (i := 14) (v := ?_) rfl (by kernel_rfl) (by kernel_rfl) (by kernel_rfl) (fun _ _ _ h => h) (Or.inl ⟨by kernel_rfl, ?_⟩) (by assumption) ?_
            rotate_left
            · intro w hSw; (try dsimp only at hSw); go_simp; try with_reducible rfl
            simp only [Act.put, List.getElem_toArray, List.getElem_cons_succ, List.getElem_cons_zero, List.setIfInBounds_toArray, List.set_cons_zero, List.set_cons_succ]
            refine wpAnyH_done (by kernel_rfl) ?_ _
            clear hHeld
            go_wp2_with fail
            rw [X8.out]
            refine ⟨⟨i + 1, m2, HFw.out.2.2.2.2.2.2.2.2.1, by push_cast; rfl, ⟨HFw.out.2.1, HFw.out.1.bg, ?_, ?_⟩, by rw [HM2.out.1], by rw [HM2.out.2], ?_, rfl, H6.out.1, H6.out.2.1.drew⟩, by have := HFw.out.2.2.2.2.2.2.2.2.1; simp [intOf]; omega⟩
            · rw [HM2.out.2]; have := HFw.out.2.2.2.2.2.2.2.2.2; have := HFw.out.2.2.2.2.2.2.1.2.2; omega
            · rw [HM2.out.2]; have := HFw.out.2.2.2.2.2.2.2.2.2; have := HFw.out.2.2.2.2.2.2.1.2.2; push_cast; omega
            · first | rfl | exact congrArg (Value.int .u64) X7.out | rw [X7.out]
          · have KY := Lib.hid (show decide (s.bound < y) = false from decide_eq_false hys)
            rw [if_neg hys] at hsd
            rw [if_neg hys]
            have X7 := Lib.hid (show IntKind.u64.wrap ((m.c : Int) + IntKind.u64.wrap (y : Int)) = (m2.c : Int) by rw [IntKind.wrap_u64, IntKind.wrap_u64]; have := hcb.2.2.2.2; have := HFw.out.2.2.2.2.2.1; omega)
            have HM2 := Lib.hid (And.intro hm2v hm2t)
            clear hys hsd hm2v hm2t hcb
            go_upto_region 27 with fail
            refine wp_region_held_drew (S := (fun Y => Y.cell? ⟨lb, lo + i * 2 + 1, none⟩ = some (.int .u32 (y : Int)) ∧ Y.cell? ⟨b3, 2, none⟩ = some (.int .u32 (s.bound : Int)))) (by kernel_rfl) HS27.out (fun hHeld => ?_)
            refine wpAnyH_take (i := 0) (v := ?_) rfl (by kernel_rfl) (by kernel_rfl) (by kernel_rfl) (fun _ _ _ h => h) (Or.inl ⟨by kernel_rfl, ?_⟩) (by assumption) ?_
            rotate_left
            · intro w hSw; (try dsimp only at hSw); go_simp; try with_reducible rfl
            simp only [Act.put, List.getElem_toArray, List.getElem_cons_succ, List.getElem_cons_zero, List.setIfInBounds_toArray, List.set_cons_zero, List.set_cons_succ]
            refine wpAnyH_take (i := 1) (v := ?_) rfl (by kernel_rfl) (by kernel_rfl) (by kernel_rfl) (fun _ _ _ h => h) (Or.inl ⟨by kernel_rfl, ?_⟩) (by assumption) ?_
            rotate_left
            · intro w hSw; (try dsimp only at hSw); go_simp; try with_reducible rfl
            simp only [Act.put, List.getElem_toArray, List.getElem_cons_succ, List.getElem_cons_zero, List.setIfInBounds_toArray, List.set_cons_zero, List.set_cons_succ]
            refine wpAnyH_take (i := 2) (v := ?_) rfl (by kernel_rfl) (by kernel_rfl) (by kernel_rfl) (fun _ _ _ h => h) (Or.inl ⟨by kernel_rfl, ?_⟩) (by assumption) ?_
            rotate_left
            · intro w hSw; (try dsimp only at hSw); go_simp; try with_reducible rfl
            simp only [Act.put, List.getElem_toArray, List.getElem_cons_succ, List.getElem_cons_zero, List.setIfInBounds_toArray, List.set_cons_zero, List.set_cons_succ]
            refine wpAnyH_take (i := 3) (v := ?_) rfl (by kernel_rfl) (by kernel_rfl) (by kernel_rfl) (fun _ _ _ h => h) (Or.inl ⟨by kernel_rfl, ?_⟩) (by assumption) ?_
            rotate_left
            · intro w hSw; (try dsimp only at hSw); go_simp; try with_reducible rfl
            simp only [Act.put, List.getElem_toArray, List.getElem_cons_succ, List.getElem_cons_zero, List.setIfInBounds_toArray, List.set_cons_zero, List.set_cons_succ]
            refine wpAnyH_take (i := 4) (v := ?_) rfl (by kernel_rfl) (by kernel_rfl) (by kernel_rfl) (fun _ _ _ h => h) (Or.inl ⟨by kernel_rfl, ?_⟩) (by assumption) ?_
            rotate_left
            · intro w hSw; (try dsimp only at hSw); go_simp; try with_reducible rfl
            simp only [Act.put, List.getElem_toArray, List.getElem_cons_succ, List.getElem_cons_zero, List.setIfInBounds_toArray, List.set_cons_zero, List.set_cons_succ]
            refine wpAnyH_take (i := 5) (v := ?_) rfl (by kernel_rfl) (by kernel_rfl) (by kernel_rfl) (fun _ _ _ h => h) (Or.inl ⟨by kernel_rfl, ?_⟩) (by assumption) ?_
            rotate_left
            · intro w hSw; (try dsimp only at hSw); go_simp; try with_reducible rfl
            simp only [Act.put, List.getElem_toArray, List.getElem_cons_succ, List.getElem_cons_zero, List.setIfInBounds_toArray, List.set_cons_zero, List.set_cons_succ]
            refine wpAnyH_take (i := 6) (v := ?_) rfl (by kernel_rfl) (by kernel_rfl) (by kernel_rfl) (fun _ _ _ h => h) (Or.inl ⟨by kernel_rfl, ?_⟩) (by assumption) ?_
            rotate_left
            · intro w hSw; (try dsimp only at hSw); go_simp; try with_reducible rfl
            simp only [Act.put, List.getElem_toArray, List.getElem_cons_succ, List.getElem_cons_zero, List.setIfInBounds_toArray, List.set_cons_zero, List.set_cons_succ]
            refine wpAnyH_take (i := 7) (v := ?_) rfl (by kernel_rfl) (by kernel_rfl) (by kernel_rfl) (fun _ _ _ h => h) (Or.inl ⟨by kernel_rfl, ?_⟩) (by assumption) ?_
            rotate_left
            · intro w hSw; (try dsimp only at hSw); go_simp; try with_reducible rfl
            simp only [Act.put, List.getElem_toArray, List.getElem_cons_succ, List.getElem_cons_zero, List.setIfInBounds_toArray, List.set_cons_zero, List.set_cons_succ]
            refine wpAnyH_take (i := 8) (v := ?_) rfl (by kernel_rfl) (by kernel_rfl) (by kernel_rfl) (fun _ _ _ h => h) (Or.inl ⟨by kernel_rfl, ?_⟩) (by assumption) ?_
            rotate_left
            · intro w hSw; (try dsimp only at hSw); go_simp; try with_reducible rfl
            simp only [Act.put, List.getElem_toArray, List.getElem_cons_succ, List.getElem_cons_zero, List.setIfInBounds_toArray, List.set_cons_zero, List.set_cons_succ]
            refine wpAnyH_take (i := 9) (v := .bool false) rfl (by kernel_rfl) (by kernel_rfl) (by kernel_rfl) (fun _ _ _ h => h) (Or.inl ⟨by kernel_rfl, ?_⟩) (by assumption) ?_
            · intro w hSw; (try dsimp only at hSw)
              have ky := KY.out; go_simp
            simp only [Act.put, List.getElem_toArray, List.getElem_cons_succ, List.getElem_cons_zero, List.setIfInBounds_toArray, List.set_cons_zero, List.set_cons_succ]
            refine wpAnyH_take (i := 10) (v := .bool false) rfl (by kernel_rfl) (by kernel_rfl) (by kernel_rfl) (fun _ _ _ h => h) (Or.inl ⟨by kernel_rfl, ?_⟩) (by assumption) ?_
            · intro w hSw; (try dsimp only at hSw)
              go_simp; try with_reducible rfl
            simp only [Act.put, List.getElem_toArray, List.getElem_cons_succ, List.getElem_cons_zero, List.setIfInBounds_toArray, List.set_cons_zero, List.set_cons_succ]
            refine wpAnyH_take (i := 11) (v := ?_) rfl (by kernel_rfl) (by kernel_rfl) (by kernel_rfl) (fun _ _ _ h => h) (Or.inl ⟨by kernel_rfl, ?_⟩) (by assumption) ?_
            rotate_left
            · intro w hSw; (try dsimp only at hSw); go_simp; try with_reducible rfl
            simp only [Act.put, List.getElem_toArray, List.getElem_cons_succ, List.getElem_cons_zero, List.setIfInBounds_toArray, List.set_cons_zero, List.set_cons_succ]
            refine wpAnyH_take (i := 12) (v := ?_) rfl (by kernel_rfl) (by kernel_rfl) (by kernel_rfl) (fun _ _ _ h => h) (Or.inl ⟨by kernel_rfl, ?_⟩) (by assumption) ?_
            rotate_left
            · intro w hSw; (try dsimp only at hSw); go_simp; try with_reducible rfl
            simp only [Act.put, List.getElem_toArray, List.getElem_cons_succ, List.getElem_cons_zero, List.setIfInBounds_toArray, List.set_cons_zero, List.set_cons_succ]
            refine wpAnyH_take (i := 13) (v := ?_) rfl (by kernel_rfl) (by kernel_rfl) (by kernel_rfl) (fun _ _ _ h => h) (Or.inl ⟨by kernel_rfl, ?_⟩) (by assumption) ?_
            rotate_left
            · intro w hSw; (try dsimp only at hSw); go_simp; try with_reducible rfl
            simp only [Act.put, List.getElem_toArray, List.getElem_cons_succ, List.getElem_cons_zero, List.setIfInBounds_toArray, List.set_cons_zero, List.set_cons_succ]
            refine wpAnyH_take (i := 14) (v := ?_) rfl (by kernel_rfl) (by kernel_rfl) (by kernel_rfl) (fun _ _ _ h => h) (Or.inl ⟨by kernel_rfl, ?_⟩) (by assumption) ?_
            rotate_left
            · intro w hSw; (try dsimp only at hSw); go_simp; try with_reducible rfl
            simp only [Act.put, List.getElem_toArray, List.getElem_cons_succ, List.getElem_cons_zero, List.setIfInBounds_toArray, List.set_cons_zero, List.set_cons_succ]
            refine wpAnyH_done (by kernel_rfl) ?_ _
            clear hHeld
            obtain ⟨-, hi20, lb3, lo3, hA3, -, -, c1⟩ := (HL.out.go HB6.out).2 i HFw.out.2.2.2.2.2.2.2.2.1
            obtain ⟨rfl, rfl⟩ : lb = lb3 ∧ lo = lo3 := by injection hA3 with h; injection h with h1 h2; exact ⟨h1, h2⟩
            rw [hy] at c1
            clear hA3 hi20
            go_wp2_with fail
            rw [X8.out]
            refine ⟨⟨i + 1, m2, HFw.out.2.2.2.2.2.2.2.2.1, by push_cast; rfl, ⟨HFw.out.2.1, HFw.out.1.bg, ?_, ?_⟩, by rw [HM2.out.1], by rw [HM2.out.2], ?_, rfl, H6.out.1, H6.out.2.1.drew⟩, by have := HFw.out.2.2.2.2.2.2.2.2.1; simp [intOf]; omega⟩
            · rw [HM2.out.2]; have := HFw.out.2.2.2.2.2.2.2.2.2; have := HFw.out.2.2.2.2.2.2.1.2.2; omega
            · rw [HM2.out.2]; have := HFw.out.2.2.2.2.2.2.2.2.2; have := HFw.out.2.2.2.2.2.2.1.2.2; push_cast; omega
            · first | rfl | exact congrArg (Value.int .u64) X7.out | rw [X7.out]
    · obtain rfl : i = n := by omega
      have HM := Lib.hid (And.intro hE (And.intro hm hk))
      have hop := mopen_ok wo b 0 s m (i + 1) HS.out.1 hE.1 (by have := Hn.out; omega) hm hE.2.1
      have HO := Lib.hid hop
      have hcb := told_in hE.1 (by have := Hn.out; omega)
      have hfr := hE.1.fr
      have hEr := energy_calls m.c s.num s.den (s.bound : Int) s.gap s.len (by omega)
      have he := enV_ok m.c s.num s.den s.gap s.len HS.out.1.may (by unfold eng at hcb; omega)
      rw [he] at hEr
      unfold setV at hEr
      have hEr' : ∀ W : World, Calls Try.prog 9 #[.agg #[.int .u64 (s.num : Int), .int .u64 (s.den : Int), .int .u32 (s.bound : Int), .int .i64 s.gap, .int .i64 s.len], .int .u64 (m.c : Int)] W fun e w' => e = .returned (.tuple #[.int .i64 (eng s m.c : Int), .int .i64 0]) ∧ Below W.heap.size W w' := hEr
      have HEr := Lib.hid hEr'
      obtain ⟨En, hEn⟩ : ∃ En : Int, (eng s m.c : Int) = En := ⟨_, rfl⟩
      rw [hEn] at HO HEr hcb hfr
      have X9 := Lib.hid (show wrap64 (m.fr - m.k + (m.k + En - m.fr)) = En by rw [wrap64_at _ (by omega)]; omega)
      have hbx := heap_kept hk H5.out.2.2.1 (show b3 ≠ b by have := H5.out.2.2.2; omega)
      have HBX := Lib.hid (And.intro hbx (HBel.out _ hk))
      clear hE hm hk hop hcb hfr hEr he hEr' hEn hbx hi hlt
      go_wp2_with fail
      refine HO.out.mono ?_
      rintro e w7 ⟨rfl, hb7⟩
      have hbx7 := blk_below HBX.out.1 hb7
      have q0 : w7.cell? ⟨b3, 0, none⟩ = some (.int .u64 (s.num : Int)) := blk_cell hbx7 0 rfl
      have q1 : w7.cell? ⟨b3, 1, none⟩ = some (.int .u64 (s.den : Int)) := blk_cell hbx7 1 rfl
      have q2 : w7.cell? ⟨b3, 2, none⟩ = some (.int .u32 (s.bound : Int)) := blk_cell hbx7 2 rfl
      have q3 : w7.cell? ⟨b3, 3, none⟩ = some (.int .i64 s.gap) := blk_cell hbx7 3 rfl
      have q4 : w7.cell? ⟨b3, 4, none⟩ = some (.int .i64 s.len) := blk_cell hbx7 4 rfl
      have H7 := Lib.hid (And.intro (HM.out.2.1.go hb7) (bnext HBX.out.2 hb7))
      clear hb7 hbx7
      go_wp2_with fail
      refine (HEr.out _).mono ?_
      rintro e w8 ⟨rfl, hb8⟩
      have H8 := Lib.hid (And.intro (H7.out.1.go hb8) (bnext H7.out.2 hb8))
      clear hb8 q0 q1 q2 q3 q4
      have x9 := X9.out
      have q5 : (En == En) = true := beq_self_eq_true _
      have q6 : ((m.c : Int) == (m.c : Int)) = true := beq_self_eq_true _
      go_wp2_with fail
      refine (mcounts_calls w8 b 0 s m HS.out.1 H8.out.1).mono ?_
      rintro e w9 ⟨rfl, hb9⟩
      have H9 := Lib.hid (bnext H8.out.2 hb9)
      clear hb9
      go_wp2_with fail
      go_ret
      exact ⟨rfl, H9.out⟩
end Go.Proofs.Ytjmkbpgakfeceaa
