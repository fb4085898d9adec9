/-
  A meter: calls on none; the chapter's examples as plain numbers. Conditions stand at each theorem. (Printed by gen_mtnames.py.)
-/
import Derived.Test.YtjmkbpgakfeceaaMt12
namespace Go.Proofs.Ytjmkbpgakfeceaa
open Go Go.RowKit Go.Kw Go.Kw.Mt
set_option linter.unusedVariables false
set_option linter.unusedSimpArgs false

theorem turn_nil_Sample (w : World) (t : Int) (f : Value) :
    Calls Try.prog 31 #[.pointer none, .int .i64 t, f] w fun e w' => e = .returned (.tuple #[.slice none 0 0, .int .i64 1]) ∧ Below w.heap.size w w' := by
  have HN := Lib.hid (mnone_nil w)
  go_enter Try.func31, Try.ntmps31
  go_wp2_with fail
  refine HN.out.mono ?_
  rintro e w0 ⟨rfl, hb⟩
  have Hb := Lib.hid hb
  clear hb
  go_wp2_with fail
  go_ret2
  exact ⟨rfl, Hb.out⟩
theorem turn_zero_Sample (w : World) (b : Nat) (nr : Int) (s : Stp) (m : M) (hB : MtB w b nr s m) (hl : s.len = 0) (t : Int) (f : Value) :
    Calls Try.prog 31 #[.pointer (some ⟨b, 0, none⟩), .int .i64 t, f] w fun e w' => e = .returned (.tuple #[.slice none 0 0, .int .i64 1]) ∧ Below w.heap.size w w' := by
  have hN := mnone_calls w b nr s m hB
  rw [hl] at hN
  have HN := Lib.hid hN
  clear hN hB
  go_enter Try.func31, Try.ntmps31
  go_wp2_with fail
  refine HN.out.mono ?_
  rintro e w0 ⟨rfl, hb⟩
  have Hb := Lib.hid hb
  clear hb
  go_wp2_with fail
  go_ret2
  exact ⟨rfl, Hb.out⟩
theorem turn_nil_Replace (w : World) (t : Int) (f : Value) :
    Calls Try.prog 31 #[.pointer none, .int .i64 t, f] w fun e w' => e = .returned (.tuple #[.slice none 0 0, .int .i64 1]) ∧ Below w.heap.size w w' := by
  have HN := Lib.hid (mnone_nil w)
  go_enter Try.func31, Try.ntmps31
  go_wp2_with fail
  refine HN.out.mono ?_
  rintro e w0 ⟨rfl, hb⟩
  have Hb := Lib.hid hb
  clear hb
  go_wp2_with fail
  go_ret2
  exact ⟨rfl, Hb.out⟩
theorem turn_zero_Replace (w : World) (b : Nat) (nr : Int) (s : Stp) (m : M) (hB : MtB w b nr s m) (hl : s.len = 0) (t : Int) (f : Value) :
    Calls Try.prog 31 #[.pointer (some ⟨b, 0, none⟩), .int .i64 t, f] w fun e w' => e = .returned (.tuple #[.slice none 0 0, .int .i64 1]) ∧ Below w.heap.size w w' := by
  have hN := mnone_calls w b nr s m hB
  rw [hl] at hN
  have HN := Lib.hid hN
  clear hN hB
  go_enter Try.func31, Try.ntmps31
  go_wp2_with fail
  refine HN.out.mono ?_
  rintro e w0 ⟨rfl, hb⟩
  have Hb := Lib.hid hb
  clear hb
  go_wp2_with fail
  go_ret2
  exact ⟨rfl, Hb.out⟩
theorem mSample_nil (w : World) (t : Int) (v : Nat) :
    Calls Try.prog 14 #[.pointer none, .int .i64 t, .int .u32 (v : Int)] w fun e w' => e = .returned (.tuple #[.slice none 0 0, .int .i64 1]) ∧ Below w.heap.size w w' := by
  obtain ⟨b0, hb0⟩ : ∃ b0, w.heap.size = b0 := ⟨_, rfl⟩
  obtain ⟨w1, hw1⟩ : ∃ x, ((w.alloc (.cells #[.pointer none] 35)).alloc (.cells #[.int .i64 t] 2)).alloc (.cells #[.int .u32 (v : Int)] 23) = x := ⟨_, rfl⟩
  have hst : Below w.heap.size w w1 := hw1 ▸ bnext (bnext (bstep w _) (bstep _ _)) (bstep _ _)
  have h0 := blk_new w #[.pointer none] 35
  have h1 := blk_new (w.alloc (.cells #[.pointer none] 35)) #[.int .i64 t] 2
  have h0' := blk_below (blk_below h0 (bstep _ (.cells #[.int .i64 t] 2))) (bstep _ (.cells #[.int .u32 (v : Int)] 23))
  have h1' := blk_below h1 (bstep _ (.cells #[.int .u32 (v : Int)] 23))
  rw [hw1] at h0' h1'
  simp only [World.size_alloc, hb0] at h0' h1'
  have d0 : w1.cell? ⟨b0, 0, none⟩ = some (.pointer none) := blk_cell h0' 0 rfl
  have d1 : w1.cell? ⟨b0 + 1, 0, none⟩ = some (.int .i64 t) := blk_cell h1' 0 rfl
  have HT := Lib.hid (fun f => turn_nil_Sample w1 t f)
  have H0 := Lib.hid (And.intro hst hb0)
  clear h0 h1 h0' h1' hst
  go_enter Try.func14, Try.ntmps14
  go_wp2_with fail
  refine (HT.out _).mono ?_
  rintro e w' ⟨rfl, hb⟩
  have HR := Lib.hid hb
  clear hb
  go_wp2_with fail
  go_ret2
  exact ⟨rfl, by first | exact bnext H0.out.1 HR.out | (rw [← hb0]; exact bnext H0.out.1 HR.out)⟩
theorem mReplace_zero (w : World) (b : Nat) (nr : Int) (s : Stp) (m : M) (hB : MtB w b nr s m) (hl : s.len = 0) (t : Int) (v : Nat) :
    Calls Try.prog 17 #[.pointer (some ⟨b, 0, none⟩), .int .i64 t, .int .u32 (v : Int)] w fun e w' => e = .returned (.tuple #[.slice none 0 0, .int .i64 1]) ∧ Below w.heap.size w w' := by
  obtain ⟨b0, hb0⟩ : ∃ b0, w.heap.size = b0 := ⟨_, rfl⟩
  obtain ⟨w1, hw1⟩ : ∃ x, ((w.alloc (.cells #[.pointer (some ⟨b, 0, none⟩)] 35)).alloc (.cells #[.int .i64 t] 2)).alloc (.cells #[.int .u32 (v : Int)] 23) = x := ⟨_, rfl⟩
  have hst : Below w.heap.size w w1 := hw1 ▸ bnext (bnext (bstep w _) (bstep _ _)) (bstep _ _)
  have h0 := blk_new w #[.pointer (some ⟨b, 0, none⟩)] 35
  have h1 := blk_new (w.alloc (.cells #[.pointer (some ⟨b, 0, none⟩)] 35)) #[.int .i64 t] 2
  have h0' := blk_below (blk_below h0 (bstep _ (.cells #[.int .i64 t] 2))) (bstep _ (.cells #[.int .u32 (v : Int)] 23))
  have h1' := blk_below h1 (bstep _ (.cells #[.int .u32 (v : Int)] 23))
  rw [hw1] at h0' h1'
  simp only [World.size_alloc, hb0] at h0' h1'
  have d0 : w1.cell? ⟨b0, 0, none⟩ = some (.pointer (some ⟨b, 0, none⟩)) := blk_cell h0' 0 rfl
  have d1 : w1.cell? ⟨b0 + 1, 0, none⟩ = some (.int .i64 t) := blk_cell h1' 0 rfl
  have HT := Lib.hid (fun f => turn_zero_Replace w1 b nr s m (hB.go hst) hl t f)
  have H0 := Lib.hid (And.intro hst hb0)
  clear h0 h1 h0' h1' hst hB
  go_enter Try.func17, Try.ntmps17
  go_wp2_with fail
  refine (HT.out _).mono ?_
  rintro e w' ⟨rfl, hb⟩
  have HR := Lib.hid hb
  clear hb
  go_wp2_with fail
  go_ret2
  exact ⟨rfl, by first | exact bnext H0.out.1 HR.out | (rw [← hb0]; exact bnext H0.out.1 HR.out)⟩
theorem mOpen_nil (w : World) : Calls Try.prog 15 #[.pointer none] w fun e w' => e = .returned (.tuple #[.int .i64 0, .int .i64 0, .int .i64 0, .bool false]) ∧ Below w.heap.size w w' := by
  have HN := Lib.hid (mnone_nil w)
  go_enter Try.func15, Try.ntmps15
  go_wp2_with fail
  refine HN.out.mono ?_
  rintro e w0 ⟨rfl, hb⟩
  have Hb := Lib.hid hb
  clear hb
  go_wp2_with fail
  refine bodyPost_ret (results_four rfl _ _) rfl ?_
  exact ⟨rfl, Hb.out⟩
theorem mCounts_nil (w : World) : Calls Try.prog 16 #[.pointer none] w fun e w' => e = .returned (.int .u64 0) ∧ Below w.heap.size w w' := by
  have HN := Lib.hid (mnone_nil w)
  go_enter Try.func16, Try.ntmps16
  go_wp2_with fail
  refine HN.out.mono ?_
  rintro e w0 ⟨rfl, hb⟩
  have Hb := Lib.hid hb
  clear hb
  go_wp2_with fail
  go_ret
  exact ⟨rfl, Hb.out⟩
theorem mCopy_nil (w : World) : Calls Try.prog 23 #[.pointer none] w fun e w' => e = .returned (.pointer none) ∧ Below w.heap.size w w' := by
  have HN := Lib.hid (mnone_nil w)
  go_enter Try.func23, Try.ntmps23
  go_wp2_with fail
  refine HN.out.mono ?_
  rintro e w0 ⟨rfl, hb⟩
  have Hb := Lib.hid hb
  clear hb
  go_wp2_with fail
  go_ret
  exact ⟨rfl, Hb.out⟩
theorem mReset_nil (w : World) : Calls Try.prog 19 #[.pointer none] w fun e w' => (∃ u, e = .returned u) ∧ Below w.heap.size w w' := by
  have HN := Lib.hid (mnone_nil w)
  go_enter Try.func19, Try.ntmps19
  go_wp2_with fail
  refine HN.out.mono ?_
  rintro e w0 ⟨rfl, hb⟩
  have Hb := Lib.hid hb
  clear hb
  go_wp2_with fail
  first | (go_end0; exact ⟨⟨_, rfl⟩, Hb.out⟩) | (simp only [Exit.noGoto]; go_end0; exact ⟨⟨_, rfl⟩, Hb.out⟩)
theorem mnew_many (w : World) (nr : Int) (v0 v1 v2 v3 v4 : Int) (hn : nr > 63) : Calls Try.prog 13 #[.int .i64 nr, .agg #[.int .u64 v0, .int .u64 v1, .int .u32 v2, .int .i64 v3, .int .i64 v4]] w fun e w' => e = .returned (.tuple #[.pointer none, .int .i64 2]) ∧ Below w.heap.size w w' := by
  have k0 : decide (nr < 0) = false := decide_eq_false (by omega)
  have k1 : decide (nr > 63) = true := decide_eq_true hn
  clear hn
  go_enter Try.func13, Try.ntmps13
  go_wp2_with fail
  go_ret2
  exact ⟨rfl, bstep w _⟩
def ex3 : M := (sampleV s0 ex2 1300 904).2.2
def ex4 : M := (sampleV s0 ex3 1300 2905).2.2
def ex5 : M := (replV s0 ex4 1500 7).2.2
def ex6 : M := (sampleV s0 ex5 1800 17).2.2
def ex7 : M := ⟨true, 901800, 17, 10, 1002, 0, 0, 10⟩
def ex8 : M := (sampleV s0 ex7 0 18).2.2
theorem ok_ex3 : Ok s0 ex3 3 := sample_ok may_s0.ok ok_ex2 1300 (by decide)
theorem ok_ex4 : Ok s0 ex4 4 := sample_ok may_s0.ok ok_ex3 1300 (by decide)
theorem ok_ex5 : Ok s0 ex5 5 := repl_ok may_s0.ok ok_ex4 1500 (by decide)
theorem ok_ex6 : Ok s0 ex6 6 := sample_ok may_s0.ok ok_ex5 1800 (by decide)
theorem triple {α β γ : Type} {x : α × β × γ} {a : α} {b : β} {c : γ} (h1 : x.1 = a) (h2 : x.2.1 = b) (h3 : x.2.2 = c) : x = (a, b, c) := by rw [← h1, ← h2, ← h3]
theorem e_ex3 : sampleV s0 ex2 1300 904 = (0, [⟨1, 0, 510, 1, 0⟩], ex3) := triple (by kernel_rfl) (by kernel_rfl) rfl
theorem e_ex4 : sampleV s0 ex3 1300 2905 = (0, [⟨2, 1300, 0, 0, 2001⟩], ex4) := triple (by kernel_rfl) (by kernel_rfl) rfl
theorem e_ex5 : replV s0 ex4 1500 7 = (0, [], ex5) := triple (by kernel_rfl) (by kernel_rfl) rfl
theorem e_ex6 : sampleV s0 ex5 1800 17 = (0, [⟨1, 900, 410, 8, 0⟩], ex6) := triple (by kernel_rfl) (by kernel_rfl) rfl
theorem v_ex6 : ex6 = ⟨true, 1800, 17, 10, 2, 0, 0, 10⟩ := by kernel_rfl
theorem e_a : replV s0 ex6 1799 0 = (241, [], ex6) := triple (by kernel_rfl) (by kernel_rfl) (by kernel_rfl)
theorem e_b : sampleV s0 ex6 (-1) 0 = (60, [], ex6) := triple (by kernel_rfl) (by kernel_rfl) (by kernel_rfl)
theorem e_c : replV s0 ex6 253402300800 0 = (60, [], ex6) := triple (by kernel_rfl) (by kernel_rfl) (by kernel_rfl)
theorem e_d : sampleV s0 ex6 902800 17 = (242, [], ex6) := by
  rw [v_ex6, sample_form, if_neg (by decide), if_neg (by decide), if_pos (by decide)]
set_option maxRecDepth 100000 in
theorem e_ex7 : ∃ E, sampleV s0 ex6 901800 17 = (0, E, ex7) ∧ E.length = 1000 ∧ ∃ x, E[999]? = some x ∧ x.f = 2 := by
  rw [v_ex6]
  obtain ⟨m6, hm6⟩ : ∃ m6 : M, (⟨true, 1800, 17, 10, 2, 0, 0, 10⟩ : M) = m6 := ⟨_, rfl⟩
  rw [hm6]
  have hf := sample_form s0 m6 901800 17
  have hb : backM m6 901800 = m6 := by rw [← hm6]; exact if_neg (by decide)
  have hT : max (901800 : Int) m6.t = 901800 := by rw [← hm6]; decide
  have hmany : many s0 m6 901800 = 1000 := by rw [← hm6]; kernel_rfl
  have hD : smD s0 m6 17 = 0 := by rw [← hm6]; kernel_rfl
  have hF : smF s0 m6 17 = 0 := by rw [← hm6]; kernel_rfl
  have hPF : passF s0 m6 901800 0 = 2 := by rw [← hm6]; kernel_rfl
  have hdf : ¬ difV m6 17 > s0.bound := by rw [← hm6]; decide
  rw [hT, hb, hD, hF, hPF, hmany, if_neg hdf, List.append_nil, if_neg (by decide), if_neg (by rw [← hm6]; decide), if_neg (by rw [← hm6]; decide)] at hf
  have ho : (passM s0 m6 901800 0 1000).o = 1002 := by rw [passM_o, ← hm6]; rfl
  have hfr : (passM s0 m6 901800 0 1000).fr = 10 := by
    rw [passM_fr 999]
    unfold nowJ cnJ
    rw [Nat.zero_mul, Nat.zero_div, ← hm6]
    kernel_rfl
  have hbg : (passM s0 m6 901800 0 1000).bg = true := by rw [passM_bg, ← hm6]
  have hk : (passM s0 m6 901800 0 1000).k = 0 := by rw [passM_k]; exact if_neg (by decide)
  have hff : (passM s0 m6 901800 0 1000).f = 0 := by rw [passM_f]; exact if_neg (by decide)
  have hc6 : m6.c = 10 := by rw [← hm6]
  have ht6 : m6.t = 1800 := by rw [← hm6]
  have hz : ({ passZ s0 m6 901800 0 0 with v := 17 } : M) = ex7 := by
    unfold passZ
    rw [hmany]
    generalize passM s0 m6 901800 0 1000 = p at *
    obtain ⟨p1, p2, p3, p4, p5, p6, p7, p8⟩ := p
    dsimp only at *
    rw [ho, hfr, hbg, hk, hff, hc6, ht6, if_neg (by decide)]
    rfl
  rw [hz] at hf
  refine ⟨_, hf, passE_length _, ⟨_, passE_get 1000 999 (by decide), ?_⟩⟩
  show (passM s0 m6 901800 0 999).f ||| 2 = 2
  rw [passM_f, if_neg (by decide)]
  rfl
theorem e_ex8 : sampleV s0 ex7 0 18 = (0, [], ex8) := triple (by kernel_rfl) (by kernel_rfl) rfl
theorem v_ex8 : ex8 = ⟨true, 901800, 18, 11, 1002, 2, 0, 10⟩ := by kernel_rfl
theorem ok_ex7 : Ok s0 ex7 7 := by
  have h := sample_ok may_s0.ok ok_ex6 901800 (v := 17) (by decide)
  obtain ⟨E, he, -⟩ := e_ex7
  rw [he] at h
  exact h
theorem ok_ex8 : Ok s0 ex8 8 := by
  have h := sample_ok may_s0.ok ok_ex7 0 (v := 18) (by decide)
  rw [e_ex8] at h
  exact h
end Go.Proofs.Ytjmkbpgakfeceaa
