/-
  Texts that the proof leans on, merged by program, part 10. Conditions stand at each theorem.
-/
import Derived.Test.YtgbkedjjgbhcmaaDoorTarM1
import Derived.Test.YtgbkedjjgbhcmaaDoorTarM9
/-
  A day's season, going back day by day: in plain numbers; no walk here. Conditions stand at each theorem.
-/
namespace Go.Proofs.YtgbkedjjgbhcmaaDoor
open Go Go.Kw Go.Kw.Cv
set_option linter.unusedVariables false
set_option linter.unusedSimpArgs false

def seasAll (gs : Nat → Nat → Int) (lb : Nat) : Prop := ∀ i, i < lb → seaOk gs i ∧ ¬ seaDup gs i
theorem plc_inj {gs : Nat → Nat → Int} {lb i j : Nat} (h : seasAll gs lb) (hi : i < lb) (hj : j < lb) (e : plc gs i = plc gs j) : i = j := by
  obtain ⟨e1, e2⟩ := place_inj (h i hi).1.2.2 (h j hj).1.2.2 e
  rcases Nat.lt_trichotomy i j with h1 | h1 | h1
  · exact absurd ⟨i, h1, e1, e2⟩ (h j hj).2
  · exact h1
  · exact absurd ⟨j, h1, e1.symm, e2.symm⟩ (h i hi).2
theorem dim_2001 (y m : Int) (h : 1 ≤ m ∧ m ≤ 12) : dim 2001 m ≤ dim y m := by
  have h0 := lp_01 y
  have h1 : lp 2001 = 0 := by decide
  unfold dim
  rcases month_cases h with rfl | rfl | rfl | rfl | rfl | rfl | rfl | rfl | rfl | rfl | rfl | rfl
  all_goals (simp; try omega)
/-- Where the going back stands: at y', m', d', k steps behind y, m, d. -/
def SeaI (gs : Nat → Nat → Int) (lb : Nat) (y m d y' m' d' : Int) (k : Nat) : Prop :=
  1 ≤ m' ∧ m' ≤ 12 ∧ 1 ≤ d' ∧ d' ≤ dim y' m' ∧ y - k ≤ y' ∧ y' ≤ y ∧
  (lb = 0 ∨ (y' = y ∧ 100 * m' + d' ≤ 100 * m + d ∧ (∀ i, i < lb → ¬ (100 * m' + d' < plc gs i ∧ plc gs i ≤ 100 * m + d)) ∧ k + (mst y m' + d') = mst y m + d) ∨
    (y' = y - 1 ∧ (∀ i, i < lb → ¬ plc gs i ≤ 100 * m + d) ∧ (∀ i, i < lb → plc gs i ≤ 100 * m' + d') ∧ k + (mst (y - 1) m' + d') = mst y m + d + 365 + lp (y - 1)))
theorem seaI_0 (gs : Nat → Nat → Int) (lb : Nat) (y m d : Int) (h : okD y m d) : SeaI gs lb y m d y m d 0 := by
  have hm := dim_month h
  refine ⟨hm.1, hm.2, h.2.2.1, h.2.2.2, by omega, by omega, .inr (.inl ⟨rfl, by omega, fun i _ => by omega, by omega⟩)⟩
theorem sea_ne {gs : Nat → Nat → Int} {lb : Nat} (h : seasAll gs lb) {m' d' : Int} (hd : 1 ≤ d' ∧ d' ≤ 31) (hno : ∀ i, i < lb → ¬ (gs i 1 = m' ∧ gs i 2 = d')) (i : Nat) (hi : i < lb) : plc gs i ≠ 100 * m' + d' := by
  intro e
  have h1 := (h i hi).1.2.2
  have h2 := dim_lo 2001 _ (dim_month h1)
  unfold okD at h1
  unfold plc at e
  exact hno i hi ⟨by omega, by omega⟩
theorem seaI_step1 {gs : Nat → Nat → Int} {lb : Nat} (h : seasAll gs lb) {y m d y' m' d' : Int} {k : Nat} (hI : SeaI gs lb y m d y' m' d' k) (hno : ∀ i, i < lb → ¬ (gs i 1 = m' ∧ gs i 2 = d')) (h2 : 2 ≤ d') :
    SeaI gs lb y m d y' m' (d' - 1) (k + 1) := by
  obtain ⟨a1, a2, a3, a4, a5, a6, hI⟩ := hI
  have hd := dim_lo y' m' ⟨a1, a2⟩
  have hne := sea_ne h ⟨a3, by omega⟩ hno
  refine ⟨a1, a2, by omega, by omega, by push_cast; omega, a6, ?_⟩
  rcases hI with hI | ⟨rfl, b1, b2, b3⟩ | ⟨rfl, b1, b2, b3⟩
  · exact .inl hI
  · refine .inr (.inl ⟨rfl, by omega, fun i hi => ?_, by push_cast; omega⟩)
    have := hne i hi; have := b2 i hi; omega
  · refine .inr (.inr ⟨rfl, b1, fun i hi => ?_, by push_cast; omega⟩)
    have := hne i hi; have := b2 i hi; omega
theorem sea_gap {gs : Nat → Nat → Int} {i : Nat} (h : seaOk gs i) (y m' : Int) (hm : 2 ≤ m' ∧ m' ≤ 12) (h1 : 100 * (m' - 1) + dim y (m' - 1) < plc gs i) : 100 * m' + 1 ≤ plc gs i := by
  have h2 := h.2.2
  have h3 := dim_month h2
  have h4 := dim_2001 y (m' - 1) (by omega)
  have h5 := dim_lo y (m' - 1) (by omega)
  unfold okD at h2
  unfold plc at h1 ⊢
  by_cases e : gs i 1 = m' - 1
  · rw [e] at h2; omega
  · have := dim_lo 2001 (gs i 1) h3
    omega
theorem seaI_step2 {gs : Nat → Nat → Int} {lb : Nat} (h : seasAll gs lb) {y m d y' m' : Int} {k : Nat} (hI : SeaI gs lb y m d y' m' 1 k) (hno : ∀ i, i < lb → ¬ (gs i 1 = m' ∧ gs i 2 = 1)) (h2 : 2 ≤ m') :
    SeaI gs lb y m d y' (m' - 1) (dim y' (m' - 1)) (k + 1) := by
  obtain ⟨a1, a2, a3, a4, a5, a6, hI⟩ := hI
  have hd := dim_lo y' (m' - 1) (by omega)
  have hst := mst_step y' (m' - 1) (by omega)
  rw [show m' - 1 + 1 = m' by omega] at hst
  have hne := sea_ne h ⟨Int.le_refl 1, by omega⟩ hno
  refine ⟨by omega, by omega, by omega, Int.le_refl _, by push_cast; omega, a6, ?_⟩
  rcases hI with hI | ⟨rfl, b1, b2, b3⟩ | ⟨rfl, b1, b2, b3⟩
  · exact .inl hI
  · refine .inr (.inl ⟨rfl, by omega, fun i hi => ?_, by push_cast; omega⟩)
    intro hc
    have := sea_gap (h i hi).1 y' m' ⟨h2, a2⟩ hc.1
    have := hne i hi; have := b2 i hi; omega
  · refine .inr (.inr ⟨rfl, b1, fun i hi => ?_, by push_cast; omega⟩)
    rcases Int.lt_or_le (100 * (m' - 1) + dim (y - 1) (m' - 1)) (plc gs i) with hc | hc
    · have := sea_gap (h i hi).1 (y - 1) m' ⟨h2, a2⟩ hc
      have := hne i hi; have := b2 i hi; omega
    · exact hc
theorem seaI_step3 {gs : Nat → Nat → Int} {lb : Nat} (h : seasAll gs lb) {y m d y' : Int} {k : Nat} (hI : SeaI gs lb y m d y' 1 1 k) (hno : ∀ i, i < lb → ¬ (gs i 1 = 1 ∧ gs i 2 = 1)) :
    SeaI gs lb y m d (y' - 1) 12 (dim (y' - 1) 12) (k + 1) := by
  obtain ⟨a1, a2, a3, a4, a5, a6, hI⟩ := hI
  have hne := sea_ne h ⟨Int.le_refl 1, by omega⟩ hno
  have hdim : dim (y' - 1) 12 = 31 := rfl
  refine ⟨by omega, by omega, by rw [hdim]; omega, Int.le_refl _, by push_cast; omega, by omega, ?_⟩
  rcases hI with hI | ⟨rfl, b1, b2, b3⟩ | ⟨rfl, b1, b2, b3⟩
  · exact .inl hI
  · refine .inr (.inr ⟨rfl, fun i hi => ?_, fun i hi => ?_, ?_⟩)
    · have := hne i hi; have := b2 i hi; have := sea_place (h i hi).1; omega
    · have := sea_place (h i hi).1; rw [hdim]; omega
    · have h12 := mst_12 (y' - 1)
      rw [mst_1] at b3
      push_cast; omega
  · refine .inl ?_
    rcases Nat.eq_zero_or_pos lb with h0 | h0
    · exact h0
    · have := hne 0 h0; have := b2 0 h0; have := sea_place (h 0 h0).1; omega
theorem seaI_hit {gs : Nat → Nat → Int} {lb : Nat} (h : seasAll gs lb) {y m d y' m' d' : Int} {k i : Nat} (hI : SeaI gs lb y m d y' m' d' k) (hi : i < lb) (e1 : gs i 1 = m') (e2 : gs i 2 = d') : seasN gs lb m d = gs i 0 := by
  obtain ⟨a1, a2, a3, a4, a5, a6, hI⟩ := hI
  have hp : plc gs i = 100 * m' + d' := by unfold plc; rw [e1, e2]
  have hpos : ∀ j, j < lb → 0 ≤ plc gs j := fun j hj => by have := sea_place (h j hj).1; omega
  unfold seasN
  rcases hI with hI | ⟨rfl, b1, b2, b3⟩ | ⟨rfl, b1, b2, b3⟩
  · omega
  · rcases mxS_spec gs (100 * m + d) lb hpos with ⟨h1, h2⟩ | ⟨j, hj, h1, h2, h3⟩
    · exact absurd (by rw [hp]; exact b1) (h2 i hi)
    · have h4 := h3 i hi (by rw [hp]; exact b1)
      have h5 := b2 j hj
      have : j = i := plc_inj h hj hi (by omega)
      rw [h2, this]
      unfold seasB
      rw [if_neg (by have := hpos i hi; show ¬ plc gs i < 0; omega)]
  · have hm : mxS gs (100 * m + d) lb = (-1, 0) := by
      rcases mxS_spec gs (100 * m + d) lb hpos with ⟨h1, h2⟩ | ⟨j, hj, h1, h2, h3⟩
      · exact h1
      · exact absurd h1 (b1 j hj)
    rw [hm]
    unfold seasB
    rw [if_pos (show (-1 : Int) < 0 by omega)]
    have hle : ∀ j, j < lb → plc gs j ≤ 9999 := fun j hj => by have := sea_place (h j hj).1; omega
    rcases mxS_spec gs 9999 lb hpos with ⟨h1, h2⟩ | ⟨j, hj, h1, h2, h3⟩
    · exact absurd (hle i hi) (h2 i hi)
    · have h4 := h3 i hi (hle i hi)
      have h5 := b2 j hj
      have : j = i := plc_inj h hj hi (by omega)
      rw [h2, this]
theorem seaI_end {gs : Nat → Nat → Int} {lb : Nat} {y m d y' m' d' : Int} (hok : okD y m d) (hI : SeaI gs lb y m d y' m' d' 800) : seasN gs lb m d = 0 := by
  obtain ⟨a1, a2, a3, a4, a5, a6, hI⟩ := hI
  have hm := dim_month hok
  have h1 := mst_lo y m hm
  have h2 := lp_01 y
  have h3 := lp_01 (y - 1)
  have hd := hok.2.2.2
  rcases hI with rfl | ⟨rfl, b1, b2, b3⟩ | ⟨rfl, b1, b2, b3⟩
  · rfl
  · have := mst_lo y' m' ⟨a1, a2⟩; omega
  · have := mst_lo (y - 1) m' ⟨a1, a2⟩; omega
theorem seaI_bd {gs : Nat → Nat → Int} {lb : Nat} {y m d y' m' d' : Int} {k : Nat} (hI : SeaI gs lb y m d y' m' d' k) : 1 ≤ m' ∧ m' ≤ 12 ∧ 1 ≤ d' ∧ d' ≤ 31 ∧ y - k ≤ y' ∧ y' ≤ y := by
  obtain ⟨a1, a2, a3, a4, a5, a6, -⟩ := hI
  have := dim_lo y' m' ⟨a1, a2⟩
  omega
noncomputable def seasD (gs : Nat → Nat → Int) (lb : Nat) (n : Int) : Int := seasN gs lb (dOf n).2.1 (dOf n).2.2
end Go.Proofs.YtgbkedjjgbhcmaaDoor

/-
  A day's season: days.SeasonOf, walked. Conditions stand at each theorem. (Printed by gen_season.py.)
-/
namespace Go.Proofs.YtgbkedjjgbhcmaaDoor
open Go Go.RowKit Go.Kw Go.Kw.Cv Go.Shelf
set_option linter.unusedVariables false
set_option linter.unusedSimpArgs false

theorem mxS_hit {gs : Nat → Nat → Int} {p : Int} {k : Nat} (h1 : plc gs k ≤ p) (h2 : plc gs k > (mxS gs p k).1) : mxS gs p (k + 1) = (plc gs k, gs k 0) := if_pos ⟨h1, h2⟩
theorem mxS_far {gs : Nat → Nat → Int} {p : Int} {k : Nat} (h1 : ¬ plc gs k ≤ p) : mxS gs p (k + 1) = mxS gs p k := if_neg (fun h => h1 h.1)
theorem mxS_low {gs : Nat → Nat → Int} {p : Int} {k : Nat} (h2 : ¬ plc gs k > (mxS gs p k).1) : mxS gs p (k + 1) = mxS gs p k := if_neg (fun h => h2 h.2)
theorem season_bd {gs : Nat → Nat → Int} {lb : Nat} (h : seasAll gs lb) {k : Nat} (hk : k < lb) : plc gs k ≤ 9999 := by have := sea_place (h k hk).1; omega
set_option maxRecDepth 100000 in
set_option maxHeartbeats 8000000 in
theorem season_ok (A : Option Addr) (la ca : Nat) (gh : Nat → Nat → Int) (B : Option Addr) (lb cb : Nat) (gs : Nat → Nat → Int) (n : Int) (hcal : calOk la gh lb gs) (hn : 0 ≤ n ∧ n ≤ 2932896) (w : World) (hR : RdCal w A la ca gh B lb cb gs) (hL : Lens w) :
    Calls Tryd.prog 28 #[calC A la ca B lb cb, .int .i64 n] w fun e w' => e = .returned (.tuple #[.int .i64 (seasD gs lb n), .int .i64 0]) ∧ Below w.heap.size w w' := by
  obtain ⟨b0, hb0⟩ : ∃ b0, w.heap.size = b0 := ⟨_, rfl⟩
  have Hb0 := Lib.hid hb0
  have hE := errA_ok hcal hn
  obtain ⟨hok, hday⟩ := dOf_spec n hn
  unfold seasD
  have hst := bstep w (.cells #[.slice A la ca, .slice B lb cb] 47)
  have hr0 := World.alloc_heap_new w (.cells #[.slice A la ca, .slice B lb cb] 47)
  have hM := may_calls A la ca gh B lb cb gs n _ (hR.go hst) (hL.go hst)
  rw [hb0] at hr0
  rw [mayV_ok hE, hE] at hM
  obtain ⟨T, hT⟩ : ∃ T, dOf n = T := ⟨_, rfl⟩
  rw [hT] at hM hok hday ⊢
  obtain ⟨y, m, d⟩ := T
  have hmd := dim_month hok
  have hdl := dim_lo y m hmd
  have hd31 : 1 ≤ d ∧ d ≤ 31 := by have := hok.2.2; dsimp only at this; omega
  dsimp only at hmd hok ⊢
  unfold dateV at hM
  unfold calC at hM ⊢
  have HM := Lib.hid hM
  have HP0 := place_calls m d
  rw [wrap64_in (100 * m) (by omega), wrap64_in (100 * m + d) (by omega)] at HP0
  unfold seasN
  obtain ⟨P, hP⟩ : ∃ P, 100 * m + d = P := ⟨_, rfl⟩
  rw [hP] at HP0 ⊢
  replace HP0 := Lib.hid HP0
  have hS : seasAll gs lb := hcal.2.2.2
  have HS := Lib.hid hS
  have Hlb := Lib.hid hcal.2.1
  have HX := Lib.hid (And.intro hst hr0)
  have HR := Lib.hid (And.intro hR.2 hb0)
  clear hM hT hE hst hr0 hR hL hcal hok hday hn hmd hdl hd31 hP hS
  go_enter Tryd.func28, Tryd.ntmps28
  go_wp2_with fail
  refine HM.out.mono ?_
  rintro e w3 ⟨rfl, hb3⟩
  have hr3 := blk_below HX.out.2 hb3
  have hbw := bnext HX.out.1 hb3
  have hs3 : b0 + 1 ≤ w3.heap.size := by have := (Array.getElem?_eq_some_iff.1 hr3).1; omega
  obtain ⟨s3, hs3e⟩ : ∃ s3, w3.heap.size = s3 := ⟨_, rfl⟩
  have t1 := bstep w3 (.cells #[.int .i64 y, .int .i64 m, .int .i64 d] 121)
  have rD := World.alloc_heap_new w3 (.cells #[.int .i64 y, .int .i64 m, .int .i64 d] 121)
  rw [hs3e] at rD
  have r0 := blk_below hr3 t1
  have hb4 := bnext hbw t1
  rw [Hb0.out] at hb4
  have e1 := cell_of_row _ b0 1 _ _ _ r0
  have s4 : s3 + 1 ≤ (w3.alloc (.cells #[.int .i64 y, .int .i64 m, .int .i64 d] 121)).heap.size := by simp [hs3e]
  rw [hs3e] at hs3
  have Hs3 := Lib.hid hs3
  clear hb3 hr3 hbw t1 hs3
  go_wp2_with fail
  clear e1
  go_loopw [8, 9, 10, 11, 27] (fun va vl vn vt vi wr => ∃ (k : Nat) (p q : Int × Int), k ≤ lb ∧ vi = .int .i64 k ∧ mxS gs P k = p ∧ mxS gs 9999 k = q ∧ va = .int .i64 p.1 ∧ vl = .int .i64 q.1 ∧ vn = .int .i64 p.2 ∧ vt = .int .i64 q.2 ∧ wr.heap[s3]? = some (.cells #[.int .i64 y, .int .i64 m, .int .i64 d] 121 (0, 0)) ∧ Below b0 w wr ∧ s3 + 1 ≤ wr.heap.size) (fun _ _ _ _ vi _ => lb - (intOf vi).toNat)
  case atStart => exact ⟨0, _, _, by omega, rfl, rfl, rfl, rfl, rfl, rfl, rfl, rD, hb4, s4⟩
  case round =>
    clear rD r0 hb4 s4
    obtain ⟨k, ⟨p1, p2⟩, ⟨q1, q2⟩, hk, rfl, hp, hq, rfl, rfl, rfl, rfl, rD, hBk, hsk⟩ := hrel
    by_cases hlt : k < lb
    · have hI : (k : Int) < lb := by omega
      obtain ⟨sb, off, rfl, hsb, hc⟩ := HR.out.1.at_ (by omega) hlt
      have hsb0 : sb < b0 := by have := HR.out.2; omega
      have hc' : ∀ j, j < 3 → wr.cell? ⟨sb, off + k * 3 + j, none⟩ = some (.int .i64 (gs k j)) := fun j hj => (hBk.cell (p := ⟨sb, off + k * 3 + j, none⟩) hsb0).trans (hc j hj)
      have c0 : wr.cell? ⟨sb, off + k * 3, none⟩ = some (.int .i64 (gs k 0)) := hc' 0 (by omega)
      have c1 := hc' 1 (by omega)
      have c2 := hc' 2 (by omega)
      have HP := place_calls (gs k 1) (gs k 2)
      rw [place_in (HS.out k hlt).1.2.2] at HP
      change ∀ w, Calls _ _ _ w fun e w' => e = .returned (.int .i64 (plc gs k)) ∧ w' = w at HP
      have h9 := season_bd HS.out hlt
      obtain ⟨Q, hQ⟩ : ∃ Q, plc gs k = Q := ⟨_, rfl⟩
      rw [hQ] at HP h9
      replace HP := Lib.hid HP
      obtain ⟨wa, hwa⟩ : ∃ wa, wr.alloc (.cells #[.int .i64 (gs k 0), .int .i64 (gs k 1), .int .i64 (gs k 2)] 125) = wa := ⟨_, rfl⟩
      have hst : Below wr.heap.size wr wa := hwa ▸ bstep wr _
      have hrS : wa.heap[wr.heap.size]? = some (.cells #[.int .i64 (gs k 0), .int .i64 (gs k 1), .int .i64 (gs k 2)] 125 (0, 0)) := hwa ▸ World.alloc_heap_new wr _
      obtain ⟨sx, hsx⟩ : ∃ sx, wr.heap.size = sx := ⟨_, rfl⟩
      rw [hsx] at hrS
      have a0 := cell_of_row _ sx 0 _ _ _ hrS
      have a1 := cell_of_row _ sx 1 _ _ _ hrS
      have a2 := cell_of_row _ sx 2 _ _ _ hrS
      have rDa := blk_below rD hst
      have g1 := cell_of_row _ s3 1 _ _ _ rDa
      have g2 := cell_of_row _ s3 2 _ _ _ rDa
      have hBa : Below b0 w wa := hBk.trans (hst.mono (by have := Hs3.out; omega))
      have hsa := Nat.le_trans hsk hst.size
      have w1 : IntKind.i64.wrap ((k : Int) + 1) = (k : Int) + 1 := i64_same _ (by have := Hlb.out; omega)
      have X1 := Lib.hid (wrap64_in ((k : Int) + 1) (by have := Hlb.out; omega))
      have Hk := Lib.hid (show k + 1 ≤ lb from hlt)
      have Hsh := Lib.hid (And.intro rDa (And.intro hBa hsa))
      have hs1 : (mxS gs P k).1 = p1 := by rw [hp]
      have hs2 : (mxS gs 9999 k).1 = q1 := by rw [hq]
      clear hc hc' rD hBk hsk hst hrS rDa hBa hsa hk hlt
      by_cases h1 : Q ≤ P
      · have bh1 : decide (Q ≤ P) = true := decide_eq_true h1
        by_cases h2 : Q > p1
        · have bh2 : decide (Q > p1) = true := decide_eq_true h2
          by_cases h3 : Q > q1
          · have bh3 : decide (Q > q1) = true := decide_eq_true h3
            have hP1 : mxS gs P (k + 1) = _ := mxS_hit (show plc gs k ≤ P by rw [hQ]; exact h1) (by rw [hQ, hs1]; exact h2)
            have hQ1 : mxS gs 9999 (k + 1) = _ := mxS_hit (show plc gs k ≤ 9999 by rw [hQ]; exact h9) (by rw [hQ, hs2]; exact h3)
            rw [hQ] at hP1
            rw [hQ] at hQ1
            have HN := Lib.hid (And.intro hP1 hQ1)
            clear hP1 hQ1 hp hq hQ h9 hs1 hs2 h1 h2 h3
            have x1 := X1.out
            go_wp2_with fail
            refine (HP.out _).mono ?_
            rintro e w5 ⟨rfl, rfl⟩
            go_wp2_with fail
            refine (HP0.out _).mono ?_
            rintro e w6 ⟨rfl, rfl⟩
            go_wp2_with fail
            go_quiet (fail)
            go_wp2_with fail
            go_quiet (fail)
            go_wp2_with fail
            clear x1
            refine ⟨⟨k + 1, _, _, Hk.out, by push_cast; rfl, HN.out.1, HN.out.2, rfl, rfl, rfl, rfl, ?_, ?_, ?_⟩, meas_step lb k Hk.out⟩
            · exact Hsh.out.1
            · first | exact (Hsh.out.2.1.drewN _).drewN _ | exact Hsh.out.2.1.drewN _ | exact Hsh.out.2.1
            · exact Hsh.out.2.2
          · have bh3 : decide (Q > q1) = false := decide_eq_false h3
            have hP1 : mxS gs P (k + 1) = _ := mxS_hit (show plc gs k ≤ P by rw [hQ]; exact h1) (by rw [hQ, hs1]; exact h2)
            have hQ1 : mxS gs 9999 (k + 1) = _ := mxS_low (by rw [hQ, hs2]; exact h3)
            rw [hQ] at hP1
            rw [hq] at hQ1
            have HN := Lib.hid (And.intro hP1 hQ1)
            clear hP1 hQ1 hp hq hQ h9 hs1 hs2 h1 h2 h3
            have x1 := X1.out
            go_wp2_with fail
            refine (HP.out _).mono ?_
            rintro e w5 ⟨rfl, rfl⟩
            go_wp2_with fail
            refine (HP0.out _).mono ?_
            rintro e w6 ⟨rfl, rfl⟩
            go_wp2_with fail
            go_quiet (fail)
            go_wp2_with fail
            clear x1
            refine ⟨⟨k + 1, _, _, Hk.out, by push_cast; rfl, HN.out.1, HN.out.2, rfl, rfl, rfl, rfl, ?_, ?_, ?_⟩, meas_step lb k Hk.out⟩
            · exact Hsh.out.1
            · first | exact Hsh.out.2.1.drewN _ | exact Hsh.out.2.1.drewN _ | exact Hsh.out.2.1
            · exact Hsh.out.2.2
        · have bh2 : decide (Q > p1) = false := decide_eq_false h2
          by_cases h3 : Q > q1
          · have bh3 : decide (Q > q1) = true := decide_eq_true h3
            have hP1 : mxS gs P (k + 1) = _ := mxS_low (by rw [hQ, hs1]; exact h2)
            have hQ1 : mxS gs 9999 (k + 1) = _ := mxS_hit (show plc gs k ≤ 9999 by rw [hQ]; exact h9) (by rw [hQ, hs2]; exact h3)
            rw [hp] at hP1
            rw [hQ] at hQ1
            have HN := Lib.hid (And.intro hP1 hQ1)
            clear hP1 hQ1 hp hq hQ h9 hs1 hs2 h1 h2 h3
            have x1 := X1.out
            go_wp2_with fail
            refine (HP.out _).mono ?_
            rintro e w5 ⟨rfl, rfl⟩
            go_wp2_with fail
            refine (HP0.out _).mono ?_
            rintro e w6 ⟨rfl, rfl⟩
            go_wp2_with fail
            go_quiet (fail)
            go_wp2_with fail
            clear x1
            refine ⟨⟨k + 1, _, _, Hk.out, by push_cast; rfl, HN.out.1, HN.out.2, rfl, rfl, rfl, rfl, ?_, ?_, ?_⟩, meas_step lb k Hk.out⟩
            · exact Hsh.out.1
            · first | exact Hsh.out.2.1.drewN _ | exact Hsh.out.2.1.drewN _ | exact Hsh.out.2.1
            · exact Hsh.out.2.2
          · have bh3 : decide (Q > q1) = false := decide_eq_false h3
            have hP1 : mxS gs P (k + 1) = _ := mxS_low (by rw [hQ, hs1]; exact h2)
            have hQ1 : mxS gs 9999 (k + 1) = _ := mxS_low (by rw [hQ, hs2]; exact h3)
            rw [hp] at hP1
            rw [hq] at hQ1
            have HN := Lib.hid (And.intro hP1 hQ1)
            clear hP1 hQ1 hp hq hQ h9 hs1 hs2 h1 h2 h3
            have x1 := X1.out
            go_wp2_with fail
            refine (HP.out _).mono ?_
            rintro e w5 ⟨rfl, rfl⟩
            go_wp2_with fail
            refine (HP0.out _).mono ?_
            rintro e w6 ⟨rfl, rfl⟩
            go_wp2_with fail
            clear x1
            refine ⟨⟨k + 1, _, _, Hk.out, by push_cast; rfl, HN.out.1, HN.out.2, rfl, rfl, rfl, rfl, ?_, ?_, ?_⟩, meas_step lb k Hk.out⟩
            · exact Hsh.out.1
            · first | exact Hsh.out.2.1 | exact Hsh.out.2.1.drewN _ | exact Hsh.out.2.1
            · exact Hsh.out.2.2
      · have bh1 : decide (Q ≤ P) = false := decide_eq_false h1
        by_cases h3 : Q > q1
        · have bh3 : decide (Q > q1) = true := decide_eq_true h3
          have hP1 : mxS gs P (k + 1) = _ := mxS_far (by rw [hQ]; exact h1)
          have hQ1 : mxS gs 9999 (k + 1) = _ := mxS_hit (show plc gs k ≤ 9999 by rw [hQ]; exact h9) (by rw [hQ, hs2]; exact h3)
          rw [hp] at hP1
          rw [hQ] at hQ1
          have HN := Lib.hid (And.intro hP1 hQ1)
          clear hP1 hQ1 hp hq hQ h9 hs1 hs2 h1 h3
          have x1 := X1.out
          go_wp2_with fail
          refine (HP.out _).mono ?_
          rintro e w5 ⟨rfl, rfl⟩
          go_wp2_with fail
          refine (HP0.out _).mono ?_
          rintro e w6 ⟨rfl, rfl⟩
          go_wp2_with fail
          go_quiet (fail)
          go_wp2_with fail
          clear x1
          refine ⟨⟨k + 1, _, _, Hk.out, by push_cast; rfl, HN.out.1, HN.out.2, rfl, rfl, rfl, rfl, ?_, ?_, ?_⟩, meas_step lb k Hk.out⟩
          · exact Hsh.out.1
          · first | exact Hsh.out.2.1.drewN _ | exact Hsh.out.2.1.drewN _ | exact Hsh.out.2.1
          · exact Hsh.out.2.2
        · have bh3 : decide (Q > q1) = false := decide_eq_false h3
          have hP1 : mxS gs P (k + 1) = _ := mxS_far (by rw [hQ]; exact h1)
          have hQ1 : mxS gs 9999 (k + 1) = _ := mxS_low (by rw [hQ, hs2]; exact h3)
          rw [hp] at hP1
          rw [hq] at hQ1
          have HN := Lib.hid (And.intro hP1 hQ1)
          clear hP1 hQ1 hp hq hQ h9 hs1 hs2 h1 h3
          have x1 := X1.out
          go_wp2_with fail
          refine (HP.out _).mono ?_
          rintro e w5 ⟨rfl, rfl⟩
          go_wp2_with fail
          refine (HP0.out _).mono ?_
          rintro e w6 ⟨rfl, rfl⟩
          go_wp2_with fail
          clear x1
          refine ⟨⟨k + 1, _, _, Hk.out, by push_cast; rfl, HN.out.1, HN.out.2, rfl, rfl, rfl, rfl, ?_, ?_, ?_⟩, meas_step lb k Hk.out⟩
          · exact Hsh.out.1
          · first | exact Hsh.out.2.1 | exact Hsh.out.2.1.drewN _ | exact Hsh.out.2.1
          · exact Hsh.out.2.2
    · obtain rfl : k = lb := by omega
      have hI : ¬ ((k : Int) < k) := by omega
      have HPQ := Lib.hid (And.intro hp hq)
      have HB := Lib.hid hBk
      clear hp hq hk hlt hsk rD hBk
      by_cases hneg : p1 < 0
      · have kn : decide (p1 < 0) = true := decide_eq_true hneg
        have HV := Lib.hid (show seasB (p1, p2) (q1, q2) = q2 from if_pos hneg)
        clear hneg
        go_wp2_with fail
        go_ret2
        exact ⟨by rw [HPQ.out.1, HPQ.out.2, HV.out]; rfl, by first | exact HB.out | (rw [Hb0.out]; exact HB.out)⟩
      · have kn : decide (p1 < 0) = false := decide_eq_false hneg
        have HV := Lib.hid (show seasB (p1, p2) (q1, q2) = p2 from if_neg hneg)
        clear hneg
        go_wp2_with fail
        go_ret2
        exact ⟨by rw [HPQ.out.1, HPQ.out.2, HV.out]; rfl, by first | exact HB.out | (rw [Hb0.out]; exact HB.out)⟩
set_option maxRecDepth 100000 in
set_option maxHeartbeats 8000000 in
theorem season_no (A : Option Addr) (la ca : Nat) (gh : Nat → Nat → Int) (B : Option Addr) (lb cb : Nat) (gs : Nat → Nat → Int) (n : Int) (hE : errA la gh lb gs n ≠ 0) (w : World) (hR : RdCal w A la ca gh B lb cb gs) (hL : Lens w) :
    Calls Tryd.prog 28 #[calC A la ca B lb cb, .int .i64 n] w fun e w' => e = .returned (.tuple #[.int .i64 0, .int .i64 (errA la gh lb gs n)]) ∧ Below w.heap.size w w' := by
  have hst := bstep w (.cells #[.slice A la ca, .slice B lb cb] 47)
  have hM := may_calls A la ca gh B lb cb gs n _ (hR.go hst) (hL.go hst)
  rw [mayV_no hE] at hM
  obtain ⟨E, hEe⟩ : ∃ E, errA la gh lb gs n = E := ⟨_, rfl⟩
  rw [hEe] at hM hE ⊢
  have k0 : (E == 0) = false := beq_eq_false_iff_ne.2 hE
  have k1 : (E != 0) = true := bne_iff_ne.2 hE
  unfold dateV at hM
  unfold calC at hM ⊢
  have HM := Lib.hid hM
  clear hR hL hE hEe hM
  go_enter Tryd.func28, Tryd.ntmps28
  go_wp2_with fail
  refine HM.out.mono ?_
  rintro e w2 ⟨rfl, hb2⟩
  have hbb := bnext (bnext hst hb2) (bstep w2 (.cells #[.int .i64 0, .int .i64 0, .int .i64 0] 121))
  clear hb2
  go_wp2_with fail
  go_ret2
  exact ⟨rfl, hbb⟩
end Go.Proofs.YtgbkedjjgbhcmaaDoor

/-
  A holiday's day in a year: days.on, walked kind by kind. Conditions stand at each theorem. (Printed by gen_on.py.)
-/
namespace Go.Proofs.YtgbkedjjgbhcmaaDoor
open Go Go.RowKit Go.Kw Go.Kw.Cv Go.Shelf
set_option linter.unusedVariables false
set_option linter.unusedSimpArgs false

set_option maxRecDepth 100000 in
set_option maxHeartbeats 8000000 in
theorem on1_ok (hy m d wd n y : Int) (hok : okD y m d) (w : World) (hL : Lens w) : Calls Tryd.prog 84 #[.agg #[.int .i64 1, .int .i64 hy, .int .i64 m, .int .i64 d, .int .i64 wd, .int .i64 n], .int .i64 y] w fun e w' => e = .returned (.int .i64 (dayN y m d)) ∧ Below w.heap.size w w' := by
  obtain ⟨b0, hb0⟩ : ∃ b0, w.heap.size = b0 := ⟨_, rfl⟩
  have Hb0 := Lib.hid hb0
  have hst1 := bstep w (.cells #[.int .i64 1, .int .i64 hy, .int .i64 m, .int .i64 d, .int .i64 wd, .int .i64 n] 137)
  have hs1 : (w.alloc (.cells #[.int .i64 1, .int .i64 hy, .int .i64 m, .int .i64 d, .int .i64 wd, .int .i64 n] 137)).heap.size = b0 + 1 := by simp [hb0]
  have hr0 := World.alloc_heap_new w (.cells #[.int .i64 1, .int .i64 hy, .int .i64 m, .int .i64 d, .int .i64 wd, .int .i64 n] 137)
  rw [hb0] at hr0
  have hst2 := bstep (w.alloc (.cells #[.int .i64 1, .int .i64 hy, .int .i64 m, .int .i64 d, .int .i64 wd, .int .i64 n] 137)) (.cells #[.int .i64 y, .int .i64 m, .int .i64 d] 121)
  have hs2 : ((w.alloc (.cells #[.int .i64 1, .int .i64 hy, .int .i64 m, .int .i64 d, .int .i64 wd, .int .i64 n] 137)).alloc (.cells #[.int .i64 y, .int .i64 m, .int .i64 d] 121)).heap.size = b0 + 2 := by simp [hb0]
  have hr1 := World.alloc_heap_new (w.alloc (.cells #[.int .i64 1, .int .i64 hy, .int .i64 m, .int .i64 d, .int .i64 wd, .int .i64 n] 137)) (.cells #[.int .i64 y, .int .i64 m, .int .i64 d] 121)
  rw [hs1] at hr1
  have hr0' := blk_below hr0 hst2
  have hst := bnext hst1 hst2
  have hL2 := hL.go hst
  have HX := Lib.hid (And.intro hst (And.intro hs2 (And.intro hr0' (And.intro hr1 (And.intro hL2 hL.low)))))
  clear hst1 hs1 hr0 hst2 hs2 hr1 hr0' hst hL
  have HC := check_calls y m d _ HX.out.2.2.2.2.1
  rw [chk_ok hok] at HC
  have HD := day_calls y m d
  rw [show dayE y m d = dayN y m d from if_pos hok, chk_ok hok] at HD
  have hr := day_range hok
  obtain ⟨N, hN⟩ : ∃ N, dayN y m d = N := ⟨_, rfl⟩
  rw [hN] at HD hr ⊢
  replace HC := Lib.hid HC
  replace HD := Lib.hid HD
  have a1 := i64_same N (by omega)
  have B1 := Lib.hid (wrap64_in N (by omega))
  clear hok hN hr hL2
  go_enter Tryd.func84, Tryd.ntmps84
  go_wp2_with fail
  refine HC.out.mono ?_
  rintro e w3 ⟨rfl, hb3⟩
  have hr3 := blk_below HX.out.2.2.2.1 hb3
  have d0 := cell_of_row _ (b0 + 1) 0 _ _ _ hr3
  have d1 := cell_of_row _ (b0 + 1) 1 _ _ _ hr3
  have d2 := cell_of_row _ (b0 + 1) 2 _ _ _ hr3
  have hL3 := HX.out.2.2.2.2.1.go hb3
  have hb := bnext HX.out.1 hb3
  clear hr3 hb3
  go_wp2_with fail
  refine (HD.out w3 hL3).mono ?_
  rintro e w4 ⟨rfl, hb4⟩
  have hbb := bnext hb hb4
  have b1 := B1.out
  clear hb4 hb hL3 d0 d1 d2
  go_wp2_with fail
  go_ret
  exact ⟨rfl, hbb⟩
set_option maxRecDepth 100000 in
set_option maxHeartbeats 8000000 in
theorem on1_no (hy m d wd n y : Int) (hok : ¬ okD y m d) (w : World) (hL : Lens w) : Calls Tryd.prog 84 #[.agg #[.int .i64 1, .int .i64 hy, .int .i64 m, .int .i64 d, .int .i64 wd, .int .i64 n], .int .i64 y] w fun e w' => e = .returned (.int .i64 (-1)) ∧ Below w.heap.size w w' := by
  obtain ⟨b0, hb0⟩ : ∃ b0, w.heap.size = b0 := ⟨_, rfl⟩
  have Hb0 := Lib.hid hb0
  have hst1 := bstep w (.cells #[.int .i64 1, .int .i64 hy, .int .i64 m, .int .i64 d, .int .i64 wd, .int .i64 n] 137)
  have hs1 : (w.alloc (.cells #[.int .i64 1, .int .i64 hy, .int .i64 m, .int .i64 d, .int .i64 wd, .int .i64 n] 137)).heap.size = b0 + 1 := by simp [hb0]
  have hr0 := World.alloc_heap_new w (.cells #[.int .i64 1, .int .i64 hy, .int .i64 m, .int .i64 d, .int .i64 wd, .int .i64 n] 137)
  rw [hb0] at hr0
  have hst2 := bstep (w.alloc (.cells #[.int .i64 1, .int .i64 hy, .int .i64 m, .int .i64 d, .int .i64 wd, .int .i64 n] 137)) (.cells #[.int .i64 y, .int .i64 m, .int .i64 d] 121)
  have hs2 : ((w.alloc (.cells #[.int .i64 1, .int .i64 hy, .int .i64 m, .int .i64 d, .int .i64 wd, .int .i64 n] 137)).alloc (.cells #[.int .i64 y, .int .i64 m, .int .i64 d] 121)).heap.size = b0 + 2 := by simp [hb0]
  have hr1 := World.alloc_heap_new (w.alloc (.cells #[.int .i64 1, .int .i64 hy, .int .i64 m, .int .i64 d, .int .i64 wd, .int .i64 n] 137)) (.cells #[.int .i64 y, .int .i64 m, .int .i64 d] 121)
  rw [hs1] at hr1
  have hr0' := blk_below hr0 hst2
  have hst := bnext hst1 hst2
  have hL2 := hL.go hst
  have HX := Lib.hid (And.intro hst (And.intro hs2 (And.intro hr0' (And.intro hr1 (And.intro hL2 hL.low)))))
  clear hst1 hs1 hr0 hst2 hs2 hr1 hr0' hst hL
  have HC := check_calls y m d _ HX.out.2.2.2.2.1
  rw [chk_no hok] at HC
  replace HC := Lib.hid HC
  clear hok hL2
  go_enter Tryd.func84, Tryd.ntmps84
  go_wp2_with fail
  refine HC.out.mono ?_
  rintro e w3 ⟨rfl, hb3⟩
  have hb := bnext HX.out.1 hb3
  clear hb3
  go_wp2_with fail
  go_ret
  exact ⟨rfl, hb⟩
set_option maxRecDepth 100000 in
set_option maxHeartbeats 8000000 in
theorem on2_ok (m d wd n y : Int) (hok : okD y m d) (w : World) (hL : Lens w) : Calls Tryd.prog 84 #[.agg #[.int .i64 2, .int .i64 y, .int .i64 m, .int .i64 d, .int .i64 wd, .int .i64 n], .int .i64 y] w fun e w' => e = .returned (.int .i64 (dayN y m d)) ∧ Below w.heap.size w w' := by
  obtain ⟨b0, hb0⟩ : ∃ b0, w.heap.size = b0 := ⟨_, rfl⟩
  have Hb0 := Lib.hid hb0
  have hst1 := bstep w (.cells #[.int .i64 2, .int .i64 y, .int .i64 m, .int .i64 d, .int .i64 wd, .int .i64 n] 137)
  have hs1 : (w.alloc (.cells #[.int .i64 2, .int .i64 y, .int .i64 m, .int .i64 d, .int .i64 wd, .int .i64 n] 137)).heap.size = b0 + 1 := by simp [hb0]
  have hr0 := World.alloc_heap_new w (.cells #[.int .i64 2, .int .i64 y, .int .i64 m, .int .i64 d, .int .i64 wd, .int .i64 n] 137)
  rw [hb0] at hr0
  have hst2 := bstep (w.alloc (.cells #[.int .i64 2, .int .i64 y, .int .i64 m, .int .i64 d, .int .i64 wd, .int .i64 n] 137)) (.cells #[.int .i64 y, .int .i64 m, .int .i64 d] 121)
  have hs2 : ((w.alloc (.cells #[.int .i64 2, .int .i64 y, .int .i64 m, .int .i64 d, .int .i64 wd, .int .i64 n] 137)).alloc (.cells #[.int .i64 y, .int .i64 m, .int .i64 d] 121)).heap.size = b0 + 2 := by simp [hb0]
  have hr1 := World.alloc_heap_new (w.alloc (.cells #[.int .i64 2, .int .i64 y, .int .i64 m, .int .i64 d, .int .i64 wd, .int .i64 n] 137)) (.cells #[.int .i64 y, .int .i64 m, .int .i64 d] 121)
  rw [hs1] at hr1
  have hr0' := blk_below hr0 hst2
  have hst := bnext hst1 hst2
  have hL2 := hL.go hst
  have HX := Lib.hid (And.intro hst (And.intro hs2 (And.intro hr0' (And.intro hr1 (And.intro hL2 hL.low)))))
  clear hst1 hs1 hr0 hst2 hs2 hr1 hr0' hst hL
  have HC := check_calls y m d _ HX.out.2.2.2.2.1
  rw [chk_ok hok] at HC
  have HD := day_calls y m d
  rw [show dayE y m d = dayN y m d from if_pos hok, chk_ok hok] at HD
  have hr := day_range hok
  obtain ⟨N, hN⟩ : ∃ N, dayN y m d = N := ⟨_, rfl⟩
  rw [hN] at HD hr ⊢
  replace HC := Lib.hid HC
  replace HD := Lib.hid HD
  have a1 := i64_same N (by omega)
  have B1 := Lib.hid (wrap64_in N (by omega))
  clear hok hN hr hL2
  go_enter Tryd.func84, Tryd.ntmps84
  go_wp2_with fail
  refine HC.out.mono ?_
  rintro e w3 ⟨rfl, hb3⟩
  have hr3 := blk_below HX.out.2.2.2.1 hb3
  have d0 := cell_of_row _ (b0 + 1) 0 _ _ _ hr3
  have d1 := cell_of_row _ (b0 + 1) 1 _ _ _ hr3
  have d2 := cell_of_row _ (b0 + 1) 2 _ _ _ hr3
  have hL3 := HX.out.2.2.2.2.1.go hb3
  have hb := bnext HX.out.1 hb3
  clear hr3 hb3
  go_wp2_with fail
  refine (HD.out w3 hL3).mono ?_
  rintro e w4 ⟨rfl, hb4⟩
  have hbb := bnext hb hb4
  have b1 := B1.out
  clear hb4 hb hL3 d0 d1 d2
  go_wp2_with fail
  go_ret
  exact ⟨rfl, hbb⟩
set_option maxRecDepth 100000 in
set_option maxHeartbeats 8000000 in
theorem on2_no (m d wd n y : Int) (hok : ¬ okD y m d) (w : World) (hL : Lens w) : Calls Tryd.prog 84 #[.agg #[.int .i64 2, .int .i64 y, .int .i64 m, .int .i64 d, .int .i64 wd, .int .i64 n], .int .i64 y] w fun e w' => e = .returned (.int .i64 (-1)) ∧ Below w.heap.size w w' := by
  obtain ⟨b0, hb0⟩ : ∃ b0, w.heap.size = b0 := ⟨_, rfl⟩
  have Hb0 := Lib.hid hb0
  have hst1 := bstep w (.cells #[.int .i64 2, .int .i64 y, .int .i64 m, .int .i64 d, .int .i64 wd, .int .i64 n] 137)
  have hs1 : (w.alloc (.cells #[.int .i64 2, .int .i64 y, .int .i64 m, .int .i64 d, .int .i64 wd, .int .i64 n] 137)).heap.size = b0 + 1 := by simp [hb0]
  have hr0 := World.alloc_heap_new w (.cells #[.int .i64 2, .int .i64 y, .int .i64 m, .int .i64 d, .int .i64 wd, .int .i64 n] 137)
  rw [hb0] at hr0
  have hst2 := bstep (w.alloc (.cells #[.int .i64 2, .int .i64 y, .int .i64 m, .int .i64 d, .int .i64 wd, .int .i64 n] 137)) (.cells #[.int .i64 y, .int .i64 m, .int .i64 d] 121)
  have hs2 : ((w.alloc (.cells #[.int .i64 2, .int .i64 y, .int .i64 m, .int .i64 d, .int .i64 wd, .int .i64 n] 137)).alloc (.cells #[.int .i64 y, .int .i64 m, .int .i64 d] 121)).heap.size = b0 + 2 := by simp [hb0]
  have hr1 := World.alloc_heap_new (w.alloc (.cells #[.int .i64 2, .int .i64 y, .int .i64 m, .int .i64 d, .int .i64 wd, .int .i64 n] 137)) (.cells #[.int .i64 y, .int .i64 m, .int .i64 d] 121)
  rw [hs1] at hr1
  have hr0' := blk_below hr0 hst2
  have hst := bnext hst1 hst2
  have hL2 := hL.go hst
  have HX := Lib.hid (And.intro hst (And.intro hs2 (And.intro hr0' (And.intro hr1 (And.intro hL2 hL.low)))))
  clear hst1 hs1 hr0 hst2 hs2 hr1 hr0' hst hL
  have HC := check_calls y m d _ HX.out.2.2.2.2.1
  rw [chk_no hok] at HC
  replace HC := Lib.hid HC
  clear hok hL2
  go_enter Tryd.func84, Tryd.ntmps84
  go_wp2_with fail
  refine HC.out.mono ?_
  rintro e w3 ⟨rfl, hb3⟩
  have hb := bnext HX.out.1 hb3
  clear hb3
  go_wp2_with fail
  go_ret
  exact ⟨rfl, hb⟩
set_option maxRecDepth 100000 in
set_option maxHeartbeats 8000000 in
theorem on2_other (hy m d wd n y : Int) (hne : hy ≠ y) (w : World) (hL : Lens w) : Calls Tryd.prog 84 #[.agg #[.int .i64 2, .int .i64 hy, .int .i64 m, .int .i64 d, .int .i64 wd, .int .i64 n], .int .i64 y] w fun e w' => e = .returned (.int .i64 (-1)) ∧ Below w.heap.size w w' := by
  obtain ⟨b0, hb0⟩ : ∃ b0, w.heap.size = b0 := ⟨_, rfl⟩
  have Hb0 := Lib.hid hb0
  have hst1 := bstep w (.cells #[.int .i64 2, .int .i64 hy, .int .i64 m, .int .i64 d, .int .i64 wd, .int .i64 n] 137)
  have hs1 : (w.alloc (.cells #[.int .i64 2, .int .i64 hy, .int .i64 m, .int .i64 d, .int .i64 wd, .int .i64 n] 137)).heap.size = b0 + 1 := by simp [hb0]
  have hr0 := World.alloc_heap_new w (.cells #[.int .i64 2, .int .i64 hy, .int .i64 m, .int .i64 d, .int .i64 wd, .int .i64 n] 137)
  rw [hb0] at hr0
  have hst2 := bstep (w.alloc (.cells #[.int .i64 2, .int .i64 hy, .int .i64 m, .int .i64 d, .int .i64 wd, .int .i64 n] 137)) (.cells #[.int .i64 y, .int .i64 m, .int .i64 d] 121)
  have hs2 : ((w.alloc (.cells #[.int .i64 2, .int .i64 hy, .int .i64 m, .int .i64 d, .int .i64 wd, .int .i64 n] 137)).alloc (.cells #[.int .i64 y, .int .i64 m, .int .i64 d] 121)).heap.size = b0 + 2 := by simp [hb0]
  have hr1 := World.alloc_heap_new (w.alloc (.cells #[.int .i64 2, .int .i64 hy, .int .i64 m, .int .i64 d, .int .i64 wd, .int .i64 n] 137)) (.cells #[.int .i64 y, .int .i64 m, .int .i64 d] 121)
  rw [hs1] at hr1
  have hr0' := blk_below hr0 hst2
  have hst := bnext hst1 hst2
  have hL2 := hL.go hst
  have HX := Lib.hid (And.intro hst (And.intro hs2 (And.intro hr0' (And.intro hr1 (And.intro hL2 hL.low)))))
  clear hst1 hs1 hr0 hst2 hs2 hr1 hr0' hst hL
  have k1 : (hy == y) = false := beq_eq_false_iff_ne.2 hne
  have k2 : (hy != y) = true := bne_iff_ne.2 hne
  clear hne hL2
  go_enter Tryd.func84, Tryd.ntmps84
  go_wp2_with fail
  go_ret
  exact ⟨rfl, HX.out.1⟩
set_option maxRecDepth 100000 in
set_option maxHeartbeats 8000000 in
theorem on3_ok (hy m d wd n y : Int) (h : nthOk y m wd n ∧ nthN y m wd n ≤ dim y m) (w : World) (hL : Lens w) : Calls Tryd.prog 84 #[.agg #[.int .i64 3, .int .i64 hy, .int .i64 m, .int .i64 d, .int .i64 wd, .int .i64 n], .int .i64 y] w fun e w' => e = .returned (.int .i64 (dayN y m (nthN y m wd n))) ∧ Below w.heap.size w w' := by
  obtain ⟨b0, hb0⟩ : ∃ b0, w.heap.size = b0 := ⟨_, rfl⟩
  have Hb0 := Lib.hid hb0
  have hst1 := bstep w (.cells #[.int .i64 3, .int .i64 hy, .int .i64 m, .int .i64 d, .int .i64 wd, .int .i64 n] 137)
  have hs1 : (w.alloc (.cells #[.int .i64 3, .int .i64 hy, .int .i64 m, .int .i64 d, .int .i64 wd, .int .i64 n] 137)).heap.size = b0 + 1 := by simp [hb0]
  have hr0 := World.alloc_heap_new w (.cells #[.int .i64 3, .int .i64 hy, .int .i64 m, .int .i64 d, .int .i64 wd, .int .i64 n] 137)
  rw [hb0] at hr0
  have hst2 := bstep (w.alloc (.cells #[.int .i64 3, .int .i64 hy, .int .i64 m, .int .i64 d, .int .i64 wd, .int .i64 n] 137)) (.cells #[.int .i64 y, .int .i64 m, .int .i64 d] 121)
  have hs2 : ((w.alloc (.cells #[.int .i64 3, .int .i64 hy, .int .i64 m, .int .i64 d, .int .i64 wd, .int .i64 n] 137)).alloc (.cells #[.int .i64 y, .int .i64 m, .int .i64 d] 121)).heap.size = b0 + 2 := by simp [hb0]
  have hr1 := World.alloc_heap_new (w.alloc (.cells #[.int .i64 3, .int .i64 hy, .int .i64 m, .int .i64 d, .int .i64 wd, .int .i64 n] 137)) (.cells #[.int .i64 y, .int .i64 m, .int .i64 d] 121)
  rw [hs1] at hr1
  have hr0' := blk_below hr0 hst2
  have hst := bnext hst1 hst2
  have hL2 := hL.go hst
  have HX := Lib.hid (And.intro hst (And.intro hs2 (And.intro hr0' (And.intro hr1 (And.intro hL2 hL.low)))))
  clear hst1 hs1 hr0 hst2 hs2 hr1 hr0' hst hL
  have HN := nth_calls y m wd n h.1 h.2 _ HX.out.2.2.2.2.1
  have hok := nth_ok y m wd n h
  obtain ⟨t, ht⟩ : ∃ t, nthN y m wd n = t := ⟨_, rfl⟩
  rw [ht] at HN hok ⊢
  have HD := day_calls y m t
  rw [show dayE y m t = dayN y m t from if_pos hok, chk_ok hok] at HD
  have hr := day_range hok
  obtain ⟨N, hN⟩ : ∃ N, dayN y m t = N := ⟨_, rfl⟩
  rw [hN] at HD hr ⊢
  replace HN := Lib.hid HN
  replace HD := Lib.hid HD
  have a1 := i64_same N (by omega)
  have B1 := Lib.hid (wrap64_in N (by omega))
  have q0 := cell_of_row _ b0 2 _ _ _ HX.out.2.2.1
  clear hok hN hr hL2 ht h q0
  go_enter Tryd.func84, Tryd.ntmps84
  go_wp2_with fail
  refine HN.out.mono ?_
  rintro e w3 ⟨rfl, hb3⟩
  have hr3 := blk_below HX.out.2.2.2.1 hb3
  have hL3 := HX.out.2.2.2.2.1.go hb3
  have hb := bnext HX.out.1 hb3
  have f0 := blk_frozen hr3 0
  have f1 := blk_frozen hr3 1
  have f2 := blk_frozen hr3 2
  have d0 := cell_of_row _ (b0 + 1) 0 _ _ _ hr3
  have d1 := cell_of_row _ (b0 + 1) 1 _ _ _ hr3
  have d2 := cell_of_row _ (b0 + 1) 2 _ _ _ hr3
  have hlow := HX.out.2.2.2.2.2
  have hS := set3_row hr3 (.int .i64 y) (.int .i64 m) (.int .i64 t)
  have hbS := set3_below hb (show w.heap.size ≤ b0 + 1 by omega) (.int .i64 y) (.int .i64 m) (.int .i64 t)
  have hLS := set3_lens hL3 (show 2 < b0 + 1 by omega) (.int .i64 y) (.int .i64 m) (.int .i64 t)
  have HS := Lib.hid (And.intro hbS hLS)
  clear hb3 hr3 hb hL3 hbS hLS hlow hS
  go_wp2_with fail
  refine (HD.out _ HS.out.2).mono ?_
  rintro e w4 ⟨rfl, hb4⟩
  have hbb := bnext HS.out.1 hb4
  have b1 := B1.out
  clear hb4 d0 d1 d2 f0 f1 f2
  go_wp2_with fail
  go_ret
  exact ⟨rfl, hbb⟩
set_option maxRecDepth 100000 in
set_option maxHeartbeats 8000000 in
theorem on3_late (hy m d wd n y : Int) (h : nthOk y m wd n) (hle : ¬ nthN y m wd n ≤ dim y m) (w : World) (hL : Lens w) : Calls Tryd.prog 84 #[.agg #[.int .i64 3, .int .i64 hy, .int .i64 m, .int .i64 d, .int .i64 wd, .int .i64 n], .int .i64 y] w fun e w' => e = .returned (.int .i64 (-1)) ∧ Below w.heap.size w w' := by
  obtain ⟨b0, hb0⟩ : ∃ b0, w.heap.size = b0 := ⟨_, rfl⟩
  have Hb0 := Lib.hid hb0
  have hst1 := bstep w (.cells #[.int .i64 3, .int .i64 hy, .int .i64 m, .int .i64 d, .int .i64 wd, .int .i64 n] 137)
  have hs1 : (w.alloc (.cells #[.int .i64 3, .int .i64 hy, .int .i64 m, .int .i64 d, .int .i64 wd, .int .i64 n] 137)).heap.size = b0 + 1 := by simp [hb0]
  have hr0 := World.alloc_heap_new w (.cells #[.int .i64 3, .int .i64 hy, .int .i64 m, .int .i64 d, .int .i64 wd, .int .i64 n] 137)
  rw [hb0] at hr0
  have hst2 := bstep (w.alloc (.cells #[.int .i64 3, .int .i64 hy, .int .i64 m, .int .i64 d, .int .i64 wd, .int .i64 n] 137)) (.cells #[.int .i64 y, .int .i64 m, .int .i64 d] 121)
  have hs2 : ((w.alloc (.cells #[.int .i64 3, .int .i64 hy, .int .i64 m, .int .i64 d, .int .i64 wd, .int .i64 n] 137)).alloc (.cells #[.int .i64 y, .int .i64 m, .int .i64 d] 121)).heap.size = b0 + 2 := by simp [hb0]
  have hr1 := World.alloc_heap_new (w.alloc (.cells #[.int .i64 3, .int .i64 hy, .int .i64 m, .int .i64 d, .int .i64 wd, .int .i64 n] 137)) (.cells #[.int .i64 y, .int .i64 m, .int .i64 d] 121)
  rw [hs1] at hr1
  have hr0' := blk_below hr0 hst2
  have hst := bnext hst1 hst2
  have hL2 := hL.go hst
  have HX := Lib.hid (And.intro hst (And.intro hs2 (And.intro hr0' (And.intro hr1 (And.intro hL2 hL.low)))))
  clear hst1 hs1 hr0 hst2 hs2 hr1 hr0' hst hL
  have HN := nth_late y m wd n h hle _ HX.out.2.2.2.2.1
  replace HN := Lib.hid HN
  clear hL2 h hle
  go_enter Tryd.func84, Tryd.ntmps84
  go_wp2_with fail
  refine HN.out.mono ?_
  rintro e w3 ⟨rfl, hb3⟩
  have hr3 := blk_below HX.out.2.2.2.1 hb3
  have hb := bnext HX.out.1 hb3
  have f0 := blk_frozen hr3 0
  have f1 := blk_frozen hr3 1
  have f2 := blk_frozen hr3 2
  have d0 := cell_of_row _ (b0 + 1) 0 _ _ _ hr3
  have d1 := cell_of_row _ (b0 + 1) 1 _ _ _ hr3
  have d2 := cell_of_row _ (b0 + 1) 2 _ _ _ hr3
  have hbS := set3_below hb (show w.heap.size ≤ b0 + 1 by omega) (.int .i64 0) (.int .i64 0) (.int .i64 0)
  have HS := Lib.hid hbS
  clear hb3 hr3 hb hbS
  go_wp2_with fail
  go_ret
  exact ⟨rfl, HS.out⟩
set_option maxRecDepth 100000 in
set_option maxHeartbeats 8000000 in
theorem on3_early (hy m d wd n y : Int) (h : ¬ nthOk y m wd n) (w : World) (hL : Lens w) : Calls Tryd.prog 84 #[.agg #[.int .i64 3, .int .i64 hy, .int .i64 m, .int .i64 d, .int .i64 wd, .int .i64 n], .int .i64 y] w fun e w' => e = .returned (.int .i64 (-1)) ∧ Below w.heap.size w w' := by
  obtain ⟨b0, hb0⟩ : ∃ b0, w.heap.size = b0 := ⟨_, rfl⟩
  have Hb0 := Lib.hid hb0
  have hst1 := bstep w (.cells #[.int .i64 3, .int .i64 hy, .int .i64 m, .int .i64 d, .int .i64 wd, .int .i64 n] 137)
  have hs1 : (w.alloc (.cells #[.int .i64 3, .int .i64 hy, .int .i64 m, .int .i64 d, .int .i64 wd, .int .i64 n] 137)).heap.size = b0 + 1 := by simp [hb0]
  have hr0 := World.alloc_heap_new w (.cells #[.int .i64 3, .int .i64 hy, .int .i64 m, .int .i64 d, .int .i64 wd, .int .i64 n] 137)
  rw [hb0] at hr0
  have hst2 := bstep (w.alloc (.cells #[.int .i64 3, .int .i64 hy, .int .i64 m, .int .i64 d, .int .i64 wd, .int .i64 n] 137)) (.cells #[.int .i64 y, .int .i64 m, .int .i64 d] 121)
  have hs2 : ((w.alloc (.cells #[.int .i64 3, .int .i64 hy, .int .i64 m, .int .i64 d, .int .i64 wd, .int .i64 n] 137)).alloc (.cells #[.int .i64 y, .int .i64 m, .int .i64 d] 121)).heap.size = b0 + 2 := by simp [hb0]
  have hr1 := World.alloc_heap_new (w.alloc (.cells #[.int .i64 3, .int .i64 hy, .int .i64 m, .int .i64 d, .int .i64 wd, .int .i64 n] 137)) (.cells #[.int .i64 y, .int .i64 m, .int .i64 d] 121)
  rw [hs1] at hr1
  have hr0' := blk_below hr0 hst2
  have hst := bnext hst1 hst2
  have hL2 := hL.go hst
  have HX := Lib.hid (And.intro hst (And.intro hs2 (And.intro hr0' (And.intro hr1 (And.intro hL2 hL.low)))))
  clear hst1 hs1 hr0 hst2 hs2 hr1 hr0' hst hL
  have HN := nth_early y m wd n h _ HX.out.2.2.2.2.1
  replace HN := Lib.hid HN
  clear hL2 h
  go_enter Tryd.func84, Tryd.ntmps84
  go_wp2_with fail
  refine HN.out.mono ?_
  rintro e w3 ⟨rfl, hb3⟩
  have hr3 := blk_below HX.out.2.2.2.1 hb3
  have hb := bnext HX.out.1 hb3
  have f0 := blk_frozen hr3 0
  have f1 := blk_frozen hr3 1
  have f2 := blk_frozen hr3 2
  have d0 := cell_of_row _ (b0 + 1) 0 _ _ _ hr3
  have d1 := cell_of_row _ (b0 + 1) 1 _ _ _ hr3
  have d2 := cell_of_row _ (b0 + 1) 2 _ _ _ hr3
  have hbS := set3_below hb (show w.heap.size ≤ b0 + 1 by omega) (.int .i64 0) (.int .i64 0) (.int .i64 0)
  have HS := Lib.hid hbS
  clear hb3 hr3 hb hbS
  go_wp2_with fail
  go_ret
  exact ⟨rfl, HS.out⟩
set_option maxRecDepth 100000 in
set_option maxHeartbeats 8000000 in
theorem on4_ok (hy m d wd n y : Int) (h : 1970 ≤ y ∧ y ≤ 9999) (hnb : -100 ≤ n ∧ n ≤ 200) (w : World) (hL : Lens w) : Calls Tryd.prog 84 #[.agg #[.int .i64 4, .int .i64 hy, .int .i64 m, .int .i64 d, .int .i64 wd, .int .i64 n], .int .i64 y] w fun e w' => e = .returned (.int .i64 (dayN y (easM y) (easD y) + n)) ∧ Below w.heap.size w w' := by
  obtain ⟨b0, hb0⟩ : ∃ b0, w.heap.size = b0 := ⟨_, rfl⟩
  have Hb0 := Lib.hid hb0
  have hst1 := bstep w (.cells #[.int .i64 4, .int .i64 hy, .int .i64 m, .int .i64 d, .int .i64 wd, .int .i64 n] 137)
  have hs1 : (w.alloc (.cells #[.int .i64 4, .int .i64 hy, .int .i64 m, .int .i64 d, .int .i64 wd, .int .i64 n] 137)).heap.size = b0 + 1 := by simp [hb0]
  have hr0 := World.alloc_heap_new w (.cells #[.int .i64 4, .int .i64 hy, .int .i64 m, .int .i64 d, .int .i64 wd, .int .i64 n] 137)
  rw [hb0] at hr0
  have hst2 := bstep (w.alloc (.cells #[.int .i64 4, .int .i64 hy, .int .i64 m, .int .i64 d, .int .i64 wd, .int .i64 n] 137)) (.cells #[.int .i64 y, .int .i64 m, .int .i64 d] 121)
  have hs2 : ((w.alloc (.cells #[.int .i64 4, .int .i64 hy, .int .i64 m, .int .i64 d, .int .i64 wd, .int .i64 n] 137)).alloc (.cells #[.int .i64 y, .int .i64 m, .int .i64 d] 121)).heap.size = b0 + 2 := by simp [hb0]
  have hr1 := World.alloc_heap_new (w.alloc (.cells #[.int .i64 4, .int .i64 hy, .int .i64 m, .int .i64 d, .int .i64 wd, .int .i64 n] 137)) (.cells #[.int .i64 y, .int .i64 m, .int .i64 d] 121)
  rw [hs1] at hr1
  have hr0' := blk_below hr0 hst2
  have hst := bnext hst1 hst2
  have hL2 := hL.go hst
  have HX := Lib.hid (And.intro hst (And.intro hs2 (And.intro hr0' (And.intro hr1 (And.intro hL2 hL.low)))))
  clear hst1 hs1 hr0 hst2 hs2 hr1 hr0' hst hL
  have HN := easter_calls y h (((w.alloc (.cells #[.int .i64 4, .int .i64 hy, .int .i64 m, .int .i64 d, .int .i64 wd, .int .i64 n] 137))).alloc (.cells #[.int .i64 y, .int .i64 m, .int .i64 d] 121))
  have hok := eas_ok h
  obtain ⟨p, hp⟩ : ∃ p, easM y = p := ⟨_, rfl⟩
  obtain ⟨t, ht⟩ : ∃ t, easD y = t := ⟨_, rfl⟩
  rw [hp, ht] at HN hok ⊢
  have HD := day_calls y p t
  rw [show dayE y p t = dayN y p t from if_pos hok, chk_ok hok] at HD
  have hr := day_range hok
  obtain ⟨N, hN⟩ : ∃ N, dayN y p t = N := ⟨_, rfl⟩
  rw [hN] at HD hr ⊢
  replace HN := Lib.hid HN
  replace HD := Lib.hid HD
  have a1 := i64_same (N + n) (by omega)
  have B1 := Lib.hid (wrap64_in (N + n) (by omega))
  clear hok hN hr hL2 hp ht h hnb
  go_enter Tryd.func84, Tryd.ntmps84
  go_wp2_with fail
  refine HN.out.mono ?_
  rintro e w3 ⟨rfl, hb3⟩
  have hr3 := blk_below HX.out.2.2.2.1 hb3
  have hr0 := blk_below HX.out.2.2.1 hb3
  have hL3 := HX.out.2.2.2.2.1.go hb3
  have hb := bnext HX.out.1 hb3
  have f0 := blk_frozen hr3 0
  have f1 := blk_frozen hr3 1
  have f2 := blk_frozen hr3 2
  have d0 := cell_of_row _ (b0 + 1) 0 _ _ _ hr3
  have d1 := cell_of_row _ (b0 + 1) 1 _ _ _ hr3
  have d2 := cell_of_row _ (b0 + 1) 2 _ _ _ hr3
  have q5 := cell_of_row _ b0 5 _ _ _ hr0
  have hlow := HX.out.2.2.2.2.2
  have hbS := set3_below hb (show w.heap.size ≤ b0 + 1 by omega) (.int .i64 y) (.int .i64 p) (.int .i64 t)
  have hLS := set3_lens hL3 (show 2 < b0 + 1 by omega) (.int .i64 y) (.int .i64 p) (.int .i64 t)
  have HS := Lib.hid (And.intro hbS hLS)
  clear hb3 hr3 hb hL3 hbS hLS hlow hr0
  go_wp2_with fail
  refine (HD.out _ HS.out.2).mono ?_
  rintro e w4 ⟨rfl, hb4⟩
  have hbb := bnext HS.out.1 hb4
  have b1 := B1.out
  clear hb4 d0 d1 d2 f0 f1 f2 q5
  go_wp2_with fail
  go_ret
  exact ⟨rfl, hbb⟩
set_option maxRecDepth 100000 in
set_option maxHeartbeats 8000000 in
theorem on4_no (hy m d wd n y : Int) (h : ¬ (1970 ≤ y ∧ y ≤ 9999)) (w : World) (hL : Lens w) : Calls Tryd.prog 84 #[.agg #[.int .i64 4, .int .i64 hy, .int .i64 m, .int .i64 d, .int .i64 wd, .int .i64 n], .int .i64 y] w fun e w' => e = .returned (.int .i64 (-1)) ∧ Below w.heap.size w w' := by
  obtain ⟨b0, hb0⟩ : ∃ b0, w.heap.size = b0 := ⟨_, rfl⟩
  have Hb0 := Lib.hid hb0
  have hst1 := bstep w (.cells #[.int .i64 4, .int .i64 hy, .int .i64 m, .int .i64 d, .int .i64 wd, .int .i64 n] 137)
  have hs1 : (w.alloc (.cells #[.int .i64 4, .int .i64 hy, .int .i64 m, .int .i64 d, .int .i64 wd, .int .i64 n] 137)).heap.size = b0 + 1 := by simp [hb0]
  have hr0 := World.alloc_heap_new w (.cells #[.int .i64 4, .int .i64 hy, .int .i64 m, .int .i64 d, .int .i64 wd, .int .i64 n] 137)
  rw [hb0] at hr0
  have hst2 := bstep (w.alloc (.cells #[.int .i64 4, .int .i64 hy, .int .i64 m, .int .i64 d, .int .i64 wd, .int .i64 n] 137)) (.cells #[.int .i64 y, .int .i64 m, .int .i64 d] 121)
  have hs2 : ((w.alloc (.cells #[.int .i64 4, .int .i64 hy, .int .i64 m, .int .i64 d, .int .i64 wd, .int .i64 n] 137)).alloc (.cells #[.int .i64 y, .int .i64 m, .int .i64 d] 121)).heap.size = b0 + 2 := by simp [hb0]
  have hr1 := World.alloc_heap_new (w.alloc (.cells #[.int .i64 4, .int .i64 hy, .int .i64 m, .int .i64 d, .int .i64 wd, .int .i64 n] 137)) (.cells #[.int .i64 y, .int .i64 m, .int .i64 d] 121)
  rw [hs1] at hr1
  have hr0' := blk_below hr0 hst2
  have hst := bnext hst1 hst2
  have hL2 := hL.go hst
  have HX := Lib.hid (And.intro hst (And.intro hs2 (And.intro hr0' (And.intro hr1 (And.intro hL2 hL.low)))))
  clear hst1 hs1 hr0 hst2 hs2 hr1 hr0' hst hL
  have HN := easter_bad y h (((w.alloc (.cells #[.int .i64 4, .int .i64 hy, .int .i64 m, .int .i64 d, .int .i64 wd, .int .i64 n] 137))).alloc (.cells #[.int .i64 y, .int .i64 m, .int .i64 d] 121))
  replace HN := Lib.hid HN
  have q5 := cell_of_row _ b0 5 _ _ _ HX.out.2.2.1
  clear hL2 h q5
  go_enter Tryd.func84, Tryd.ntmps84
  go_wp2_with fail
  refine HN.out.mono ?_
  rintro e w3 ⟨rfl, hb3⟩
  have hr3 := blk_below HX.out.2.2.2.1 hb3
  have hb := bnext HX.out.1 hb3
  have q5 := cell_of_row _ b0 5 _ _ _ (blk_below HX.out.2.2.1 hb3)
  have f0 := blk_frozen hr3 0
  have f1 := blk_frozen hr3 1
  have f2 := blk_frozen hr3 2
  have d0 := cell_of_row _ (b0 + 1) 0 _ _ _ hr3
  have d1 := cell_of_row _ (b0 + 1) 1 _ _ _ hr3
  have d2 := cell_of_row _ (b0 + 1) 2 _ _ _ hr3
  have hbS := set3_below hb (show w.heap.size ≤ b0 + 1 by omega) (.int .i64 0) (.int .i64 0) (.int .i64 0)
  have HS := Lib.hid hbS
  clear hb3 hr3 hb hbS
  go_wp2_with fail
  go_ret
  exact ⟨rfl, HS.out⟩
/-- A holiday's day in a year. -/
theorem on_calls (k hy m d wd n y : Int) (hM : mayB k hy m d wd n) (w : World) (hL : Lens w) : Calls Tryd.prog 84 #[.agg #[.int .i64 k, .int .i64 hy, .int .i64 m, .int .i64 d, .int .i64 wd, .int .i64 n], .int .i64 y] w fun e w' => e = .returned (.int .i64 (onV k hy m d wd n y)) ∧ Below w.heap.size w w' := by
  rcases hM with ⟨rfl, _⟩ | ⟨rfl, _⟩ | ⟨rfl, _⟩ | ⟨rfl, _, _, _, _, hnb⟩
  · by_cases hne : hy = y
    · subst hne
      by_cases hok : okD hy m d
      · rw [show onV 2 hy m d wd n hy = dayN hy m d by unfold onV; rw [if_pos rfl, if_pos ⟨rfl, hok⟩]]
        exact on2_ok m d wd n hy hok w hL
      · rw [show onV 2 hy m d wd n hy = -1 by unfold onV; rw [if_pos rfl, if_neg (fun h => hok h.2)]]
        exact on2_no m d wd n hy hok w hL
    · rw [show onV 2 hy m d wd n y = -1 by unfold onV; rw [if_pos rfl, if_neg (fun h => hne h.1)]]
      exact on2_other hy m d wd n y hne w hL
  · by_cases hok : okD y m d
    · rw [show onV 1 hy m d wd n y = dayN y m d by unfold onV; rw [if_neg (by decide), if_pos rfl, if_pos hok]]
      exact on1_ok hy m d wd n y hok w hL
    · rw [show onV 1 hy m d wd n y = -1 by unfold onV; rw [if_neg (by decide), if_pos rfl, if_neg hok]]
      exact on1_no hy m d wd n y hok w hL
  · by_cases h : nthOk y m wd n
    · by_cases hle : nthN y m wd n ≤ dim y m
      · rw [show onV 3 hy m d wd n y = dayN y m (nthN y m wd n) by unfold onV; rw [if_neg (by decide), if_neg (by decide), if_pos rfl, if_pos ⟨h, hle⟩]]
        exact on3_ok hy m d wd n y ⟨h, hle⟩ w hL
      · rw [show onV 3 hy m d wd n y = -1 by unfold onV; rw [if_neg (by decide), if_neg (by decide), if_pos rfl, if_neg (fun h => hle h.2)]]
        exact on3_late hy m d wd n y h hle w hL
    · rw [show onV 3 hy m d wd n y = -1 by unfold onV; rw [if_neg (by decide), if_neg (by decide), if_pos rfl, if_neg (fun h' => h h'.1)]]
      exact on3_early hy m d wd n y h w hL
  · by_cases h : 1970 ≤ y ∧ y ≤ 9999
    · rw [show onV 4 hy m d wd n y = dayN y (easM y) (easD y) + n by unfold onV; rw [if_neg (by decide), if_neg (by decide), if_neg (by decide), if_pos h]]
      exact on4_ok hy m d wd n y h hnb w hL
    · rw [show onV 4 hy m d wd n y = -1 by unfold onV; rw [if_neg (by decide), if_neg (by decide), if_neg (by decide), if_neg h]]
      exact on4_no hy m d wd n y h w hL
end Go.Proofs.YtgbkedjjgbhcmaaDoor

/-
  The law of a range over a function whose iterator keeps boxes of its own between its yields: 'SeqT', 'wpIn_rangeT'. (Turned by program from XRange's SeqX.)
-/
namespace Go.Kw
open Go Go.RowKit

/-- THE CONTRACT OF AN ITERATOR that keeps boxes of its own between its yields ('t': where they lie, known at the yield): 'xs' what it hands over, one by one; 'Gi' what it wants of memory when it begins; 'G k' what holds at its yield number k and what the body must keep; 'Gd' what holds when it has come to its end, 'Gs k' when the body has said no at yield k; 'Ab' what it does to memory by itself. -/
def SeqT {α τ : Type} (F : Fence) (n : Nat) (P : Program) (g : Nat) (lb : Array Value) (encs : α → Array Value) (xs : List α) (Ab : World → World → Prop)
    (Gi : World → Prop) (G : Nat → τ → World → Prop) (Gd : World → Prop) (Gs : Nat → World → Prop) : Prop :=
  ∀ (l : Nat) (J Jx : Nat → World → Prop), (∀ k A B, J k A → Ab A B → J k B) → (∀ k A B, Jx k A → Ab A B → Jx k B) →
    (∀ k t x W1, xs[k]? = some x → J k W1 → G k t W1 → YieldAt F (n - 1) P l (encs x) W1 fun e W' =>
      G k t W' ∧ ((e = .returned (.bool true) ∧ J (k + 1) W') ∨ (e = .returned (.bool false) ∧ Jx (k + 1) W'))) →
    ∀ W, Gi W → J 0 W →
    CallsIn F n P g (#[.func (.yield l) #[] #[]] ++ lb) W fun e W' => (∃ v, e = .returned v) ∧ ((J xs.length W' ∧ Gd W') ∨ (∃ k, k < xs.length ∧ Jx (k + 1) W' ∧ Gs k W'))

variable {F : Fence} {n : Nat} {P : Program}

theorem wpIn_rangeT {α τ : Type} {g : Operand} {ps : Array Tmp} {assign body : Code} {Q : Exit → Act → World → Prop} {a : Act} {w : World}
    (hro : F.round = none) (h1 : 1 ≤ n) {gf : Nat} {lb : Array Value} (hg : a.eval g = .func (.func gf) #[] lb) (hFg : F.fn gf) (eg : ∀ args w, (callFunc gf args).run P w = .ok (.enter gf args) w)
    {encs : α → Array Value} {xs : List α} {Ab : World → World → Prop} {Gi : World → Prop} {G : Nat → τ → World → Prop} {Gd : World → Prop} {Gs : Nat → World → Prop}
    (hseq : SeqT F (n - 1) P gf lb encs xs Ab Gi G Gd Gs)
    (hAb : ∀ A B, Ab A B → KeepsOthers A B) (hps : ∀ x, (encs x).size = ps.size)
    (oGi : OwnW w.heap.size Gi) (oG : ∀ k t, OwnW w.heap.size (G k t)) (oGd : OwnW w.heap.size Gd) (oGs : ∀ k, OwnW w.heap.size (Gs k)) (hGi : Gi w)
    (I : Nat → World → Prop) (Ix : Code → Nat → World → Prop) (hI : ∀ k, OwnW w.heap.size (I k)) (hIx : ∀ c k, OwnW w.heap.size (Ix c k))
    (hIA : ∀ k A B, I k A → Ab A B → I k B) (hIxA : ∀ c k A B, Ix c k A → Ab A B → Ix c k B) (h0 : I 0 w)
    (hround : ∀ (l k : Nat) (t : τ) (x : α) (W : World), xs[k]? = some x → I k W → G k t W →
      assign.wpIn (F.inRound l) (n - 1 - 1) P (Exit.then (fun a' W' => W' = W ∧ ∀ W1, I k W1 → G k t W1 → w.heap.size + 1 < W1.heap.size → body.wpIn (F.inRound l) (n - 1 - 1) P (postX (G k t) (I (k + 1)) (fun c => Ix c (k + 1)) W1) a' W1) (fun _ _ _ => False))
        { tmps := (ps.zip (encs x)).foldl (fun t (p, v) => t.setIfInBounds p v) a.tmps, defers := [] } W)
    (hdone : ∀ (D : Nat) (W : World), w.heap.size ≤ D → I xs.length W → Gd W → W.heap[D]? = some (.deferred (some [])) → Q .normal { a with defers := { target := .collected D, args := #[] } :: a.defers } W)
    (hstop : ∀ (D : Nat) (c : Code) (k : Nat) (W : World), w.heap.size ≤ D → k < xs.length → Ix c (k + 1) W → Gs k W → W.heap[D]? = some (.deferred (some [])) → c.wpIn F n P Q { a with defers := { target := .collected D, args := #[] } :: a.defers } W) :
    (Code.rangeFunc g ps assign body).wpIn F n P Q a w := by
  refine wpIn_rangeFunc ?_
  intro fn hfn
  rw [hro]
  obtain ⟨rec, hrec⟩ : ∃ rec : LoopState → Option Code → Loop, rec = fun st pe => { state := st, pending := pe, fn, tmps := a.tmps, params := ps, assign, body, defers := w.heap.size } := ⟨_, rfl⟩
  obtain ⟨W1, hW1⟩ : ∃ W1, (w.alloc (.deferred (some []))).alloc (.loop (rec .ready none)) = W1 := ⟨_, rfl⟩
  have hL1 : W1.heap[w.heap.size + 1]? = some (.loop (rec .ready none)) := by
    rw [← hW1]; have := World.alloc_heap_new (w.alloc (.deferred (some []))) (.loop (rec .ready none)); rwa [World.size_alloc] at this
  have hK1 : W1.heap[w.heap.size]? = some (.deferred (some [])) := by
    rw [← hW1]; exact (Below.heap_alloc _ _ _ (by simp)).trans (World.alloc_heap_new w _)
  have hI1 : I 0 W1 := by rw [← hW1]; exact (hI 0).alloc _ ((hI 0).alloc _ h0)
  have hG1 : Gi W1 := by rw [← hW1]; exact oGi.alloc _ (oGi.alloc _ hGi)
  refine ⟨w.heap.size + 1, [{ target := .collected w.heap.size, args := #[] }], W1, { target := .fn (.func gf) lb, args := #[.func (.yield (w.heap.size + 1)) #[] #[]] }, W1, gf,
    #[.func (.yield (w.heap.size + 1)) #[] #[]] ++ lb, W1, ?_, ?_, ?_, ?_, fun _ => h1, ?_⟩
  · rw [← hW1, hrec]; exact run_enterLoop_outer _ _ _ _ _
  · simp only [resolve, hg]
    simp [go_sem]
  · intro f' hf'; simp [Target.leads] at hf'; subst hf'; exact hFg
  · simp [invoke, go_sem, eg]
  · refine (hseq (w.heap.size + 1)
      (fun k W => I k W ∧ W.heap[w.heap.size + 1]? = some (.loop (rec .ready none)) ∧ W.heap[w.heap.size]? = some (.deferred (some [])))
      (fun k W => ∃ c, Ix c k W ∧ W.heap[w.heap.size + 1]? = some (.loop (rec .done (some c))) ∧ W.heap[w.heap.size]? = some (.deferred (some [])))
      (fun k A B hs hab => ⟨hIA k A B hs.1 hab, (hAb A B hab).same _ _ hs.2.1 rfl, (hAb A B hab).same _ _ hs.2.2 rfl⟩)
      (fun k A B hs hab => by
        obtain ⟨c, hc, hl, hk⟩ := hs
        exact ⟨c, hIxA c k A B hc hab, (hAb A B hab).same _ _ hl rfl, (hAb A B hab).same _ _ hk rfl⟩)
      ?_ W1 hG1 ⟨hI1, hL1, hK1⟩).mono ?_
    · -- ONE ROUND
      rintro k t x W hx ⟨hi, hl, hk⟩ hG
      have hlt : w.heap.size + 1 < W.heap.size := (Array.getElem?_eq_some_iff.1 hl).1
      have hy := run_yield (P := P) (args := encs x) hl (by rw [hrec]; exact hps x)
      rw [hrec] at hy
      have hl2 : (W.putObj (w.heap.size + 1) (.loop { rec .ready none with state := .busy })).heap[w.heap.size + 1]? = some (.loop { rec .ready none with state := .busy }) := World.putObj_heap_same hlt
      have hk2 : (W.putObj (w.heap.size + 1) (.loop { rec .ready none with state := .busy })).heap[w.heap.size]? = some (.deferred (some [])) := (World.putObj_heap_other (by omega)).trans hk
      refine ⟨fn, _, assign, body, hy, roundIn_of_wpIn hfn (wpIn_mono (hround _ k t x W hx hi hG) ?_)⟩
      rintro e a1 W' hq
      cases e with
      | normal =>
        obtain ⟨rfl, hbody⟩ := hq
        refine ⟨_, run_beginRound hl (by rw [hrec]), ?_⟩
        refine wpIn_mono (hbody _ ((hI k).putObj _ hi (by omega) hl rfl) ((oG k t).putObj _ hG (by omega) hl rfl) (by simp; omega)) ?_
        have fin : ∀ (jump : Option Code) (W3 : World), KeepsOthers (W'.putObj (w.heap.size + 1) (.loop { rec .ready none with state := .busy })) W3 →
            (Instr.endRound (w.heap.size + 1) jump).run P W3 = .ok (.bool jump.isNone) (W3.putObj (w.heap.size + 1) (.loop (rec (if jump.isNone then .ready else .done) jump))) ∧
            W3.heap[w.heap.size + 1]? = some (.loop { rec .ready none with state := .busy }) ∧
            (W3.putObj (w.heap.size + 1) (.loop (rec (if jump.isNone then .ready else .done) jump))).heap[w.heap.size + 1]? = some (.loop (rec (if jump.isNone then .ready else .done) jump)) ∧
            (W3.putObj (w.heap.size + 1) (.loop (rec (if jump.isNone then .ready else .done) jump))).heap[w.heap.size]? = some (.deferred (some [])) := fun jump W3 hk3 => by
          have hl3 := hk3.same _ _ hl2 rfl
          have := run_endRound (P := P) jump hl3
          rw [hrec] at this ⊢
          exact ⟨this, by rw [hrec] at hl3; exact hl3, World.putObj_heap_same (Array.getElem?_eq_some_iff.1 hl3).1, (World.putObj_heap_other (by omega)).trans (hk3.same _ _ hk2 rfl)⟩
        rintro e a3 W3 hp
        cases e with
        | normal =>
          obtain ⟨hk3, hg3, hi3⟩ := hp
          obtain ⟨hr, hl3, hl4, hk4⟩ := fin none W3 hk3
          exact ⟨_, _, hr, (oG k t).putObj _ hg3 (by omega) hl3 rfl, .inl ⟨rfl, (hI _).putObj _ hi3 (by omega) hl3 rfl, hl4, hk4⟩⟩
        | ret =>
          obtain ⟨hk3, hg3, hi3⟩ := hp
          obtain ⟨hr, hl3, hl4, hk4⟩ := fin (some .ret) W3 hk3
          exact ⟨_, _, hr, (oG k t).putObj _ hg3 (by omega) hl3 rfl, .inr ⟨rfl, .ret, (hIx _ _).putObj _ hi3 (by omega) hl3 rfl, hl4, hk4⟩⟩
        | exit id =>
          obtain ⟨hk3, hg3, hi3⟩ := hp
          obtain ⟨hr, hl3, hl4, hk4⟩ := fin (some (.exit id)) W3 hk3
          exact ⟨_, _, hr, (oG k t).putObj _ hg3 (by omega) hl3 rfl, .inr ⟨rfl, .exit id, (hIx _ _).putObj _ hi3 (by omega) hl3 rfl, hl4, hk4⟩⟩
        | goto t' =>
          obtain ⟨hk3, hg3, hi3⟩ := hp
          obtain ⟨hr, hl3, hl4, hk4⟩ := fin (some (.goto t')) W3 hk3
          exact ⟨_, _, hr, (oG k t).putObj _ hg3 (by omega) hl3 rfl, .inr ⟨rfl, .goto t', (hIx _ _).putObj _ hi3 (by omega) hl3 rfl, hl4, hk4⟩⟩
        | panic ch => exact hp.elim
        | outgrown => exact hp.elim
      | ret => exact hq.elim
      | exit id => exact hq.elim
      | goto t' => exact hq.elim
      | panic ch => exact hq.elim
      | outgrown => exact hq.elim
    · -- BEHIND THE ITERATOR
      rintro e W2 ⟨⟨v, rfl⟩, (⟨⟨hi, hl, hk⟩, hd⟩ | ⟨k, hkl, ⟨c, hi, hl, hk⟩, hs⟩)⟩
      · exact ⟨none, _, by have := run_endLoop (P := P) hl (by rw [hrec]; simp); rw [hrec] at this; exact this, hdone _ _ (Nat.le_refl _) ((hI _).putObj _ hi (by omega) hl rfl) (oGd.putObj _ hd (by omega) hl rfl) ((World.putObj_heap_other (by omega)).trans hk)⟩
      · exact ⟨some c, _, by have := run_endLoop (P := P) hl (by rw [hrec]; simp); rw [hrec] at this; exact this, hstop _ c k _ (Nat.le_refl _) hkl ((hIx c _).putObj _ hi (by omega) hl rfl) ((oGs k).putObj _ hs (by omega) hl rfl) ((World.putObj_heap_other (by omega)).trans hk)⟩
/-- The same within the wide fence. -/
abbrev SeqTW {α τ : Type} (P : Program) (g : Nat) (lb : Array Value) (encs : α → Array Value) (xs : List α) (Ab : World → World → Prop)
    (Gi : World → Prop) (G : Nat → τ → World → Prop) (Gd : World → Prop) (Gs : Nat → World → Prop) : Prop :=
  SeqT Fence.wide 8 P g lb encs xs Ab Gi G Gd Gs
end Go.Kw
