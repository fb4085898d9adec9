/-
  A day's weekday and date, walked. Conditions stand at each theorem.
-/
import Derived.Test.YtgbkedjjgbhcmaaGreatDoorCivil3
namespace Go.Proofs.YtgbkedjjgbhcmaaGreatDoor
open Go Go.RowKit Go.Kw Go.Kw.Cv Go.Shelf
attribute [local go_sem] Oper.semAt_some
set_option linter.unusedVariables false
set_option linter.unusedSimpArgs false

def wdN (n : Int) : Int := if 0 ≤ n ∧ n ≤ 2932896 then (n + 3) % 7 + 1 else 0
set_option maxHeartbeats 4000000 in
theorem weekday_calls (n : Int) (w : World) : Calls Tryz.prog 58 #[.int .i64 n] w fun e w' => e = .returned (.int .i64 (wdN n)) ∧ w' = w := by
  by_cases h : 0 ≤ n ∧ n ≤ 2932896
  · rw [show wdN n = (n + 3) % 7 + 1 from if_pos h]
    have k1 : decide (n < 0) = false := decide_eq_false (by omega)
    have k2 : decide (n > 2932896) = false := decide_eq_false (by omega)
    have e7 : (n + 3).tmod 7 = (n + 3) % 7 := Int.tmod_eq_emod_of_nonneg (by omega)
    have a1 := i64_same (n + 4) (by omega)
    have a2 : IntKind.i64.wrap (n + 4 - 1) = n + 3 := by rw [show n + 4 - 1 = n + 3 by omega]; exact i64_same _ (by omega)
    have a3 := i64_same ((n + 3) % 7) (by omega)
    have a4 := i64_same ((n + 3) % 7 + 1) (by omega)
    have B1 := Lib.hid (wrap64_in (n + 4) (by omega))
    have B2 : Hid (wrap64 (n + 4 - 1) = n + 3) := Lib.hid (by rw [show n + 4 - 1 = n + 3 by omega]; exact wrap64_in _ (by omega))
    have B4 := Lib.hid (wrap64_in ((n + 3) % 7 + 1) (by omega))
    clear h
    have b1 := B1.out
    have b2 := B2.out
    have b4 := B4.out
    go_enter Tryz.func58, Tryz.ntmps58
    go_wp2_with fail
    go_ret
    exact ⟨rfl, rfl⟩
  · rw [show wdN n = 0 from if_neg h]
    have H := Lib.hid h
    clear h
    go_enter Tryz.func58, Tryz.ntmps58
    go_wp2_with fail
    all_goals first | (go_ret; exact ⟨rfl, rfl⟩) | (exfalso; have := H.out; omega)
theorem ahd_366 (k : Nat) : ahd (1970 + k) ≤ 366 * k := by
  induction k with
  | zero => decide
  | succ k ih =>
    have h1 := ahd_step (1970 + k)
    have h2 := lp_01 (1970 + k)
    rw [show (1970 : Int) + ((k + 1 : Nat) : Int) = 1970 + k + 1 by push_cast; omega, h1]
    push_cast; omega
theorem year_from (n y : Int) (h0 : 0 ≤ n) (hy : ahd y ≤ n ∧ n < ahd (y + 1)) : 1970 + n / 366 ≤ y := by
  have h1 := ahd_366 (n / 366).toNat
  rw [show ((n / 366).toNat : Int) = n / 366 by omega] at h1
  by_cases h2 : 1970 + n / 366 ≤ y
  · exact h2
  · have := ahd_mono (show y + 1 ≤ 1970 + n / 366 by omega)
    omega
/-- The date's box in the months' range. -/
def ofR (y L : Int) (k : Nat) : Int × Int := if k = 0 then (0, 0) else ((k : Int), L - msx y (k - 1) + 1)
theorem of_fin (y m d L : Int) (k : Nat) (hok : okD y m d) (hL : L = mst y m + d - 1) (h1 : ∀ j, j < k → msx y j ≤ L) (h2 : k = 12 ∨ (k < 12 ∧ L < msx y k)) : ofR y L k = (m, d) := by
  have hm := dim_month hok
  have hd := hok.2.2
  have h0 := mst_lo y m hm
  have hkm : (k : Int) = m := by
    rcases Int.lt_trichotomy k m with h3 | h3 | h3
    · rcases h2 with h2 | ⟨h2, h4⟩
      · omega
      · unfold msx at h4
        rw [if_pos h2] at h4
        by_cases h5 : (k : Int) + 1 = m
        · rw [h5] at h4; omega
        · have h6 := mst_mono (y := y) (m := (k : Int) + 1) (m' := m) (by omega) (by omega) hm.2
          have h7 := dim_lo y ((k : Int) + 1) (by omega)
          omega
    · exact h3
    · have h4 := h1 m.toNat (by omega)
      unfold msx at h4
      rw [if_pos (by rcases h2 with h2 | h2 <;> omega)] at h4
      have h5 := mst_step y m (by rcases h2 with h2 | h2 <;> omega)
      rw [show ((m.toNat : Nat) : Int) + 1 = m + 1 by omega, h5] at h4
      omega
  unfold ofR
  rw [if_neg (by omega)]
  unfold msx
  rw [if_pos (by rcases h2 with h2 | h2 <;> omega), show ((k - 1 : Nat) : Int) + 1 = m by omega]
  exact Prod.ext_iff.2 ⟨hkm, by show L - mst y m + 1 = d; omega⟩
def OfI (b0 s1 s2 : Nat) (w : World) (y L : Int) (k : Nat) (W : World) : Prop :=
  (∀ j, j < k → msx y j ≤ L) ∧ Boxed W s1 3 (.int .i64 L) ∧ W.heap[s2]? = some (.cells #[.int .i64 y, .int .i64 (ofR y L k).1, .int .i64 (ofR y L k).2] 113 (0, 0)) ∧
    W.heap[b0]? = some (.cells #[.int .i64 0, .int .i64 0, .int .i64 0] 113 (0, 0)) ∧ (Below b0 w W ∧ b0 ≤ W.heap.size)
def OfX (b0 s1 s2 : Nat) (w : World) (y L : Int) (c : Code) (k : Nat) (W : World) : Prop :=
  c = .exit 2 ∧ ∃ j, k = j + 1 ∧ j < 12 ∧ L < msx y j ∧ OfI b0 s1 s2 w y L j W
theorem ofI_own (b0 s1 s2 B : Nat) (hB : b0 ≤ B) (w : World) (y L : Int) (k : Nat) : OwnW B (OfI b0 s1 s2 w y L k) :=
  (OwnW.const _).and ((boxed_ownW _ _ _ _).and (block_ownW.and (block_ownW.and (below_own hB))))
theorem ofX_own (b0 s1 s2 B : Nat) (hB : b0 ≤ B) (w : World) (y L : Int) (c : Code) (k : Nat) : OwnW B (OfX b0 s1 s2 w y L c k) :=
  (OwnW.const _).and (OwnW.ex fun j => (OwnW.const _).and ((OwnW.const _).and ((OwnW.const _).and (ofI_own b0 s1 s2 B hB w y L j))))
theorem of_round (b0 s3 : Nat) (w : World) (y L M : Int) (k : Nat) (W1 : World) (h3 : s3 ≠ b0 + 1 + 1) (hM : msx y k = M) (hle : M ≤ L) (hall : ∀ i, i < k → msx y i ≤ L) (hb1 : Boxed W1 (b0 + 1) 3 (.int .i64 L))
    (hr1 : W1.heap[b0 + 1 + 1]? = some (.cells #[.int .i64 y, .int .i64 (ofR y L k).1, .int .i64 (ofR y L k).2] 113 (0, 0))) (hz1 : W1.heap[b0]? = some (.cells #[.int .i64 0, .int .i64 0, .int .i64 0] 113 (0, 0)))
    (hBl : Below b0 w W1 ∧ b0 ≤ W1.heap.size) (hY : Boxed W1 s3 3 (.int .i64 y)) (hL : Lens W1) (hlow : 0 < b0) :
    KeepsOthers W1 (((W1.setCell ⟨b0 + 1 + 1, 1, none⟩ (.int .i64 ((k : Int) + 1))).setCell ⟨b0 + 1 + 1, 2, none⟩ (.int .i64 (L - M + 1))).drew) ∧ (Boxed (((W1.setCell ⟨b0 + 1 + 1, 1, none⟩ (.int .i64 ((k : Int) + 1))).setCell ⟨b0 + 1 + 1, 2, none⟩ (.int .i64 (L - M + 1))).drew) s3 3 (.int .i64 y) ∧ Lens (((W1.setCell ⟨b0 + 1 + 1, 1, none⟩ (.int .i64 ((k : Int) + 1))).setCell ⟨b0 + 1 + 1, 2, none⟩ (.int .i64 (L - M + 1))).drew)) ∧ OfI b0 (b0 + 1) (b0 + 1 + 1) w y L (k + 1) (((W1.setCell ⟨b0 + 1 + 1, 1, none⟩ (.int .i64 ((k : Int) + 1))).setCell ⟨b0 + 1 + 1, 2, none⟩ (.int .i64 (L - M + 1))).drew) := by
  have gx : ∀ q, q ≠ b0 + 1 + 1 → (((W1.setCell ⟨b0 + 1 + 1, 1, none⟩ (.int .i64 ((k : Int) + 1))).setCell ⟨b0 + 1 + 1, 2, none⟩ (.int .i64 (L - M + 1))).drew).heap[q]? = W1.heap[q]? := fun q hq =>
    (heap_setCell_other _ ⟨b0 + 1 + 1, 2, none⟩ q _ hq).trans (heap_setCell_other W1 ⟨b0 + 1 + 1, 1, none⟩ q _ hq)
  have hbl : Below b0 W1 (((W1.setCell ⟨b0 + 1 + 1, 1, none⟩ (.int .i64 ((k : Int) + 1))).setCell ⟨b0 + 1 + 1, 2, none⟩ (.int .i64 (L - M + 1))).drew) := (((Below.refl b0 W1).setCell (p := ⟨b0 + 1 + 1, 1, none⟩) (by show b0 ≤ b0 + 1 + 1; omega) _).setCell (p := ⟨b0 + 1 + 1, 2, none⟩) (by show b0 ≤ b0 + 1 + 1; omega) _).drew
  refine ⟨((KeepsOthers.setCell _ _ _).trans (KeepsOthers.setCell _ _ _)).trans (KeepsOthers.drew _), ⟨(gx _ h3).trans hY, hL.below hbl hlow⟩, fun i hi => ?_, (gx _ (by omega)).trans hb1, ?_, (gx _ (by omega)).trans hz1, hBl.1.trans hbl, by simpa using hBl.2⟩
  · by_cases h : i < k
    · exact hall i h
    · obtain rfl : i = k := by omega
      rw [hM]; exact hle
  · have h1 := heap_setCell_same W1 (b0 + 1 + 1) 1 _ _ (.int .i64 ((k : Int) + 1)) hr1
    have h2 := heap_setCell_same _ (b0 + 1 + 1) 2 _ _ (.int .i64 (L - M + 1)) h1
    have e : ofR y L (k + 1) = ((k : Int) + 1, L - M + 1) := by
      unfold ofR; rw [if_neg (by omega), Nat.add_sub_cancel, hM]; push_cast; rfl
    rw [e]
    exact h2
theorem results_cell_tmp {P : Program} {fn : Func} {p t2 : Tmp} {ty : TypeId} (h : fn.results = #[.cell p ty, .tmp t2]) (tmps : Array Value) (w : World) (g : Nat) (t : TypeId) (cs : Array Value) (fr : Nat × Nat) (d : TypeDesc)
    (hp : tmps.getD p undef = .pointer (some ⟨g, 0, none⟩)) (hg : w.heap[g]? = some (.cells cs t fr))
    (hu : P.underlying ty = some d) (hd : (match d with | .struct _ | .array _ _ => true | _ => false) = true) (hi : (P.info? ty).map (·.size) = some cs.size) :
    (results fn tmps).run P w = .ok (.tuple #[.agg cs, tmps.getD t2 undef]) w := by
  have hp' : tmps[p]?.getD undef = .pointer (some ⟨g, 0, none⟩) := by simpa using hp
  simp [results, h, hp', asAddr, run_loadVar_row w g t ty cs fr d hg hu hd hi]
theorem date_size : (Tryz.prog.info? 113).map (·.size) = some 3 := by kernel_rfl
theorem res_date {fn : Func} {p t2 : Tmp} (h : fn.results = #[.cell p 113, .tmp t2]) {tmps : Array Value} {w : World} {g : Nat} {a b c : Value} (hp : tmps.getD p undef = .pointer (some ⟨g, 0, none⟩)) (hg : w.heap[g]? = some (.cells #[a, b, c] 113 (0, 0))) :
    (results fn tmps).run Tryz.prog w = .ok (.tuple #[.agg #[a, b, c], tmps.getD t2 undef]) w :=
  results_cell_tmp h tmps w g _ _ _ _ hp hg Tryz.underlying113 rfl date_size
set_option maxRecDepth 100000 in
set_option maxHeartbeats 8000000 in
theorem of_calls (y m d : Int) (hok : okD y m d) (w : World) (hL : Lens w) : Calls Tryz.prog 74 #[.int .i64 (dayN y m d)] w fun e w' => e = .returned (.tuple #[.agg #[.int .i64 y, .int .i64 m, .int .i64 d], .int .i64 0]) ∧ Below w.heap.size w w' := by
  have hF := wide_fn
  obtain ⟨b0, hb0⟩ : ∃ b0, w.heap.size = b0 := ⟨_, rfl⟩
  have Hb0 := Lib.hid hb0
  have Hok := Lib.hid hok
  have hdm := dim_month hok
  have hdi := day_in hok
  have hdr := day_range hok
  have hyf := year_from _ y hdr.1 hdi
  obtain ⟨n, hn⟩ : ∃ n, dayN y m d = n := ⟨_, rfl⟩
  rw [hn] at hdi hdr hyf ⊢
  have HN := Lib.hid hn
  have k1 : decide (n < 0) = false := decide_eq_false (by omega)
  have k2 : decide (n > 2932896) = false := decide_eq_false (by omega)
  have e3 : n.tdiv 366 = n / 366 := Int.tdiv_eq_ediv_of_nonneg hdr.1
  have a1 := i64_same (n / 366) (by omega)
  have a2 := i64_same (1970 + n / 366) (by omega)
  have B2 := Lib.hid (wrap64_in (1970 + n / 366) (by omega))
  have Hyf := Lib.hid hyf
  have Hdi := Lib.hid hdi
  have Hdr := Lib.hid hdr
  have Hdm := Lib.hid hdm
  have hn0 : 0 ≤ n / 366 := by omega
  have Hn0 := Lib.hid hn0
  unfold okD at hok
  have Hyy := Lib.hid (show 1970 ≤ y ∧ y ≤ 9999 by omega)
  have hA := Lib.hid ahead_calls
  clear hok hdm hdi hdr hyf hn hn0
  have b2 := B2.out
  refine calls_of_marks Tryz.func74 rfl ?_
  simp only [Tryz.ntmps74, List.size_toArray, List.length_cons, List.length_nil, Nat.reduceAdd, Nat.reduceSub, Array.replicate_succ, Array.replicate_zero, List.push_toArray, List.append_toArray, List.nil_append, List.cons_append]
  gi_wp2_with (first | (refine wpIn_scope ?_) | (refine wpIn_label ?_))
  have hlow : 0 < b0 := by rw [← hb0]; exact hL.low
  have hrow := World.alloc_heap_new w (.cells #[.int .i64 0, .int .i64 0, .int .i64 0] 113)
  have hB1 := bstep w (.cells #[.int .i64 0, .int .i64 0, .int .i64 0] 113)
  have hs1 : (w.alloc (.cells #[.int .i64 0, .int .i64 0, .int .i64 0] 113)).heap.size = b0 + 1 := by simp [hb0]
  rw [hb0] at hrow hB1
  obtain ⟨w1, hw1⟩ : ∃ w1, w.alloc (.cells #[.int .i64 0, .int .i64 0, .int .i64 0] 113) = w1 := ⟨_, rfl⟩
  rw [hw1] at hrow hB1 hs1 ⊢
  have hL1 : Lens w1 := hL.below hB1 hlow
  clear hw1 a1 a2 b2 e3 hb0
  gi_loopw [4] (fun i wr => wr = w1 ∧ ∃ j : Int, i = .int .i64 j ∧ 1970 ≤ j ∧ j ≤ y) (fun i _ => (y - intOf i).toNat)
  case atStart => exact ⟨rfl, _, rfl, by have := Hn0.out; omega, Hyf.out⟩
  case round =>
    obtain ⟨rfl, j, rfl, hj1, hj2⟩ := hrel
    have hyy := Hyy.out
    have a3 := i64_same (j + 1) (by omega)
    have B3 := Lib.hid (wrap64_in (j + 1) (by omega))
    have HA1 := Lib.hid (hA.out (j + 1) (by omega))
    have HA2 := Lib.hid (hA.out y (by omega))
    by_cases hjy : j < y
    · have hle : ahd (j + 1) ≤ n := by have := ahd_mono (show j + 1 ≤ y by omega); have := Hdi.out; omega
      have k3 : decide (ahd (j + 1) ≤ n) = true := decide_eq_true hle
      have b3 := B3.out
      gi_wp2
      refine (callsIn_wide.2 (HA1.out _)).mono ?_
      rintro e w3 ⟨rfl, rfl⟩
      gi_wp2
      go_roundw
      case rel => exact ⟨trivial, j + 1, rfl, by omega, by omega⟩
      case measure => simp [intOf]; omega
    · obtain rfl : j = y := by omega
      have hgt : ¬ ahd (j + 1) ≤ n := by have := Hdi.out; omega
      have k3 : decide (ahd (j + 1) ≤ n) = false := decide_eq_false hgt
      obtain ⟨S, hS⟩ : ∃ S, ahd j = S := ⟨_, rfl⟩
      rw [hS] at HA2
      have hLe : n - S = mst j m + d - 1 := by have := HN.out; unfold dayN at this; omega
      have hLb : 0 ≤ n - S ∧ n - S ≤ 366 := by
        have h1 := mst_lo j m Hdm.out; have h2 := lp_01 j; have h3 := Hok.out; unfold okD at h3; omega
      have a4 := i64_same (n - S) (by omega)
      have B4 := Lib.hid (wrap64_in (n - S) (by omega))
      have HLe := Lib.hid hLe
      have HLb := Lib.hid hLb
      clear hLe hLb hS hgt
      have b3 := B3.out
      have b4 := B4.out
      gi_wp2
      refine (callsIn_wide.2 (HA1.out _)).mono ?_
      rintro e w3 ⟨rfl, rfl⟩
      gi_wp2
      refine (callsIn_wide.2 (HA2.out _)).mono ?_
      rintro e w3 ⟨rfl, rfl⟩
      gi_wp2_with (first | (refine wpIn_scope ?_) | (refine wpIn_label ?_) | (gi_at_call 86; refine (callsIn_wide.2 (months_calls _ _)).mono ?_; rintro e w' ⟨rfl, rfl⟩))
      obtain ⟨W0, hW0⟩ : ∃ W0, ((w3.alloc (.cells #[.int .i64 (n - S)] 3)).alloc (.cells #[.int .i64 j, .int .i64 0, .int .i64 0] 113)).alloc (.cells #[.int .i64 j] 3) = W0 := ⟨_, rfl⟩
      obtain ⟨wa, hwa⟩ : ∃ wa, w3.alloc (.cells #[.int .i64 (n - S)] 3) = wa := ⟨_, rfl⟩
      obtain ⟨wb, hwb⟩ : ∃ wb, wa.alloc (.cells #[.int .i64 j, .int .i64 0, .int .i64 0] 113) = wb := ⟨_, rfl⟩
      have hW1 := hW0
      rw [hwa, hwb] at hW1
      have sa : wa.heap.size = b0 + 1 + 1 := by rw [← hwa, World.size_alloc, hs1]
      have sb : wb.heap.size = b0 + 1 + 1 + 1 := by rw [← hwb, World.size_alloc, sa]
      have ta : Below w3.heap.size w3 wa := hwa ▸ bstep w3 _
      have tb : Below wa.heap.size wa wb := hwb ▸ bstep wa _
      have tc : Below wb.heap.size wb W0 := hW1 ▸ bstep wb _
      have tbc := bnext tb tc
      have tabc := bnext ta tbc
      have bL : Boxed W0 (b0 + 1) 3 (.int .i64 (n - S)) := by
        have h : Boxed wa w3.heap.size 3 (.int .i64 (n - S)) := hwa ▸ Boxed.new w3 _ _
        rw [hs1] at h; exact blk_below h tbc
      have bD : W0.heap[b0 + 1 + 1]? = some (.cells #[.int .i64 j, .int .i64 0, .int .i64 0] 113 (0, 0)) := by
        have h : wb.heap[wa.heap.size]? = some (.cells #[.int .i64 j, .int .i64 0, .int .i64 0] 113 (0, 0)) := hwb ▸ World.alloc_heap_new wa _
        rw [sa] at h; exact blk_below h tc
      have bY : Boxed W0 (b0 + 1 + 1 + 1) 3 (.int .i64 j) := by
        have h : Boxed W0 wb.heap.size 3 (.int .i64 j) := hW1 ▸ Boxed.new wb _ _
        rw [sb] at h; exact h
      have b00 : W0.heap[b0]? = some (.cells #[.int .i64 0, .int .i64 0, .int .i64 0] 113 (0, 0)) := blk_below hrow tabc
      have hB0 : Below b0 w W0 := hB1.trans (tabc.mono (by omega))
      have hL0 := hL1.go tabc
      have s0 : W0.heap.size = b0 + 1 + 1 + 1 + 1 := by rw [← hW1, World.size_alloc, sb]
      clear ta tb tc tbc tabc hwa hwb hW1 sa sb
      rw [hW0]
      obtain ⟨L, hLn⟩ : ∃ L, n - S = L := ⟨_, rfl⟩
      rw [hLn] at bL HLe HLb
      refine wpIn_rangeX rfl (by decide) (gf := 101) (lb := #[.pointer (some ⟨b0 + 1 + 1 + 1, 0, none⟩)]) rfl trivial (enters_of Tryz.func101 (by kernel_rfl) rfl)
        (months_seq (b0 + 1 + 1 + 1) j (by omega)) (fun A B h => h ▸ KeepsOthers.refl _) (fun _ => rfl)
        ((boxed_ownW _ _ _ _).and (Lens.own _)) (fun _ => (boxed_ownW _ _ _ _).and (Lens.own _)) (OwnW.const _) (fun _ => OwnW.const _) ⟨bY, hL0⟩
        (OfI b0 (b0 + 1) (b0 + 1 + 1) w j L) (OfX b0 (b0 + 1) (b0 + 1 + 1) w j L)
        (fun k => ofI_own _ _ _ _ (by omega) _ _ _ _) (fun c k => ofX_own _ _ _ _ (by omega) _ _ _ _ _) (fun k A B h e => e ▸ h) (fun _ _ _ _ h e => e ▸ h)
        ⟨fun i hi => absurd hi (by omega), bL, bD, b00, hB0, by omega⟩ ?round ?done ?stop
      case round =>
        rintro lo k x W hx _ _
        gi_wp2
        refine ⟨trivial, ?_⟩
        rintro W1 ⟨hall, hb1, hr1, hz1, hBl⟩ ⟨hY1, hLn1⟩ hsz
        have hkl : k < 12 := by have := (List.getElem?_eq_some_iff.1 hx).1; rwa [moL_len] at this
        have hxv : x = ((k : Int) + 1, msx j k) := by have := moL_at j k hkl; rw [hx] at this; injection this
        subst hxv
        have cb := hb1.cell
        have hmr := msx_range j k (by omega)
        obtain ⟨M, hM⟩ : ∃ M, msx j k = M := ⟨_, rfl⟩
        rw [hM] at hmr ⊢
        by_cases hgt : M > L
        · have k4 : decide (M > L) = true := decide_eq_true hgt
          have HE := Lib.hid (show KeepsOthers W1 W1 ∧ (Boxed W1 (b0 + 1 + 1 + 1) 3 (.int .i64 j) ∧ Lens W1) ∧ OfX b0 (b0 + 1) (b0 + 1 + 1) w j L (.exit 2) (k + 1) W1 from
            ⟨KeepsOthers.refl _, ⟨hY1, hLn1⟩, rfl, k, rfl, hkl, by rw [hM]; exact hgt, hall, hb1, hr1, hz1, hBl⟩)
          clear hmr hgt
          gi_wp2
          exact HE.out
        · have k4 : decide (M > L) = false := decide_eq_false hgt
          have hlb := HLb.out
          have c1 := cell_of_row W1 (b0 + 1 + 1) 1 _ _ _ hr1
          have c2 := cell_of_row W1 (b0 + 1 + 1) 2 _ _ _ hr1
          have f1 := blk_frozen hr1 1
          have f2 := blk_frozen hr1 2
          have a5 := i64_same (L - M) (by omega)
          have a6 := i64_same (L - M + 1) (by omega)
          have B5 := Lib.hid (wrap64_in (L - M) (by omega))
          have B6 := Lib.hid (wrap64_in (L - M + 1) (by omega))
          have HF := Lib.hid (of_round b0 (b0 + 1 + 1 + 1) w j L M k W1 (by omega) hM (by omega) hall hb1 hr1 hz1 hBl hY1 hLn1 hlow)
          clear hmr hgt hlb
          have b5 := B5.out
          have b6 := B6.out
          gi_wp2
          gi_region
          all_goals gi_wp2
          all_goals exact HF.out
      case done =>
        rintro D W hD ⟨hall, hb1, hr1, hz1, hBl⟩ _ hK
        rw [moL_len] at hall hr1
        have hfin := of_fin j m d L 12 Hok.out HLe.out hall (.inl rfl)
        rw [hfin] at hr1
        have HE := Lib.hid (hBl)
        have c0 := cell_of_row W (b0 + 1 + 1) 0 _ _ _ hr1
        have c1 := cell_of_row W (b0 + 1 + 1) 1 _ _ _ hr1
        have c2 := cell_of_row W (b0 + 1 + 1) 2 _ _ _ hr1
        clear hfin hall hb1 HE
        have z0 := cell_of_row W b0 0 _ _ _ hz1
        have z1 := cell_of_row W b0 1 _ _ _ hz1
        have z2 := cell_of_row W b0 2 _ _ _ hz1
        have f0 := blk_frozen hz1 0
        have f1 := blk_frozen hz1 1
        have f2 := blk_frozen hz1 2
        have hz2 := heap_setCell_same W b0 0 _ _ (.int .i64 j) hz1
        have hz3 := heap_setCell_same _ b0 1 _ _ (.int .i64 m) hz2
        have hz4 := heap_setCell_same _ b0 2 _ _ (.int .i64 d) hz3
        have hK4 := (((KeepsOthers.setCell W ⟨b0, 0, none⟩ (.int .i64 j)).trans (KeepsOthers.setCell _ ⟨b0, 1, none⟩ (.int .i64 m))).trans (KeepsOthers.setCell _ ⟨b0, 2, none⟩ (.int .i64 d))).same D _ hK rfl
        have hB4 := ((hBl.1.setCell (p := ⟨b0, 0, none⟩) (Nat.le_refl _) (.int .i64 j)).setCell (p := ⟨b0, 1, none⟩) (Nat.le_refl _) (.int .i64 m)).setCell (p := ⟨b0, 2, none⟩) (Nat.le_refl _) (.int .i64 d)
        have hs4 : b0 ≤ (((W.setCell ⟨b0, 0, none⟩ (.int .i64 j)).setCell ⟨b0, 1, none⟩ (.int .i64 m)).setCell ⟨b0, 2, none⟩ (.int .i64 d)).heap.size := by simpa using hBl.2
        clear hz2 hz3 hz1 hBl
        gi_wp2
        refine ⟨by simp, .inl ⟨_, _, rfl, run_takeDeferred hK4, ?_⟩⟩
        refine ⟨_, res_date rfl rfl (block_ownW.putObj (B := b0) _ hz4 (by omega) hK4 rfl), rfl, ?_⟩
        rw [Hb0.out]
        exact Below.putObj hB4 (by omega) hs4 _
      case stop =>
        rintro D c k W hD hk ⟨rfl, i, hi, hi2, hgt, hall, hb1, hr1, hz1, hBl⟩ _ hK
        have hfin := of_fin j m d L i Hok.out HLe.out hall (.inr ⟨hi2, hgt⟩)
        rw [hfin] at hr1
        have c0 := cell_of_row W (b0 + 1 + 1) 0 _ _ _ hr1
        have c1 := cell_of_row W (b0 + 1 + 1) 1 _ _ _ hr1
        have c2 := cell_of_row W (b0 + 1 + 1) 2 _ _ _ hr1
        clear hfin hall hb1 hgt
        have z0 := cell_of_row W b0 0 _ _ _ hz1
        have z1 := cell_of_row W b0 1 _ _ _ hz1
        have z2 := cell_of_row W b0 2 _ _ _ hz1
        have f0 := blk_frozen hz1 0
        have f1 := blk_frozen hz1 1
        have f2 := blk_frozen hz1 2
        have hz2 := heap_setCell_same W b0 0 _ _ (.int .i64 j) hz1
        have hz3 := heap_setCell_same _ b0 1 _ _ (.int .i64 m) hz2
        have hz4 := heap_setCell_same _ b0 2 _ _ (.int .i64 d) hz3
        have hK4 := (((KeepsOthers.setCell W ⟨b0, 0, none⟩ (.int .i64 j)).trans (KeepsOthers.setCell _ ⟨b0, 1, none⟩ (.int .i64 m))).trans (KeepsOthers.setCell _ ⟨b0, 2, none⟩ (.int .i64 d))).same D _ hK rfl
        have hB4 := ((hBl.1.setCell (p := ⟨b0, 0, none⟩) (Nat.le_refl _) (.int .i64 j)).setCell (p := ⟨b0, 1, none⟩) (Nat.le_refl _) (.int .i64 m)).setCell (p := ⟨b0, 2, none⟩) (Nat.le_refl _) (.int .i64 d)
        have hs4 : b0 ≤ (((W.setCell ⟨b0, 0, none⟩ (.int .i64 j)).setCell ⟨b0, 1, none⟩ (.int .i64 m)).setCell ⟨b0, 2, none⟩ (.int .i64 d)).heap.size := by simpa using hBl.2
        clear hz2 hz3 hz1 hBl
        gi_wp2
        refine ⟨by simp, .inl ⟨_, _, rfl, run_takeDeferred hK4, ?_⟩⟩
        refine ⟨_, res_date rfl rfl (block_ownW.putObj (B := b0) _ hz4 (by omega) hK4 rfl), rfl, ?_⟩
        rw [Hb0.out]
        exact Below.putObj hB4 (by omega) hs4 _
set_option maxRecDepth 100000 in
set_option maxHeartbeats 8000000 in
theorem of_bad (n : Int) (h : ¬ (0 ≤ n ∧ n ≤ 2932896)) (w : World) : Calls Tryz.prog 74 #[.int .i64 n] w fun e w' => e = .returned (.tuple #[.agg #[.int .i64 0, .int .i64 0, .int .i64 0], .int .i64 60]) ∧ Below w.heap.size w w' := by
  have hF := wide_fn
  obtain ⟨b0, hb0⟩ : ∃ b0, w.heap.size = b0 := ⟨_, rfl⟩
  have Hb0 := Lib.hid hb0
  have H := Lib.hid h
  have hrow := World.alloc_heap_new w (.cells #[.int .i64 0, .int .i64 0, .int .i64 0] 113)
  have hB1 := bstep w (.cells #[.int .i64 0, .int .i64 0, .int .i64 0] 113)
  rw [hb0] at hrow hB1
  clear h
  refine calls_of_marks Tryz.func74 rfl ?_
  simp only [Tryz.ntmps74, List.size_toArray, List.length_cons, List.length_nil, Nat.reduceAdd, Nat.reduceSub, Array.replicate_succ, Array.replicate_zero, List.push_toArray, List.append_toArray, List.nil_append, List.cons_append]
  gi_wp2_with (first | (refine wpIn_scope ?_) | (refine wpIn_label ?_))
  all_goals first
    | (try rw [Exit.noGoto_ret]
       refine ⟨_, res_date rfl rfl hrow, rfl, ?_⟩
       rw [Hb0.out]
       exact hB1)
    | (exfalso; have := H.out; omega)
end Go.Proofs.YtgbkedjjgbhcmaaGreatDoor
