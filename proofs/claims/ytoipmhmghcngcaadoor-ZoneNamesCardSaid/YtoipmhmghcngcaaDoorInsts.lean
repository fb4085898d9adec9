/-
  The instants of a local time: zone.Instants, walked. Conditions stand at each theorem.
-/
import Derived.Test.YtoipmhmghcngcaaDoorInstsA
import Derived.Test.YtoipmhmghcngcaaDoorShelf64
namespace Go.Proofs.YtoipmhmghcngcaaDoor
open Go Go.RowKit Go.Kw Go.Kw.Cv Go.Shelf
attribute [local go_sem] Oper.semAt_some
set_option linter.unusedVariables false
set_option linter.unusedSimpArgs false

theorem exL_range {o : Int} {lr : Nat} {g : Nat → Nat → Int} (hok : zonOk o lr g) {e : Int} (he : e ∈ exL g lr) : 0 ≤ e ∧ e ≤ 7200 := by
  rw [exL_mem, exRaw_mem] at he
  rcases he with rfl | ⟨i, hi, rfl⟩
  · omega
  · have := hok.2.2.2 i hi
    unfold rulOk at this
    omega
theorem exL_len (g : Nat → Nat → Int) (lr : Nat) : (exL g lr).length ≤ lr + 1 := by
  unfold exL
  refine Nat.le_trans (compact_le _) ?_
  rw [List.length_mergeSort]
  unfold exRaw
  simp
theorem outRaw_len (o : Int) (lr : Nat) (g : Nat → Nat → Int) (x : Int) (L : List Int) : (outRaw o lr g x L).length ≤ L.length := by
  unfold outRaw
  rw [List.length_map]
  exact List.length_filter_le _ _
theorem holds_rd {w : World} {g : Nat} {S : List Int} (hH : Sort.Holds (Value.int .i64) w g 0 S.toArray) (hg : g < w.heap.size) : RdN w w.heap.size (some ⟨g, 0, none⟩) S := by
  refine .inr ⟨g, 0, rfl, hg, fun i hi => ?_⟩
  have h := (hH i (by first | (simp; omega) | (rw [List.size_toArray]; omega))).1
  rw [h]
  simp [hi]
set_option maxRecDepth 100000 in
set_option maxHeartbeats 8000000 in
theorem insts_ok (o : Int) (A : Option Addr) (lr cr : Nat) (g : Nat → Nat → Int) (y m d h i s : Int) (hok : zonOk o lr g) (h1 : okD y m d) (h2 : clkOk h i s) (w : World) (hR : RdZ w A lr cr g) (hL : Lens w) :
    Calls Tryd.prog 20 #[zonC o A lr cr, .agg #[.int .i64 y, .int .i64 m, .int .i64 d, .int .i64 h, .int .i64 i, .int .i64 s]] w fun e w' => InstE (instL o lr g (instV y m d h i s)) e w' ∧ Below w.heap.size w w' := by
  have hF := wide_fn
  obtain ⟨b0, hb0⟩ : ∃ b0, w.heap.size = b0 := ⟨_, rfl⟩
  have Hb0 := Lib.hid hb0
  have hst1 := bstep w (.cells #[.int .i64 o, .slice A lr cr] 24)
  have hst2 := bstep (w.alloc (.cells #[.int .i64 o, .slice A lr cr] 24)) (.cells #[.int .i64 y, .int .i64 m, .int .i64 d, .int .i64 h, .int .i64 i, .int .i64 s] 44)
  have hst := bnext hst1 hst2
  have hr0 := World.alloc_heap_new w (.cells #[.int .i64 o, .slice A lr cr] 24)
  have hr1 := World.alloc_heap_new (w.alloc (.cells #[.int .i64 o, .slice A lr cr] 24)) (.cells #[.int .i64 y, .int .i64 m, .int .i64 d, .int .i64 h, .int .i64 i, .int .i64 s] 44)
  have hs1 : (w.alloc (.cells #[.int .i64 o, .slice A lr cr] 24)).heap.size = b0 + 1 := by simp [hb0]
  have hr0' := blk_below hr0 hst2
  rw [hb0] at hr0'
  rw [hs1] at hr1
  have hs2 : ((w.alloc (.cells #[.int .i64 o, .slice A lr cr] 24)).alloc (.cells #[.int .i64 y, .int .i64 m, .int .i64 d, .int .i64 h, .int .i64 i, .int .i64 s] 44)).heap.size = b0 + 2 := by simp [hb0]
  have hM := zCheck_calls o A lr cr g _ (hR.go hst)
  rw [show zonE o lr g = 0 from if_pos hok] at hM
  obtain ⟨hie, hiv, his⟩ := inst_ok h1 h2
  obtain ⟨x, hx⟩ : ∃ x, instV y m d h i s = x := ⟨_, rfl⟩
  have hI : ∀ w, Lens w → Calls Tryd.prog 28 #[.agg #[.int .i64 y, .int .i64 m, .int .i64 d, .int .i64 h, .int .i64 i, .int .i64 s]] w fun e w' => e = .returned (.tuple #[.int .i64 x, .int .i64 0]) ∧ Below w.heap.size w w' := fun w hL => by
    have := instant_calls y m d h i s w hL
    rw [hie, hx] at this
    exact this
  rw [hx] at his ⊢
  replace hI := Lib.hid hI
  have Hx := Lib.hid his
  unfold zonC at hM ⊢
  have HM := Lib.hid hM
  have HX := Lib.hid (And.intro hst (And.intro hs2 (And.intro hr0' (And.intro hr1 (And.intro (hL.go hst) hL.low)))))
  have HR := Lib.hid hR
  have Hok := Lib.hid hok
  clear hM hst1 hst2 hst hr0 hr1 hs1 hr0' hs2 hR hL hok h1 h2 hie hiv hx his
  refine calls_of_marks Tryd.func20 rfl ?_
  simp only [Tryd.ntmps20, List.size_toArray, List.length_cons, List.length_nil, Nat.reduceAdd, Nat.reduceSub, Array.replicate_succ, Array.replicate_zero, List.push_toArray, List.append_toArray, List.nil_append, List.cons_append]
  gi_wp2_with (first | (refine wpIn_scope ?_) | (refine wpIn_label ?_))
  refine (callsIn_wide.2 HM.out).mono ?_
  rintro e w3 ⟨rfl, hb3⟩
  have hr0 := blk_below HX.out.2.2.1 hb3
  have hr1 := blk_below HX.out.2.2.2.1 hb3
  have hL3 := HX.out.2.2.2.2.1.go hb3
  have hbw := bnext HX.out.1 hb3
  have hs3 : b0 + 2 ≤ w3.heap.size := by have := hb3.size; have := HX.out.2.1; omega
  have m0 := cell_of_row _ (b0 + 1) 0 _ _ _ hr1
  have m1 := cell_of_row _ (b0 + 1) 1 _ _ _ hr1
  have m2 := cell_of_row _ (b0 + 1) 2 _ _ _ hr1
  have m3 := cell_of_row _ (b0 + 1) 3 _ _ _ hr1
  have m4 := cell_of_row _ (b0 + 1) 4 _ _ _ hr1
  have m5 := cell_of_row _ (b0 + 1) 5 _ _ _ hr1
  clear hb3
  gi_wp2_with (first | (refine wpIn_scope ?_) | (refine wpIn_label ?_))
  refine (callsIn_wide.2 (hI.out _ hL3)).mono ?_
  rintro e w4 ⟨rfl, hb4⟩
  have hr04 := blk_below hr0 hb4
  have hL4 := hL3.go hb4
  have hbw4 := bnext hbw hb4
  have hs4 : b0 + 2 ≤ w4.heap.size := Nat.le_trans hs3 hb4.size
  clear m0 m1 m2 m3 m4 m5 hb4 hr0 hr1 hL3 hbw hs3
  obtain ⟨s4, hs4e⟩ : ∃ s4, w4.heap.size = s4 := ⟨_, rfl⟩
  rw [hs4e] at hs4
  have u1 := bstep w4 (.cells #[.int .i64 x] 2)
  have u2 := bstep (w4.alloc (.cells #[.int .i64 x] 2)) (.cells #[.slice none 0 0] 52)
  have rX : Boxed (w4.alloc (.cells #[.int .i64 x] 2)) _ 2 (.int .i64 x) := Boxed.new w4 _ _
  rw [hs4e] at rX
  have s5 : (w4.alloc (.cells #[.int .i64 x] 2)).heap.size = s4 + 1 := by simp [hs4e]
  have rF : Boxed ((w4.alloc (.cells #[.int .i64 x] 2)).alloc (.cells #[.slice none 0 0] 52)) _ 52 (.slice none 0 0) := Boxed.new (w4.alloc (.cells #[.int .i64 x] 2)) _ _
  rw [s5] at rF
  have u := bnext u1 u2
  have rX2 : Boxed ((w4.alloc (.cells #[.int .i64 x] 2)).alloc (.cells #[.slice none 0 0] 52)) s4 2 (.int .i64 x) := blk_below rX u2
  have rZ2 := blk_below hr04 u
  have c0 := cell_of_row _ b0 0 _ _ _ rZ2
  have c1 := cell_of_row _ b0 1 _ _ _ rZ2
  have hL6 := hL4.go u
  have hb6 := bnext hbw4 u
  have s6 : ((w4.alloc (.cells #[.int .i64 x] 2)).alloc (.cells #[.slice none 0 0] 52)).heap.size = s4 + 2 := by simp [hs4e]
  clear u1 u2 rX u hr04 hL4 hbw4
  gi_wp2_with (first | (refine wpIn_scope ?_) | (refine wpIn_label ?_))
  clear c0 c1
  have hE := extras_calls o A lr cr ((w4.alloc (.cells #[.int .i64 x] 2)).alloc (.cells #[.slice none 0 0] 52))
  unfold zonC at hE
  refine (callsIn_wide.2 hE).mono ?_
  clear hE
  obtain ⟨W6, hW6⟩ : ∃ W6, (w4.alloc (.cells #[.int .i64 x] 2)).alloc (.cells #[.slice none 0 0] 52) = W6 := ⟨_, rfl⟩
  rw [hW6] at rF rX2 rZ2 hL6 hb6 s6
  rw [hW6, s6]
  obtain ⟨W7, hW7⟩ : ∃ W7, W6.alloc (.cells #[.int .i64 o, .slice A lr cr] 24) = W7 := ⟨_, rfl⟩
  have u := bstep W6 (.cells #[.int .i64 o, .slice A lr cr] 24)
  have rC := World.alloc_heap_new W6 (.cells #[.int .i64 o, .slice A lr cr] 24)
  rw [s6] at rC
  rw [hW7] at u rC
  have s7 : W7.heap.size = s4 + 3 := by rw [← hW7]; simp [s6]
  have rF7 : Boxed W7 (s4 + 1) 52 (.slice none 0 0) := blk_below rF u
  have rX7 : Boxed W7 s4 2 (.int .i64 x) := blk_below rX2 u
  have rZ7 := blk_below rZ2 u
  have hL7 := hL6.go u
  have hb7 := bnext hb6 u
  have hlow := HX.out.2.2.2.2.2
  rw [Hb0.out] at hlow
  have hRl : RdRl W7 b0 A lr g := by have := rdz_rl HR.out; rw [Hb0.out] at this; exact Rd.below this (Hb0.out ▸ hb7)
  rw [Hb0.out] at hb7
  rintro e w7 ⟨rfl, e7⟩
  rw [hW7] at e7
  rw [e7]
  clear e7 w7 u hW7 hW6 rF rX2 rZ2 hL6 hb6 s6
  gi_wp2_with (first | (refine wpIn_scope ?_) | (refine wpIn_label ?_))
  have Hs4 := Lib.hid hs4
  have Hlow := Lib.hid hlow
  have HS7 := Lib.hid s7
  refine wpIn_rangeT rfl (by decide) (gf := 48) (lb := #[.pointer (some ⟨s4 + 2, 0, none⟩)]) rfl trivial (enters_of Tryd.func48 (by kernel_rfl) rfl)
    (extras_seq (s4 + 2) b0 (s4 + 3) o A lr cr g (by have := Hok.out.2.2.1; omega)) (fun A B h => keepsB h) (fun _ => rfl)
    (HoldE.own.and (fun W W' row h hg hr => Nat.le_trans h hg.size)) (fun _ _ => HoldN.own) (OwnW.const _) (fun _ => OwnW.const _) ⟨⟨rC, hRl, by omega, hL7⟩, by omega⟩
    (InI b0 (s4 + 3) s4 (s4 + 1) w o A lr cr g x) (fun _ _ _ => False)
    ?ownI ?ownX ?abI ?abX ⟨_, 0, rF7, ⟨rfl, .inl ⟨rfl, rfl⟩⟩, rX7, rZ7, hb7, by omega⟩ ?round ?done ?stop
  case ownI => exact fun k => OwnW.ex fun v => OwnW.ex fun n => (boxed_ownW _ _ _ _).and (own_ownW.and ((boxed_ownW _ _ _ _).and (block_ownW.and (below_own (by omega)))))
  case ownX => exact fun c k => OwnW.const _
  case abI => exact fun k A B ⟨v, n, h1, h2, h3, h3b, h4⟩ hb => ⟨v, n, blk_below h1 hb, own_below h2 hb, blk_below h3 hb, blk_below h3b hb, h4.1.trans (hb.mono h4.2), Nat.le_trans h4.2 hb.size⟩
  case abX => exact fun c k A B h hb => h
  case round =>
    rintro lo k t e W hx _ _
    clear rC rF7 rX7 rZ7 hL7 hb7 s7 hs4 hlow hRl
    gi_wp2
    refine ⟨trivial, ?_⟩
    rintro W1 ⟨v, n, hv, hown, hxr, hzr, hbl⟩ hG hsz
    have hrg := exL_range Hok.out (List.mem_of_getElem? hx)
    have hor := Hok.out
    have hlen : n ≤ 1000000000 := by
      have q1 := hown.1
      rw [ivI_length] at q1
      have q2 := outRaw_len o lr g x ((exL g lr).take k)
      have q3 : ((exL g lr).take k).length ≤ (exL g lr).length := by rw [List.length_take]; exact Nat.min_le_right _ _
      have q4 := exL_len g lr
      have q5 := hor.2.2.1
      omega
    have hLw := hG.1.2.2.2
    have hRw : RdZ W1 A lr cr g := by have q := hbl.1; rw [← Hb0.out] at q; exact HR.out.go q
    have hxs := Hx.out
    unfold secOk at hxs
    have ho1 := hor.1
    have ho2 := hor.2.1
    have HO := zOffset_calls o A lr cr g (x - (o + e)) W1 hRw hLw
    obtain ⟨E, hE⟩ : ∃ E, offE o lr g (x - (o + e)) = E := ⟨_, rfl⟩
    obtain ⟨V, hV⟩ : ∃ V, offV o lr g (x - (o + e)) = V := ⟨_, rfl⟩
    rw [hE, hV] at HO
    unfold zonC at HO
    replace HO := Lib.hid HO
    have cx := hxr.cell
    have c0 := cell_of_row _ b0 0 _ _ _ hzr
    have c1 := cell_of_row _ b0 1 _ _ _ hzr
    have w1 : IntKind.i64.wrap (o + e) = o + e := i64_same _ (by omega)
    have w2 : IntKind.i64.wrap (x - (o + e)) = x - (o + e) := i64_same _ (by omega)
    have x1 := wrap64_in (o + e) (by omega)
    have x2 := wrap64_in (x - (o + e)) (by omega)
    have HG := Lib.hid hG
    have HV := Lib.hid (And.intro hv (And.intro hown (And.intro hxr (And.intro hzr hbl))))
    have Hx2 := Lib.hid hx
    have Hsz := Lib.hid hsz
    have Hlen := Lib.hid hlen
    have HEV := Lib.hid (And.intro hE hV)
    clear hrg hor hxs ho1 ho2 hG hv hown hxr hzr hbl hx hsz hLw hRw hlen hE hV
    gi_wp2
    refine (callsIn_wide.2 HO.out).mono ?_
    rintro e2 w2' ⟨rfl, hb2⟩
    clear cx c0 c1
    have hz2 := blk_below HV.out.2.2.2.1 hb2
    have c0 := cell_of_row _ b0 0 _ _ _ hz2
    by_cases hE0 : E = 0
    · have k1 : (E == 0) = true := beq_iff_eq.2 hE0
      by_cases hVo : V = o + e
      · have k2 : (V == o + e) = true := beq_iff_eq.2 hVo
        have hi : outB o lr g x e = true := by unfold outB; rw [decide_eq_true_eq, HEV.out.1, HEV.out.2]; exact ⟨hE0, hVo⟩
        have hv3 : Boxed w2' (s4 + 1) 52 v := blk_below HV.out.1 hb2
        obtain ⟨v', W5, hrun, hr, gr⟩ := append_one64 w2' (s4 + 3) (own_below HV.out.2.1 hb2) (x - (o + e)) Hlen.out (by have := HS7.out; have := Hsz.out; have := hb2.size; omega)
        have hsB : s4 + 3 ≤ W1.heap.size := by have := HS7.out; have := Hsz.out; omega
        obtain ⟨g', c', rfl, -⟩ := (own_holds64 hr (Nat.succ_pos _)).2
        have hB5 : Below (s4 + 3) W1 W5 := ((hb2.mono hsB).alloc (Nat.le_trans hsB hb2.size) _).grown gr (Nat.le_trans (Nat.le_trans hsB hb2.size) (by simp)) (fun j e => (own_block64 HV.out.2.1 e).1)
        have hv5 : Boxed W5 (s4 + 1) 52 v := (hB5.block (s4 + 1) (by omega)).trans HV.out.1
        have HXX := Lib.hid (in_round b0 (s4 + 3) s4 (s4 + 1) (s4 + 2) w o A lr cr g x k t e Hx2.out hi W1 w2' W5 v _ n (by omega) (by omega) (by omega) (by have := Hs4.out; omega) (by omega) (by omega) (by have := Hs4.out; omega) (by have := Hs4.out; omega) (by have := Hlow.out; have := Hs4.out; omega) hsB HV.out.1 HV.out.2.1 HV.out.2.2.1 HV.out.2.2.2.1 HV.out.2.2.2.2.1 HG.out hb2 hr gr)
        have cv3 := hv3.cell
        have cv5 := hv5.cell
        have fv5 := hv5.frozen
        have e3 : (w2'.alloc (.cells #[.int .i64 (x - (o + e))] 2)).cell? ⟨s4 + 1, 0, none⟩ = some v := (blk_below hv3 (bstep _ (.cells #[.int .i64 (x - (o + e))] 2)) |> fun h => (show Boxed _ (s4 + 1) 52 v from h).cell)
        clear hE0 hVo hi hv3 hr gr hsB hB5 hv5 hb2 hz2
        gi_wp2_with (gi_at_builtin; refine wpListIn_append_run hrun rfl rfl rfl rfl rfl ?_; clear hrun)
        exact HXX.out
      · have k2 : (V == o + e) = false := beq_eq_false_iff_ne.2 hVo
        have hi : outB o lr g x e = false := by unfold outB; rw [decide_eq_false_iff_not, HEV.out.1, HEV.out.2]; exact fun q => hVo q.2
        have HXX := Lib.hid (in_skip b0 (s4 + 3) s4 (s4 + 1) (s4 + 2) w o A lr cr g x k t e Hx2.out hi W1 w2' ⟨v, n, HV.out.1, HV.out.2.1, HV.out.2.2.1, HV.out.2.2.2.1, HV.out.2.2.2.2⟩ HG.out hb2)
        clear hE0 hVo hi hb2 hz2
        gi_wp2
        exact HXX.out
    · have k1 : (E == 0) = false := beq_eq_false_iff_ne.2 hE0
      have hi : outB o lr g x e = false := by unfold outB; rw [decide_eq_false_iff_not, HEV.out.1]; exact fun q => hE0 q.1
      have HXX := Lib.hid (in_skip b0 (s4 + 3) s4 (s4 + 1) (s4 + 2) w o A lr cr g x k t e Hx2.out hi W1 w2' ⟨v, n, HV.out.1, HV.out.2.1, HV.out.2.2.1, HV.out.2.2.2.1, HV.out.2.2.2.2⟩ HG.out hb2)
      clear hE0 hi hb2 hz2
      gi_wp2
      exact HXX.out
  case done =>
    rintro D W hD ⟨v, n, hv, hown, hxr, hzr, hbl⟩ _ hK
    rw [List.take_length] at hown
    have hinst : (outRaw o lr g x (exL g lr)).mergeSort (fun x y => decide (x ≤ y)) = instL o lr g x := rfl
    obtain ⟨R, hRe⟩ : ∃ R, outRaw o lr g x (exL g lr) = R := ⟨_, rfl⟩
    have hRlen : R.length ≤ 1000 := by
      rw [← hRe]
      have q2 := outRaw_len o lr g x (exL g lr)
      have q4 := exL_len g lr
      have q5 := Hok.out.2.2.1
      omega
    rw [hRe] at hown hinst
    obtain ⟨S, hS⟩ : ∃ S, instL o lr g x = S := ⟨_, rfl⟩
    rw [hS] at hinst
    have HSe := Lib.hid hS
    have hlen : n = R.length := by have q1 := hown.1; rw [ivI_length] at q1; omega
    have hSl : S.length = R.length := by rw [← hinst]; exact List.length_mergeSort _
    have cv := hv.cell
    clear hRe rC rF7 rX7 rZ7 hL7 hb7 s7 hs4 hlow hRl
    rcases Nat.eq_zero_or_pos n with h0 | h0
    · subst h0
      have hnil : S = [] := List.length_eq_zero_iff.1 (by omega)
      have HL0 := Lib.hid hnil
      have HBl := Lib.hid hbl
      obtain ⟨p, c, rfl⟩ : ∃ p c, v = .slice p 0 c := by
        rcases hown.2 with ⟨rfl, _⟩ | ⟨g, cap, cur, rfl, _⟩
        · exact ⟨_, _, rfl⟩
        · exact ⟨_, _, rfl⟩
      have HS := Lib.hid (Tryd.slices_Sort_int64_none p c W)
      clear hnil hinst hS hSl hown hlen hRlen hbl hxr hzr
      gi_wp2
      refine (callsIn_wide.2 HS.out).mono ?_
      rintro e w7 ⟨rfl, e7⟩
      rw [e7]
      clear e7 w7
      gi_wp2
      refine ⟨by simp, .inl ⟨_, _, rfl, run_takeDeferred hK, ?_⟩⟩
      refine ⟨_, results_tmp2 rfl _ _ _, ?_, ?_⟩
      · rw [HSe.out]; exact ⟨_, _, by rw [HL0.out]; rfl, by rw [HL0.out]; exact .inl rfl⟩
      first | exact HBl.out.1.putObj (by have := Hs4.out; have := HS7.out; omega) HBl.out.2 _ | (rw [Hb0.out]; exact HBl.out.1.putObj (by have := Hs4.out; have := HS7.out; omega) HBl.out.2 _)
    · obtain ⟨-, gb, c, rfl, hg, hnc, ⟨cur, hgc⟩, hH⟩ := own_holds64 hown h0
      have hgl := (Array.getElem?_eq_some_iff.1 hgc).1
      have HS := Tryd.slices_Sort_int64 gb 0 c R W hH hgl (by omega)
      rw [hinst, ← hlen] at HS
      replace HS := Lib.hid HS
      have HBl := Lib.hid hbl
      have HH := Lib.hid (And.intro hH (And.intro hgl (And.intro hSl (And.intro hg hgc))))
      have Hlen := Lib.hid (And.intro hlen (And.intro hnc h0))
      have HV := Lib.hid (And.intro hv hK)
      clear hS hSl hinst hown hlen hRlen hbl hxr hzr hH hgl hgc hg hnc h0 hK hv
      gi_wp2
      refine (callsIn_wide.2 HS.out).mono ?_
      rintro e w7 ⟨rfl, n7, os, e7⟩
      obtain ⟨hT7, hH7⟩ := sorted_holds HH.out.1 HH.out.2.1 HH.out.2.2.1 e7
      have hgl7 : gb < w7.heap.size := Nat.lt_of_lt_of_le HH.out.2.1 hT7.size
      have hv7 : Boxed w7 (s4 + 1) 52 _ := (hT7.other (Array.getElem?_eq_some_iff.1 HV.out.1).1 (by have := HH.out.2.2.2.1; omega)).trans HV.out.1
      have hDl : D < W.heap.size := (Array.getElem?_eq_some_iff.1 HV.out.2).1
      have hDg : D ≠ gb := fun e => by have h1 := HV.out.2; rw [e, HH.out.2.2.2.2] at h1; cases h1
      have hK7 := (hT7.other hDl hDg).trans HV.out.2
      have hR7 := holds_rd hH7 hgl7
      have cv7 := hv7.cell
      have hB7 : Below b0 w w7 := HBl.out.1.trans (hT7.below (by have := HH.out.2.2.2.1; have := Hs4.out; omega) HBl.out.2)
      have hs7 : b0 ≤ w7.heap.size := Nat.le_trans HBl.out.2 hT7.size
      have H7 := Lib.hid (And.intro hR7 (And.intro hK7 (And.intro hB7 hs7)))
      clear e7 hT7 hH7 hgl7 hv7 hDl hDg hK7 hR7 hB7 hs7
      gi_wp2
      refine ⟨by simp, .inl ⟨_, _, rfl, run_takeDeferred H7.out.2.1, ?_⟩⟩
      refine ⟨_, results_tmp2 rfl _ _ _, ?_, ?_⟩
      · rw [HSe.out]
        refine ⟨some ⟨gb, 0, none⟩, c, by rw [show S.length = n by rw [HH.out.2.2.1, ← Hlen.out.1]]; rfl, ?_⟩
        have h := (Rd.own 0 w7.heap.size (some ⟨gb, 0, none⟩) S.length (fun i => .int .i64 (S.getD i 0)))
        refine Rd.more (h _ _ (some D) H7.out.1 (grownBy_putObj' w7 D _) (fun r e => ?_)) (by simp)
        injection e with e
        subst e
        exact ⟨Nat.zero_le _, _, H7.out.2.1, rfl⟩
      · first | exact H7.out.2.2.1.putObj (by have := Hs4.out; have := HS7.out; omega) H7.out.2.2.2 _ | (rw [Hb0.out]; exact H7.out.2.2.1.putObj (by have := Hs4.out; have := HS7.out; omega) H7.out.2.2.2 _)
  case stop =>
    rintro D c k W _ _ h _ _
    exact h.elim
end Go.Proofs.YtoipmhmghcngcaaDoor
