/-
  The document's instants of a local time: kilowattref07.Instants, walked. Conditions stand at each theorem.
-/
import Derived.Test.YtoipmhmghcngcaaDoorInsts
namespace Go.Proofs.YtoipmhmghcngcaaDoor
open Go Go.RowKit Go.Kw Go.Kw.Cv Go.Shelf
attribute [local go_sem] Oper.semAt_some
set_option linter.unusedVariables false
set_option linter.unusedSimpArgs false

theorem putS_split (t : Int) : ∀ (L : List Int) (a : Nat), (∀ i y, i < a → L[i]? = some y → y < t) → (∀ y, L[a]? = some y → t < y) → putS t L = L.take a ++ t :: L.drop a
  | [], a, _, _ => by simp [putS]
  | b :: L, 0, _, h => by
    have := h b rfl
    unfold putS
    rw [if_neg (by omega), if_neg (by omega)]; rfl
  | b :: L, a + 1, h1, h2 => by
    have := h1 0 b (by omega) rfl
    unfold putS
    rw [if_pos this, putS_split t L a (fun i y hi hy => h1 (i + 1) y (by omega) hy) (fun y hy => h2 y hy)]; rfl
theorem putS_found (t : Int) : ∀ (L : List Int) (a : Nat), (∀ i y, i < a → L[i]? = some y → y < t) → L[a]? = some t → putS t L = L
  | [], a, _, h => by simp at h
  | b :: L, 0, _, h => by
    have e : b = t := by injection h
    unfold putS
    rw [if_neg (by omega), if_pos e]
  | b :: L, a + 1, h1, h2 => by
    have := h1 0 b (by omega) rfl
    unfold putS
    rw [if_pos this, putS_found t L a (fun i y hi hy => h1 (i + 1) y (by omega) hy) h2]
theorem low_step {L : List Int} {a : Nat} {y t : Int} (h : (∀ j z, j < a → L[j]? = some z → z < t) ∧ L[a]? = some y ∧ y < t) : ∀ j z, j < a + 1 → L[j]? = some z → z < t := fun j z hj hz => by
  by_cases e : j = a
  · subst e; rw [h.2.1] at hz; injection hz with hz; rw [← hz]; exact h.2.2
  · exact h.1 j z (by omega) hz
theorem putS_len (t : Int) : ∀ (L : List Int), (putS t L).length ≤ L.length + 1
  | [] => by simp [putS]
  | b :: L => by
    have := putS_len t L
    unfold putS
    split
    · simp; omega
    · split <;> simp
theorem refL_hit {o : Int} {lr : Nat} {g : Nat → Nat → Int} {x : Int} {k : Nat} (hk : k ≤ lr) (h : outB o lr g x (exAt g k) = true) : refL o lr g x (lr + 1 - k) = putS (x - (o + exAt g k)) (refL o lr g x (lr + 1 - (k + 1))) := by
  rw [show lr + 1 - k = (lr + 1 - (k + 1)) + 1 by omega, refL, show lr - (lr + 1 - (k + 1)) = k by omega, if_pos h]
theorem refL_miss {o : Int} {lr : Nat} {g : Nat → Nat → Int} {x : Int} {k : Nat} (hk : k ≤ lr) (h : outB o lr g x (exAt g k) = false) : refL o lr g x (lr + 1 - k) = refL o lr g x (lr + 1 - (k + 1)) := by
  rw [show lr + 1 - k = (lr + 1 - (k + 1)) + 1 by omega, refL, show lr - (lr + 1 - (k + 1)) = k by omega, if_neg (by rw [h]; decide)]
theorem refL_len (o : Int) (lr : Nat) (g : Nat → Nat → Int) (x : Int) : ∀ j, (refL o lr g x j).length ≤ j
  | 0 => by simp [refL]
  | j + 1 => by
    have := refL_len o lr g x j
    unfold refL
    split
    · have := putS_len (x - (o + exAt g (lr - j))) (refL o lr g x j); omega
    · omega
/-- A row of the call's own, as it is read. -/
theorem own_len64 {w : World} {base : Nat} {v : Value} {n : Nat} {l : List Int} (h : w.ownsRow base 2 1 v n (ivI l)) : n = l.length ∧ ((v = .slice none 0 0 ∧ n = 0) ∨ ∃ gb c, v = .slice (some ⟨gb, 0, none⟩) n c ∧ base ≤ gb ∧ gb < w.heap.size ∧ n ≤ c ∧ c ≤ 9223372036854775807 ∧ ∀ i, i < n → w.cell? ⟨gb, i, none⟩ = some (.int .i64 (l.getD i 0))) := by
  have hl : n = l.length := by have := h.1; rw [ivI_length] at this; omega
  refine ⟨hl, ?_⟩
  rcases h.2 with ⟨rfl, h0⟩ | ⟨g, cap, cur, rfl, hb, hg, hnc, hcm, hcs, htk⟩
  · exact .inl ⟨rfl, h0⟩
  · refine .inr ⟨g, cap, rfl, hb, (Array.getElem?_eq_some_iff.1 hg).1, hnc, by unfold maxLen at hcm; omega, fun j hj => ?_⟩
    have hj' : j < l.length := by omega
    have := h.cells (g := g) rfl j (.int .i64 (l.getD j 0)) (by unfold ivI; rw [List.getElem?_map, List.getElem?_eq_getElem hj']; simp [hj'])
    rw [Go.WideShapes.add_plain, Nat.zero_add] at this
    exact this
theorem vals_64 (l : List Int) (a m : Nat) (h : a + m ≤ l.length) : vals (m * 1) (fun i => .int .i64 (l.getD (a + i) 0)) = ivI ((l.drop a).take m) := by
  apply List.ext_getElem?
  intro j
  rcases Nat.lt_or_ge j m with hj | hj
  · unfold vals ivI
    rw [Nat.mul_one, List.getElem?_map, List.getElem?_range hj, List.getElem?_map, List.getElem?_take_of_lt hj, List.getElem?_drop, List.getElem?_eq_getElem (by omega)]
    have h1 : a + j < l.length := by omega
    simp [h1]
  · rw [List.getElem?_eq_none (by rw [vals_length]; omega), List.getElem?_eq_none (by rw [ivI_length, List.length_take]; omega)]
/-- append of a stretch of a row of numbers. -/
theorem append_row64 (w : World) (base : Nat) {v : Value} {n : Nat} {l : List Int} (h : w.ownsRow base 2 1 v n (ivI l)) (A : Option Addr) (a m c : Nat) (r : List Int) {B : Nat} (hr : Rd w B A (m * 1) (fun i => .int .i64 (r.getD (a + i) 0))) (hm : a + m ≤ r.length) (h63 : n + m ≤ 1000000000) (hbase : base ≤ w.heap.size) (hnil : A = none → m = 0) :
    ∃ v' w', (Builtin.append_ #[52, 52] 52 #[v, .slice A m c]).run Tryd.prog w = .ok v' w' ∧ w'.ownsRow base 2 1 v' (n + m) (ivI (l ++ (r.drop a).take m)) ∧ w.grownBy w' v.ownBlock := by
  obtain ⟨v', w', hrun, o, gr, i, b⟩ := run_append (P := Tryd.prog) w base 52 eInt64 h m c (f := fun i => .int .i64 (r.getD (a + i) 0)) hr (fun i _ => rfl) (by unfold maxLen; omega) (by omega) hbase hnil
  rw [vals_64 r a m hm, ← ivI_append] at o
  exact ⟨v', w', hrun, o, gr⟩
/-- The three appends by which a number is put at its place. -/
theorem put64 (w : World) (base : Nat) {v : Value} {n : Nat} {l : List Int} (hl : w.ownsRow base 2 1 v n (ivI l)) (t : Int) (A : Option Addr) (a c1 c2 : Nat) (A2 : Option Addr) (ha : a ≤ n) (hn : n ≤ 100000) (hbase : base ≤ w.heap.size)
    (h1 : Rd w w.heap.size A (a * 1) (fun i => .int .i64 (l.getD i 0))) (h1n : A = none → a = 0) (h2 : Rd w w.heap.size A2 ((n - a) * 1) (fun i => .int .i64 (l.getD (a + i) 0))) (h2n : A2 = none → n - a = 0) :
    ∃ v3 w3 v4 w4 v5 w5, (Builtin.append_ #[52, 52] 52 #[.slice none 0 0, .slice A a c1]).run Tryd.prog w = .ok v3 w3 ∧
      (Builtin.append_ #[52, 52] 52 #[v3, .slice (some ⟨w3.heap.size, 0, none⟩) 1 1]).run Tryd.prog (w3.alloc (.cells #[.int .i64 t] 2)) = .ok v4 w4 ∧
      (Builtin.append_ #[52, 52] 52 #[v4, .slice A2 (n - a) c2]).run Tryd.prog w4 = .ok v5 w5 ∧
      w5.ownsRow base 2 1 v5 (n + 1) (ivI (l.take a ++ t :: l.drop a)) ∧ Below w.heap.size w w5 := by
  have hlen : n = l.length := by have := hl.1; rw [ivI_length] at this; omega
  have e0 : w.ownsRow w.heap.size 2 1 (.slice none 0 0) 0 (ivI []) := ⟨rfl, .inl ⟨rfl, rfl⟩⟩
  obtain ⟨v3, w3, r3, o3, g3⟩ := append_row64 w w.heap.size e0 A 0 a c1 l (by simp only [Nat.zero_add]; exact h1) (by omega) (by omega) (Nat.le_refl _) h1n
  have b3 := below_append e0 (Nat.le_refl _) g3
  have s3 := b3.size
  obtain ⟨v4, w4, r4, o4, g4⟩ := append_one64 w3 w.heap.size o3 t (by omega) s3
  have o3a := o3.alloc (.cells #[.int .i64 t] 2)
  have b4 : Below w.heap.size w w4 := (b3.alloc s3 _).trans (below_append o3a (by simp; omega) g4)
  have s4 := b4.size
  obtain ⟨v5, w5, r5, o5, g5⟩ := append_row64 w4 w.heap.size o4 A2 a (n - a) c2 l (h2.below b4) (by omega) (by omega) s4 h2n
  have b5 := b4.trans (below_append o4 s4 g5)
  refine ⟨v3, w3, v4, w4, v5, w5, r3, r4, r5, ?_, b5⟩
  rw [List.drop_zero, List.nil_append, show List.take (n - a) (l.drop a) = l.drop a from List.take_of_length_le (by rw [List.length_drop]; omega), List.append_assoc] at o5
  rw [show 0 + a + 1 + (n - a) = n + 1 by omega] at o5
  exact own_mono o5 hbase
/-- What the document's Instants answers. -/
def RefInE (L : List Int) (e : Ending) (w' : World) : Prop := ∃ A c, e = .returned (.slice A L.length c) ∧ RdN w' w'.heap.size A L
theorem meas_p (p : Nat) : ((intOf (Value.int .i64 (p : Int))) + 1).toNat < ((intOf (Value.int .i64 ((p : Int) + 1))) + 1).toNat := by
  show ((p : Int) + 1).toNat < ((p : Int) + 1 + 1).toNat
  omega
theorem meas_i (k : Nat) : ((intOf (Value.int .i64 ((k : Int) - 1))) + 1).toNat < ((intOf (Value.int .i64 (k : Int))) + 1).toNat := by
  show ((k : Int) - 1 + 1).toNat < ((k : Int) + 1).toNat
  omega
set_option maxRecDepth 100000 in
set_option maxHeartbeats 16000000 in
theorem refInsts_calls (o : Int) (A : Option Addr) (lr cr : Nat) (g : Nat → Nat → Int) (x : Int) (hok : zonOk o lr g) (hx : secOk x) (w : World) (hR : RdZ w A lr cr g) :
    Calls Tryd.prog 24 #[zonC o A lr cr, .int .i64 x] w fun e w' => RefInE (instL o lr g x) e w' ∧ Below w.heap.size w w' := by
  obtain ⟨b0, hb0⟩ : ∃ b0, w.heap.size = b0 := ⟨_, rfl⟩
  have Hb0 := Lib.hid hb0
  obtain ⟨W1, hW1⟩ : ∃ W1, w.alloc (.cells #[.int .i64 o, .slice A lr cr] 24) = W1 := ⟨_, rfl⟩
  have hst : Below w.heap.size w W1 := hW1 ▸ bstep w _
  have hr1 : W1.heap[b0]? = some (.cells #[.int .i64 o, .slice A lr cr] 24 (0, 0)) := by rw [← hb0, ← hW1]; exact World.alloc_heap_new w _
  have hs1 : W1.heap.size = b0 + 1 := by rw [← hW1, ← hb0]; simp
  have e1 := cell_of_row W1 b0 1 _ _ _ hr1
  have HR := Lib.hid (hR.go hst)
  have hmx : maxLen = 9223372036854775807 := rfl
  have Hok := Lib.hid hok
  have Hx := Lib.hid hx
  have Hst := Lib.hid (And.intro hst (And.intro hs1 hr1))
  unfold zonC
  clear hR hmx hst hr1 hok hx hs1
  go_enter Tryd.func24, Tryd.ntmps24
  go_wp2_with fail
  clear e1
  go_loopw [5, 6] (fun v i wr => ∃ (q n : Nat), q ≤ lr + 1 ∧ i = .int .i64 ((q : Int) - 1) ∧ wr.ownsRow (b0 + 1) 2 1 v n (ivI (refL o lr g x (lr + 1 - q))) ∧ Below (b0 + 1) W1 wr) (fun _ i _ => ((intOf i) + 1).toNat)
  case atStart => exact ⟨lr + 1, 0, Nat.le_refl _, by rw [show ((lr + 1 : Nat) : Int) - 1 = lr by omega], by rw [Nat.sub_self]; exact ⟨rfl, .inl ⟨rfl, rfl⟩⟩, Below.refl _ _⟩
  case round =>
    obtain ⟨q, n, hq, rfl, hown, hbl⟩ := hrel
    have hzr := (hbl.block b0 (by omega)).trans Hst.out.2.2
    have hsz : b0 + 1 ≤ wr.heap.size := by have := hbl.size; have := Hst.out.2.1; omega
    have hRw : RdZ wr A lr cr g := HR.out.go (by rw [Hst.out.2.1]; exact hbl)
    rcases q with _ | k
    · have hI : decide ((-1 : Int) ≥ 0) = false := by decide
      have HL : Hid (refL o lr g x (lr + 1) = instL o lr g x) := ref_is o lr g x
      rw [Nat.sub_zero, HL.out] at hown
      obtain ⟨hlen, hv⟩ := own_len64 hown
      have HBl := Lib.hid ((Hst.out.1).trans (hbl.mono (by rw [Hb0.out]; omega)))
      have Hlen := Lib.hid hlen
      rw [show ((0 : Nat) : Int) - 1 = -1 by rfl]
      rcases hv with ⟨rfl, h0⟩ | ⟨gb, c, rfl, hg1, hg2, hg3, hg4, hg5⟩
      · have H0 := Lib.hid h0
        clear hown hbl hzr hsz hRw hlen h0 hq
        go_wp2_with fail
        go_ret
        exact ⟨⟨none, 0, by rw [← Hlen.out, H0.out]; rfl, .inl (by rw [← Hlen.out, H0.out])⟩, HBl.out⟩
      · have HRd : Hid (RdN wr wr.heap.size (some ⟨gb, 0, none⟩) (instL o lr g x)) := .inr ⟨gb, 0, rfl, hg2, fun i hi => by rw [Nat.zero_add]; exact hg5 i (by omega)⟩
        clear hown hbl hzr hsz hRw hlen hq hg1 hg2 hg3 hg4 hg5
        go_wp2_with fail
        go_ret
        exact ⟨⟨some ⟨gb, 0, none⟩, c, by rw [← Hlen.out]; rfl, HRd.out⟩, HBl.out⟩
    · have c0 := cell_of_row wr b0 0 _ _ _ hzr
      have c1 := cell_of_row wr b0 1 _ _ _ hzr
      have Hk := Lib.hid (show k ≤ lr by omega)
      have hxs := Hx.out
      unfold secOk at hxs
      have ho1 := Hok.out.1
      have ho2 := Hok.out.2.1
      have hlr := Hok.out.2.2.1
      obtain ⟨L, hL⟩ : ∃ L, refL o lr g x (lr + 1 - (k + 1)) = L := ⟨_, rfl⟩
      have hn20 : L.length ≤ 21 := by rw [← hL]; have := refL_len o lr g x (lr + 1 - (k + 1)); omega
      rw [hL] at hown
      obtain ⟨hlen, hv⟩ := own_len64 hown
      have HL := Lib.hid hL
      have HBl0 := Lib.hid (And.intro hbl hsz)
      have Hn := Lib.hid (show n ≤ 21 by omega)
      clear hL hn20 hq
      rcases k with _ | p
      · have hNV : o = o + exAt g 0 := by show o = o + 0; omega
        have w3 : IntKind.i64.wrap (0 - 1) = -1 := by decide
        have hi0 : ((0 + 1 : Nat) : Int) - 1 = 0 := by omega
        rw [hi0]
        have w2 : IntKind.i64.wrap (x - o) = x - o := i64_same _ (by omega)
        have x2 := wrap64_in (x - o) (by omega)
        have HO := refOffset_calls o A lr cr g (x - o) wr hRw
        obtain ⟨E, hE⟩ : ∃ E, offE o lr g (x - o) = E := ⟨_, rfl⟩
        obtain ⟨V, hV⟩ : ∃ V, offV o lr g (x - o) = V := ⟨_, rfl⟩
        rw [hE, hV] at HO
        unfold zonC at HO
        replace HO := Lib.hid HO
        have HEV := Lib.hid (And.intro hE (And.intro hV hNV))
        have Hown := Lib.hid hown
        have Hlen := Lib.hid hlen
        have Hv := Lib.hid hv
        clear hE hV hNV hown hlen hv hRw hxs ho1 ho2 hlr hzr hbl hsz
        go_wp2_with fail
        refine HO.out.mono ?_
        rintro e w2' ⟨rfl, hb2⟩
        clear c0 c1
        obtain ⟨wo, rfl⟩ : ∃ wo : World, wo = w2' := ⟨_, rfl⟩
        have HBl := Lib.hid (HBl0.out.1.trans (hb2.mono HBl0.out.2))
        have Hsz : Hid (b0 + 1 ≤ wo.heap.size) := Nat.le_trans HBl0.out.2 hb2.size
        have Hown2 := Lib.hid (own_below Hown.out hb2)
        by_cases hE0 : E = 0
        · have k1 : (E != 0) = false := by simp [hE0]
          by_cases hVo : V = o
          · have k2 : (V != o) = false := by simp [hVo]
            have Hi : Hid (outB o lr g x (exAt g 0) = true) := by show _ = _; unfold outB; rw [decide_eq_true_eq, ← HEV.out.2.2, HEV.out.1, HEV.out.2.1]; exact ⟨hE0, hVo⟩
            have Ht : Hid (x - o = x - (o + exAt g 0)) := by show _ = _; rw [← HEV.out.2.2]
            clear hE0 hVo hb2
            obtain ⟨t, ht⟩ : ∃ t, x - o = t := ⟨_, rfl⟩
            rw [ht] at Ht
            obtain ⟨hlen2, hv2⟩ := own_len64 Hown2.out
            rcases hv2 with ⟨rfl, h0⟩ | ⟨gb, c, rfl, hg1, hg2, hg3, hg4, hg5⟩

            · subst h0
              have hLn : L = [] := List.length_eq_zero_iff.1 hlen2.symm
              obtain ⟨v3, w3', v4, w4, v5, w5, r3, r4, r5, o5, b5⟩ := put64 wo (b0 + 1) Hown2.out t none 0 0 0 none (Nat.le_refl _) (by omega) Hsz.out (.inl rfl) (fun _ => rfl) (.inl rfl) (fun _ => rfl)
              have O5 := Lib.hid o5
              have B5 := Lib.hid (HBl.out.trans (b5.mono Hsz.out))
              have HLn := Lib.hid hLn
              clear o5 b5 hLn hlen2
              go_wp2_with fail
              try rw [ht]
              go_loopw [11] (fun i w9 => i = .int .i64 0 ∧ w9 = wo) (fun _ _ => 0)
              case atStart => exact ⟨rfl, rfl⟩
              case round =>
                obtain ⟨rfl, rfl⟩ := hrel
                go_wp2_with (first | (at_builtin; refine wpList_append_run r3 rfl rfl rfl rfl rfl ?_; clear r3) | (at_builtin; refine wpList_append_run r4 rfl rfl rfl rfl rfl ?_; clear r4) | (at_builtin; refine wpList_append_run r5 rfl rfl rfl rfl rfl ?_; clear r5))
                exact ⟨⟨0, _, Nat.le_succ_of_le Hk.out, rfl, by rw [refL_hit (k := 0) Hk.out Hi.out, HL.out, ← Ht.out, putS_split t L 0 (fun i y hi => absurd hi (Nat.not_lt_zero _)) (fun y hy => by rw [HLn.out] at hy; cases hy)]; exact O5.out, B5.out⟩, (by decide)⟩
            · have Hg := Lib.hid (And.intro hg2 hg5)
              have Hlen2 := Lib.hid hlen2
              have hgI : (n : Int) ≤ (c : Int) := by omega
              clear hg1 hg2 hg5 hlen2
              go_wp2_with fail
              try rw [ht]
              go_loopw [11] (fun i w9 => ∃ a : Nat, a ≤ n ∧ i = .int .i64 a ∧ (∀ j y, j < a → L[j]? = some y → y < t) ∧ w9 = wo) (fun i _ => n - (intOf i).toNat)
              case atStart => exact ⟨0, Nat.zero_le _, rfl, fun j y hj => absurd hj (Nat.not_lt_zero _), rfl⟩
              case round =>
                obtain ⟨a, ha, rfl, hlow, rfl⟩ := hrel
                have ha0 : (0 : Int) ≤ (a : Int) := by omega
                by_cases hlt : a < n
                · have haI : (a : Int) < (n : Int) := by omega
                  have hya : L[a]? = some (L.getD a 0) := by rw [List.getElem?_eq_getElem (by have := Hlen2.out; omega)]; simp [show a < L.length by have := Hlen2.out; omega]
                  have ca := Hg.out.2 a hlt
                  obtain ⟨y, hy⟩ : ∃ y, L.getD a 0 = y := ⟨_, rfl⟩
                  rw [hy] at hya ca
                  by_cases hyt : y < t
                  · have kt : decide (y < t) = true := decide_eq_true hyt
                    have wa : IntKind.i64.wrap ((a : Int) + 1) = (a : Int) + 1 := i64_same _ (by have := Hn.out; omega)
                    have xa := wrap64_in ((a : Int) + 1) (by have := Hn.out; omega)
                    have Hla := Lib.hid (And.intro hlow (And.intro hya hyt))
                    have Hlt := Lib.hid hlt
                    clear hlow hya hyt hlt hy
                    go_wp2_with fail
                    exact ⟨⟨a + 1, Hlt.out, by push_cast; rfl, low_step Hla.out, by first | rfl | trivial⟩, meas_z n a Hlt.out⟩
                  · have kt : decide (y < t) = false := decide_eq_false hyt
                    by_cases hyt2 : y = t
                    · have kt2 : (y == t) = true := beq_iff_eq.2 hyt2
                      have HF : Hid (putS t L = L) := putS_found t L a hlow (by rw [hya, hyt2])
                      clear hlow hya hyt hyt2 hlt hy
                      go_wp2_with fail
                      exact ⟨⟨0, _, Nat.le_succ_of_le Hk.out, rfl, by rw [refL_hit (k := 0) Hk.out Hi.out, HL.out, ← Ht.out, HF.out]; exact Hown2.out, HBl.out⟩, (by decide)⟩
                    · have kt2 : (y == t) = false := beq_eq_false_iff_ne.2 hyt2
                      have HF : Hid (putS t L = L.take a ++ t :: L.drop a) := putS_split t L a hlow (fun z hz => by rw [hya] at hz; injection hz with hz; omega)
                      obtain ⟨v3, w3', v4, w4, v5, w5, r3, r4, r5, o5, b5⟩ := put64 _ (b0 + 1) Hown2.out t (some ⟨gb, 0, none⟩) a c (c - a) (some ⟨gb, a, none⟩) ha (by have := Hn.out; omega) Hsz.out (.inr ⟨gb, 0, rfl, Hg.out.1, fun i hi => by rw [Nat.zero_add]; exact Hg.out.2 i (by omega)⟩) (fun h => by cases h) (.inr ⟨gb, a, rfl, Hg.out.1, fun i hi => Hg.out.2 (a + i) (by omega)⟩) (fun h => by cases h)
                      have O5 := Lib.hid o5
                      have B5 := Lib.hid (HBl.out.trans (b5.mono Hsz.out))
                      clear o5 b5 hlow
                      go_wp2_with (first | (at_builtin; refine wpList_append_run r3 rfl rfl rfl rfl rfl ?_; clear r3) | (at_builtin; refine wpList_append_run r4 rfl rfl rfl rfl rfl ?_; clear r4) | (at_builtin; refine wpList_append_run r5 rfl rfl rfl rfl rfl ?_; clear r5))
                      exact ⟨⟨0, _, Nat.le_succ_of_le Hk.out, rfl, by rw [refL_hit (k := 0) Hk.out Hi.out, HL.out, ← Ht.out, HF.out]; exact O5.out, B5.out⟩, (by decide)⟩
                · obtain rfl : a = n := by omega
                  have haI : ¬ ((a : Int) < (a : Int)) := by omega
                  have HF : Hid (putS t L = L.take a ++ t :: L.drop a) := putS_split t L a hlow (fun z hz => by rw [List.getElem?_eq_none (by have := Hlen2.out; omega)] at hz; cases hz)
                  by_cases hcn : c = a
                  · obtain rfl := hcn
                    obtain ⟨v3, w3', v4, w4, v5, w5, r3, r4, r5, o5, b5⟩ := put64 _ (b0 + 1) Hown2.out t (some ⟨gb, 0, none⟩) c c 0 (some ⟨gb, 0, none⟩) ha (by have := Hn.out; omega) Hsz.out (.inr ⟨gb, 0, rfl, Hg.out.1, fun i hi => by rw [Nat.zero_add]; exact Hg.out.2 i (by omega)⟩) (fun h => by cases h) (.inl (by omega)) (fun h => by cases h)
                    rw [Nat.sub_self] at r5
                    have O5 := Lib.hid o5
                    have B5 := Lib.hid (HBl.out.trans (b5.mono Hsz.out))
                    clear o5 b5 hlow
                    go_wp2_with (first | (at_builtin; refine wpList_append_run r3 rfl rfl rfl rfl rfl ?_; clear r3) | (at_builtin; refine wpList_append_run r4 rfl rfl rfl rfl rfl ?_; clear r4) | (at_builtin; refine wpList_append_run r5 rfl rfl rfl rfl rfl ?_; clear r5))
                    exact ⟨⟨0, _, Nat.le_succ_of_le Hk.out, rfl, by rw [refL_hit (k := 0) Hk.out Hi.out, HL.out, ← Ht.out, HF.out]; exact O5.out, B5.out⟩, (by decide)⟩
                  · obtain ⟨v3, w3', v4, w4, v5, w5, r3, r4, r5, o5, b5⟩ := put64 _ (b0 + 1) Hown2.out t (some ⟨gb, 0, none⟩) a c (c - a) (some ⟨gb, a, none⟩) ha (by have := Hn.out; omega) Hsz.out (.inr ⟨gb, 0, rfl, Hg.out.1, fun i hi => by rw [Nat.zero_add]; exact Hg.out.2 i (by omega)⟩) (fun h => by cases h) (.inr ⟨gb, a, rfl, Hg.out.1, fun i hi => Hg.out.2 (a + i) (by omega)⟩) (fun h => by cases h)
                    rw [Nat.sub_self] at r5
                    have O5 := Lib.hid o5
                    have B5 := Lib.hid (HBl.out.trans (b5.mono Hsz.out))
                    clear o5 b5 hlow
                    go_wp2_with (first | (at_builtin; refine wpList_append_run r3 rfl rfl rfl rfl rfl ?_; clear r3) | (at_builtin; refine wpList_append_run r4 rfl rfl rfl rfl rfl ?_; clear r4) | (at_builtin; refine wpList_append_run r5 rfl rfl rfl rfl rfl ?_; clear r5))
                    exact ⟨⟨0, _, Nat.le_succ_of_le Hk.out, rfl, by rw [refL_hit (k := 0) Hk.out Hi.out, HL.out, ← Ht.out, HF.out]; exact O5.out, B5.out⟩, (by decide)⟩
          · have k2 : (V != o) = true := by simp [hVo]
            have Hi : Hid (outB o lr g x (exAt g 0) = false) := by show _ = _; unfold outB; rw [decide_eq_false_iff_not, ← HEV.out.2.2, HEV.out.1, HEV.out.2.1]; exact fun q => hVo q.2
            clear hE0 hVo hb2
            go_wp2_with fail
            exact ⟨⟨0, _, Nat.le_succ_of_le Hk.out, rfl, by rw [refL_miss (k := 0) Hk.out (Hi.out), HL.out]; exact Hown2.out, HBl.out⟩, (by decide)⟩
        · have k1 : (E != 0) = true := by simp [hE0]
          have Hi : Hid (outB o lr g x (exAt g 0) = false) := by show _ = _; unfold outB; rw [decide_eq_false_iff_not, ← HEV.out.2.2, HEV.out.1]; exact fun q => hE0 q.1
          clear hE0 hb2
          go_wp2_with fail
          exact ⟨⟨0, _, Nat.le_succ_of_le Hk.out, rfl, by rw [refL_miss (k := 0) Hk.out (Hi.out), HL.out]; exact Hown2.out, HBl.out⟩, (by decide)⟩
      · have hNV : (o + g p 10) = o + exAt g (p + 1) := by rfl
        have hlt : p < lr := by have := Hk.out; omega
        obtain ⟨sb, off, rfl, hsb, hc⟩ := hRw.at_ (by omega) hlt
        have c10 : wr.cell? ⟨sb, off + p * 11 + 10, none⟩ = some (.int .i64 (g p 10)) := hc 10 (by omega)
        have hrul := Hok.out.2.2.2 p hlt
        unfold rulOk at hrul
        have hi0 : ((p + 1 + 1 : Nat) : Int) - 1 = (p : Int) + 1 := by omega
        rw [hi0]
        have k0 : decide ((p : Int) + 1 > 0) = true := decide_eq_true (by omega)
        have k00 : decide ((p : Int) + 1 ≥ 0) = true := decide_eq_true (by omega)
        have w0 : IntKind.i64.wrap ((p : Int) + 1 - 1) = (p : Int) := by rw [Int.add_sub_cancel]; exact i64_same _ (by omega)
        have hp0 : (0 : Int) ≤ (p : Int) := by omega
        have hp1 : (p : Int) < (lr : Int) := by omega
        have w1 : IntKind.i64.wrap (o + g p 10) = o + g p 10 := i64_same _ (by omega)
        have w2 : IntKind.i64.wrap (x - (o + g p 10)) = x - (o + g p 10) := i64_same _ (by omega)
        have w3 : IntKind.i64.wrap ((p : Int) + 1 - 1) = (p : Int) := w0
        have wp : IntKind.i64.wrap (p : Int) = (p : Int) := i64_same _ (by omega)
        have xp := wrap64_in (p : Int) (by omega)
        have x1 := wrap64_in (o + g p 10) (by omega)
        have x2 := wrap64_in (x - (o + g p 10)) (by omega)
        clear hc hrul hlt
        have HO := refOffset_calls o _ lr cr g (x - (o + g p 10)) wr hRw
        obtain ⟨E, hE⟩ : ∃ E, offE o lr g (x - (o + g p 10)) = E := ⟨_, rfl⟩
        obtain ⟨V, hV⟩ : ∃ V, offV o lr g (x - (o + g p 10)) = V := ⟨_, rfl⟩
        rw [hE, hV] at HO
        unfold zonC at HO
        replace HO := Lib.hid HO
        have HEV := Lib.hid (And.intro hE (And.intro hV hNV))
        have Hown := Lib.hid hown
        have Hlen := Lib.hid hlen
        have Hv := Lib.hid hv
        clear hE hV hNV hown hlen hv hRw hxs ho1 ho2 hlr hzr hbl hsz
        go_wp2_with fail
        refine HO.out.mono ?_
        rintro e w2' ⟨rfl, hb2⟩
        clear c0 c1 c10
        obtain ⟨wo, rfl⟩ : ∃ wo : World, wo = w2' := ⟨_, rfl⟩
        have HBl := Lib.hid (HBl0.out.1.trans (hb2.mono HBl0.out.2))
        have Hsz : Hid (b0 + 1 ≤ wo.heap.size) := Nat.le_trans HBl0.out.2 hb2.size
        have Hown2 := Lib.hid (own_below Hown.out hb2)
        by_cases hE0 : E = 0
        · have k1 : (E != 0) = false := by simp [hE0]
          by_cases hVo : V = (o + g p 10)
          · have k2 : (V != (o + g p 10)) = false := by simp [hVo]
            have Hi : Hid (outB o lr g x (exAt g (p + 1)) = true) := by show _ = _; unfold outB; rw [decide_eq_true_eq, ← HEV.out.2.2, HEV.out.1, HEV.out.2.1]; exact ⟨hE0, hVo⟩
            have Ht : Hid (x - (o + g p 10) = x - (o + exAt g (p + 1))) := by show _ = _; rw [← HEV.out.2.2]
            clear hE0 hVo hb2
            obtain ⟨t, ht⟩ : ∃ t, x - (o + g p 10) = t := ⟨_, rfl⟩
            rw [ht] at Ht
            obtain ⟨hlen2, hv2⟩ := own_len64 Hown2.out
            rcases hv2 with ⟨rfl, h0⟩ | ⟨gb, c, rfl, hg1, hg2, hg3, hg4, hg5⟩

            · subst h0
              have hLn : L = [] := List.length_eq_zero_iff.1 hlen2.symm
              obtain ⟨v3, w3', v4, w4, v5, w5, r3, r4, r5, o5, b5⟩ := put64 wo (b0 + 1) Hown2.out t none 0 0 0 none (Nat.le_refl _) (by omega) Hsz.out (.inl rfl) (fun _ => rfl) (.inl rfl) (fun _ => rfl)
              have O5 := Lib.hid o5
              have B5 := Lib.hid (HBl.out.trans (b5.mono Hsz.out))
              have HLn := Lib.hid hLn
              clear o5 b5 hLn hlen2
              go_wp2_with fail
              try rw [ht]
              go_loopw [11] (fun i w9 => i = .int .i64 0 ∧ w9 = wo) (fun _ _ => 0)
              case atStart => exact ⟨rfl, rfl⟩
              case round =>
                obtain ⟨rfl, rfl⟩ := hrel
                go_wp2_with (first | (at_builtin; refine wpList_append_run r3 rfl rfl rfl rfl rfl ?_; clear r3) | (at_builtin; refine wpList_append_run r4 rfl rfl rfl rfl rfl ?_; clear r4) | (at_builtin; refine wpList_append_run r5 rfl rfl rfl rfl rfl ?_; clear r5))
                exact ⟨⟨p + 1, _, Nat.le_succ_of_le Hk.out, by rw [show ((p + 1 : Nat) : Int) - 1 = (p : Int) by omega], by rw [refL_hit (k := p + 1) Hk.out Hi.out, HL.out, ← Ht.out, putS_split t L 0 (fun i y hi => absurd hi (Nat.not_lt_zero _)) (fun y hy => by rw [HLn.out] at hy; cases hy)]; exact O5.out, B5.out⟩, meas_p p⟩
            · have Hg := Lib.hid (And.intro hg2 hg5)
              have Hlen2 := Lib.hid hlen2
              have hgI : (n : Int) ≤ (c : Int) := by omega
              clear hg1 hg2 hg5 hlen2
              go_wp2_with fail
              try rw [ht]
              go_loopw [11] (fun i w9 => ∃ a : Nat, a ≤ n ∧ i = .int .i64 a ∧ (∀ j y, j < a → L[j]? = some y → y < t) ∧ w9 = wo) (fun i _ => n - (intOf i).toNat)
              case atStart => exact ⟨0, Nat.zero_le _, rfl, fun j y hj => absurd hj (Nat.not_lt_zero _), rfl⟩
              case round =>
                obtain ⟨a, ha, rfl, hlow, rfl⟩ := hrel
                have ha0 : (0 : Int) ≤ (a : Int) := by omega
                by_cases hlt : a < n
                · have haI : (a : Int) < (n : Int) := by omega
                  have hya : L[a]? = some (L.getD a 0) := by rw [List.getElem?_eq_getElem (by have := Hlen2.out; omega)]; simp [show a < L.length by have := Hlen2.out; omega]
                  have ca := Hg.out.2 a hlt
                  obtain ⟨y, hy⟩ : ∃ y, L.getD a 0 = y := ⟨_, rfl⟩
                  rw [hy] at hya ca
                  by_cases hyt : y < t
                  · have kt : decide (y < t) = true := decide_eq_true hyt
                    have wa : IntKind.i64.wrap ((a : Int) + 1) = (a : Int) + 1 := i64_same _ (by have := Hn.out; omega)
                    have xa := wrap64_in ((a : Int) + 1) (by have := Hn.out; omega)
                    have Hla := Lib.hid (And.intro hlow (And.intro hya hyt))
                    have Hlt := Lib.hid hlt
                    clear hlow hya hyt hlt hy
                    go_wp2_with fail
                    exact ⟨⟨a + 1, Hlt.out, by push_cast; rfl, low_step Hla.out, by first | rfl | trivial⟩, meas_z n a Hlt.out⟩
                  · have kt : decide (y < t) = false := decide_eq_false hyt
                    by_cases hyt2 : y = t
                    · have kt2 : (y == t) = true := beq_iff_eq.2 hyt2
                      have HF : Hid (putS t L = L) := putS_found t L a hlow (by rw [hya, hyt2])
                      clear hlow hya hyt hyt2 hlt hy
                      go_wp2_with fail
                      exact ⟨⟨p + 1, _, Nat.le_succ_of_le Hk.out, by rw [show ((p + 1 : Nat) : Int) - 1 = (p : Int) by omega], by rw [refL_hit (k := p + 1) Hk.out Hi.out, HL.out, ← Ht.out, HF.out]; exact Hown2.out, HBl.out⟩, meas_p p⟩
                    · have kt2 : (y == t) = false := beq_eq_false_iff_ne.2 hyt2
                      have HF : Hid (putS t L = L.take a ++ t :: L.drop a) := putS_split t L a hlow (fun z hz => by rw [hya] at hz; injection hz with hz; omega)
                      obtain ⟨v3, w3', v4, w4, v5, w5, r3, r4, r5, o5, b5⟩ := put64 _ (b0 + 1) Hown2.out t (some ⟨gb, 0, none⟩) a c (c - a) (some ⟨gb, a, none⟩) ha (by have := Hn.out; omega) Hsz.out (.inr ⟨gb, 0, rfl, Hg.out.1, fun i hi => by rw [Nat.zero_add]; exact Hg.out.2 i (by omega)⟩) (fun h => by cases h) (.inr ⟨gb, a, rfl, Hg.out.1, fun i hi => Hg.out.2 (a + i) (by omega)⟩) (fun h => by cases h)
                      have O5 := Lib.hid o5
                      have B5 := Lib.hid (HBl.out.trans (b5.mono Hsz.out))
                      clear o5 b5 hlow
                      go_wp2_with (first | (at_builtin; refine wpList_append_run r3 rfl rfl rfl rfl rfl ?_; clear r3) | (at_builtin; refine wpList_append_run r4 rfl rfl rfl rfl rfl ?_; clear r4) | (at_builtin; refine wpList_append_run r5 rfl rfl rfl rfl rfl ?_; clear r5))
                      exact ⟨⟨p + 1, _, Nat.le_succ_of_le Hk.out, by rw [show ((p + 1 : Nat) : Int) - 1 = (p : Int) by omega], by rw [refL_hit (k := p + 1) Hk.out Hi.out, HL.out, ← Ht.out, HF.out]; exact O5.out, B5.out⟩, meas_p p⟩
                · obtain rfl : a = n := by omega
                  have haI : ¬ ((a : Int) < (a : Int)) := by omega
                  have HF : Hid (putS t L = L.take a ++ t :: L.drop a) := putS_split t L a hlow (fun z hz => by rw [List.getElem?_eq_none (by have := Hlen2.out; omega)] at hz; cases hz)
                  by_cases hcn : c = a
                  · obtain rfl := hcn
                    obtain ⟨v3, w3', v4, w4, v5, w5, r3, r4, r5, o5, b5⟩ := put64 _ (b0 + 1) Hown2.out t (some ⟨gb, 0, none⟩) c c 0 (some ⟨gb, 0, none⟩) ha (by have := Hn.out; omega) Hsz.out (.inr ⟨gb, 0, rfl, Hg.out.1, fun i hi => by rw [Nat.zero_add]; exact Hg.out.2 i (by omega)⟩) (fun h => by cases h) (.inl (by omega)) (fun h => by cases h)
                    rw [Nat.sub_self] at r5
                    have O5 := Lib.hid o5
                    have B5 := Lib.hid (HBl.out.trans (b5.mono Hsz.out))
                    clear o5 b5 hlow
                    go_wp2_with (first | (at_builtin; refine wpList_append_run r3 rfl rfl rfl rfl rfl ?_; clear r3) | (at_builtin; refine wpList_append_run r4 rfl rfl rfl rfl rfl ?_; clear r4) | (at_builtin; refine wpList_append_run r5 rfl rfl rfl rfl rfl ?_; clear r5))
                    exact ⟨⟨p + 1, _, Nat.le_succ_of_le Hk.out, by rw [show ((p + 1 : Nat) : Int) - 1 = (p : Int) by omega], by rw [refL_hit (k := p + 1) Hk.out Hi.out, HL.out, ← Ht.out, HF.out]; exact O5.out, B5.out⟩, meas_p p⟩
                  · obtain ⟨v3, w3', v4, w4, v5, w5, r3, r4, r5, o5, b5⟩ := put64 _ (b0 + 1) Hown2.out t (some ⟨gb, 0, none⟩) a c (c - a) (some ⟨gb, a, none⟩) ha (by have := Hn.out; omega) Hsz.out (.inr ⟨gb, 0, rfl, Hg.out.1, fun i hi => by rw [Nat.zero_add]; exact Hg.out.2 i (by omega)⟩) (fun h => by cases h) (.inr ⟨gb, a, rfl, Hg.out.1, fun i hi => Hg.out.2 (a + i) (by omega)⟩) (fun h => by cases h)
                    rw [Nat.sub_self] at r5
                    have O5 := Lib.hid o5
                    have B5 := Lib.hid (HBl.out.trans (b5.mono Hsz.out))
                    clear o5 b5 hlow
                    go_wp2_with (first | (at_builtin; refine wpList_append_run r3 rfl rfl rfl rfl rfl ?_; clear r3) | (at_builtin; refine wpList_append_run r4 rfl rfl rfl rfl rfl ?_; clear r4) | (at_builtin; refine wpList_append_run r5 rfl rfl rfl rfl rfl ?_; clear r5))
                    exact ⟨⟨p + 1, _, Nat.le_succ_of_le Hk.out, by rw [show ((p + 1 : Nat) : Int) - 1 = (p : Int) by omega], by rw [refL_hit (k := p + 1) Hk.out Hi.out, HL.out, ← Ht.out, HF.out]; exact O5.out, B5.out⟩, meas_p p⟩
          · have k2 : (V != (o + g p 10)) = true := by simp [hVo]
            have Hi : Hid (outB o lr g x (exAt g (p + 1)) = false) := by show _ = _; unfold outB; rw [decide_eq_false_iff_not, ← HEV.out.2.2, HEV.out.1, HEV.out.2.1]; exact fun q => hVo q.2
            clear hE0 hVo hb2
            go_wp2_with fail
            exact ⟨⟨p + 1, _, Nat.le_succ_of_le Hk.out, by rw [show ((p + 1 : Nat) : Int) - 1 = (p : Int) by omega], by rw [refL_miss (k := p + 1) Hk.out (Hi.out), HL.out]; exact Hown2.out, HBl.out⟩, meas_p p⟩
        · have k1 : (E != 0) = true := by simp [hE0]
          have Hi : Hid (outB o lr g x (exAt g (p + 1)) = false) := by show _ = _; unfold outB; rw [decide_eq_false_iff_not, ← HEV.out.2.2, HEV.out.1]; exact fun q => hE0 q.1
          clear hE0 hb2
          go_wp2_with fail
          exact ⟨⟨p + 1, _, Nat.le_succ_of_le Hk.out, by rw [show ((p + 1 : Nat) : Int) - 1 = (p : Int) by omega], by rw [refL_miss (k := p + 1) Hk.out (Hi.out), HL.out]; exact Hown2.out, HBl.out⟩, meas_p p⟩
end Go.Proofs.YtoipmhmghcngcaaDoor
