/-
  The walk of RtuOrder. Conditions: none beyond the given rows.
-/
import Derived.Test.YtfbeihfpflhdaaaRtuNames
import Derived.Test.YtfbeihfpflhdaaaRtuOpen
import Derived.Deep.RegionHeld3
import Derived.Deep.DrawnRows
namespace Go.Proofs.Ytfbeihfpflhdaaa
open Go Go.RowKit Go.Kw Go.Kw.Crc
set_option linter.unusedVariables false
set_option linter.unusedSimpArgs false
attribute [local go_sem ↓] Go.wp_at_zero Go.wp_at_succ

def lenV : Value → Nat
  | .slice _ n _ => n
  | _ => 0
theorem rdB_at {w3 wb : World} {g B0 g4 : Nat} {cb : List UInt8} (h : RdB wb B0 (some ⟨g4, 0, none⟩) cb ∧ g4 ≠ g ∧ g4 < B0 ∧ B0 ≤ wb.heap.size) {off : Nat} (ho : off ≤ cb.length) (K : Nat) (hk : Kept (fun x => x < B0 ∧ x ≠ g) wb w3) (hz : B0 ≤ w3.heap.size) :
    RdB w3 w3.heap.size (some ⟨g4, off, none⟩) ((cb.drop off).take K) := by
  obtain ⟨h1, h2, h3, h4⟩ := h
  have h5 : RdB w3 B0 (some ⟨g4, 0, none⟩) cb := by
    rcases h1 with h1 | ⟨b, o, e, hlt, hc⟩
    · exact .inl h1
    · injection e with e; injection e with e1 e2; subst e1 e2
      exact .inr ⟨g4, 0, rfl, hlt, fun i hi => (World.cell?_of_block (a := ⟨g4, 0 + i, none⟩) (hk.block g4 (by omega) ⟨h3, h2⟩)).trans (hc i hi)⟩
  have h6 := rdB_drop h5 off
  rw [Nat.zero_add] at h6
  refine RdB.more ?_ hz
  rcases Nat.lt_or_ge (cb.drop off).length K with h | h
  · rw [List.take_of_length_le (by omega)]; exact h6
  · exact rdB_take h6 K h
theorem GBox.drew {W : World} {g : Nat} {s now last bad : Int} {pv : Value} {sp : Bool} (h : GBox W g s pv sp now last bad) : GBox W.drew g s pv sp now last bad := h
theorem feed_kept {g B0 : Nat} {w3 w5 : World} (h : Kept (fun k => (fun x => x < B0) k ∧ k ≠ g) w3 w5) : Kept (fun x => x < B0 ∧ x ≠ g) w3 w5 := h

set_option maxRecDepth 100000 in
set_option maxHeartbeats 8000000 in
theorem rtuOrder_walk (v0 : Value) (fr : List Fq) (a1 : Int) (a2 : Option Addr) (len2 cap2 : Nat) (z2 : List Int) (w : World) (w0 : QRows w v0 fr) (w1 : (Lit.int .u8 a1).wf = true) (w2 : IsRow .u8 w a2 len2 cap2 z2) :
    Calls Try.prog 6 #[v0, .int .u8 a1, .slice a2 len2 cap2] w fun e w' => e = .returned (.bool true) ∧ Below w.heap.size w w' := by
  obtain ⟨A, c, rfl, hlc, hcm, hzA, hF⟩ := w0
  obtain ⟨hm1, hm2, hz2⟩ := w2.caps
  unfold maxLen at hcm hm2
  obtain ⟨q, rfl, hQ⟩ := w2.bytes
  obtain ⟨d0, d1⟩ := Go.bounds_u8 w1
  obtain ⟨n, rfl⟩ := Int.eq_ofNat_of_zero_le d0
  have Hn : Hid (n < 256) := by show _ < _; omega
  clear w1 w2 d0 d1 hz2
  obtain ⟨N, hN⟩ : ∃ N, fr.length = N := ⟨_, rfl⟩
  obtain ⟨M, hM⟩ : ∃ M, q.length = M := ⟨_, rfl⟩
  rw [hN] at hlc hzA
  rw [hN, hM]
  rw [hM] at hm1
  have HN := Lib.hid hN
  have HM := Lib.hid hM
  have HF := Lib.hid hF
  have HQ := Lib.hid hQ
  clear hN hM hF hQ
  by_cases h1 : 20 < N
  · have k1 : decide (20 < (N : Int)) = true := by simp; omega
    clear h1 hlc hm1
    go_enter Try.func6, Try.ntmps6
    go_wp2_with fail
    refine (alive_calls _).mono ?_
    rintro e w2 ⟨rfl, hb2⟩
    go_wp2_with fail
    go_ret
    exact ⟨rfl, hb2⟩
  have k1 : decide (20 < (N : Int)) = false := by simp; omega
  by_cases h2 : 100 < M
  · have k2 : decide (100 < (M : Int)) = true := by simp; omega
    clear h1 h2 hlc hm1
    go_enter Try.func6, Try.ntmps6
    go_wp2_with fail
    refine (alive_calls _).mono ?_
    rintro e w2 ⟨rfl, hb2⟩
    go_wp2_with fail
    go_ret
    exact ⟨rfl, hb2⟩
  have k2 : decide (100 < (M : Int)) = false := by simp; omega
  have hN20 : N ≤ 20 := by omega
  have hM100 : M ≤ 100 := by omega
  clear h1 h2
  have hw1 : IntKind.i64.wrap (n : Int) = n := IntWalk.i64_in _ (by have := Hn.out; omega)
  obtain ⟨sn, hs⟩ : ∃ sn : Nat, 1 + n = sn := ⟨_, rfl⟩
  have hs1 : 1 ≤ sn := by omega
  have hs2 : sn ≤ 256 := by have := Hn.out; omega
  obtain ⟨s, hsn⟩ : ∃ s : Int, (sn : Int) = s := ⟨_, rfl⟩
  have hw2 : IntKind.i64.wrap (1 + (n : Int)) = s := by rw [← hsn, ← hs]; push_cast; exact IntWalk.i64_in _ (by have := Hn.out; omega)
  have hs3 : 1 ≤ s := by omega
  have hs4 : s ≤ 256 := by omega
  have Hsn := Lib.hid hsn
  clear hs hsn
  go_enter Try.func6, Try.ntmps6
  go_wp2_with fail
  refine (alive_calls _).mono ?_
  rintro e wa ⟨rfl, hba⟩
  go_wp2_with fail
  refine (new_calls s hs3 (by omega) _).mono ?_
  rintro e w5 ⟨rfl, hw5⟩
  have G5 := GBox.new wa s (.slice none 0 0) false 0 0 0
  have hb5 := bstep wa (.cells #[.int .i64 s, .slice none 0 0, .bool false, .int .i64 0, .int .i64 0, .int .i64 0] 50)
  have hz5 : w5.heap.size = wa.heap.size + 1 := by rw [hw5]; simp
  rw [← hw5] at G5 hb5
  have hbw5 := hba.trans (hb5.mono hba.size)
  have hwg : w.heap.size ≤ wa.heap.size := hba.size
  clear hw5 hba hb5
  generalize wa.heap.size = g at *
  go_wp2_with fail
  go_loopw [11, 12, 13, 50] (fun t nn ct i wr => ∃ k T C now last : Nat, k ≤ N ∧ i = .int .i64 k ∧ nn = .int .i64 k ∧ ct = .int .i64 C ∧ C ≤ M ∧ t = .int .i64 T ∧ T ≤ k * 256 + C * 256 ∧ now ≤ T ∧ last ≤ T ∧
    GBox wr g s (.slice none 0 0) false now last 0 ∧ Below w.heap.size w wr) (fun _ _ _ i _ => N - (intOf i).toNat)
  case atStart => exact ⟨0, 0, 0, 0, 0, Nat.zero_le _, rfl, rfl, rfl, Nat.zero_le _, rfl, by omega, by omega, by omega, G5, hbw5⟩
  case round =>
    obtain ⟨k, T0, C0, now0, last0, hk, rfl, rfl, rfl, hC0, rfl, hT0, hnow0, hlast0, hG, hb⟩ := hrel
    have hgl := hG.lt
    by_cases hlt : k < N
    · obtain ⟨b1, o1, B1, C1, rfl, hb1, y0, y1, y2, y3⟩ := HF.out.cells (k := k) (by rw [HN.out]; exact hlt)
      obtain ⟨⟨u, p⟩, hf⟩ : ∃ f, qrd fr k = f := ⟨_, rfl⟩
      rw [hf] at y0 y1 y2 y3
      have hpl : Hid (p.length ≤ 9223372036854775807) := by
        obtain ⟨ps, -, q2⟩ := HF.out
        obtain ⟨-, -, q3, q4⟩ := q2 k (by rw [HN.out]; exact hlt)
        rw [hf] at q3
        show _ ≤ _
        simp only at q3
        omega
      have x0 := (hb.cell (p := ⟨b1, o1 + k * 2, none⟩) hb1).trans y0
      have x1 := (hb.cell (p := ⟨b1, o1 + k * 2 + 1, none⟩) hb1).trans y1
      have hkI : (k : Int) < (N : Int) := by omega
      have HB := Lib.hid (rtuBytes_calls u B1 C1 p hpl.out wr (y2.go hb) y3)
      have Hy0 := Lib.hid y0
      have Hy1 := Lib.hid y1
      have Hy2 := Lib.hid y2
      clear hf y0 y1 y2
      cases hbo : bytesOf u p with
      | none =>
        rw [hbo] at HB
        clear hbo
        go_wp2_with fail
        refine HB.out.mono ?_
        rintro e w6 ⟨hx, hb6⟩
        have hx : e = .returned (.tuple #[.slice none 0 0, .int .i64 200]) := hx
        subst hx
        go_wp2_with fail
        go_ret
        exact ⟨rfl, hb.trans (hb6.mono hb.size)⟩
      | some cb =>
        rw [hbo] at HB
        have Hrb := Lib.hid (read_bytes u p cb hbo)
        obtain ⟨hL4, hL256⟩ := bytes_len u p cb hbo
        obtain ⟨L, hL⟩ : ∃ L, cb.length = L := ⟨_, rfl⟩
        have hpl2 : p.length ≤ 253 := by
          unfold bytesOf at hbo
          split at hbo
          · rename_i h; exact h.2.2.2
          · cases hbo
        rw [hL] at hL4 hL256
        clear hbo
        go_wp2_with fail
        refine HB.out.mono ?_
        rintro e wb ⟨⟨A4, c4, hx, o4, z4⟩, hb4⟩
        subst hx
        rw [hL] at o4 z4 ⊢
        obtain ⟨hc4, hc4m⟩ := own_caps o4
        obtain ⟨g4, rfl⟩ := own_some o4 (by omega)
        have hge4 := own_ge' o4
        have hlt4 : g4 < wb.heap.size := by
          have := (rdB_own o4).1
          rcases this with h | ⟨b, o, e, hlt, -⟩
          · omega
          · injection e with e; injection e with e1 e2; subst e1; exact hlt
        have G4 := hG.below hb4
        have hbw4 := hb.trans (hb4.mono hb.size)
        obtain ⟨B0, hB0⟩ : ∃ B0, wb.heap.size = B0 := ⟨_, rfl⟩
        have Hcb : Hid (RdB wb B0 (some ⟨g4, 0, none⟩) cb ∧ g4 ≠ g ∧ g4 < B0 ∧ B0 ≤ wb.heap.size) := ⟨by rw [← hB0]; exact (rdB_own o4).1, by omega, by omega, by omega⟩
        have hgB : g < B0 := by have := hb4.size; omega
        have HL := Lib.hid hL
        have hwB : w.heap.size ≤ B0 := by have := hbw4.size; omega
        have HB0 := Lib.hid hB0
        have HG4 := Lib.hid G4
        have Hbw4 := Lib.hid hbw4
        have HG := Lib.hid hG
        have hx0 := (hbw4.cell (p := ⟨b1, o1 + k * 2, none⟩) hb1).trans Hy0.out
        clear o4 z4 G4 hbw4 hb4 hL hG x0 x1 hb HB hB0 hge4 hx0
        go_wp2_with fail
        go_loopw [11, 13, 15] (fun t ct b w3 => ∃ (T C off : Nat) (fs : List (List UInt8)) (now last : Nat), t = .int .i64 T ∧ ct = .int .i64 C ∧ C ≤ M ∧ T ≤ k * 256 + C * 256 ∧ off ≤ L ∧ (∃ A' C', b = .slice A' (L - off) C' ∧ (off < L → A' = some ⟨g4, off, none⟩ ∧ C' = c4 - off)) ∧
            HoldG w3 (fun x => x < B0) g s fs false now last 0 ∧ fs.flatten = cb.take off ∧ fs.length ≤ off ∧ now ≤ T ∧ (fs = [] ∨ last = T) ∧ last ≤ T ∧ Kept (fun x => x < B0 ∧ x ≠ g) wb w3) (fun _ _ b _ => lenV b)
        case atStart => exact ⟨T0, C0, 0, [], now0, last0, rfl, rfl, hC0, hT0, Nat.zero_le _, ⟨_, _, rfl, fun _ => ⟨rfl, rfl⟩⟩, HoldG.nil HG4.out, by simp, by simp, hnow0, .inl rfl, hlast0, Kept.refl _ _⟩
        case round =>
          obtain ⟨T, C, off, fs, now, last, rfl, rfl, hC, hT, hoff, ⟨A', C', rfl, hAC⟩, h3, hfl, hfs, hnow, hlast, hlast2, kp⟩ := hrel
          have hz3 : B0 ≤ wr.heap.size := by have := kp.size; have := HB0.out; omega
          have Hfl := Lib.hid hfl
          have HS3 : Hid (∀ x, x < B0 → x < wr.heap.size) := fun x hx => by omega
          obtain ⟨R, hR⟩ : ∃ R, L - off = R := ⟨_, rfl⟩
          rw [hR]
          have b3 := kp
          clear hfl
          by_cases hlo : off < L
          · obtain ⟨rfl, rfl⟩ := hAC hlo
            have kR : decide (0 < (R : Int)) = true := by simp; omega
            have hsl : off ≤ c4 := by omega
            by_cases hCM : C < M
            · have kC : decide ((C : Int) < (M : Int)) = true := by simp; omega
              have kC2 : (C : Int) < (M : Int) := by omega
              obtain ⟨b2, o2, e2, hb2, hq⟩ := HQ.out.at_ (k := C) (by rw [HM.out]; exact hCM)
              subst e2
              have hq2 : wr.cell? ⟨b2, o2 + C, none⟩ = some (.int .u8 (bAt q C)) := (World.cell?_of_block (a := ⟨b2, o2 + C, none⟩) (kp.block b2 (by have := HB0.out; omega) ⟨by omega, by omega⟩)).trans (((Hbw4.out).cell (p := ⟨b2, o2 + C, none⟩) hb2).trans hq)
              obtain ⟨x, hx⟩ : ∃ x : Nat, bAt q C = (x : Int) := ⟨(bAt q C).toNat, by have := bAt_lo q C; omega⟩
              have hx256 : x < 256 := by have := bAt_hi q C; omega
              rw [hx] at hq2
              clear hq hx
              have m1 : IntKind.i64.wrap (x : Int) = x := IntWalk.i64_in _ (by omega)
              obtain ⟨x50, hx50⟩ : ∃ y : Nat, x % 50 = y := ⟨_, rfl⟩
              have m2 : (x : Int).tmod 50 = (x50 : Int) := by rw [Int.tmod_eq_emod_of_nonneg (by omega)]; omega
              obtain ⟨xs, hxs⟩ : ∃ y : Nat, x % sn = y := ⟨_, rfl⟩
              have hxs2 : xs < sn := by rw [← hxs]; exact Nat.mod_lt _ (by omega)
              have m3 : (x : Int).tmod s = (xs : Int) := by rw [Int.tmod_eq_emod_of_nonneg (by omega), ← Hsn.out, ← hxs]; rfl
              obtain ⟨K, hK⟩ : ∃ K : Nat, min R (1 + x50) = K := ⟨_, rfl⟩
              have m4 : IntKind.i64.wrap (1 + (x50 : Int)) = 1 + (x50 : Int) := IntWalk.i64_in _ (by omega)
              have m5 : min (R : Int) (1 + (x50 : Int)) = (K : Int) := by omega
              have m6 : IntKind.i64.wrap ((T : Int) + (xs : Int)) = ((T + xs : Nat) : Int) := by rw [IntWalk.i64_in _ (by omega)]; push_cast; rfl
              have m7 : IntKind.i64.wrap ((C : Int) + 1) = (C : Int) + 1 := IntWalk.i64_in _ (by omega)
              have m8 : (s == 0) = false := by simp; omega
              have m9 : (K : Int) ≤ ((c4 - off : Nat) : Int) := by omega
              have m10 : K ≤ R := by omega
              have m11 : (K : Int) ≤ (R : Int) := by omega
              have hss : (sn : Int) = s := Hsn.out
              have hTs : T + xs ≤ k * 256 + (C + 1) * 256 := by omega
              have hTl : T + xs < T + sn := by omega
              clear hx50 hxs hK
              go_wp2_with fail
              refine (feed_takeN g s hs3 (by omega) fs (by omega) off (by rw [Hfl.out, List.length_take]; have := HL.out; omega) (by omega) now last 0 ((T : Int) + (xs : Int)) (some ⟨g4, off, none⟩) (c4 - off) K ((cb.drop off).take K) (by have := HL.out; simp; omega) (by omega) (by omega) (by omega) (by omega) (by omega) (by omega) (by omega) (by omega) (by omega) (by rcases hlast with h | h; exact .inl h; exact .inr (by rw [h]; omega)) (fs ++ [(cb.drop off).take K]) (by rw [List.take_of_length_le (l := (cb.drop off).take K)]; simp; omega) false (by simp; omega) wr h3 (rdB_at Hcb.out (by have := HL.out; omega) K b3 hz3) (HS3.out)).mono ?_
              rintro e w5 ⟨rfl, h5, k5⟩
              unfold fv
              have hb6 := bstep w5 (.cells #[.int .i64 0, .slice none 0 0] 24)
              have H6 : Hid (HoldG (w5.alloc (.cells #[.int .i64 0, .slice none 0 0] 24)) (fun x => x < B0) g s (fs ++ [(cb.drop off).take K]) false ((T + xs : Nat) : Int) ((T + xs : Nat) : Int) 0) := by
                have := h5.go hb6
                show HoldG _ _ _ _ _ _ _ _ _
                push_cast
                exact this
              have K6 : Hid (Kept (fun x => x < B0 ∧ x ≠ g) wb (w5.alloc (.cells #[.int .i64 0, .slice none 0 0] 24))) := (kp.trans k5).trans (hb6.keptS _)
              have Hfl2 : Hid ((fs ++ [(cb.drop off).take K]).flatten = cb.take (off + K)) := by
                show _ = _
                rw [List.flatten_append, Hfl.out]; simp [List.take_add]
              clear h5 k5 hb6 h3 kp
              go_wp2_with fail
              refine ⟨⟨T + xs, C + 1, off + K, fs ++ [(cb.drop off).take K], T + xs, T + xs, by push_cast; rfl, by push_cast; rfl, by omega, by omega, by omega, ?_, H6.out, Hfl2.out, by simp; omega, Nat.le_refl _, .inr rfl, Nat.le_refl _, K6.out⟩, by simp [lenV]; omega⟩
              exact ⟨_, _, by rw [show L - (off + K) = R - K by omega], fun h => ⟨by rw [if_neg (by omega)], by omega⟩⟩
            · have kC : decide ((C : Int) < (M : Int)) = false := by simp; omega
              have kC2 : ¬ (C : Int) < (M : Int) := by omega
              have m9 : (R : Int) ≤ ((c4 - off : Nat) : Int) := by omega
              go_wp2_with fail
              refine (feed_takeN g s hs3 (by omega) fs (by omega) off (by rw [Hfl.out, List.length_take]; have := HL.out; omega) (by omega) now last 0 (T : Int) (some ⟨g4, off, none⟩) (c4 - off) R ((cb.drop off).take R) (by have := HL.out; simp; omega) (by omega) (by omega) (by omega) (by omega) (by omega) (by omega) (by omega) (by omega) (by omega) (by rcases hlast with h | h; exact .inl h; exact .inr (by rw [h]; omega)) (fs ++ [(cb.drop off).take R]) (by rw [List.take_of_length_le (l := (cb.drop off).take R)]; simp; omega) false (by simp; omega) wr h3 (rdB_at Hcb.out (by have := HL.out; omega) R b3 hz3) (HS3.out)).mono ?_
              rintro e w5 ⟨rfl, h5, k5⟩
              unfold fv
              have hb6 := bstep w5 (.cells #[.int .i64 0, .slice none 0 0] 24)
              have H6 : Hid (HoldG (w5.alloc (.cells #[.int .i64 0, .slice none 0 0] 24)) (fun x => x < B0) g s (fs ++ [(cb.drop off).take R]) false ((T : Nat) : Int) ((T : Nat) : Int) 0) := by
                have := h5.go hb6
                show HoldG _ _ _ _ _ _ _ _ _
                push_cast
                exact this
              have K6 : Hid (Kept (fun x => x < B0 ∧ x ≠ g) wb (w5.alloc (.cells #[.int .i64 0, .slice none 0 0] 24))) := (kp.trans k5).trans (hb6.keptS _)
              have Hfl2 : Hid ((fs ++ [(cb.drop off).take R]).flatten = cb.take (off + R)) := by
                show _ = _
                rw [List.flatten_append, Hfl.out]; simp [List.take_add]
              clear h5 k5 hb6 h3 kp
              go_wp2_with fail
              refine ⟨⟨T, C, off + R, fs ++ [(cb.drop off).take R], T, T, by push_cast; rfl, by push_cast; rfl, by omega, by omega, by omega, ?_, H6.out, Hfl2.out, by simp; omega, Nat.le_refl _, .inr rfl, Nat.le_refl _, K6.out⟩, by simp [lenV]; omega⟩
              exact ⟨_, _, by rw [show L - (off + R) = 0 by omega], fun h => ⟨by rw [if_neg (by omega)], by omega⟩⟩
          · have hoL : off = L := by omega
            have hR0 : R = 0 := by omega
            subst hR0
            have hfs1 : 1 ≤ fs.length := by
              rcases fs with _ | ⟨a, l⟩
              · have h1 := Hfl.out
                have h2 := HL.out
                rw [hoL, List.take_of_length_le (by omega)] at h1
                rw [← h1] at h2
                simp at h2; omega
              · simp
            have hlT : last = T := by
              rcases hlast with h | h
              · rw [h] at hfs1; simp at hfs1
              · exact h
            have hwT : IntKind.i64.wrap ((T : Int) + s) = (T : Int) + s := IntWalk.i64_in _ (by omega)
            have hflc : Hid (fs.flatten = cb) := by
              show _ = _
              rw [Hfl.out]; exact List.take_of_length_le (by have := HL.out; omega)
            have hkR : decide ((0 : Int) < ((0 : Nat) : Int)) = false := by simp
            clear hR hlast hAC
            go_wp2_with fail
            refine (idle_end g s hs3 (by omega) fs (by omega) (by rw [hflc.out, HL.out]; omega) hfs1 false now last 0 ((T : Int) + s) (by omega) (by omega) (by omega) (by omega) (by omega) (by omega) (by omega) (by rw [hlT]; omega) wr h3 HS3.out).mono ?_
            rintro e w10 hx
            obtain ⟨A10, c10, rfl, r10, z10, G10, k10⟩ := hx.good u p (by rw [hflc.out]; exact Hrb.out)
            unfold fv
            have hb11 := bstep w10 (.cells #[.int .i64 u, .slice A10 p.length c10] 24)
            have y11 := Box2.new w10 24 (.int .i64 u) (.slice A10 p.length c10)
            have kW : Kept (fun x => x < B0 ∧ x ≠ g) wb (w10.alloc (.cells #[.int .i64 u, .slice A10 p.length c10] 24)) := (kp.trans k10).trans (hb11.keptS _)
            have hbW : Below w.heap.size w (w10.alloc (.cells #[.int .i64 u, .slice A10 p.length c10] 24)) := Hbw4.out.trans (kW.below (by have := HB0.out; omega) (fun x hx => ⟨by omega, by omega⟩))
            have G11 := G10.below hb11
            have r11 := r10.go hb11
            have e0 := y11.c0
            have e1 := y11.c1
            have x0 := (hbW.cell (p := ⟨b1, o1 + k * 2, none⟩) hb1).trans Hy0.out
            have x1 := (hbW.cell (p := ⟨b1, o1 + k * 2 + 1, none⟩) hb1).trans Hy1.out
            have hpp : (decide (u = u) && decide (p = p)) = true := by simp
            have Hsame : Hid (Calls Try.prog 13 #[.agg #[.int .i64 u, .slice A10 p.length c10], .agg #[.int .i64 u, .slice B1 p.length C1]] (w10.alloc (.cells #[.int .i64 u, .slice A10 p.length c10] 24)).drew fun e w' => e = .returned (.bool true) ∧ Below (w10.alloc (.cells #[.int .i64 u, .slice A10 p.length c10] 24)).drew.heap.size (w10.alloc (.cells #[.int .i64 u, .slice A10 p.length c10] 24)).drew w') := by
              have h := rtuSame_calls u u A10 B1 c10 C1 p p (by omega) (by omega) (w10.alloc (.cells #[.int .i64 u, .slice A10 p.length c10] 24)).drew r11 (Hy2.out.go hbW.drew)
              rw [hpp] at h; exact h
            clear hx h3 kp b3 k10 hb11 y11 kW G10 r10 r11
            go_wp2_with fail
            generalize (w10.alloc (.cells #[.int .i64 u, .slice A10 p.length c10] 24)) = W at *
            generalize w10.heap.size = Y at *
            have kk1 : (0 : Int) ≤ (k : Int) := by omega
            have HK : Hid (∀ W', Below W.heap.size W.drew W' → W'.cell? ⟨Y, 0, none⟩ = some (.int .i64 u) ∧ W'.cell? ⟨Y, 1, none⟩ = some (.slice A10 p.length c10) ∧ W'.cell? ⟨b1, o1 + k * 2, none⟩ = some (.int .i64 u) ∧ W'.cell? ⟨b1, o1 + k * 2 + 1, none⟩ = some (.slice B1 p.length C1)) := fun W' h =>
              ⟨(h.cell (p := ⟨Y, 0, none⟩) (block_lt e0)).trans e0, (h.cell (p := ⟨Y, 1, none⟩) (block_lt e1)).trans e1, (h.cell (p := ⟨b1, o1 + k * 2, none⟩) (block_lt x0)).trans x0, (h.cell (p := ⟨b1, o1 + k * 2 + 1, none⟩) (block_lt x1)).trans x1⟩
            go_region_held3 (fun W' => W'.cell? ⟨Y, 0, none⟩ = some (.int .i64 u) ∧ W'.cell? ⟨Y, 1, none⟩ = some (.slice A10 p.length c10) ∧ W'.cell? ⟨b1, o1 + k * 2, none⟩ = some (.int .i64 u) ∧ W'.cell? ⟨b1, o1 + k * 2 + 1, none⟩ = some (.slice B1 p.length C1))
              (first | exact ⟨e0, e1, x0, x1⟩ | exact HK.out _ hb12)
              (first
                | (go_at_call 13; refine Hsame.out.mono ?_; rintro e w12 ⟨rfl, hb12⟩))
            all_goals
              have G12 := G11.drew.below hb12
              have hbw12 : Below w.heap.size w w12 := hbW.drew.trans (hb12.mono hbW.size)
              go_wp2_with fail
              refine ⟨⟨k + 1, T + sn, C, T + sn, last, by omega, by push_cast; rfl, by push_cast; rfl, rfl, hC, by push_cast; rw [Hsn.out], by omega, Nat.le_refl _, by omega, ?_, hbw12⟩, by simp [intOf]; omega⟩
              push_cast
              rw [Hsn.out]
              exact G12
    · obtain rfl : N = k := by omega
      have kN : decide ((N : Int) < (N : Int)) = false := by simp
      go_wp2_with fail
      refine (badB_calls g s hs3 _ _ _ _ _ _ hG).mono ?_
      rintro e w' ⟨rfl, hww⟩
      rw [hww]
      clear hww
      go_wp2_with fail
      refine (heldG_nil g s hs3 _ hG).mono ?_
      rintro e w13 ⟨rfl, hb13⟩
      go_wp2_with fail
      go_ret
      exact ⟨by simp, hb.trans (hb13.mono hb.size)⟩
end Go.Proofs.Ytfbeihfpflhdaaa
