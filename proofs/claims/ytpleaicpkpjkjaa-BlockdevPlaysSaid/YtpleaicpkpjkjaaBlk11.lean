/-
  A device of sectors: what Flush hands to counted (all writes of the cache made safe), walked. Conditions stand at each theorem.
-/
import Derived.Test.YtpleaicpkpjkjaaBlk10
namespace Go.Proofs.Ytpleaicpkpjkjaa
open Go Go.RowKit Go.Kw
set_option linter.unusedVariables false
set_option linter.unusedSimpArgs false

theorem own_setCells {e : TypeId} {size base g cap n : Nat} : ∀ (vs : List Value) (o : Nat) (xs : List Value) (w : World), w.ownsRow base e size (.slice (some ⟨g, 0, none⟩) n cap) n xs → (w.setCells g o vs).ownsRow base e size (.slice (some ⟨g, 0, none⟩) n cap) n (setL xs o vs)
  | [], _, _, _, h => h
  | v :: r, o, xs, w, h => own_setCells r (o + 1) _ _ (h.stored o v).1
theorem kept_setCells {S : Nat → Prop} {g : Nat} (hg : ¬ S g) : ∀ (vs : List Value) (o : Nat) (w : World), Kept S w (w.setCells g o vs)
  | [], _, w => Kept.refl S w
  | v :: r, o, w => ((Kept.refl S w).setCell (p := ⟨g, o, none⟩) hg v).trans (kept_setCells hg r (o + 1) _)
theorem own_there {w : World} {base : Nat} {e : TypeId} {size g n cap : Nat} {xs : List Value} (h : w.ownsRow base e size (.slice (some ⟨g, 0, none⟩) n cap) n xs) (o k : Nat) (hk : o + k ≤ n * size) : w.there g o k := fun j hj => by
  refine ⟨?_, h.frozenAt _⟩
  rw [h.cellAt (o + j) (by omega), List.getElem?_eq_getElem (by rw [h.1]; omega)]; rfl
/-- A write of the cache, in memory. -/
theorem cac_range {w : World} {B : Nat} {cb cc : Nat} {C : List (Nat × List UInt8)} (h : w.ownsRow B 71 129 (.slice (some ⟨cb, 0, none⟩) C.length cc) C.length (cacC C)) (hC : ∀ x ∈ C, x.2.length = 128) (k : Nat) (hk : k < C.length) : w.rangeAt cb (k * 129) (cW (C.getD k default)) := fun j v hv => by
  have hj : j < 129 := by have h1 := (List.getElem?_eq_some_iff.1 hv).1; rwa [cW_len (hC _ (getD_mem' hk))] at h1
  rw [h.cellAt (k * 129 + j) (by have : (k + 1) * 129 ≤ C.length * 129 := Nat.mul_le_mul_right _ hk; omega), cacC_get hC k hk j hj, hv]
theorem sec_range {w : World} {B sb cc : Nat} {S : List (List UInt8)} (h : w.ownsRow B 69 128 (.slice (some ⟨sb, 0, none⟩) S.length cc) S.length (secC S)) (hS : ∀ x ∈ S, x.length = 128) (n : Nat) (hn : n < S.length) : w.rangeAt sb (n * 128) (bv (S.getD n [])) := fun j v hv => by
  have hl : (S.getD n []).length = 128 := by rw [List.getD_eq_getElem?_getD, List.getElem?_eq_getElem hn]; exact hS _ (List.getElem_mem hn)
  have hj : j < 128 := by have h1 := (List.getElem?_eq_some_iff.1 hv).1; rwa [bv_length, hl] at h1
  rw [h.cellAt (n * 128 + j) (by have : (n + 1) * 128 ≤ S.length * 128 := Nat.mul_le_mul_right _ hn; omega), secC_get hS n hn j hj, ← hv]
  have hj2 : j < (S.getD n []).length := by omega
  unfold bv; rw [List.getElem?_map, List.getElem?_eq_getElem hj2]; simp only [Option.map_some, bAt, List.getD_eq_getElem?_getD (l := S.getD n []), List.getElem?_eq_getElem hj2, Option.getD_some]
theorem zero_write : ∃ Z : Array Value, Z.size = 129 ∧ ∀ w, (zeroValue 71).run Try.prog w = .ok (.agg Z) w := by
  obtain ⟨i, hi, hz, hs, hb⟩ := info_parts eW.inf
  exact ⟨#[.int .i64 0] ++ Array.replicate 128 (.int .u8 0), by simp, fun w => by simp [zeroValue, typeInfo, hi, hz]⟩
theorem cW_all (x : Nat × List UInt8) : ∀ v ∈ cW x, v.oneCell' = true := fun v hv => by
  unfold cW at hv
  rcases List.mem_cons.1 hv with rfl | hv
  · rfl
  · obtain ⟨b, -, rfl⟩ := List.mem_map.1 hv; rfl
theorem bv_all (l : List UInt8) : ∀ v ∈ bv l, v.oneCell' = true := fun v hv => by
  obtain ⟨b, -, rfl⟩ := List.mem_map.1 hv; rfl
/-- Flush's closure. -/
def FlB (w : World) (B d sb sc N : Nat) (S : List (List UInt8)) (p : Int) (dn : Bool) (k : Int) (w' : World) : Prop :=
  DevH w' d (some ⟨sb, 0, none⟩) N sc none 0 0 p dn k ∧ w'.ownsRow B 69 128 (.slice (some ⟨sb, 0, none⟩) N sc) N (secC S) ∧ Kept (fun b => b ≠ d ∧ b ≠ sb) w w'
set_option maxHeartbeats 8000000 in
theorem flush2_calls (w : World) (B b0 d sb N sc : Nat) (CA : Option Addr) (cc : Nat) (p : Int) (dn : Bool) (k : Int) (S : List (List UInt8)) (C : List (Nat × List UInt8)) (h : DevH w d (some ⟨sb, 0, none⟩) N sc CA C.length cc p dn k)
    (hsec : w.ownsRow B 69 128 (.slice (some ⟨sb, 0, none⟩) N sc) N (secC S)) (hcac : w.ownsRow B 71 129 (.slice CA C.length cc) C.length (cacC C))
    (hN : S.length = N) (hS : ∀ x ∈ S, x.length = 128) (hC : ∀ x ∈ C, x.1 < N ∧ x.2.length = 128) (hm : C.length ≤ 256) (hN2 : N ≤ 65536) (h0 : w.cell? ⟨b0, 0, none⟩ = some (.pointer (some ⟨d, 0, none⟩))) (n0 : b0 ≠ sb) (nd : d ≠ sb) (nc : (Value.slice CA C.length cc).ownBlock ≠ some sb) :
    Calls Try.prog 32 #[.pointer (some ⟨b0, 0, none⟩)] w fun e W => (∃ u, e = .returned u) ∧ FlB w B d sb sc N (flS C S C.length) p dn k W := by
  have c1 := h.cells.2.1
  have HX := Lib.hid (show ∀ W, Kept (fun b => b ≠ sb) w W → W.cell? ⟨b0, 0, none⟩ = some (.pointer (some ⟨d, 0, none⟩)) ∧ DevH W d (some ⟨sb, 0, none⟩) N sc CA C.length cc p dn k ∧ W.ownsRow B 71 129 (.slice CA C.length cc) C.length (cacC C) from fun W hk =>
    ⟨(World.cell?_of_block (a := ⟨b0, 0, none⟩) (hk.block b0 (block_lt h0) n0)).trans h0, heap_kept hk h nd, own_keptV hcac hk (fun g hg e => nc (e ▸ hg))⟩)
  have HS := Lib.hid hsec
  have HC := Lib.hid hC
  have HN := Lib.hid (And.intro hN (And.intro hS (And.intro hm hN2)))
  have Hnd := Lib.hid nd
  clear h hsec hcac hC hN hS hm hN2 n0 nd nc
  go_enter Try.func32, Try.ntmps32
  go_wp2_with fail
  clear c1 h0
  go_loopw [2, 8] (fun _ iv wr => ∃ i : Nat, i ≤ C.length ∧ iv = .int .i64 i ∧ wr.ownsRow B 69 128 (.slice (some ⟨sb, 0, none⟩) N sc) N (secC (flS C S i)) ∧ Kept (fun b => b ≠ sb) w wr) (fun _ iv _ => C.length - (intOf iv).toNat)
  case atStart => exact ⟨0, by omega, rfl, HS.out, Kept.refl _ _⟩
  case round =>
    obtain ⟨i, hi, rfl, hsec, hk⟩ := hrel
    obtain ⟨q0, hdev, hcac⟩ := HX.out wr hk
    obtain ⟨e0, e1, e2, e3, e4⟩ := hdev.cells
    by_cases hlt : i < C.length
    · have hI : (i : Int) < (C.length : Int) := by omega
      have hi0 : (0 : Int) ≤ (i : Int) := by omega
      obtain ⟨A0, cap0, e0', -, -, hA0, hA1⟩ := own_form hcac
      obtain ⟨cb, rfl⟩ : ∃ cb, CA = some ⟨cb, 0, none⟩ := by
        injection e0' with e0' e1' e2'
        subst e0'
        rcases CA with _ | a
        · exact absurd (hA0 rfl).1 (by omega)
        · obtain ⟨g, rfl, -⟩ := hA1 a rfl; exact ⟨g, rfl⟩
      have hxm := getD_mem' hlt
      obtain ⟨x, hx⟩ : ∃ x, C.getD i default = x := ⟨_, rfl⟩
      have hrg := cac_range hcac (fun x hx => (HC.out x hx).2) i hlt
      rw [hx] at hrg hxm
      have hxl := HC.out x hxm
      have Hx := Lib.hid (And.intro hx hxl)
      have Hb := Lib.hid (And.intro hi (And.intro hlt (And.intro hsec (And.intro hk (And.intro hdev hcac)))))
      have HR := Lib.hid hrg
      have HI := Lib.hid (show (Try.prog.info? 71).map (·.size) = some (cW x).length by rw [cW_len hxl.2]; kernel_rfl)
      obtain ⟨Z, hZ, hz⟩ := zero_write
      have HI2 := Lib.hid (show (Try.prog.info? 71).map (·.size) = some (cW x).toArray.size by rw [List.size_toArray]; exact HI.out)
      have HO := Lib.hid (show Z.size = (cW x).toArray.size by rw [hZ, List.size_toArray, cW_len hxl.2])
      have H1 := Lib.hid (show (cW x).toArray.all (·.oneCell') = true from all_oneCell_toArray (cW_all x))
      have HZ := Lib.hid (blk_new wr Z 71)
      clear hx hxl hxm hi hlt hsec hk hdev hcac hrg e0' hA0 hA1 hZ
      go_wp2_with (first | (refine' wpList_load_mid rfl _ _ rfl _ _ rfl _ _ HR.out Try.underlying71 (by rfl) HI.out ?_) | (refine' wpList_store_row rfl _ _ _ rfl _ _ rfl rfl _ _ HZ.out HI2.out HO.out H1.out ?_))
      rw [World.setRow_alloc_new]
      obtain ⟨z, hz⟩ : ∃ z, wr.heap.size = z := ⟨_, rfl⟩
      obtain ⟨W1, hW1⟩ : ∃ W1, wr.alloc (.cells (cW x).toArray 71) = W1 := ⟨_, rfl⟩
      rw [hW1, hz]
      obtain ⟨hx, hxl⟩ := Hx.out
      obtain ⟨hi, hlt, hsec, hk, hdev, hcac⟩ := Hb.out
      have hst : Below wr.heap.size wr W1 := hW1 ▸ bstep wr _
      have hzb : W1.heap[z]? = some (.cells (cW x).toArray 71 (0, 0)) := by rw [← hz, ← hW1]; exact blk_new wr _ _
      have hsec1 := own_below hsec hst
      have hk1 : Kept (fun b => b ≠ sb) w W1 := hk.next hst
      have hzs : z ≠ sb := by have := (hsec.lt sb (by simp [Value.ownBlock])).2; omega
      have hlS : (flS C S i).length = N := by rw [flS_length]; exact HN.out.1
      have h128 := flS_128 (fun x hx => (HC.out x hx).2) HN.out.2.1 i hi
      obtain ⟨n, b⟩ := x
      have hn : n < N := hxl.1
      have hb : b.length = 128 := hxl.2
      have HSS := Lib.hid (show ∀ W, Kept (fun b => b ≠ sb) W1 W → W.cell? ⟨b0, 0, none⟩ = some (.pointer (some ⟨d, 0, none⟩)) ∧ W.cell? ⟨d, 0, none⟩ = some (.slice (some ⟨sb, 0, none⟩) N sc) ∧ W.cell? ⟨z, 0, none⟩ = some (.int .i64 (n : Int)) ∧ W.rangeAt z 1 (bv b) from fun W hkW => by
        obtain ⟨q0, hdev, -⟩ := HX.out W (hk1.trans hkW)
        have hzW := heap_kept hkW hzb hzs
        refine ⟨q0, hdev.cells.1, blk_cell hzW 0 (by simp [cW]), fun j v hv => blk_cell hzW (1 + j) (by rw [Nat.add_comm]; simpa [cW] using hv)⟩)
      have hT : W1.drew.there sb (n * 128) (bv b).toArray.size := by
        have := own_there (w := W1.drew) hsec1 (n * 128) (bv b).toArray.size (by rw [List.size_toArray, bv_length, hb, ← Nat.succ_mul]; exact Nat.mul_le_mul_right _ hn)
        exact this
      have hK5 : Kept (fun b => b ≠ sb) W1 (W1.drew.setCells sb (n * 128) (bv b).toArray.toList) := ((Kept.refl _ W1).drew).trans (kept_setCells (fun e => e rfl) _ _ _)
      have hsec5 : (W1.drew.setCells sb (n * 128) (bv b).toArray.toList).ownsRow B 69 128 (.slice (some ⟨sb, 0, none⟩) N sc) N (secC (flS C S (i + 1))) := by
        have := own_setCells (bv b).toArray.toList (n * 128) _ W1.drew hsec1
        rw [List.toList_toArray, secC_set h128 n (by omega) b hb] at this
        rw [flS, hx]
        exact this
      have HT := Lib.hid hT
      have HI3 := Lib.hid (show (Try.prog.info? 69).map (·.size) = some (bv b).length by rw [bv_length, hb]; kernel_rfl)
      have HI4 := Lib.hid (show (Try.prog.info? 69).map (·.size) = some (bv b).toArray.size by rw [List.size_toArray]; exact HI3.out)
      have HB1 := Lib.hid (show (bv b).toArray.all (·.oneCell') = true from all_oneCell_toArray (bv_all b))
      have HK5 := Lib.hid hK5
      have HE := Lib.hid (show i + 1 ≤ C.length ∧ i < C.length ∧ (W1.drew.setCells sb (n * 128) (bv b).toArray.toList).ownsRow B 69 128 (.slice (some ⟨sb, 0, none⟩) N sc) N (secC (flS C S (i + 1))) ∧ Kept (fun b => b ≠ sb) w (W1.drew.setCells sb (n * 128) (bv b).toArray.toList) from ⟨hlt, hlt, hsec5, hk1.trans hK5⟩)
      have n0 : (0 : Int) ≤ (n : Int) := by omega
      have n1 : (n : Int) < (N : Int) := by omega
      have X1 := Lib.hid (wrap64_in' ((i : Int) + 1) (by have := HN.out.2.2.1; omega))
      clear hx hxl hi hlt hsec hk hdev hcac hst hzb hsec1 hk1 hzs hlS h128 hn hb hT hK5 hsec5 hz hW1 q0 e0 e1 e2 e3 e4 hI hi0
      try simp only [Act.put]
      refine wp_region_held_drew (S := (fun W => W.cell? ⟨b0, 0, none⟩ = some (.pointer (some ⟨d, 0, none⟩)) ∧ W.cell? ⟨d, 0, none⟩ = some (.slice (some ⟨sb, 0, none⟩) N sc) ∧ W.cell? ⟨z, 0, none⟩ = some (.int .i64 (n : Int)) ∧ W.rangeAt z 1 (bv b))) (by kernel_rfl) (HSS.out _ ((Kept.refl _ W1).drew)) (fun hHeld => ?_)
      refine wpAnyH_take (i := 0) (v := ?_) rfl (by kernel_rfl) (by kernel_rfl) (by kernel_rfl) (fun _ _ _ h => h) (Or.inl ⟨by kernel_rfl, ?_⟩) (by assumption) ?_
      rotate_left
      · intro w hSw; (try dsimp only at hSw); go_simp; try with_reducible rfl
      simp only [Act.put, List.getElem_toArray, List.getElem_cons_succ, List.getElem_cons_zero, List.setIfInBounds_toArray, List.set_cons_zero, List.set_cons_succ]
      refine wpAnyH_take (i := 1) (v := ?_) rfl (by kernel_rfl) (by kernel_rfl) (by kernel_rfl) (fun _ _ _ h => h) (Or.inl ⟨by kernel_rfl, ?_⟩) (by assumption) ?_
      rotate_left
      · intro w hSw; (try dsimp only at hSw); go_simp; try with_reducible rfl
      simp only [Act.put, List.getElem_toArray, List.getElem_cons_succ, List.getElem_cons_zero, List.setIfInBounds_toArray, List.set_cons_zero, List.set_cons_succ]
      refine wpAnyH_take (i := 2) (v := ?_) rfl (by kernel_rfl) (by kernel_rfl) (by kernel_rfl) (fun _ _ _ h => h) (Or.inl ⟨by kernel_rfl, ?_⟩) (by assumption) ?_
      rotate_left
      · intro w hSw; (try dsimp only at hSw); go_simp; try with_reducible rfl
      simp only [Act.put, List.getElem_toArray, List.getElem_cons_succ, List.getElem_cons_zero, List.setIfInBounds_toArray, List.set_cons_zero, List.set_cons_succ]
      refine wpAnyH_take (i := 3) (v := ?_) rfl (by kernel_rfl) (by kernel_rfl) (by kernel_rfl) (fun _ _ _ h => h) (Or.inl ⟨by kernel_rfl, ?_⟩) (by assumption) ?_
      rotate_left
      · intro w hSw; (try dsimp only at hSw); go_simp; try with_reducible rfl
      simp only [Act.put, List.getElem_toArray, List.getElem_cons_succ, List.getElem_cons_zero, List.setIfInBounds_toArray, List.set_cons_zero, List.set_cons_succ]
      refine wpAnyH_take (i := 4) (v := ?_) rfl (by kernel_rfl) (by kernel_rfl) (by kernel_rfl) (fun _ _ _ h => h) (Or.inl ⟨by kernel_rfl, ?_⟩) (by assumption) ?_
      rotate_left
      · intro w hSw; (try dsimp only at hSw); go_simp; try with_reducible rfl
      simp only [Act.put, List.getElem_toArray, List.getElem_cons_succ, List.getElem_cons_zero, List.setIfInBounds_toArray, List.set_cons_zero, List.set_cons_succ]
      refine wpAnyH_take (i := 5) (v := ?_) rfl (by kernel_rfl) (by kernel_rfl) (by kernel_rfl) (fun _ _ _ h => h) (Or.inl ⟨by kernel_rfl, ?_⟩) (by assumption) ?_
      rotate_left
      · intro w hSw; (try dsimp only at hSw); go_simp; try with_reducible rfl
      simp only [Act.put, List.getElem_toArray, List.getElem_cons_succ, List.getElem_cons_zero, List.setIfInBounds_toArray, List.set_cons_zero, List.set_cons_succ]
      refine wpAnyH_take (i := 6) (v := ?_) rfl (by kernel_rfl) (by kernel_rfl) (by kernel_rfl) (fun _ _ _ h => h) (Or.inl ⟨by kernel_rfl, ?_⟩) (by assumption) ?_
      rotate_left
      · intro w hSw; (try dsimp only at hSw); go_simp; try with_reducible rfl
      simp only [Act.put, List.getElem_toArray, List.getElem_cons_succ, List.getElem_cons_zero, List.setIfInBounds_toArray, List.set_cons_zero, List.set_cons_succ]
      refine wpAnyH_take (i := 7) (v := (.agg (bv b).toArray)) rfl (by kernel_rfl) (by kernel_rfl) (by kernel_rfl) (fun _ _ _ h => h) (yieldsIf_load_mid (by kernel_rfl) _ _ rfl z 1 rfl (bv b) _ (fun w hw => hw.2.2.2) Try.underlying69 (by rfl) HI3.out) (by assumption) ?_
      simp only [Act.put, List.getElem_toArray, List.getElem_cons_succ, List.getElem_cons_zero, List.setIfInBounds_toArray, List.set_cons_zero, List.set_cons_succ]
      refine wpAnyH_take (i := 8) (v := ?_) rfl (by kernel_rfl) (by kernel_rfl) (by kernel_rfl) (fun _ _ _ h => h) (Or.inl ⟨by kernel_rfl, ?_⟩) (by assumption) ?_
      rotate_left
      · intro w hSw; (try dsimp only at hSw); go_simp; try with_reducible rfl
      simp only [Act.put, List.getElem_toArray, List.getElem_cons_succ, List.getElem_cons_zero, List.setIfInBounds_toArray, List.set_cons_zero, List.set_cons_succ]
      refine wpAnyH_ready (rs := [9]) (by kernel_rfl) (by simp) ?_
      refine AllReadyH.cons rfl (fun K hK => ?_) AllReadyH.nil
      refine wp_store_mid _ _ _ rfl sb (n * 128) (bv b).toArray rfl rfl HT.out HI4.out HB1.out ?_
      refine hK.out _ _ (HSS.out _ HK5.out) (fun hHeld => ?_)
      clear hK K
      try simp only [Act.put, List.getElem_toArray, List.getElem_cons_succ, List.getElem_cons_zero, List.setIfInBounds_toArray, List.set_cons_zero, List.set_cons_succ]
      refine wpAnyH_done (by kernel_rfl) ?_ _
      go_wp2_with fail
      rw [X1.out]
      exact ⟨⟨i + 1, HE.out.1, by push_cast; rfl, HE.out.2.2.1, HE.out.2.2.2⟩, by have := HE.out.2.1; simp [intOf]; omega⟩
    · obtain rfl : i = C.length := by omega
      have q1 := hdev.fr 1
      have HP := Lib.hid (show FlB w B d sb sc N (flS C S C.length) p dn k (wr.setCell ⟨d, 1, none⟩ (.slice none 0 0)) from
        ⟨hdev.set1 none 0 0, own_set_other hsec d 1 (by simp [Value.ownBlock]; exact fun e => Hnd.out e.symm) _, (hk.mono (fun k _ h => h.2)).setCell (fun h => h.1 rfl) _⟩)
      clear hlt hi hsec hk hdev hcac
      go_wp2_with fail
      go_end0
      exact ⟨⟨_, rfl⟩, HP.out⟩
end Go.Proofs.Ytpleaicpkpjkjaa
