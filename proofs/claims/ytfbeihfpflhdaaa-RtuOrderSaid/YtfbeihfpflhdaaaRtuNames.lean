/-
  The walk of RtuNames. Conditions: none (closed).
-/
import Derived.Test.YtfbeihfpflhdaaaRtuBad
namespace Go.Proofs.Ytfbeihfpflhdaaa
open Go Go.RowKit Go.Kw Go.Kw.Crc
set_option linter.unusedVariables false
set_option linter.unusedSimpArgs false

theorem due_nil (w : World) : Calls Try.prog 22 #[.pointer none] w fun e w' => e = .returned (.tuple #[.int .i64 0, .bool false]) ∧ w' = w := by
  go_enter Try.func22, Try.ntmps22
  go_wp2_with fail
  refine (none_nil _).mono ?_
  rintro e w' ⟨rfl, hww⟩
  rw [hww]
  clear hww
  go_wp2_with fail
  go_ret2
  exact ⟨rfl, rfl⟩
theorem held_nil (w : World) : Calls Try.prog 19 #[.pointer none] w fun e w' => e = .returned (.int .i64 0) ∧ Below w.heap.size w w' := by
  have hb1 := bstep w (.cells #[.pointer none] 41)
  have hc : (w.alloc (.cells #[.pointer none] 41)).cell? ⟨w.heap.size, 0, none⟩ = some (.pointer none) := by simp
  go_enter Try.func19, Try.ntmps19
  go_wp2_with fail
  refine (none_nil _).mono ?_
  rintro e w' ⟨rfl, hww⟩
  rw [hww]
  clear hww
  go_wp2_with fail
  go_ret
  exact ⟨rfl, Below.refl _ _⟩
theorem reset_nil (w : World) : Calls Try.prog 20 #[.pointer none] w fun e w' => (∃ v, e = .returned v) ∧ w' = w := by
  go_enter Try.func20, Try.ntmps20
  go_wp2_with fail
  refine (none_nil _).mono ?_
  rintro e w' ⟨rfl, hww⟩
  rw [hww]
  clear hww
  go_wp2_with fail
  go_end0
  exact ⟨⟨_, rfl⟩, rfl⟩
theorem bad_zero (p : Nat) (w : World) (hc : w.cell? ⟨p, 0, none⟩ = some (.int .i64 0)) : Calls Try.prog 18 #[.pointer (some ⟨p, 0, none⟩)] w fun e w' => e = .returned (.int .i64 0) ∧ w' = w := by
  go_enter Try.func18, Try.ntmps18
  go_wp2_with fail
  refine (none_zero p _ hc).mono ?_
  rintro e w' ⟨rfl, hww⟩
  rw [hww]
  clear hww
  go_wp2_with fail
  go_ret
  exact ⟨rfl, rfl⟩
theorem new_no (s : Int) (hs : s < 1 ∨ 1099511627776 < s) (w : World) : Calls Try.prog 16 #[.int .i64 s] w fun e w' => e = .returned (.tuple #[.pointer none, .int .i64 2]) ∧ w' = w := by
  by_cases h : s < 1
  · have k1 : decide (s < 1) = true := by simp; omega
    clear h hs
    go_enter Try.func16, Try.ntmps16
    go_wp2_with fail
    go_ret2
    exact ⟨rfl, rfl⟩
  · have k1 : decide (s < 1) = false := by simp; omega
    have k2 : decide (1099511627776 < s) = true := by simp; omega
    clear h hs
    go_enter Try.func16, Try.ntmps16
    go_wp2_with fail
    go_ret2
    exact ⟨rfl, rfl⟩
theorem idle_zero (p : Nat) (t : Int) (w : World) (hc : w.cell? ⟨p, 0, none⟩ = some (.int .i64 0)) : Calls Try.prog 21 #[.pointer (some ⟨p, 0, none⟩), .int .i64 t] w fun e w' => e = .returned (.tuple #[fv 0 none 0 0, .bool false, .int .i64 1]) ∧ Below w.heap.size w w' := by
  have hb := bstep w (.cells #[.int .i64 0, .slice none 0 0] 24)
  refine idle_of _ t w (feed_zero p t none 0 0 _ ((hb.cell (p := ⟨p, 0, none⟩) (block_lt hc)).trans hc)) ?_ ?_
  · rintro e w' ⟨he, hb'⟩
    exact ⟨_, _, _, _, _, _, he, (Box2.new w _ _ _).below hb'⟩
  · rintro u A n c ok z w' ⟨he, hb'⟩
    exact ⟨he, ((hb.trans (hb'.mono hb.size)).setCell (p := ⟨w.heap.size, 0, none⟩) (Nat.le_refl _) _).setCell (p := ⟨w.heap.size, 1, none⟩) (Nat.le_refl _) _⟩
theorem bytes_no (u : Int) (l : List UInt8) (A : Option Addr) (n c : Nat) (hn : l.length = n) (hl : n ≤ 1000) (h : bytesOf u l = none) (w : World) (hR : RdB w w.heap.size A l) (hz : A = none → n = 0) :
    Calls Try.prog 8 #[.agg #[.int .i64 u, .slice A n c]] w fun e w' => e = .returned (.tuple #[.slice none 0 0, .int .i64 200]) ∧ Below w.heap.size w w' := by
  subst hn
  have := rtuBytes_calls u A c l (by omega) w hR hz
  rw [h] at this
  exact this
theorem read_no (l : List UInt8) (A : Option Addr) (n c : Nat) (hn : n = l.length) (hl : n ≤ 1000) (h : readOf l = none) (w : World) (hR : RdB w w.heap.size A l) (hz : A = none → l.length = 0) (hc : n ≤ c) (hc2 : c ≤ 9223372036854775807) :
    Calls Try.prog 10 #[.slice A n c] w fun e w' => e = .returned (.tuple #[.agg #[.int .i64 0, .slice none 0 0], .int .i64 200]) ∧ Below w.heap.size w w' := by
  subst hn
  have := rtuRead_calls A c l (by omega) w hR hz hc hc2
  rw [h] at this
  exact this
theorem rn1 : bytesOf 248 [1] = none := by decide +kernel
theorem rn2 : bytesOf 1 [] = none := by decide +kernel
theorem rn3 : bytesOf 1 (List.replicate 254 0) = none := by decide +kernel
theorem rn4 : readOf [1, 3, 0, 0, 0, 10, 197] = none := by decide +kernel
theorem rn5 : readOf [] = none := by decide +kernel
theorem rn6 : readOf ([[1, 3]] : List (List UInt8)).flatten = none := by decide +kernel
theorem made_zeros (n : Nat) : (madeCells (Value.int .u8 0).cells (n * 1)).toList = bv (List.replicate n 0) := by
  unfold madeCells bv
  apply List.ext_getElem?
  intro i
  by_cases h : i < n <;> simp [Value.cells, h, List.getElem?_replicate, Nat.mod_one]

set_option maxRecDepth 100000 in
set_option maxHeartbeats 8000000 in
theorem rtuNames_walk (w : World) : Calls Try.prog 5 #[] w fun e w' => e = .returned (.bool true) ∧ Below w.heap.size w w' := by
  go_enter Try.func5, Try.ntmps5
  go_wp2_with fail
  refine (some_calls _).mono ?_
  rintro e w1 ⟨⟨A, c, B, d, rfl, r1, n1, o1⟩, hb1⟩
  unfold fv
  have hb12 := bstep w1 (.cells #[.int .i64 1, .slice A 5 c] 24)
  have bx := Box2.new w1 24 (.int .i64 1) (.slice A 5 c)
  have ob := (rdB_own o1).1.go hb12
  have rA := r1.go hb12
  have hd : (2 : Int) ≤ (d : Int) ∧ (3 : Int) ≤ (d : Int) ∧ (7 : Int) ≤ (d : Int) := by have := (own_caps o1).1; omega
  obtain ⟨hd2, hd3, hd7⟩ := hd
  have hd8 : 8 ≤ d := (own_caps o1).1
  have hdm := (own_caps o1).2
  obtain ⟨g2, rfl⟩ := own_some o1 (by simp)
  have hbw := hb1.trans (hb12.mono hb1.size)
  clear r1 o1 hb12 hb1
  go_wp2_with fail
  refine (new_calls 4 (by omega) (by omega) _).mono ?_
  rintro e w3 ⟨rfl, hw3⟩
  rw [World.size_alloc]
  have h3 := HoldG.newH (w1.alloc (.cells #[.int .i64 1, .slice A 5 c] 24)) (fun k => k < w1.heap.size + 1) 4 (w1.heap.size + 1) (by simp)
  have hb3 := bstep (w1.alloc (.cells #[.int .i64 1, .slice A 5 c] 24)) (.cells #[.int .i64 4, .slice none 0 0, .bool false, .int .i64 0, .int .i64 0, .int .i64 0] 50)
  have hz3 : w3.heap.size = w1.heap.size + 1 + 1 := by rw [hw3]; simp
  rw [← hw3] at h3 hb3
  simp only [World.size_alloc] at hb3 bx ob rA
  have r3 := RdB.below ob hb3
  have rA3 := RdB.below rA hb3
  have bx3 := bx.below (by simpa using hb3)
  have hlF : w1.heap.size < w1.heap.size + 1 := by omega
  have hbw3 : Below w.heap.size w w3 := hbw.trans (hb3.mono (by have := hbw.size; simpa using this))
  have hlw : w.heap.size ≤ w1.heap.size + 1 := by have := hbw.size; simpa using this
  clear hw3 bx ob rA hb3 hbw
  generalize hF : w1.heap.size = F at *
  generalize hg : F + 1 = g at *
  clear hF
  have hSw : ∀ W : World, g + 1 ≤ W.heap.size → ∀ k, k < g → k < W.heap.size := fun W h k hk => by omega
  have Hbx : Hid (∀ W : World, Below g w3 W → Box2 W F 24 (.int .i64 1) (.slice A 5 c)) := fun W h => (h.block _ hlF).trans bx3
  have HrA : Hid (∀ W : World, Below g w3 W → g ≤ W.heap.size → RdB W W.heap.size A [3, 0, 0, 0, 10]) := fun W h hs => (RdB.below rA3 h).more hs
  have Hr : Hid (∀ W : World, Below g w3 W → g ≤ W.heap.size → RdB W W.heap.size (some ⟨g2, 0, none⟩) [1, 3, 0, 0, 0, 10, 197, 205]) := fun W h hs => (RdB.below r3 h).more hs
  have b3 := Below.refl g w3
  have hz3 : g + 1 ≤ w3.heap.size := by omega
  clear bx3 rA3 r3
  go_wp2_with fail
  refine (feed_takeN g 4 (by omega) (by omega) [] (by simp) 0 rfl (by omega) 0 0 0 20 (some ⟨g2, 0, none⟩) d 2 [1, 3] rfl (by omega) (by omega) (by omega) hdm (by omega) (by omega) (by omega) (by omega) (by omega) (.inl rfl) [[1, 3]] rfl false (by decide) w3 h3 (rdB_take8 (Hr.out w3 b3 (by omega)) 2 (by omega) _ rfl) (hSw w3 (by omega))).mono ?_
  rintro e w4 ⟨rfl, h4, k4⟩
  unfold fv
  have b4 := keptLow k4 (by omega)
  have hb5 := bstep w4 (.cells #[.int .i64 0, .slice none 0 0] 24)
  have hz4 : g + 1 ≤ w4.heap.size := by have := k4.size; omega
  have h5 := h4.go hb5
  have b5 := b4.trans (hb5.mono (by omega))
  have hz5 := Nat.le_trans hz4 hb5.size
  obtain ⟨A5, c5, G5⟩ := h5.box
  clear h3 k4 h4 b4 hb5 hz4 b3
  go_wp2_with fail
  refine (feed_endtake g 4 (by omega) (by omega) [[1, 3]] (by simp) (by simp) (by simp) false 20 20 0 24 (by omega) (by omega) (some ⟨g2, 0, none⟩) d 3 [1, 3, 0] rfl (by omega) (by omega) (by omega) hdm (by omega) (by omega) (by omega) (by omega) (by omega) (by omega) _ h5 (rdB_take8 (Hr.out _ b5 (by omega)) 3 (by omega) _ rfl) (fun b off x hc e => G5.no8 off x (e ▸ hc)) (hSw _ hz5)).mono ?_
  rintro e w6 hx
  obtain ⟨A6, c6, rfl, h6, k6⟩ := hx.none_ (.inr rn6)
  rw [show ([1, 3, 0] : List UInt8).take 256 = [1, 3, 0] from rfl, show decide (256 < ((3 : Nat) : Int)) = false by decide, show (0 : Int) + 1 = 1 from rfl] at h6
  unfold fv
  have b6 := b5.trans (keptLow k6 (by omega))
  have hb7 := bstep w6 (.cells #[.int .i64 0, .slice A6 0 c6] 24)
  have hz6 : g + 1 ≤ w6.heap.size := by have := k6.size; omega
  have h7 := h6.go hb7
  have b7 := b6.trans (hb7.mono (by omega))
  have hz7 := Nat.le_trans hz6 hb7.size
  obtain ⟨A7, c7, G7⟩ := h7.box
  clear h5 hx k6 h6 b6 hb7 hz6 b5 hz5 G5
  go_wp2_with fail
  refine (badB_calls g 4 (by omega) _ _ _ _ _ _ G7).mono ?_
  rintro e w' ⟨rfl, hww⟩
  rw [hww]
  clear hww
  go_wp2_with fail
  refine (heldG_calls g 4 (by omega) [[1, 3, 0]] (by simp) (by simp) _ _ _ _ _ h7).mono ?_
  rintro e w8 ⟨rfl, hb8⟩
  have h8 := h7.go hb8
  have b8 := b7.trans (hb8.mono (by omega))
  have hz8 := Nat.le_trans hz7 hb8.size
  clear h7 hb8 b7 hz7 G7
  simp only [List.flatten_cons, List.flatten_nil, List.append_nil, List.length_cons, List.length_nil, Nat.reduceAdd]
  go_wp2_with fail
  refine (feed_arg g 4 (by omega) _ _ _ _ _ 23 none 0 0 (.inl (by omega)) _ h8).mono ?_
  rintro e w9 ⟨rfl, hx⟩
  unfold fv
  have hb9 := hx.trans ((bstep w9 (.cells #[.int .i64 0, .slice none 0 0] 24)).mono hx.size)
  have h9 := h8.go hb9
  have b9 := b8.trans (hb9.mono (by omega))
  have hz9 := Nat.le_trans hz8 hb9.size
  clear h8 hx hb9 b8 hz8
  go_wp2_with fail
  refine (feed_arg g 4 (by omega) _ _ _ _ _ (-1) none 0 0 (.inl (by omega)) _ h9).mono ?_
  rintro e w10 ⟨rfl, hx⟩
  unfold fv
  have hb10 := hx.trans ((bstep w10 (.cells #[.int .i64 0, .slice none 0 0] 24)).mono hx.size)
  have h10 := h9.go hb10
  have b10 := b9.trans (hb10.mono (by omega))
  have hz10 := Nat.le_trans hz9 hb10.size
  clear h9 hx hb10 b9 hz9
  go_wp2_with fail
  refine (feed_arg g 4 (by omega) _ _ _ _ _ 4611686018427387905 none 0 0 (.inr (by omega)) _ h10).mono ?_
  rintro e w11 ⟨rfl, hx⟩
  unfold fv
  have hb11 := hx.trans ((bstep w11 (.cells #[.int .i64 0, .slice none 0 0] 24)).mono hx.size)
  have h11 := h10.go hb11
  have b11 := b10.trans (hb11.mono (by omega))
  have hz11 := Nat.le_trans hz10 hb11.size
  obtain ⟨A11, c11, G11⟩ := h11.box
  clear h10 hx hb11 b10 hz10 h11
  go_wp2_with fail
  refine (reset_k g 4 (by omega) _ _ _ _ _ _ G11).mono ?_
  rintro e w12 ⟨⟨v12, rfl⟩, G12, k12⟩
  have b12 := b11.trans (k12.below (by omega) (fun k hk => by omega))
  have hz12 := Nat.le_trans hz11 k12.size
  clear G11 k12 b11 hz11
  obtain ⟨w13, hrun, o13, g13⟩ := runMake (P := Try.prog) w12 w12.heap.size eb 257 (by omega) (by unfold maxLen; omega) (Nat.le_refl _)
  rw [made_zeros] at o13
  have hb13 := (Below.refl _ w12).grown g13 (Nat.le_refl _) (by simp)
  have hrun' := Lib.hid (show (Instr.makeSlice 22 (.int .i64 257) (.int .i64 257)).run Try.prog w12 = _ from hrun)
  have h13 := HoldG.nil (S := fun k => k < g) (G12.below hb13)
  have b13 := b12.trans (hb13.mono (by omega))
  have hz13 := Nat.le_trans hz12 hb13.size
  have hr13 := (rdB_own o13).1
  clear g13 hrun b12 hz12 hb13 G12 o13
  go_wp2_with (at_make; refine wpList_make_run hrun'.out rfl rfl rfl rfl ?_)
  refine (feed_takeN g 4 (by omega) (by omega) [] (by simp) 0 rfl (by omega) 24 24 1 30 (some ⟨w12.heap.size, 0, none⟩) 257 257 (List.replicate 257 0) (by simp) (by omega) (by omega) (by omega) (by omega) (by omega) (by omega) (by omega) (by omega) (by omega) (.inl rfl) [List.replicate 256 0] (by simp) true (by decide) w13 h13 hr13 (hSw _ hz13)).mono ?_
  rintro e w14 ⟨rfl, h14, k14⟩
  have b14 := b13.trans (keptLow k14 (by omega))
  have hz14 : g + 1 ≤ w14.heap.size := by have := k14.size; omega
  clear hrun' hr13 h13 k14 b13 hz13
  go_wp2_with fail
  refine (heldG_calls g 4 (by omega) [List.replicate 256 0] (by simp) (by simp) _ _ _ _ _ h14).mono ?_
  rintro e w15 ⟨rfl, hb15⟩
  have h15 := h14.go hb15
  have b15 := b14.trans (hb15.mono (by omega))
  have hz15 := Nat.le_trans hz14 hb15.size
  rw [show (([List.replicate 256 0] : List (List UInt8)).flatten.length : Nat) = 256 by simp]
  clear h14 hb15 b14 hz14
  go_wp2_with fail
  refine (idle_end g 4 (by omega) (by omega) [List.replicate 256 0] (by simp) (by simp) (by simp) true 30 30 1 34 (by omega) (by omega) (by omega) (by omega) (by omega) (by omega) (by omega) (by omega) _ h15 (hSw _ hz15)).mono ?_
  rintro e w16 hx
  obtain ⟨A16, c16, rfl, G16, k16⟩ := hx.none_ (.inl rfl)
  rw [show (1 : Int) + 1 = 2 from rfl] at G16
  unfold fv
  have hb17 := bstep w16 (.cells #[.int .i64 0, .slice A16 0 c16] 24)
  have b16 := b15.trans (keptLow k16 (by omega))
  have hz16 : g + 1 ≤ w16.heap.size := by have := k16.size; omega
  have G17 := G16.below hb17
  have b17 := b16.trans (hb17.mono (by omega))
  have hz17 := Nat.le_trans hz16 hb17.size
  clear h15 hx k16 G16 b15 hz15 b16 hz16 hb17 hSw
  go_wp2_with fail
  refine (badB_calls g 4 (by omega) _ _ _ _ _ _ G17).mono ?_
  rintro e w' ⟨rfl, hww⟩
  rw [hww]
  clear hww G17
  generalize (w16.alloc (.cells #[.int .i64 0, .slice A16 0 c16] 24)) = w17 at *
  go_wp2_with fail
  have r1 := rdB_new w17 #[.int .u8 1] 5 (0, 0) [1] rfl
  refine (bytes_no 248 [1] (some ⟨w17.heap.size, 0, none⟩) 1 1 rfl (by omega) rn1 _ (by simpa using r1) (by simp)).mono ?_
  rintro e w18 ⟨rfl, hx⟩
  have b18 := b17.trans (((bstep w17 (.cells #[.int .u8 1] 5)).trans (hx.mono (by simp))).mono (by omega))
  have hz18 : g + 1 ≤ w18.heap.size := by have := hx.size; simp at this; omega
  clear hx r1 b17 hz17
  go_wp2_with fail
  refine (bytes_no 1 [] none 0 0 rfl (by omega) rn2 _ (.inl rfl) (by simp)).mono ?_
  rintro e w19 ⟨rfl, hx⟩
  have b19 := b18.trans (hx.mono (by omega))
  have hz19 : g + 1 ≤ w19.heap.size := by have := hx.size; omega
  clear hx b18 hz18
  obtain ⟨w20, hrun, o20, g20⟩ := runMake (P := Try.prog) w19 w19.heap.size eb 254 (by omega) (by unfold maxLen; omega) (Nat.le_refl _)
  rw [made_zeros] at o20
  have hb20 := (Below.refl _ w19).grown g20 (Nat.le_refl _) (by simp)
  have hrun' := Lib.hid (show (Instr.makeSlice 22 (.int .i64 254) (.int .i64 254)).run Try.prog w19 = _ from hrun)
  have b20 := b19.trans (hb20.mono (by omega))
  have hz20 := Nat.le_trans hz19 hb20.size
  clear g20 hrun b19 hz19 hb20
  go_wp2_with (at_make; refine wpList_make_run hrun'.out rfl rfl rfl rfl ?_)
  refine (bytes_no 1 (List.replicate 254 0) (some ⟨w19.heap.size, 0, none⟩) 254 254 (by simp) (by omega) rn3 _ (rdB_own o20).1 (by simp)).mono ?_
  rintro e w21 ⟨rfl, hx⟩
  have b21 := b20.trans (hx.mono (by omega))
  have hz21 : g + 1 ≤ w21.heap.size := by have := hx.size; omega
  clear hx b20 hz20 o20 hrun'
  go_wp2_with fail
  refine (read_no [1, 3, 0, 0, 0, 10, 197] (some ⟨g2, 0, none⟩) 7 d rfl (by omega) rn4 _ (rdB_take8 (Hr.out _ b21 (by omega)) 7 (by omega) _ rfl) (by simp) (by omega) hdm).mono ?_
  rintro e w22 ⟨rfl, hx⟩
  have b22 := b21.trans (hx.mono (by omega))
  have hz22 : g + 1 ≤ w22.heap.size := by have := hx.size; omega
  have hb23 := bstep w22 (.cells #[.int .i64 0, .slice none 0 0] 24)
  have b23 := b22.trans (hb23.mono (by omega))
  have hz23 := Nat.le_trans hz22 hb23.size
  clear hx b21 hz21 b22 hz22 hb23
  go_wp2_with fail
  generalize (w22.alloc (.cells #[.int .i64 0, .slice none 0 0] 24)) = w23 at *
  refine (read_no [] none 0 0 rfl (by omega) rn5 _ (.inl rfl) (by simp) (by omega) (by omega)).mono ?_
  rintro e w24 ⟨rfl, hx⟩
  have b24 := b23.trans (hx.mono (by omega))
  have hz24 : g + 1 ≤ w24.heap.size := by have := hx.size; omega
  have hb25 := bstep w24 (.cells #[.int .i64 0, .slice none 0 0] 24)
  have b25 := b24.trans (hb25.mono (by omega))
  have hz25 := Nat.le_trans hz24 hb25.size
  clear hx b23 hz23 b24 hz24 hb25
  go_wp2_with fail
  generalize (w24.alloc (.cells #[.int .i64 0, .slice none 0 0] 24)) = w25 at *
  refine (new_no 0 (.inl (by omega)) _).mono ?_
  rintro e w' ⟨rfl, hww⟩
  rw [hww]
  clear hww
  go_wp2_with fail
  refine (new_no 1099511627777 (.inr (by omega)) _).mono ?_
  rintro e w' ⟨rfl, hww⟩
  rw [hww]
  clear hww
  have GZ := GBox.new w25 0 (.slice none 0 0) false 0 0 0
  have hb26 := bstep w25 (.cells #[.int .i64 0, .slice none 0 0, .bool false, .int .i64 0, .int .i64 0, .int .i64 0] 50)
  have b26 := b25.trans (hb26.mono (by omega))
  have hz26 := Nat.le_trans hz25 hb26.size
  clear b25 hz25 hb26
  go_wp2_with fail
  refine (feed_nil 0 none 0 0 _).mono ?_
  rintro e w27 ⟨rfl, hx⟩
  unfold fv
  have hy := hx.trans ((bstep w27 (.cells #[.int .i64 0, .slice none 0 0] 24)).mono hx.size)
  have G28 := GZ.below hy
  have b28 := b26.trans (hy.mono (by omega))
  have hz28 := Nat.le_trans hz26 hy.size
  clear GZ b26 hz26 hx hy
  generalize w25.heap.size = zp at *
  go_wp2_with fail
  refine (idle_zero zp 0 _ G28.c0).mono ?_
  rintro e w29 ⟨rfl, hx⟩
  unfold fv
  have hy := hx.trans ((bstep w29 (.cells #[.int .i64 0, .slice none 0 0] 24)).mono hx.size)
  have G30 := G28.below hy
  have b30 := b28.trans (hy.mono (by omega))
  have hz30 := Nat.le_trans hz28 hy.size
  clear G28 b28 hz28 hx hy
  go_wp2_with fail
  refine (due_nil _).mono ?_
  rintro e w' ⟨rfl, hww⟩
  rw [hww]
  clear hww
  go_wp2_with fail
  refine (reset_nil _).mono ?_
  rintro e w' ⟨⟨v, rfl⟩, hww⟩
  rw [hww]
  clear hww
  go_wp2_with fail
  refine (alive_calls _).mono ?_
  rintro e w31 ⟨rfl, hx⟩
  have G31 := G30.below hx
  have b31 := b30.trans (hx.mono (by omega))
  have hz31 := Nat.le_trans hz30 hx.size
  clear G30 b30 hz30 hx
  go_wp2_with fail
  refine (held_nil _).mono ?_
  rintro e w32 ⟨rfl, hx⟩
  have G32 := G31.below hx
  have b32 := b31.trans (hx.mono (by omega))
  have hz32 := Nat.le_trans hz31 hx.size
  clear G31 b31 hz31 hx
  go_wp2_with fail
  refine (bad_zero zp _ G32.c0).mono ?_
  rintro e w' ⟨rfl, hww⟩
  rw [hww]
  clear hww
  have e0 := (Hbx.out _ b32).c0
  have e1 := (Hbx.out _ b32).c1
  have Hsame := Lib.hid (rtuSame_calls 1 2 A A c c [3, 0, 0, 0, 10] [3, 0, 0, 0, 10] (by simp) (by simp) w32 (HrA.out _ b32 (by omega)) (HrA.out _ b32 (by omega)))
  have hbw32 := hbw3.trans (b32.mono hlw)
  clear G32
  go_wp2_with fail
  refine Hsame.out.mono ?_
  rintro e w33 ⟨rfl, hx⟩
  go_wp2_with fail
  go_ret
  exact ⟨by simp, hbw32.trans (hx.mono hbw32.size)⟩
end Go.Proofs.Ytfbeihfpflhdaaa
