/-
  The sums of package crc and of the document, walked: what each computes in the spelling of the walk. Conditions: at most 1,000,000 bytes.
-/
import Derived.Test.YtfbeihfpflhdaaaCrcBits
import Derived.ProofKit
import Derived.LoopTactic
namespace Go.Proofs.Ytfbeihfpflhdaaa
open Go Go.RowKit Go.Kw Go.Shelf
attribute [local go_sem] Oper.semAt_some
set_option linter.unusedVariables false
set_option linter.unusedSimpArgs false

/-- One bit goes in, as the walk spells it. -/
def stepI (k : IntKind) (poly n x : Int) : Int := if (bits .xor k (bits .and k n 1) x == 0) = true then n / 2 else bits .xor k (n / 2) poly
def foldI (k : IntKind) (poly n : Int) (xs : List Int) : Int := xs.foldl (stepI k poly) n

theorem foldI_snoc (k : IntKind) (poly n : Int) (xs : List Int) (j : Nat) (x : Int) (h : xs[j]? = some x) : foldI k poly n (xs.take (j + 1)) = stepI k poly (foldI k poly n (xs.take j)) x := by
  obtain ⟨hlt, rfl⟩ := List.getElem?_eq_some_iff.1 h
  unfold foldI
  rw [List.take_succ_eq_append_getElem hlt, List.foldl_append]
  rfl

theorem bits_calls (A : Option Addr) (n c : Nat) (w : World) :
    Calls Try.prog 38 #[.slice A n c] w fun e w' => e = .returned (.func (.func 39) #[] #[.pointer (some ⟨w.heap.size, 0, none⟩)]) ∧ w' = w.alloc (.cells #[.slice A n c] 22) := by
  go_enter Try.func38, Try.ntmps38
  go_wp2
  go_ret
  exact ⟨rfl, rfl⟩

set_option maxRecDepth 100000 in
set_option maxHeartbeats 2000000 in
theorem sum16_calls (n0 poly : Int) (A : Option Addr) (c : Nat) (l : List UInt8) (hl : l.length ≤ 2000000) (w : World) (hR : RdB w w.heap.size A l) :
    Calls Try.prog 37 #[.int .u16 n0, .int .u16 poly, .slice A l.length c] w fun e w' => e = .returned (.int .u16 (foldI .u16 poly n0 (bitsL l))) ∧ Below w.heap.size w w' := by
  have hF := wide_fn
  refine calls_of_marks Try.func37 rfl ?_
  simp only [Try.ntmps37, List.size_toArray, List.length_cons, List.length_nil, Nat.reduceAdd, Nat.reduceSub, Array.replicate_succ, Array.replicate_zero, List.push_toArray, List.append_toArray, List.nil_append, List.cons_append]
  gi_wp2_with (first | (refine wpIn_scope ?_) | (refine wpIn_label ?_) | (gi_at_call 38; refine (callsIn_wide.2 (bits_calls _ _ _ _)).mono ?_; rintro e w' ⟨rfl, rfl⟩))
  have bN := ((Boxed.new w 36 (.int .u16 n0)).alloc (.cells #[.int .u16 poly] 36)).alloc (.cells #[.slice A l.length c] 22)
  have bP := (Boxed.new (w.alloc (.cells #[.int .u16 n0] 36)) 36 (.int .u16 poly)).alloc (.cells #[.slice A l.length c] 22)
  have bB := Boxed.new ((w.alloc (.cells #[.int .u16 n0] 36)).alloc (.cells #[.int .u16 poly] 36)) 22 (.slice A l.length c)
  have hB0 : Below w.heap.size w (((w.alloc (.cells #[.int .u16 n0] 36)).alloc (.cells #[.int .u16 poly] 36)).alloc (.cells #[.slice A l.length c] 22)) :=
    (((Below.refl _ w).alloc (Nat.le_refl _) _).alloc (by simp) _).alloc (by simp; omega) _
  simp only [World.size_alloc] at bP bB
  obtain ⟨W0, hW0⟩ : ∃ W0, (((w.alloc (.cells #[.int .u16 n0] 36)).alloc (.cells #[.int .u16 poly] 36)).alloc (.cells #[.slice A l.length c] 22)) = W0 := ⟨_, rfl⟩
  have hs0 : W0.heap.size = w.heap.size + 1 + 1 + 1 := by rw [← hW0]; simp
  rw [hW0] at bN bP bB hB0 ⊢
  refine wpIn_rangeX rfl (by decide) (gf := 39) (lb := #[.pointer (some ⟨w.heap.size + 1 + 1, 0, none⟩)]) rfl trivial (enters_of Try.func39 (by kernel_rfl) rfl)
    (bits_seq (w.heap.size + 1 + 1) w.heap.size A c l hl) (fun A B h => h ▸ KeepsOthers.refl _) (fun _ => rfl)
    ((cell_own _ _ _).and (RdB.own _ _ _ _)) (fun _ => RdB.own _ _ _ _) (OwnW.const _) (fun _ => OwnW.const _) ⟨bB.cell, hR.below hB0⟩
    (fun k W => Boxed W w.heap.size 36 (.int .u16 (foldI .u16 poly n0 ((bitsL l).take k))) ∧ Boxed W (w.heap.size + 1) 36 (.int .u16 poly) ∧ (Below w.heap.size w W ∧ w.heap.size ≤ W.heap.size))
    (fun _ _ _ => False)
    (fun k => (boxed_ownW _ _ _ _).and ((boxed_ownW _ _ _ _).and (below_own (by omega)))) (fun _ _ => OwnW.const _) (fun k A B h e => e ▸ h) (fun _ _ _ _ h _ => h)
    ⟨by simpa [foldI] using bN, bP, hB0, by omega⟩ ?round ?done ?stop
  case round =>
    rintro lo k x W hx _ _
    gi_wp2
    refine ⟨trivial, ?_⟩
    rintro W1 ⟨hn, hp, hB⟩ hG hsz
    obtain ⟨hx0, hx1⟩ := bitsL_bd hx
    have hcn := hn.cell
    have hfn := hn.frozen
    have hcp := hp.cell
    gi_wp2
    · have ht : (bits .xor .u16 (bits .and .u16 (foldI .u16 poly n0 ((bitsL l).take k)) 1) x == 0) = true := by assumption
      refine ⟨KeepsOthers.setCell _ _ _, hG.setCell (Nat.le_refl _) _, ?_, hp.kept (grownBy_setCell' _ _ _) (by simp), hB.1.setCell (Nat.le_refl _) _, Nat.le_trans hB.2 (KeepsOthers.setCell _ _ _).size⟩
      rw [foldI_snoc _ _ _ _ _ _ hx, stepI, if_pos ht]
      exact hn.set _
    · have ht : (bits .xor .u16 (bits .and .u16 (foldI .u16 poly n0 ((bitsL l).take k)) 1) x == 0) = false := by assumption
      refine ⟨(KeepsOthers.setCell _ _ _).trans (KeepsOthers.setCell _ _ _), (hG.setCell (Nat.le_refl _) _).setCell (Nat.le_refl _) _, ?_, (hp.kept (grownBy_setCell' _ _ _) (by simp)).kept (grownBy_setCell' _ _ _) (by simp), (hB.1.setCell (Nat.le_refl _) _).setCell (Nat.le_refl _) _, Nat.le_trans hB.2 ((KeepsOthers.setCell _ _ _).trans (KeepsOthers.setCell _ _ _)).size⟩
      rw [foldI_snoc _ _ _ _ _ _ hx, stepI, if_neg (by rw [ht]; simp)]
      exact (hn.set _).set _
  case done =>
    rintro D W hD ⟨hn, hp, hB⟩ _ hK
    have hcn := hn.cell
    gi_wp2
    refine ⟨by simp, .inl ⟨_, _, rfl, run_takeDeferred hK, ?_⟩⟩
    exact ⟨_, results_tmp rfl _ _ _, rfl, hB.1.putObj (by omega) hB.2 _⟩
  case stop =>
    rintro D c k W _ _ h _ _
    exact h.elim
theorem more16_calls (n0 : Int) (A : Option Addr) (c : Nat) (l : List UInt8) (hl : l.length ≤ 2000000) (w : World) (hR : RdB w w.heap.size A l) :
    Calls Try.prog 36 #[.int .u16 n0, .slice A l.length c] w fun e w' => e = .returned (.int .u16 (foldI .u16 40961 n0 (bitsL l))) ∧ Below w.heap.size w w' := by
  go_enter Try.func36, Try.ntmps36
  go_wp2_with (go_at_call 37; refine (sum16_calls _ _ _ _ _ hl _ hR).mono ?_; rintro e w' ⟨rfl, hb⟩)
  go_ret
  exact ⟨rfl, hb⟩
theorem sumOf16_calls (A : Option Addr) (c : Nat) (l : List UInt8) (hl : l.length ≤ 2000000) (w : World) (hR : RdB w w.heap.size A l) :
    Calls Try.prog 31 #[.slice A l.length c] w fun e w' => e = .returned (.int .u16 (foldI .u16 40961 65535 (bitsL l))) ∧ Below w.heap.size w w' := by
  go_enter Try.func31, Try.ntmps31
  go_wp2_with (go_at_call 36; refine (more16_calls _ _ _ _ hl _ hR).mono ?_; rintro e w' ⟨rfl, hb⟩)
  go_ret
  exact ⟨rfl, hb⟩
/-- The complement of 32 bits, as the walk spells it. -/
def notI (n : Int) : Int := bits .xor .u32 IntKind.u32.max n
/-- One turn of the document's inner loop, as the walk spells it. -/
def rstep (k : IntKind) (poly n : Int) : Int := if (bits .and k n 1 == 1) = true then bits .xor k (n / 2) poly else n / 2
def rturns (k : IntKind) (poly : Int) : Nat → Int → Int
  | 0, n => n
  | j + 1, n => rstep k poly (rturns k poly j n)
def rbyte (k : IntKind) (poly n x : Int) : Int := rturns k poly 8 (bits .xor k n x)
def rfold (k : IntKind) (poly n : Int) (l : List UInt8) (j : Nat) : Int := ((List.range j).map (bAt l)).foldl (rbyte k poly) n
theorem rfold_succ (k : IntKind) (poly n : Int) (l : List UInt8) (j : Nat) : rfold k poly n l (j + 1) = rbyte k poly (rfold k poly n l j) (bAt l j) := by
  unfold rfold
  rw [List.range_succ, List.map_append, List.foldl_append]
  rfl

set_option maxHeartbeats 400000 in
theorem ref16_calls (n0 : Int) (A : Option Addr) (c : Nat) (l : List UInt8) (hl : l.length ≤ 2000000) (w : World) (hR : RdB w w.heap.size A l) :
    Calls Try.prog 32 #[.int .u16 n0, .slice A l.length c] w fun e w' => e = .returned (.int .u16 (rfold .u16 40961 n0 l l.length)) ∧ w = w' := by
  go_enter Try.func32, Try.ntmps32
  go_wp2
  go_loop [0, 5, 6, 7] (fun s i _ _ => ∃ j : Nat, j ≤ l.length ∧ i = .int .i64 j ∧ s = .int .u16 (rfold .u16 40961 n0 l j)) (fun _ i _ _ => l.length - (intOf i).toNat)
  case atStart => exact ⟨0, by omega, rfl, rfl⟩
  case round =>
    obtain ⟨j, hj, rfl, rfl⟩ := hrel
    have hlo := bAt_lo l j
    have hhi := bAt_hi l j
    by_cases h : j < l.length
    · obtain ⟨b, off, rfl, hb, hcell⟩ := Rd.at_ hR h
      go_wp2
      go_loop [0, 6, 7] (fun s i _ => ∃ m : Nat, m ≤ 8 ∧ i = .int .i64 m ∧ s = .int .u16 (rturns .u16 40961 m (bits .xor .u16 (rfold .u16 40961 n0 l j) (bAt l j)))) (fun _ i _ => 8 - (intOf i).toNat)
      case atStart => exact ⟨0, by omega, rfl, rfl⟩
      case round =>
        obtain ⟨m, hm, rfl, rfl⟩ := hrel
        by_cases h8 : m < 8
        · go_wp2
          · have ht : (bits .and .u16 (rturns .u16 40961 m (bits .xor .u16 (rfold .u16 40961 n0 l j) (bAt l j))) 1 == 1) = true := by assumption
            go_round
            case rel => exact ⟨m + 1, by omega, by go_num, by rw [rturns, rstep, if_pos ht]⟩
            case measure => simp [intOf]; omega
          · have ht : (bits .and .u16 (rturns .u16 40961 m (bits .xor .u16 (rfold .u16 40961 n0 l j) (bAt l j))) 1 == 1) = false := by assumption
            go_round
            case rel => exact ⟨m + 1, by omega, by go_num, by rw [rturns, rstep, if_neg (by rw [ht]; simp)]⟩
            case measure => simp [intOf]; omega
        · obtain rfl : m = 8 := by omega
          go_wp2
          go_round
          case rel => exact ⟨j + 1, by omega, by go_num, by rw [rfold_succ]; rfl⟩
          case measure => simp [intOf]; omega
    · obtain rfl : j = l.length := by omega
      go_wp2
      go_ret
      exact ⟨rfl, rfl⟩
set_option maxHeartbeats 400000 in
theorem ref32_calls (n0 : Int) (A : Option Addr) (c : Nat) (l : List UInt8) (hl : l.length ≤ 2000000) (w : World) (hR : RdB w w.heap.size A l) :
    Calls Try.prog 33 #[.int .u32 n0, .slice A l.length c] w fun e w' => e = .returned (.int .u32 (bits .xor .u32 (rfold .u32 3988292384 (bits .xor .u32 n0 4294967295) l l.length) 4294967295)) ∧ w = w' := by
  go_enter Try.func33, Try.ntmps33
  go_wp2
  go_loop [0, 5, 6, 7] (fun s i _ _ => ∃ j : Nat, j ≤ l.length ∧ i = .int .i64 j ∧ s = .int .u32 (rfold .u32 3988292384 (bits .xor .u32 n0 4294967295) l j)) (fun _ i _ _ => l.length - (intOf i).toNat)
  case atStart => exact ⟨0, by omega, rfl, rfl⟩
  case round =>
    obtain ⟨j, hj, rfl, rfl⟩ := hrel
    have hlo := bAt_lo l j
    have hhi := bAt_hi l j
    by_cases h : j < l.length
    · obtain ⟨b, off, rfl, hb, hcell⟩ := Rd.at_ hR h
      go_wp2
      go_loop [0, 6, 7] (fun s i _ => ∃ m : Nat, m ≤ 8 ∧ i = .int .i64 m ∧ s = .int .u32 (rturns .u32 3988292384 m (bits .xor .u32 (rfold .u32 3988292384 (bits .xor .u32 n0 4294967295) l j) (bAt l j)))) (fun _ i _ => 8 - (intOf i).toNat)
      case atStart => exact ⟨0, by omega, rfl, rfl⟩
      case round =>
        obtain ⟨m, hm, rfl, rfl⟩ := hrel
        by_cases h8 : m < 8
        · go_wp2
          · have ht : (bits .and .u32 (rturns .u32 3988292384 m (bits .xor .u32 (rfold .u32 3988292384 (bits .xor .u32 n0 4294967295) l j) (bAt l j))) 1 == 1) = true := by assumption
            go_round
            case rel => exact ⟨m + 1, by omega, by go_num, by rw [rturns, rstep, if_pos ht]⟩
            case measure => simp [intOf]; omega
          · have ht : (bits .and .u32 (rturns .u32 3988292384 m (bits .xor .u32 (rfold .u32 3988292384 (bits .xor .u32 n0 4294967295) l j) (bAt l j))) 1 == 1) = false := by assumption
            go_round
            case rel => exact ⟨m + 1, by omega, by go_num, by rw [rturns, rstep, if_neg (by rw [ht]; simp)]⟩
            case measure => simp [intOf]; omega
        · obtain rfl : m = 8 := by omega
          go_wp2
          go_round
          case rel => exact ⟨j + 1, by omega, by go_num, by rw [rfold_succ]; rfl⟩
          case measure => simp [intOf]; omega
    · obtain rfl : j = l.length := by omega
      go_wp2
      go_ret
      exact ⟨rfl, rfl⟩
end Go.Proofs.Ytfbeihfpflhdaaa
