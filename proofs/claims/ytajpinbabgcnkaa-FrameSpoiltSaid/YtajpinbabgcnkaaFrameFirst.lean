/-
  first, Read: the first record of bytes. Conditions stand at each theorem.
-/
import Derived.Test.YtajpinbabgcnkaaFrameFns
import Derived.Test.YtajpinbabgcnkaaBits
import Derived.Deep.RegionHeld3
import Derived.Deep.DrawnRows
import Derived.IntWalk
namespace Go.Proofs.Ytajpinbabgcnkaa
open Go Go.RowKit Go.Kw Go.Kw.Crc Go.Kw.Fm
set_option linter.unusedVariables false
set_option linter.unusedSimpArgs false
attribute [local go_sem ↓] Go.wp_at_zero Go.wp_at_succ

theorem ofInt_u32 (a : Nat) (ha : a < 4294967296) : (BitVec.ofInt 32 (a : Int)).toNat = a := by
  rw [BitVec.ofInt_natCast, BitVec.toNat_ofNat]; exact Nat.mod_eq_of_lt (by omega)
theorem u32_or_nat (a b : Nat) (ha : a < 4294967296) (hb : b < 4294967296) : bits .or .u32 (a : Int) (b : Int) = ((a ||| b : Nat) : Int) := by
  have hx : a ||| b < 2 ^ 32 := Nat.or_lt_two_pow (by omega) (by omega)
  show IntKind.u32.wrap ((BitVec.ofInt 32 (a : Int) ||| BitVec.ofInt 32 (b : Int)).toNat : Int) = _
  rw [BitVec.toNat_or, ofInt_u32 a ha, ofInt_u32 b hb, IntKind.wrap_u32]
  omega
theorem or_u32_add (k p a b : Nat) (hp : 2 ^ k = p) (hb : b < p) (ha : p * a + b < 4294967296) : bits .or .u32 ((p * a : Nat) : Int) (b : Int) = ((p * a + b : Nat) : Int) := by
  subst hp
  rw [u32_or_nat _ _ (by omega) (by omega), Nat.two_pow_add_eq_or_of_lt hb]
/-- Four bytes as a number. -/
theorem or_be (x y z u : Nat) (hx : x < 256) (hy : y < 256) (hz : z < 256) (hu : u < 256) : bits .or .u32 (bits .or .u32 (bits .or .u32 ((x : Int) * 16777216) ((y : Int) * 65536)) ((z : Int) * 256)) (u : Int) = ((x * 16777216 + y * 65536 + z * 256 + u : Nat) : Int) := by
  have e1 : ((16777216 * x : Nat) : Int) = (x : Int) * 16777216 := by rw [Nat.mul_comm]; exact Int.natCast_mul _ _
  have e1b : ((y * 65536 : Nat) : Int) = (y : Int) * 65536 := Int.natCast_mul _ _
  have e2 : ((16777216 * x + y * 65536 : Nat) : Int) = ((65536 * (x * 256 + y) : Nat) : Int) := congrArg _ (by omega)
  have e2b : ((z * 256 : Nat) : Int) = (z : Int) * 256 := Int.natCast_mul _ _
  have e3 : ((65536 * (x * 256 + y) + z * 256 : Nat) : Int) = ((256 * (x * 65536 + y * 256 + z) : Nat) : Int) := congrArg _ (by omega)
  have h1 := or_u32_add 24 16777216 x (y * 65536) rfl (by omega) (by omega)
  have h2 := or_u32_add 16 65536 (x * 256 + y) (z * 256) rfl (by omega) (by omega)
  have h3 := or_u32_add 8 256 (x * 65536 + y * 256 + z) u rfl (by omega) (by omega)
  rw [e1, e1b] at h1
  rw [e2b] at h2
  rw [h1, e2, h2, e3, h3]
  exact congrArg _ (by omega)
def FirstPost (w' : World) (e : Ending) (b off : Nat) (l : List UInt8) : Prop :=
  if whyOf l = 0 then e = .returned (.tuple #[.slice (some ⟨b, off + 6, none⟩) (nOf l) (nOf l), .int .i64 0]) else e = .returned (.tuple #[.slice none 0 0, .int .i64 (whyOf l : Nat)])
theorem first_calls (b off : Nat) (n c : Nat) (l : List UInt8) (hn : n = l.length) (hl : l.length ≤ 1000000) (hc : n ≤ c) (hc2 : c ≤ 9223372036854775807) (w : World) (hR : RdB w w.heap.size (some ⟨b, off, none⟩) l) :
    Calls Try.prog 25 #[.slice (some ⟨b, off, none⟩) n c] w fun e w' => FirstPost w' e b off l ∧ Below w.heap.size w w' := by
  subst hn
  have hcell : ∀ i, i < l.length → w.cell? ⟨b, off + i, none⟩ = some (.int .u8 (bAt l i)) ∧ b < w.heap.size := fun i hi => by
    obtain ⟨b', off', e, hb, hc⟩ := hR.at_ hi
    injection e with e; injection e with e1 e2; subst e1 e2
    exact ⟨hc, hb⟩
  have Hcell := Lib.hid hcell
  have HR := Lib.hid hR
  clear hcell hR
  by_cases h1 : l.length < 2
  · have hw : whyOf l = 1 := by unfold whyOf; rw [if_pos h1]
    have hfin : FirstPost w (.returned (.tuple #[.slice none 0 0, .int .i64 1])) b off l := by unfold FirstPost; rw [hw]; rfl
    have k1 : (l.length : Int) < 2 := by omega
    go_enter Try.func25, Try.ntmps25
    go_wp2_with fail
    go_ret2
    exact ⟨hfin, Below.refl _ _⟩
  · have k1 : (2 : Int) ≤ (l.length : Int) := by omega
    have x0 := (Hcell.out 0 (by omega)).1
    have x1 := (Hcell.out 1 (by omega)).1
    have a0 := bAt_lo l 0
    have a1 := bAt_lo l 1
    have b0 := bAt_hi l 0
    have b1 := bAt_hi l 1
    have ho := or_shl8 (bAt l 0) (bAt l 1) a0 b0 a1 b1
    have hN : bAt l 0 * 256 + bAt l 1 = (nOf l : Int) := by unfold nOf byt bAt; omega
    rw [hN] at ho
    have hnl : nOf l ≤ 65535 := by unfold nOf; have := byt_lt l 0; have := byt_lt l 1; omega
    obtain ⟨M, hM⟩ : ∃ M, nOf l = M := ⟨_, rfl⟩
    rw [hM] at ho hnl
    go_enter Try.func25, Try.ntmps25
    rw [Nat.add_zero] at x0
    have Ho := Lib.hid ho
    go_wp2_with fail
    go_quiet (fail)
    have HM := Lib.hid hM
    generalize hW0 : w.drewN nq = W0 at *
    have hb0 : Below w.heap.size w W0 := by rw [← hW0]; exact (Below.refl _ _).drewN nq
    have HR0 := Lib.hid (HR.out.go hb0)
    clear x0 x1 ho hN hM hW0
    by_cases h2 : M < 1 ∨ 4096 < M
    · have hw : whyOf l = 2 := by unfold whyOf; rw [if_neg h1, HM.out, if_pos h2]
      have hfin : FirstPost W0 (.returned (.tuple #[.slice none 0 0, .int .i64 2])) b off l := by unfold FirstPost; rw [hw]; rfl
      have H2 := Lib.hid h2
      clear h2
      go_wp2_with fail
      all_goals first
        | (go_ret2; exact ⟨hfin, hb0⟩)
        | (exfalso; have := H2.out; omega)
    · have m1 : (1 : Int) ≤ (M : Int) := by omega
      have m2 : (M : Int) ≤ 4096 := by omega
      by_cases h3 : l.length < 6 + M
      · have hw : whyOf l = 1 := by unfold whyOf; rw [if_neg h1, HM.out, if_neg h2, if_pos h3]
        have hfin : FirstPost W0 (.returned (.tuple #[.slice none 0 0, .int .i64 1])) b off l := by unfold FirstPost; rw [hw]; rfl
        have k3 : (l.length : Int) < 6 + (M : Int) := by omega
        clear h2
        go_wp2_with fail
        go_ret2
        exact ⟨hfin, hb0⟩
      · have k3 : (6 : Int) + (M : Int) ≤ (l.length : Int) := by omega
        have k4 : (6 : Int) + (M : Int) ≤ (c : Int) := by omega
        have hrec : recOf l = (l.drop 6).take M := by unfold recOf; rw [HM.out]
        have hrl : (recOf l).length = M := by rw [hrec]; simp; omega
        have HS : Hid (∀ W, Below W0.heap.size W0 W → Calls Try.prog 21 #[.int .i64 M, .slice (some ⟨b, off + 6, none⟩) M M] W fun e w' => e = .returned (.int .u32 (fsum (recOf l))) ∧ Below W.heap.size W w') := fun W hW => by
          have := frameSum_calls M (by omega) (some ⟨b, off + 6, none⟩) M M (recOf l) hrl.symm (by omega) W (by
            rw [hrec]
            exact (RdY.take (RdY.drop (RdY.of (S := fun _ => True) (HR0.out.go hW) (fun _ _ => trivial)) 6) M).rd)
          unfold fsum
          rw [hrl]; exact this
        have hf := fsum_lt (recOf l)
        have hwhy : whyOf l = if fsum (recOf l) = sOf l then 0 else 3 := by unfold whyOf; rw [if_neg h1, HM.out, if_neg h2, if_neg h3]
        obtain ⟨s, hs⟩ : ∃ s, fsum (recOf l) = s := ⟨_, rfl⟩
        rw [hs] at HS hf hwhy
        have Hwhy := Lib.hid hwhy
        have hsub : 6 + M - 6 = M := by omega
        clear h2 h3 hrec hrl hs hwhy
        go_wp2_with fail
        refine (HS.out W0 (Below.refl _ _)).mono ?_
        rintro e w1 ⟨rfl, hb1⟩
        have hbw1 := bnext hb0 hb1
        have hb2 := byt_lt l 2
        have hb3 := byt_lt l 3
        have hb4 := byt_lt l 4
        have hb5 := byt_lt l 5
        have x2 := (hbw1.cell (p := ⟨b, off + 2, none⟩) (Hcell.out 2 (by omega)).2).trans (Hcell.out 2 (by omega)).1
        have x3 := (hbw1.cell (p := ⟨b, off + 3, none⟩) (Hcell.out 3 (by omega)).2).trans (Hcell.out 3 (by omega)).1
        have x4 := (hbw1.cell (p := ⟨b, off + 4, none⟩) (Hcell.out 4 (by omega)).2).trans (Hcell.out 4 (by omega)).1
        have x5 := (hbw1.cell (p := ⟨b, off + 5, none⟩) (Hcell.out 5 (by omega)).2).trans (Hcell.out 5 (by omega)).1
        have hor := or_be (byt l 2) (byt l 3) (byt l 4) (byt l 5) hb2 hb3 hb4 hb5
        have hso : byt l 2 * 16777216 + byt l 3 * 65536 + byt l 4 * 256 + byt l 5 = sOf l := rfl
        rw [hso] at hor
        rw [show bAt l 2 = (byt l 2 : Int) from rfl] at x2
        rw [show bAt l 3 = (byt l 3 : Int) from rfl] at x3
        rw [show bAt l 4 = (byt l 4 : Int) from rfl] at x4
        rw [show bAt l 5 = (byt l 5 : Int) from rfl] at x5
        obtain ⟨c2, hc2'⟩ : ∃ c2, byt l 2 = c2 := ⟨_, rfl⟩
        obtain ⟨c3, hc3'⟩ : ∃ c3, byt l 3 = c3 := ⟨_, rfl⟩
        obtain ⟨c4, hc4'⟩ : ∃ c4, byt l 4 = c4 := ⟨_, rfl⟩
        obtain ⟨c5, hc5'⟩ : ∃ c5, byt l 5 = c5 := ⟨_, rfl⟩
        obtain ⟨q, hq⟩ : ∃ q, sOf l = q := ⟨_, rfl⟩
        rw [hc2', hc3', hc4', hc5', hq] at hor
        rw [hc2'] at x2 hb2
        rw [hc3'] at x3 hb3
        rw [hc4'] at x4 hb4
        rw [hc5'] at x5 hb5
        have Hq := Lib.hid hq
        have HM2 := HM.out
        clear hc2' hc3' hc4' hc5' hq hso HS hb1 HR0
        by_cases hsq : s = q
        · have hw : whyOf l = 0 := by rw [Hwhy.out, Hq.out, if_pos hsq]
          have hfin : FirstPost w1 (.returned (.tuple #[.slice (some ⟨b, off + 6, none⟩) M M, .int .i64 0])) b off l := by unfold FirstPost; rw [if_pos hw, HM2]
          have hfin' := Lib.hid hfin
          have k5 : ((s : Int) == (q : Int)) = true := beq_iff_eq.2 (by omega)
          clear hw hfin HM2 hsq
          go_wp2_with fail
          go_quiet (fail)
          have hbf := hbw1.drewN nq
          go_wp2_with fail
          go_ret2
          exact ⟨hfin'.out, hbf⟩
        · have hw : whyOf l = 3 := by rw [Hwhy.out, Hq.out, if_neg hsq]
          have hfin : ∀ W, FirstPost W (.returned (.tuple #[.slice none 0 0, .int .i64 3])) b off l := fun W => by unfold FirstPost; rw [hw]; rfl
          have hfin' := Lib.hid hfin
          have k5 : ((s : Int) == (q : Int)) = false := beq_eq_false_iff_ne.2 (by omega)
          clear hw hfin HM2 hsq
          go_wp2_with fail
          go_quiet (fail)
          have hbf := hbw1.drewN nq
          go_wp2_with fail
          go_ret2
          exact ⟨hfin'.out _, hbf⟩
end Go.Proofs.Ytajpinbabgcnkaa
