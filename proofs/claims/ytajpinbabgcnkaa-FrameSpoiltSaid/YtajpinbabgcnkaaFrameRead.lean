/-
  first of whatever slice, and Read. Conditions stand at each theorem.
-/
import Derived.Test.YtajpinbabgcnkaaFrameFirst
import Derived.Deep.RegionHeld3
import Derived.Deep.DrawnRows
namespace Go.Proofs.Ytajpinbabgcnkaa
open Go Go.RowKit Go.Kw Go.Kw.Crc Go.Kw.Fm
set_option linter.unusedVariables false
set_option linter.unusedSimpArgs false
attribute [local go_sem ↓] Go.wp_at_zero Go.wp_at_succ

/-- first, of whatever slice. -/
def FirstAny (w' : World) (e : Ending) (S : Nat → Prop) (l : List UInt8) : Prop :=
  if whyOf l = 0 then ∃ A, e = .returned (.tuple #[.slice A (nOf l) (nOf l), .int .i64 0]) ∧ RdY w' S A (recOf l) ∧ A ≠ none else e = .returned (.tuple #[.slice none 0 0, .int .i64 (whyOf l : Nat)])
theorem first_any (A : Option Addr) (n c : Nat) (l : List UInt8) (hn : n = l.length) (hl : l.length ≤ 1000000) (hc : n ≤ c) (hc2 : c ≤ 9223372036854775807) (w : World) {S : Nat → Prop} (hR : RdY w S A l) :
    Calls Try.prog 25 #[.slice A n c] w fun e w' => FirstAny w' e S l ∧ Below w.heap.size w w' := by
  by_cases h0 : l.length = 0
  · have hw : whyOf l = 1 := by unfold whyOf; rw [if_pos (by omega)]
    have hfin : FirstAny w (.returned (.tuple #[.slice none 0 0, .int .i64 1])) S l := by unfold FirstAny; rw [hw]; rfl
    have hn0 : n = 0 := by omega
    subst hn0
    clear hn h0 hw
    go_enter Try.func25, Try.ntmps25
    go_wp2_with fail
    go_ret2
    exact ⟨hfin, Below.refl _ _⟩
  · obtain ⟨b, off, rfl, hs, hb, -⟩ := hR.at_ (k := 0) (by omega)
    refine (first_calls b off n c l hn hl hc hc2 w hR.rd).mono ?_
    rintro e w' ⟨hp, hbw⟩
    refine ⟨?_, hbw⟩
    unfold FirstPost at hp
    unfold FirstAny
    split at hp
    · rename_i hw
      rw [if_pos hw]
      exact ⟨_, hp, RdY.take (RdY.drop (RdY.go hR hbw) 6) _, by simp⟩
    · rename_i hw
      rw [if_neg hw]; exact hp
def ReadPost (w' : World) (base : Nat) (e : Ending) (l : List UInt8) : Prop :=
  if whyOf l = 0 then ∃ A' n c', e = .returned (.tuple #[.slice A' n c', .int .i64 (6 + (n : Int)), .int .i64 0]) ∧ n = (recOf l).length ∧ w'.ownsRow base 5 1 (.slice A' n c') n (bv (recOf l)) else e = .returned (.tuple #[.slice none 0 0, .int .i64 0, .int .i64 130])
set_option maxHeartbeats 1000000 in
theorem frameRead_calls (A : Option Addr) (n c : Nat) (l : List UInt8) (hn : n = l.length) (hl : l.length ≤ 1000000) (hc : n ≤ c) (hc2 : c ≤ 9223372036854775807) (w : World) (hR : RdB w w.heap.size A l) :
    Calls Try.prog 17 #[.slice A n c] w fun e w' => ReadPost w' w.heap.size e l ∧ Below w.heap.size w w' := by
  subst hn
  have HFi := Lib.hid (first_any A l.length c l rfl hl hc hc2 w (RdY.of (S := fun _ => True) hR (fun _ _ => trivial)))
  go_enter Try.func17, Try.ntmps17
  go_wp2_with fail
  refine HFi.out.mono ?_
  rintro e w1 ⟨hp, hb1⟩
  unfold FirstAny at hp
  by_cases hw : whyOf l = 0
  · rw [if_pos hw] at hp
    obtain ⟨A1, rfl, hr, hA⟩ := hp
    have hrl := recOf_length hw
    have hmay := (mayR_iff _).1 (recOf_may hw)
    obtain ⟨m, hm⟩ : ∃ m, nOf l = m := ⟨_, rfl⟩
    rw [hm] at hrl ⊢
    have HC := Lib.hid (clone_n A1 m m (recOf l) hrl.symm (by omega) w1 hr.rd (fun h => absurd h hA))
    have Hw := Lib.hid hw
    have hm2 : m ≤ 4096 := by omega
    have Hrl := Lib.hid hrl
    clear HFi hr hw hm hrl hmay
    go_wp2_with fail
    refine HC.out.mono ?_
    rintro e w2 ⟨A2, c2, rfl, o2, hb2⟩
    have hfin : ReadPost w2 w.heap.size (.returned (.tuple #[.slice A2 m c2, .int .i64 (6 + (m : Int)), .int .i64 0])) l := by
      unfold ReadPost; rw [if_pos Hw.out]; exact ⟨A2, m, c2, rfl, Hrl.out.symm, own_mono o2 hb1.size⟩
    have hbf := bnext hb1 hb2
    clear o2 HC hb2
    go_wp2_with fail
    go_ret3
    exact ⟨hfin, hbf⟩
  · rw [if_neg hw] at hp
    subst hp
    have hfin : ReadPost w1 w.heap.size (.returned (.tuple #[.slice none 0 0, .int .i64 0, .int .i64 130])) l := by
      unfold ReadPost; rw [if_neg hw]
    have k0 : ((whyOf l : Int) == 0) = false := beq_eq_false_iff_ne.2 (by omega)
    have k1 : ((whyOf l : Int) != 0) = true := by simp; omega
    obtain ⟨y, hy⟩ : ∃ y : Int, (whyOf l : Int) = y := ⟨_, rfl⟩
    rw [hy] at k0 k1 ⊢
    clear hw hy HFi
    go_wp2_with fail
    go_ret3
    exact ⟨hfin, hb1⟩
end Go.Proofs.Ytajpinbabgcnkaa
