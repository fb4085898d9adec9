/-
  Exact, Why, and the chapter's first example. Conditions: at most 100,000 bytes.
-/
import Derived.Test.YtajpinbabgcnkaaFrameScan
import Derived.Test.YtajpinbabgcnkaaFrameAll
import Derived.Deep.RegionHeld3
import Derived.Deep.DrawnRows
namespace Go.Proofs.Ytajpinbabgcnkaa
open Go Go.RowKit Go.Kw Go.Kw.Crc Go.Kw.Fm
set_option linter.unusedVariables false
set_option linter.unusedSimpArgs false
attribute [local go_sem ↓] Go.wp_at_zero Go.wp_at_succ

theorem scan_rest (l : List UInt8) : (scan l).1.flatMap frm ++ (scan l).2 = l := (scan_back _ l (Nat.le_refl _)).1
theorem scan_restlen (l : List UInt8) : (scan l).2.length ≤ l.length := by
  have := congrArg List.length (scan_rest l)
  rw [List.length_append] at this; omega
theorem scan_drop (l : List UInt8) : l.drop (l.length - (scan l).2.length) = (scan l).2 := by
  have h := scan_rest l
  have h2 := congrArg List.length h
  rw [List.length_append] at h2
  have e : l.length - (scan l).2.length = ((scan l).1.flatMap frm).length := by omega
  rw [e]
  have key : ∀ x y : List UInt8, x ++ y = l → l.drop x.length = y := by rintro x y rfl; exact List.drop_left
  exact key _ _ h
def ExactPost (w w' : World) (e : Ending) (l : List UInt8) : Prop :=
  if (scan l).2 = [] then ∃ A' n c', e = .returned (.tuple #[.slice A' n c', .int .i64 0]) ∧ n = (scan l).1.length ∧ OwL w' w.heap.size (fun b => w.heap.size ≤ b) (.slice A' n c') (scan l).1 else e = .returned (.tuple #[.slice none 0 0, .int .i64 130])
theorem exact_calls (A : Option Addr) (n c : Nat) (l : List UInt8) (hn : n = l.length) (hl : l.length ≤ 100000) (hc : n ≤ c) (hc2 : c ≤ 9223372036854775807) (w : World) (hR : RdB w w.heap.size A l) (hz : A = none → l.length = 0) :
    Calls Try.prog 16 #[.slice A n c] w fun e w' => ExactPost w w' e l ∧ Below w.heap.size w w' := by
  subst hn
  have HS := Lib.hid (scan_calls A l.length c l rfl hl hc hc2 w hR hz)
  have hle := scan_restlen l
  go_enter Try.func16, Try.ntmps16
  go_wp2_with fail
  refine HS.out.mono ?_
  rintro e w1 ⟨A1, n1, c1, rfl, hn1, o1, hb1⟩
  by_cases hr : (scan l).2 = []
  · have hfin : ExactPost w w1 (.returned (.tuple #[.slice A1 n1 c1, .int .i64 0])) l := by
      unfold ExactPost; rw [if_pos hr]; exact ⟨A1, n1, c1, rfl, hn1, o1⟩
    rw [hr]
    have e0 : ((l.length : Int) - (([] : List UInt8).length : Int)) = (l.length : Int) := by simp
    rw [e0]
    clear HS hr hn1 o1 hle
    go_wp2_with fail
    go_ret2
    exact ⟨hfin, hb1⟩
  · have hfin : ExactPost w w1 (.returned (.tuple #[.slice none 0 0, .int .i64 130])) l := by
      unfold ExactPost; rw [if_neg hr]
    have hrl : 0 < (scan l).2.length := List.length_pos_iff.2 hr
    obtain ⟨z, hz⟩ : ∃ z : Int, ((l.length : Int) - ((scan l).2.length : Int)) = z := ⟨_, rfl⟩
    rw [hz]
    have k0 : (z == (l.length : Int)) = false := beq_eq_false_iff_ne.2 (by omega)
    have k1 : (z != (l.length : Int)) = true := by simp; omega
    clear HS hr hn1 o1 hle hrl hz
    go_wp2_with fail
    go_ret2
    exact ⟨hfin, hb1⟩
theorem why_calls (A : Option Addr) (n c : Nat) (l : List UInt8) (hn : n = l.length) (hl : l.length ≤ 100000) (hc : n ≤ c) (hc2 : c ≤ 9223372036854775807) (w : World) (hR : RdB w w.heap.size A l) (hz : A = none → l.length = 0) (y : Int) (hy : y = if (scan l).2 = [] then 0 else (whyOf (scan l).2 : Int)) :
    Calls Try.prog 18 #[.slice A n c] w fun e w' => e = .returned (.int .i64 y) ∧ Below w.heap.size w w' := by
  subst hn
  have HS := Lib.hid (scan_calls A l.length c l rfl hl hc hc2 w hR hz)
  have hle := scan_restlen l
  have Hy := Lib.hid hy
  clear hy
  by_cases hr : (scan l).2 = []
  · go_enter Try.func18, Try.ntmps18
    go_wp2_with fail
    refine HS.out.mono ?_
    rintro e w1 ⟨A1, n1, c1, rfl, hn1, o1, hb1⟩
    have hy0 : y = 0 := by rw [Hy.out, if_pos hr]
    subst hy0
    rw [hr]
    have e0 : ((l.length : Int) - (([] : List UInt8).length : Int)) = (l.length : Int) := by simp
    rw [e0]
    have k0 : ((l.length : Int) == (l.length : Int)) = true := by simp
    clear HS Hy hr hn1 o1 hle
    go_wp2_with fail
    go_ret
    exact ⟨rfl, hb1⟩
  · have hrl : 0 < (scan l).2.length := List.length_pos_iff.2 hr
    have hdr := scan_drop l
    have hyw : y = (whyOf (scan l).2 : Int) := by rw [Hy.out, if_neg hr]
    have hwn : whyOf (scan l).2 ≠ 0 := by
      have := tail_end l
      rw [this.2] at this; exact this.1
    obtain ⟨z, hzz⟩ : ∃ z : Nat, l.length - (scan l).2.length = z := ⟨_, rfl⟩
    have hzi : ((l.length : Int) - ((scan l).2.length : Int)) = (z : Int) := by omega
    rw [hzz] at hdr
    obtain ⟨b, off, rfl, hbl, -⟩ := Rd.at_ hR (k := 0) (by omega)
    have Hzi := Lib.hid hzi
    have Hdr := Lib.hid hdr
    have Hwn := Lib.hid hwn
    have Hyw := Lib.hid hyw
    have hzl : z < l.length := by omega
    have k0 : ((z : Int) == (l.length : Int)) = false := beq_eq_false_iff_ne.2 (by omega)
    have k1 : (z : Int) < (l.length : Int) := by omega
    have k2 : (l.length : Int) ≤ (c : Int) := by omega
    have k3 : ¬ c = z := by omega
    clear hr hrl hdr hwn hyw hzi hzz hle Hy
    go_enter Try.func18, Try.ntmps18
    go_wp2_with fail
    refine HS.out.mono ?_
    rintro e w1 ⟨A1, n1, c1, rfl, hn1, o1, hb1⟩
    rw [Hzi.out]
    have HFi := Lib.hid (first_any (some ⟨b, off + z, none⟩) (l.length - z) (c - z) (scan l).2 (by rw [← Hdr.out, List.length_drop]) (by rw [← Hdr.out, List.length_drop]; omega) (by omega) (by omega) w1 (by
      rw [← Hdr.out]; exact RdY.drop (RdY.of (S := fun _ => True) (hR.go hb1) (fun _ _ => trivial)) z))
    clear HS hn1 o1
    go_wp2_with fail
    refine HFi.out.mono ?_
    rintro e w2 ⟨hp, hb2⟩
    unfold FirstAny at hp
    rw [if_neg Hwn.out, ← Hyw.out] at hp
    subst hp
    have hb12 := bnext hb1 hb2
    clear HFi
    go_wp2_with fail
    go_ret
    exact ⟨rfl, hb12⟩
end Go.Proofs.Ytajpinbabgcnkaa
