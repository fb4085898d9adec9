/-
  FrameBack, where all rows are records. Conditions: the bulk of what is read is bounded (the second form of the statement).
-/
import Derived.Test.YtajpinbabgcnkaaFrameAlive
import Derived.Test.YtajpinbabgcnkaaFrameMakes
namespace Go.Proofs.Ytajpinbabgcnkaa
open Go Go.RowKit Go.Kw Go.Kw.Crc Go.Kw.Fm
set_option linter.unusedVariables false
set_option linter.unusedSimpArgs false
attribute [local go_sem ↓] Go.wp_at_zero Go.wp_at_succ

theorem refSame_same (fs : List (List UInt8)) (A B : Option Addr) (n m c d : Nat) (hn : n = fs.length) (hm : m = fs.length) (w : World) (S S' : Nat → Prop) (hF : RdL w S A fs) (hG : RdL w S' B fs) (hl : fs.length ≤ 1000000) :
    Calls Try.prog 15 #[.slice A n c, .slice B m d] w fun e w' => e = .returned (.bool true) ∧ Below w.heap.size w w' := by
  have := refSame_calls fs fs A B n m c d hn hm w S S' hF hG hl hl
  rw [show decide (fs = fs) = true from by simp] at this
  exact this
theorem all_iff (ls : List (List UInt8)) : ls.all mayR = true ↔ ∀ b ∈ ls, mayR b = true := List.all_eq_true
/-- What a scan says is made to frames again. -/
theorem scan_frames_eq (b : List UInt8) : (scan b).1.flatMap frm = b.take (b.length - (scan b).2.length) := by
  have h := scan_rest b
  have h2 := congrArg List.length h
  rw [List.length_append] at h2
  have e : b.length - (scan b).2.length = ((scan b).1.flatMap frm).length := by omega
  rw [e]
  have key : ∀ x y : List UInt8, x ++ y = b → x = b.take x.length := by rintro x y rfl; rw [List.take_left]
  exact key _ _ h
theorem frm_room (b : List UInt8) : ((scan b).1.flatMap frm).length ≤ b.length := by
  have h2 := congrArg List.length (scan_rest b)
  rw [List.length_append] at h2; omega

set_option maxRecDepth 100000 in
set_option maxHeartbeats 4000000 in
theorem frameBack_true (v0 : Value) (ls : List (List UInt8)) (a1 : Option Addr) (len1 cap1 : Nat) (z1 : List Int) (w : World) (w0 : LRows w v0 ls ∧ (ls.map List.length).sum + ls.length ≤ 1048576) (w1 : IsRow .u8 w a1 len1 cap1 z1) (hall : ls.all mayR = true) :
    Calls Try.prog 5 #[v0, .slice a1 len1 cap1] w fun e w' => e = .returned (.bool true) ∧ Below w.heap.size w w' := by
  obtain ⟨⟨A, c, rfl, hlc, hcm, hzA, hF⟩, hsum⟩ := w0
  obtain ⟨hm1, hm2, hz1⟩ := w1.caps
  unfold maxLen at hm2 hcm
  obtain ⟨b, rfl, hR⟩ := w1.bytes
  have hzb : a1 = none → b.length = 0 := fun h => (hz1 h).1
  clear w1 hz1
  have hfs := flat_sum ls
  by_cases hg : 9000 < (ls.flatMap frm).length
  · have HG := Lib.hid hg
    go_enter Try.func5, Try.ntmps5
    go_wp2_with fail
    refine (alive_calls _).mono ?_
    rintro e wa ⟨rfl, hba⟩
    go_wp2_with fail
    refine (refGreat_calls ls A c ls.length rfl wa _ (hF.go hba) (by omega)).mono ?_
    rintro e w' ⟨rfl, rfl⟩
    rw [if_pos HG.out]
    go_wp2_with fail
    go_ret; exact ⟨rfl, hba⟩
  · by_cases hg2 : 9000 < b.length
    · have HG := Lib.hid hg
      have k1 : (9000 : Int) < (b.length : Int) := by omega
      go_enter Try.func5, Try.ntmps5
      go_wp2_with fail
      refine (alive_calls _).mono ?_
      rintro e wa ⟨rfl, hba⟩
      go_wp2_with fail
      refine (refGreat_calls ls A c ls.length rfl wa _ (hF.go hba) (by omega)).mono ?_
      rintro e w' ⟨rfl, rfl⟩
      rw [if_neg HG.out]
      go_wp2_with fail
      go_ret; exact ⟨rfl, hba⟩
    · obtain ⟨N, hN⟩ : ∃ N, ls.length = N := ⟨_, rfl⟩
      have hcnt := count_le ls
      have k1 : (b.length : Int) ≤ 9000 := by omega
      have k2 : N ≤ 1500 := by omega
      have HG := Lib.hid hg
      have HN := Lib.hid hN
      have HF := Lib.hid hF
      have HR := Lib.hid hR
      have Hzb := Lib.hid hzb
      rw [hN] at hlc
      rw [show ls.length = N from hN]
      clear hg hN hF hR hzb hzA hfs hsum hcnt hg2
      go_enter Try.func5, Try.ntmps5
      go_wp2_with fail
      refine (alive_calls _).mono ?_
      rintro e wa ⟨rfl, hba⟩
      go_wp2_with fail
      refine (refGreat_calls ls A c N HN.out.symm wa _ (HF.out.go hba) (by have := HG.out; omega)).mono ?_
      rintro e w' ⟨rfl, rfl⟩
      rw [if_neg HG.out]
      go_wp2_with fail
      refine (frameAll_calls A N c ls HN.out.symm (by have := HG.out; omega) wa (HF.out.go hba)).mono ?_
      rintro e w1 ⟨hp1, hb1⟩
      have hbw1 := bnext hba hb1
      obtain ⟨A2, n2, c2, rfl, rfl, hc2, hd2, hr2, hz2, -⟩ := hp1.form
      -- what is scanned
      have hsb : (scan b).1.all mayR = true := (all_iff _).2 (scan_back _ b (Nat.le_refl _)).2
      have hroom := frm_room b
      have hrl := scan_restlen b
      have hfe := scan_frames_eq b
      obtain ⟨xs, hxs⟩ : ∃ xs, (scan b).1 = xs := ⟨_, rfl⟩
      obtain ⟨rest, hrest⟩ : ∃ rest, (scan b).2 = rest := ⟨_, rfl⟩
      rw [hxs] at hsb hroom hfe
      rw [hrest] at hrl hfe
      obtain ⟨z, hz⟩ : ∃ z, b.length - rest.length = z := ⟨_, rfl⟩
      rw [hz] at hfe
      have Hxs := Lib.hid hxs
      have Hrest := Lib.hid hrest
      have Hsb := Lib.hid hsb
      have Hroom := Lib.hid hroom
      have Hrl := Lib.hid hrl
      have Hz := Lib.hid hz
      have Hfe := Lib.hid hfe
      clear hxs hrest hsb hroom hrl hz hfe hp1
      have ho : allOut ls = ls.flatMap frm := by unfold allOut; rw [if_pos hall]
      have he : allErr ls = 0 := by unfold allErr; rw [if_pos hall]
      have hsc := scan_frames' ls ((all_iff _).1 hall)
      have hF9 : (ls.flatMap frm).length ≤ 9000 := by have := HG.out; omega
      rw [ho] at hc2 hr2 hz2 ⊢
      rw [he]
      obtain ⟨F, hF⟩ : ∃ F, ls.flatMap frm = F := ⟨_, rfl⟩
      rw [hF] at hsc hc2 hr2 hz2 hF9 ⊢
      have HE := Lib.hid (exact_calls A2 F.length c2 F rfl (by omega) hc2 hd2 w1 hr2 hz2)
      have Hsc := Lib.hid hsc
      clear ho he hsc hr2 hz2 hall hF
      go_wp2_with fail
      refine HE.out.mono ?_
      rintro e w2 ⟨hp2, hb2⟩
      unfold ExactPost at hp2
      rw [Hsc.out, if_pos rfl] at hp2
      obtain ⟨A3, n3, c3, rfl, hn3, o3⟩ := hp2
      have hbw2 := bnext hbw1 hb2
      have HS := Lib.hid (scan_calls a1 b.length cap1 b rfl (by omega) hm1 (by omega) w2 (HR.out.go hbw2) Hzb.out)
      have Hn3 := Lib.hid hn3
      have O3 := Lib.hid o3
      clear HE hn3 o3
      go_wp2_with fail
      refine HS.out.mono ?_
      rintro e w3 ⟨A4, n4, c4, rfl, hn4, o4, hb3⟩
      rw [Hxs.out] at hn4 o4
      rw [Hrest.out, show ((b.length : Int) - (rest.length : Int)) = (z : Int) from by have := Hz.out; have := Hrl.out; omega]
      have hbw3 := bnext hbw2 hb3
      have HA := Lib.hid (frameAll_calls A4 n4 c4 xs hn4 (by have := Hroom.out; omega) w3 ((OwL.mono (S := fun _ => True) o4 (Nat.le_refl _) (fun _ _ => trivial)).rdF (fun _ _ => trivial)))
      clear HS hn4 o4
      go_wp2_with fail
      refine HA.out.mono ?_
      rintro e w4 ⟨hp4, hb4⟩
      have hp5 := hp4.form
      have hxo : allOut xs = b.take z := by unfold allOut; rw [if_pos Hsb.out]; exact Hfe.out
      have hxe : allErr xs = 0 := by unfold allErr; rw [if_pos Hsb.out]
      rw [hxo, hxe] at hp5
      obtain ⟨A5, n5, c5, rfl, rfl, hc5, hd5, hr5, hz5, -⟩ := hp5
      have hbw4 := bnext hbw3 hb4
      have hzl : z ≤ b.length := by have := Hz.out; omega
      have htl : (b.take z).length = z := by simp; omega
      have hcv : ∀ W, Below w4.heap.size w4 W → (convert 23 9 (.slice A5 z c5)).run Try.prog W = .ok (.string ⟨(b.take z).toArray⟩) W ∧ (convert 23 9 (.slice a1 z cap1)).run Try.prog W = .ok (.string ⟨(b.take z).toArray⟩) W := fun W hW => by
        have s5 := run_string (P := Try.prog) (src := 23) (dst := 9) (hr5.go hW) c5 hz5 Try.underlying23 Try.underlying5 Try.underlying9
        have s6 := run_string (P := Try.prog) (src := 23) (dst := 9) ((RdY.take (RdY.of (S := fun _ => True) ((HR.out.go hbw4).go hW) (fun _ _ => trivial)) z).rd) cap1 (fun h => by have := Hzb.out h; simp; omega) Try.underlying23 Try.underlying5 Try.underlying9
        rw [htl] at s5 s6
        exact ⟨s5, s6⟩
      rw [htl]
      obtain ⟨p, hp⟩ : ∃ p, b.take z = p := ⟨_, rfl⟩
      rw [hp] at hcv
      have hl3 : RdL w4 (fun _ => True) A3 ls := ((OwL.mono (S := fun _ => True) O3.out (Nat.le_refl _) (fun _ _ => trivial)).rdF (fun _ _ => trivial)).go (bnext hb3 hb4)
      have HSa := Lib.hid (fun (W : World) (hW : Below w4.heap.size w4 W) => refSame_same ls A3 A n3 N c3 c Hn3.out HN.out.symm W (fun _ => True) _ (hl3.go hW) ((HF.out.go hbw4).go hW) (by rw [HN.out]; omega))
      have k5 : (z : Int) ≤ (b.length : Int) := by omega
      have k6 : (b.length : Int) ≤ (cap1 : Int) := by omega
      have k7 : (z : Int) ≤ (cap1 : Int) := by omega
      have k8 : (0 : Int) ≤ (z : Int) := by omega
      have k9 : z ≤ cap1 := by omega
      have HK := Lib.hid hcv
      clear HA hp4 hr5 hz5 hl3 hp hb4 hb3 htl hxo hxe hcv
      go_wp2_with fail
      go_region_held3 (fun W => (convert 23 9 (.slice A5 z c5)).run Try.prog W = .ok (.string ⟨p.toArray⟩) W ∧ (convert 23 9 (.slice a1 z cap1)).run Try.prog W = .ok (.string ⟨p.toArray⟩) W)
        (first | exact HK.out _ (Below.refl _ _).drew | exact HK.out _ ((Below.refl _ _).drew.trans hb5))
        ((go_at_call 15; refine (HSa.out w4.drew ((Below.refl _ _).drew)).mono ?_; rintro e w5 ⟨rfl, hb5⟩))
      all_goals
        have hbf := hbw4.trans ((Below.refl w4.heap.size w4).drew.mono hbw4.size |>.trans (hb5.mono hbw4.size))
        go_wp2_with fail
        go_ret
        exact ⟨rfl, hbf⟩
end Go.Proofs.Ytajpinbabgcnkaa
