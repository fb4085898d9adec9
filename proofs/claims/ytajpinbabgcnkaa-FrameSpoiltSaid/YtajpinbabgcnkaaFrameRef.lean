/-
  The reference of the chapter of frames: frame, All, Great, Same. Conditions stand at each theorem.
-/
import Derived.Test.YtajpinbabgcnkaaFrameFns
namespace Go.Proofs.Ytajpinbabgcnkaa
open Go Go.RowKit Go.Kw Go.Kw.Crc Go.Kw.Fm
set_option linter.unusedVariables false
set_option linter.unusedSimpArgs false

theorem be_cells4 (s : Nat) (hs : s < 4294967296) : (#[Value.int .u8 ((s : Int) / 16777216), Value.int .u8 ((s : Int) / 65536 % 256), Value.int .u8 ((s : Int) / 256 % 256), Value.int .u8 ((s : Int) % 256)]).toList = bv (be4 s) := by
  simp only [bv, be4, List.map_cons, List.map_nil, toNat_ofNat]
  rw [show ((s / 16777216 % 256 : Nat) : Int) = (s : Int) / 16777216 by omega]
  simp
set_option maxHeartbeats 1000000 in
theorem refFrame_calls (A : Option Addr) (m c : Nat) (b : List UInt8) (hm : m = b.length) (hb : b.length ≤ 4096) (w : World) (hR : RdB w w.heap.size A b) (hz : A = none → b.length = 0) :
    Calls Try.prog 19 #[.slice A m c] w fun e w' => ∃ A' c', e = .returned (.slice A' (frm b).length c') ∧ w'.ownsRow w.heap.size 5 1 (.slice A' (frm b).length c') (frm b).length (bv (frm b)) ∧ (A' = none → (frm b).length = 0) ∧ Below w.heap.size w w' := by
  have hb1 := bstep w (.cells #[Value.int .u8 ((m : Int) / 256), Value.int .u8 ((m : Int) % 256)] 5)
  have hr1 := rdB_new w #[Value.int .u8 ((m : Int) / 256), Value.int .u8 ((m : Int) % 256)] 5 (0, 0) (hd m) (hd_cells m (by omega))
  obtain ⟨W1, hW1⟩ : ∃ W1, w.alloc (.cells #[Value.int .u8 ((m : Int) / 256), Value.int .u8 ((m : Int) % 256)] 5) = W1 := ⟨_, rfl⟩
  rw [hW1] at hb1 hr1
  have hs1 : W1.heap.size = w.heap.size + 1 := by rw [← hW1]; simp
  rw [← hs1] at hr1
  obtain ⟨A2, c2, w2, hrun2, o2, hb2, -⟩ := append_bytes (P := Try.prog) eb W1 W1.heap.size (l := []) (World.ownsRow_nil _ _ _ _) 2 2 hr1 rfl (by rw [hd_length]; decide) (Nat.le_refl _) (by simp)
  rw [List.nil_append] at hrun2 o2
  obtain ⟨A3, c3, w3, hrun3, o3, hb3, -, -, z3⟩ := append_bytes (P := Try.prog) eb w2 W1.heap.size o2 m c ((hR.below hb1).more (Nat.le_refl _) |>.below (hb2.mono hb1.size)) hm (by rw [hd_length]; omega) hb2.size hz
  have hl3 : (hd m ++ b).length ≤ 1000000 := by rw [List.length_append, hd_length]; omega
  have hb13 : Below W1.heap.size W1 w3 := hb2.trans hb3
  have hbw3 : Below w.heap.size w w3 := hb1.trans (hb13.mono hb1.size)
  obtain ⟨al, hal⟩ : ∃ al, hd m ++ b = al := ⟨_, rfl⟩
  have hsum : sum32 0 al = fsum b := by rw [← hal, fsum_eq, hm]
  rw [hal] at hrun3 o3 hl3
  have HM := Lib.hid (ref32_any A3 c3 al hl3 w3 (rdB_own o3).1 0 (by decide))
  rw [hsum] at HM
  have hs := fsum_lt b
  obtain ⟨s, hsv⟩ : ∃ s, fsum b = s := ⟨_, rfl⟩
  rw [hsv] at HM hs
  obtain ⟨A5, c5, w5, hrun5, o5, hb5, -⟩ := append_bytes (P := Try.prog) eb (w3.alloc (.cells #[] 5)) w3.heap.size (l := []) (World.ownsRow_made (size := 1) w3 #[] 0 (Nat.le_refl _) (by decide) rfl) 2 2 (hr1.below (hb13.alloc hb13.size _)) rfl (by rw [hd_length]; decide) (by simp) (by simp)
  rw [List.nil_append] at hrun5 o5
  obtain ⟨A6, c6, w6, hrun6, o6, hb6, -⟩ := append_lit (P := Try.prog) eb w5 w3.heap.size o5 _ 4 (be4 s) (be_cells4 s hs) rfl (by rw [hd_length, be4_length]; decide) (by have := hb5.size; simp at this; omega)
  have hb35 : Below w3.heap.size w3 w5 := (bstep w3 _).trans hb5
  have hb36 : Below w3.heap.size w3 w6 := hb35.trans hb6
  have hbw6 : Below w.heap.size w w6 := hbw3.trans (hb36.mono hbw3.size)
  obtain ⟨A7, c7, w7, hrun7, o7, hb7, -, -, z7⟩ := append_bytes (P := Try.prog) eb w6 w3.heap.size o6 m c ((hR.below hbw6).more hbw6.size) hm (by simp only [List.length_append, hd_length, be4_length]; omega) hb36.size hz
  have hfr : hd m ++ be4 s ++ b = frm b := by unfold frm; rw [hsv, hm, List.append_assoc]
  rw [hfr] at hrun7 o7 z7
  obtain ⟨q, hq⟩ : ∃ q, hd m ++ be4 s = q := ⟨_, rfl⟩
  rw [hq] at hrun6 hrun7
  obtain ⟨q2, hq2⟩ : ∃ q2, hd m = q2 := ⟨_, rfl⟩
  rw [hq2] at hrun2 hrun3 hrun5 hrun6
  obtain ⟨W4, hW4⟩ : ∃ W4, w3.alloc (.cells #[] 5) = W4 := ⟨_, rfl⟩
  obtain ⟨W5, hW5⟩ : ∃ W5, w5.alloc (.cells #[Value.int .u8 ((s : Int) / 16777216), Value.int .u8 ((s : Int) / 65536 % 256), Value.int .u8 ((s : Int) / 256 % 256), Value.int .u8 ((s : Int) % 256)] 5) = W5 := ⟨_, rfl⟩
  rw [hW4] at hrun5
  rw [hW5] at hrun6
  clear hq hq2
  have hbw7 : Below w.heap.size w w7 := hbw6.trans (hb7.mono hbw3.size)
  obtain ⟨r, hr⟩ : ∃ r, frm b = r := ⟨_, rfl⟩
  rw [hr] at hrun7 o7 z7
  rw [hr]
  have O7 := Lib.hid (own_mono o7 hbw3.size)
  have Z7 := Lib.hid z7
  have Hm := Lib.hid hm
  have kI : (m : Int) ≤ 4096 := by omega
  clear hr hfr o7 z7 o6 hb6 hb36 hb35 o5 hb5 hsv hsum hal o3 z3 hb3 hb13 o2 hb2 hr1 hb1 hs1 hl3 hbw6 hb7 hR hz hm
  go_enter Try.func19, Try.ntmps19
  go_wp2_with (first | (at_builtin; refine wpList_append_run hrun2 rfl rfl rfl rfl rfl ?_; clear hrun2) | (at_builtin; refine wpList_append_run hrun3 rfl rfl rfl rfl rfl ?_; clear hrun3))
  refine HM.out.mono ?_
  rintro e w' ⟨rfl, rfl⟩
  go_wp2_with (first | (at_builtin; refine wpList_append_run hrun5 rfl rfl rfl rfl rfl ?_; clear hrun5) | (at_builtin; refine wpList_append_run hrun6 rfl rfl rfl rfl rfl ?_; clear hrun6) | (at_builtin; refine wpList_append_run hrun7 rfl rfl rfl rfl rfl ?_; clear hrun7))
  go_ret
  exact ⟨A7, c7, rfl, O7.out, Z7.out, hbw7⟩
end Go.Proofs.Ytajpinbabgcnkaa
