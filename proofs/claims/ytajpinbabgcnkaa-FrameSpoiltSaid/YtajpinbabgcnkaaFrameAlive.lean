/-
  The chapter's first example. No conditions.
-/
import Derived.Test.YtajpinbabgcnkaaFrameWhy
import Derived.Lib.SlBytesConst
namespace Go.Proofs.Ytajpinbabgcnkaa
open Go Go.RowKit Go.Kw Go.Kw.Crc Go.Kw.Fm
set_option linter.unusedVariables false
set_option linter.unusedSimpArgs false
attribute [local go_sem ↓] Go.wp_at_zero Go.wp_at_succ

theorem frm_a : frm [97] = [0, 1] ++ (be4 (fsum [97]) ++ [97]) := rfl
theorem why_frm (b : List UInt8) (h : mayR b = true) : (scan (frm b)).2 = [] := by
  have := scan_frm b [] h
  rw [List.append_nil] at this
  rw [this, scan_nil]
set_option maxHeartbeats 1000000 in
theorem alive_calls (w : World) : Calls Try.prog 13 #[] w fun e w' => e = .returned (.bool true) ∧ Below w.heap.size w w' := by
  have kc := fun (w : World) (C : Array Value) (n c : Nat) => Lib.run_convert_bytes_const (P := Try.prog) w 23 5 C n c Try.underlying23 Try.underlying5
  have hb0 := bstep w (.cells #[.int .u8 97] 5 (1, 2))
  have hr0 := rdB_new w #[.int .u8 97] 5 (1, 2) [97] rfl
  have hm : mayR [97] = true := by decide
  have HP := Lib.hid (put_n none (some ⟨w.heap.size, 0, none⟩) 0 1 0 1 [] [97] rfl rfl (by decide) (by decide) (w.alloc (.cells #[.int .u8 97] 5 (1, 2))) (.inl rfl) (by simpa using hr0) (fun _ => rfl) (by simp))
  clear hr0
  go_enter Try.func13, Try.ntmps13
  go_wp2_with fail
  refine HP.out.mono ?_
  rintro e w1 ⟨hp, hb1⟩
  unfold PutPost at hp
  rw [hm, if_pos rfl, List.nil_append] at hp
  obtain ⟨A1, c1, rfl, o1⟩ := hp
  have hl : (frm [97]).length = 7 := frm_length _
  rw [hl] at o1 ⊢
  have hr1 := (rdB_own o1).1
  have hca := own_caps o1
  rcases A1 with _ | a1
  · exfalso; have := hca.2.2.1 rfl; omega
  obtain ⟨g, rfl, -, hg⟩ := hca.2.2.2 a1 rfl
  have hcell : ∀ i, i < 7 → w1.cell? ⟨g, 0 + i, none⟩ = some (.int .u8 (bAt (frm [97]) i)) := fun i hi => by
    obtain ⟨b', off', e, hb, hc⟩ := hr1.at_ (k := i) (by rw [hl]; exact hi)
    injection e with e; injection e with e1 e2; subst e1 e2
    exact hc
  have x0 : w1.cell? ⟨g, 0, none⟩ = some (.int .u8 0) := hcell 0 (by omega)
  have x1 : w1.cell? ⟨g, 1, none⟩ = some (.int .u8 1) := hcell 1 (by omega)
  have x6 : w1.cell? ⟨g, 6, none⟩ = some (.int .u8 97) := hcell 6 (by omega)
  have HW := Lib.hid (fun (W : World) (h : Below w1.heap.size w1 W) => why_calls (some ⟨g, 0, none⟩) 7 c1 (frm [97]) hl.symm (by rw [hl]; decide) hca.1 hca.2.1 W (hr1.go h) (by simp) 0 (by rw [if_pos (why_frm _ hm)]))
  have hbw1 := bnext hb0 hb1
  have hc7 := hca.1
  clear HP o1 hr1 hca hcell hb1 hb0 hl
  go_wp2_with fail
  refine (HW.out w1 (Below.refl _ _)).mono ?_
  rintro e w2 ⟨rfl, hb2⟩
  have hbf := bnext hbw1 hb2
  clear HW
  go_wp2_with fail
  go_ret
  exact ⟨rfl, hbf⟩
end Go.Proofs.Ytajpinbabgcnkaa
