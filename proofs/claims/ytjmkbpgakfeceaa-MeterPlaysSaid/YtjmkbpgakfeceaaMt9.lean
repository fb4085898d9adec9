/-
  A meter: Sample, Replace, walked. Conditions stand at each theorem. (Printed by gen_mt9.py.)
-/
import Derived.Test.YtjmkbpgakfeceaaMt7
import Derived.Test.YtjmkbpgakfeceaaMt8
namespace Go.Proofs.Ytjmkbpgakfeceaa
open Go Go.RowKit Go.Kw Go.Kw.Mt
set_option linter.unusedVariables false
set_option linter.unusedSimpArgs false

theorem own_nilE (w : World) (B : Nat) (nr : Int) : w.ownsRow B 45 42 (.slice none 0 0) 0 (ensC nr []) := ⟨by simp [ensC], .inl ⟨rfl, rfl⟩⟩
/-- What a call answers and leaves. -/
def AnsP (w : World) (b : Nat) (nr : Int) (s : Stp) (X : Int × List En × M) (e : Ending) (w' : World) : Prop :=
  ∃ A k c, e = .returned (.tuple #[.slice A k c, .int .i64 X.1]) ∧ w'.ownsRow w.heap.size 45 42 (.slice A k c) k (ensC nr X.2.1) ∧ MtB w' b nr s X.2.2 ∧ Kept (fun x => x ≠ b) w w' ∧ k = X.2.1.length
theorem AnsP.no {w w' : World} {b : Nat} {nr : Int} {s : Stp} {m : M} {er : Int} {e : Ending} (he : e = .returned (.tuple #[.slice none 0 0, .int .i64 er])) (hm : MtB w' b nr s m) (hk : Kept (fun x => x ≠ b) w w') : AnsP w b nr s (er, [], m) e w' :=
  ⟨none, 0, 0, he, own_nilE _ _ _, hm, hk, rfl⟩

theorem tSample_calls (w : World) (b : Nat) (nr : Int) (s : Stp) (m : M) (i : Nat) (hs : MayS s) (hok : Ok s m i) (hi : i ≤ 200) (hB : MtB w b nr s m) (t : Int) (v : Nat) (hv : v < 4294967296) (b0 b1 b2 : Nat) (hx : Box3 b0 b1 b2 b t v w) (hne : b0 ≠ b ∧ b1 ≠ b ∧ b2 ≠ b) :
    Calls Try.prog 31 #[.pointer (some ⟨b, 0, none⟩), .int .i64 t, .func (.func 32) #[] #[.pointer (some ⟨b0, 0, none⟩), .pointer (some ⟨b1, 0, none⟩), .pointer (some ⟨b2, 0, none⟩)]] w (AnsP w b nr s (sampleV s m t v)) := by
  rw [sample_form]
  by_cases ht : timeBad t
  · rw [if_pos ht]
    refine (turn_time w b nr s m hs hB t _ ht).mono ?_
    rintro e w' ⟨he, hb⟩
    exact AnsP.no he (hB.go hb) (hb.keptS _)
  rw [if_neg ht]
  have ht' : 0 ≤ t ∧ t < 253402300800 := by unfold timeBad at ht; omega
  by_cases hbg : m.bg = false
  · rw [if_pos hbg]
    refine (turn_Sample w b nr s m hs hB t ht b0 b1 b2 (fun v' w' => v' = .slice none 0 0 ∧ MtB w' b nr s (beginM s t v) ∧ Kept (fun x => x ≠ b) w w') (fun W hb => ?_)).mono ?_
    · refine (smp_first W b nr s m hs (hB.go hb) hbg t v ht' b0 b1 b2 (hx.kept (hb.keptS (fun _ => True)) trivial trivial trivial)).mono ?_
      rintro e w' ⟨he, hm, hk⟩
      exact ⟨_, he, rfl, hm, (hb.keptS _).trans hk⟩
    · rintro e w' ⟨v', he, rfl, hm, hk⟩
      exact AnsP.no he hm hk
  rw [if_neg hbg]
  have hbg : m.bg = true := by cases hq : m.bg with
    | true => rfl
    | false => exact absurd hq hbg
  by_cases hsp : max t m.t / s.len - m.o > 1000
  · rw [if_pos hsp]
    refine (turn_Sample_no w b nr s m hs hB t ht b0 b1 b2 242 (by decide) (fun W hb => ?_)).mono ?_
    · refine (smp_next W b nr s m i hs hok hi (hB.go hb) hbg t v hv ht' b0 b1 b2 (hx.kept (hb.keptS (fun _ => True)) trivial trivial trivial) hne).mono ?_
      rintro e w' ⟨-, h⟩
      exact h hsp
    · rintro e w' ⟨he, hm, hk⟩
      exact AnsP.no he hm hk
  rw [if_neg hsp]
  refine (turn_Sample w b nr s m hs hB t ht b0 b1 b2 (fun v' w' => ∃ A k c, v' = .slice A k c ∧ w'.ownsRow w.heap.size 45 42 (.slice A k c) k (ensC nr (passE s (backM m t) (max t m.t) (smD s m v) (passF s (backM m t) (max t m.t) (smF s m v)) (many s (backM m t) (max t m.t)) ++ (if difV m v > s.bound then [⟨2, max t m.t, 0, 0, difV m v⟩] else []))) ∧ MtB w' b nr s { passZ s (backM m t) (max t m.t) (smD s m v) (smF s m v) with v := v } ∧ Kept (fun x => x ≠ b) w w' ∧ k = many s (backM m t) (max t m.t) + (if difV m v > s.bound then 1 else 0)) (fun W hb => ?_)).mono ?_
  · refine (smp_next W b nr s m i hs hok hi (hB.go hb) hbg t v hv ht' b0 b1 b2 (hx.kept (hb.keptS (fun _ => True)) trivial trivial trivial) hne).mono ?_
    rintro e w' ⟨h, -⟩
    obtain ⟨A, k, c, he, ho, hm, hk, hkk⟩ := h hsp
    exact ⟨_, he, A, k, c, rfl, own_lowerM ho hb.size, hm, (hb.keptS _).trans hk, hkk⟩
  · rintro e w' ⟨v', he, A, k, c, rfl, ho, hm, hk, hkk⟩
    refine ⟨A, k, c, he, ho, hm, hk, ?_⟩
    rw [hkk, List.length_append, passE_length]
    split <;> rfl
/-- Sample. -/
theorem mSample_calls (w : World) (b : Nat) (nr : Int) (s : Stp) (m : M) (i : Nat) (hs : MayS s) (hok : Ok s m i) (hi : i ≤ 200) (hB : MtB w b nr s m) (t : Int) (v : Nat) (hv : v < 4294967296) :
    Calls Try.prog 14 #[.pointer (some ⟨b, 0, none⟩), .int .i64 t, .int .u32 (v : Int)] w (AnsP w b nr s (sampleV s m t v)) := by
  obtain ⟨b0, hb0⟩ : ∃ b0, w.heap.size = b0 := ⟨_, rfl⟩
  obtain ⟨w1, hw1⟩ : ∃ x, ((w.alloc (.cells #[.pointer (some ⟨b, 0, none⟩)] 35)).alloc (.cells #[.int .i64 t] 2)).alloc (.cells #[.int .u32 (v : Int)] 23) = x := ⟨_, rfl⟩
  have hst : Below w.heap.size w w1 := hw1 ▸ bnext (bnext (bstep w _) (bstep _ _)) (bstep _ _)
  have hx : Box3 b0 (b0 + 1) (b0 + 2) b t v w1 := by
    have h0 := blk_new w #[.pointer (some ⟨b, 0, none⟩)] 35
    have h1 := blk_new (w.alloc (.cells #[.pointer (some ⟨b, 0, none⟩)] 35)) #[.int .i64 t] 2
    have h2 := blk_new ((w.alloc (.cells #[.pointer (some ⟨b, 0, none⟩)] 35)).alloc (.cells #[.int .i64 t] 2)) #[.int .u32 (v : Int)] 23
    have h0' := blk_below (blk_below h0 (bstep _ (.cells #[.int .i64 t] 2))) (bstep _ (.cells #[.int .u32 (v : Int)] 23))
    have h1' := blk_below h1 (bstep _ (.cells #[.int .u32 (v : Int)] 23))
    rw [hw1] at h0' h1' h2
    simp only [World.size_alloc, hb0] at h0' h1' h2
    exact ⟨h0', h1', h2⟩
  have hlt := hB.lt
  have HT := Lib.hid (tSample_calls w1 b nr s m i hs hok hi (hB.go hst) t v hv b0 (b0 + 1) (b0 + 2) hx (by omega))
  have H0 := Lib.hid (And.intro hst hb0)
  have hc := hx.cells
  obtain ⟨d0, d1, d2⟩ := hc
  clear hs hok hi hB hv hst hx hlt
  go_enter Try.func14, Try.ntmps14
  go_wp2_with fail
  refine HT.out.mono ?_
  rintro e w' ⟨A, k, c, rfl, ho, hm, hk, hkk⟩
  have HR := Lib.hid (And.intro ho (And.intro hm (And.intro hk hkk)))
  clear ho hm hk hkk
  go_wp2_with fail
  go_ret2
  exact ⟨A, k, c, rfl, own_lowerM HR.out.1 H0.out.1.size, HR.out.2.1, (H0.out.1.keptS _).trans HR.out.2.2.1, HR.out.2.2.2⟩

theorem tReplace_calls (w : World) (b : Nat) (nr : Int) (s : Stp) (m : M) (i : Nat) (hs : MayS s) (hok : Ok s m i) (hi : i ≤ 200) (hB : MtB w b nr s m) (t : Int) (v : Nat) (hv : v < 4294967296) (b0 b1 b2 : Nat) (hx : Box3 b0 b1 b2 b t v w) (hne : b0 ≠ b ∧ b1 ≠ b ∧ b2 ≠ b) :
    Calls Try.prog 31 #[.pointer (some ⟨b, 0, none⟩), .int .i64 t, .func (.func 37) #[] #[.pointer (some ⟨b0, 0, none⟩), .pointer (some ⟨b1, 0, none⟩), .pointer (some ⟨b2, 0, none⟩)]] w (AnsP w b nr s (replV s m t v)) := by
  rw [repl_form]
  by_cases ht : timeBad t
  · rw [if_pos ht]
    refine (turn_time w b nr s m hs hB t _ ht).mono ?_
    rintro e w' ⟨he, hb⟩
    exact AnsP.no he (hB.go hb) (hb.keptS _)
  rw [if_neg ht]
  have ht' : 0 ≤ t ∧ t < 253402300800 := by unfold timeBad at ht; omega
  by_cases hbg : m.bg = false
  · rw [if_pos hbg]
    refine (turn_Replace w b nr s m hs hB t ht b0 b1 b2 (fun v' w' => v' = .slice none 0 0 ∧ MtB w' b nr s (beginM s t v) ∧ Kept (fun x => x ≠ b) w w') (fun W hb => ?_)).mono ?_
    · refine (rpl_first W b nr s m hs (hB.go hb) hbg t v ht' b0 b1 b2 (hx.kept (hb.keptS (fun _ => True)) trivial trivial trivial)).mono ?_
      rintro e w' ⟨he, hm, hk⟩
      exact ⟨_, he, rfl, hm, (hb.keptS _).trans hk⟩
    · rintro e w' ⟨v', he, rfl, hm, hk⟩
      exact AnsP.no he hm hk
  rw [if_neg hbg]
  have hbg : m.bg = true := by cases hq : m.bg with
    | true => rfl
    | false => exact absurd hq hbg
  by_cases hbk : t < m.t
  · rw [if_pos hbk]
    refine (turn_Replace_no w b nr s m hs hB t ht b0 b1 b2 241 (by decide) (fun W hb => ?_)).mono ?_
    · refine (rpl_back W b nr s m (hB.go hb) hbg t v hbk b0 b1 b2 (hx.kept (hb.keptS (fun _ => True)) trivial trivial trivial)).mono ?_
      rintro e w' ⟨he, hb2⟩
      exact ⟨_, he, ⟨m, (hB.go hb).go hb2⟩, hb2.keptS _⟩
    · rintro e w' ⟨he, hm, hk⟩
      exact AnsP.no he hm hk
  rw [if_neg hbk]
  by_cases hsp : t / s.len - m.o > 1000
  · rw [if_pos hsp]
    refine (turn_Replace_no w b nr s m hs hB t ht b0 b1 b2 242 (by decide) (fun W hb => ?_)).mono ?_
    · refine (rpl_span W b nr s m i hs hok (hB.go hb) hbg t v (by omega) ht'.2 hsp b0 b1 b2 (hx.kept (hb.keptS (fun _ => True)) trivial trivial trivial)).mono ?_
      rintro e w' ⟨he, hb2⟩
      exact ⟨_, he, ⟨m, (hB.go hb).go hb2⟩, hb2.keptS _⟩
    · rintro e w' ⟨he, hm, hk⟩
      exact AnsP.no he hm hk
  rw [if_neg hsp]
  refine (turn_Replace w b nr s m hs hB t ht b0 b1 b2 (fun v' w' => ∃ A k c, v' = .slice A k c ∧ w'.ownsRow w.heap.size 45 42 (.slice A k c) k (ensC nr (passE s m t 0 (passF s m t 0) (many s m t))) ∧ MtB w' b nr s { passZ s m t 0 0 with k := (passZ s m t 0 0).k + ((eng s (passZ s m t 0 0).c : Int) - (passZ s m t 0 0).fr), c := 0, fr := 0, v := v, f := (passZ s m t 0 0).f ||| 8 } ∧ Kept (fun x => x ≠ b) w w' ∧ k = many s m t) (fun W hb => ?_)).mono ?_
  · refine (rpl_next W b nr s m i hs hok hi (hB.go hb) hbg t v (by omega) ht'.2 hsp b0 b1 b2 (hx.kept (hb.keptS (fun _ => True)) trivial trivial trivial) hne).mono ?_
    rintro e w' ⟨A, k, c, he, ho, hm, hk, hkk⟩
    exact ⟨_, he, A, k, c, rfl, own_lowerM ho hb.size, hm, (hb.keptS _).trans hk, hkk⟩
  · rintro e w' ⟨v', he, A, k, c, rfl, ho, hm, hk, hkk⟩
    refine ⟨A, k, c, he, ho, hm, hk, ?_⟩
    rw [hkk, passE_length]
/-- Replace. -/
theorem mReplace_calls (w : World) (b : Nat) (nr : Int) (s : Stp) (m : M) (i : Nat) (hs : MayS s) (hok : Ok s m i) (hi : i ≤ 200) (hB : MtB w b nr s m) (t : Int) (v : Nat) (hv : v < 4294967296) :
    Calls Try.prog 17 #[.pointer (some ⟨b, 0, none⟩), .int .i64 t, .int .u32 (v : Int)] w (AnsP w b nr s (replV s m t v)) := by
  obtain ⟨b0, hb0⟩ : ∃ b0, w.heap.size = b0 := ⟨_, rfl⟩
  obtain ⟨w1, hw1⟩ : ∃ x, ((w.alloc (.cells #[.pointer (some ⟨b, 0, none⟩)] 35)).alloc (.cells #[.int .i64 t] 2)).alloc (.cells #[.int .u32 (v : Int)] 23) = x := ⟨_, rfl⟩
  have hst : Below w.heap.size w w1 := hw1 ▸ bnext (bnext (bstep w _) (bstep _ _)) (bstep _ _)
  have hx : Box3 b0 (b0 + 1) (b0 + 2) b t v w1 := by
    have h0 := blk_new w #[.pointer (some ⟨b, 0, none⟩)] 35
    have h1 := blk_new (w.alloc (.cells #[.pointer (some ⟨b, 0, none⟩)] 35)) #[.int .i64 t] 2
    have h2 := blk_new ((w.alloc (.cells #[.pointer (some ⟨b, 0, none⟩)] 35)).alloc (.cells #[.int .i64 t] 2)) #[.int .u32 (v : Int)] 23
    have h0' := blk_below (blk_below h0 (bstep _ (.cells #[.int .i64 t] 2))) (bstep _ (.cells #[.int .u32 (v : Int)] 23))
    have h1' := blk_below h1 (bstep _ (.cells #[.int .u32 (v : Int)] 23))
    rw [hw1] at h0' h1' h2
    simp only [World.size_alloc, hb0] at h0' h1' h2
    exact ⟨h0', h1', h2⟩
  have hlt := hB.lt
  have HT := Lib.hid (tReplace_calls w1 b nr s m i hs hok hi (hB.go hst) t v hv b0 (b0 + 1) (b0 + 2) hx (by omega))
  have H0 := Lib.hid (And.intro hst hb0)
  have hc := hx.cells
  obtain ⟨d0, d1, d2⟩ := hc
  clear hs hok hi hB hv hst hx hlt
  go_enter Try.func17, Try.ntmps17
  go_wp2_with fail
  refine HT.out.mono ?_
  rintro e w' ⟨A, k, c, rfl, ho, hm, hk, hkk⟩
  have HR := Lib.hid (And.intro ho (And.intro hm (And.intro hk hkk)))
  clear ho hm hk hkk
  go_wp2_with fail
  go_ret2
  exact ⟨A, k, c, rfl, own_lowerM HR.out.1 H0.out.1.size, HR.out.2.1, (H0.out.1.keptS _).trans HR.out.2.2.1, HR.out.2.2.2⟩

end Go.Proofs.Ytjmkbpgakfeceaa
