/-
  The walk of FrameMakes. Conditions: the bulk of what is read is bounded (the second form of the statement).
-/
import Derived.Test.YtajpinbabgcnkaaFrameSame
import Derived.Test.YtajpinbabgcnkaaListsOpen
namespace Go.Proofs.Ytajpinbabgcnkaa
open Go Go.RowKit Go.Kw Go.Kw.Crc Go.Kw.Fm
set_option linter.unusedVariables false
set_option linter.unusedSimpArgs false
attribute [local go_sem ↓] Go.wp_at_zero Go.wp_at_succ

theorem flat_sum (ls : List (List UInt8)) : (ls.flatMap frm).length = 6 * ls.length + (ls.map List.length).sum := by
  induction ls with
  | nil => rfl
  | cons b ls ih => rw [List.flatMap_cons, List.length_append, frm_length, ih, List.length_cons, List.map_cons, List.sum_cons]; omega
/-- Size, its answer named. -/
theorem size_n (A : Option Addr) (n c : Nat) (hn : n ≤ 1000000) (r : Int) (hr : (if 1 ≤ n ∧ n ≤ 4096 then 6 + (n : Int) else 0) = r) (w : World) : Calls Try.prog 12 #[.slice A n c] w fun e w' => e = .returned (.int .i64 r) ∧ w = w' := by
  subst hr; exact size_calls A n c hn w
/-- One row of rows. -/
theorem RdL.one {w : World} {S : Nat → Prop} {b off : Nat} {ls : List (List UInt8)} (h : RdL w S (some ⟨b, off, none⟩) ls) {k : Nat} (hk : k < ls.length) : RdL w S (some ⟨b, off + k, none⟩) [lrd ls k] := by
  obtain ⟨ps, h1, h2⟩ := h
  refine ⟨fun i => ps (k + i), ?_, fun i hi => ?_⟩
  · rcases h1 with h1 | ⟨b', off', e, hs, hb, hc⟩
    · omega
    · injection e with e; injection e with e1 e2; subst e1 e2
      refine .inr ⟨b, off + k, rfl, hs, hb, fun i hi => ?_⟩
      obtain rfl : i = 0 := by simpa using hi
      exact hc k (by omega)
  · obtain rfl : i = 0 := by simpa using hi
    exact h2 k hk

theorem bytes_cat (a y : List UInt8) : (⟨a.toArray⟩ : ByteArray) ++ ⟨y.toArray⟩ = ⟨(a ++ y).toArray⟩ := by
  apply ByteArray.ext; simp
def allOut (ls : List (List UInt8)) : List UInt8 := if ls.all mayR then ls.flatMap frm else []
def allErr (ls : List (List UInt8)) : Int := if ls.all mayR then 0 else 130
/-- What is handed back of bytes and an error, its two parts named. -/
def BytesErr (w' : World) (base : Nat) (e : Ending) (l : List UInt8) (x : Int) : Prop :=
  ∃ A' n c', e = .returned (.tuple #[.slice A' n c', .int .i64 x]) ∧ n = l.length ∧ n ≤ c' ∧ c' ≤ 9223372036854775807 ∧ RdB w' w'.heap.size A' l ∧ (A' = none → l.length = 0) ∧ w'.ownsRow base 5 1 (.slice A' n c') n (bv l)
theorem bytesErr_some {w' : World} {base : Nat} {A' : Option Addr} {c' n : Nat} {l : List UInt8} (hn : n = l.length) (o : w'.ownsRow base 5 1 (.slice A' n c') n (bv l)) : BytesErr w' base (.returned (.tuple #[.slice A' n c', .int .i64 0])) l 0 :=
  ⟨A', n, c', rfl, hn, (own_caps o).1, (own_caps o).2.1, (rdB_own o).1, fun h => by have := (own_caps o).2.2.1 h; omega, o⟩
theorem bytesErr_none (w' : World) (base : Nat) (x : Int) : BytesErr w' base (.returned (.tuple #[.slice none 0 0, .int .i64 x])) [] x :=
  ⟨none, 0, 0, rfl, rfl, Nat.le_refl _, by omega, .inl rfl, fun _ => rfl, World.ownsRow_nil _ _ _ _⟩
theorem AllPost.form {w' : World} {base : Nat} {e : Ending} {ls : List (List UInt8)} (h : AllPost w' base e ls) : BytesErr w' base e (allOut ls) (allErr ls) := by
  unfold AllPost at h
  unfold allOut allErr
  split at h
  · rename_i hm
    obtain ⟨A', c', n, rfl, hn, o⟩ := h
    simp only [if_pos hm]
    exact bytesErr_some hn o
  · rename_i hm
    subst h
    simp only [if_neg hm]
    exact bytesErr_none _ _ _
theorem RefAllPost.form {w' : World} {base : Nat} {e : Ending} {ls : List (List UInt8)} (h : RefAllPost w' base e ls) : BytesErr w' base e (allOut ls) (allErr ls) := AllPost.form h
theorem PutPost.form {w w' : World} {e : Ending} {o b : List UInt8} (h : PutPost w w' e o b) : BytesErr w' w.heap.size e (if mayR b then o ++ frm b else []) (if mayR b then 0 else 130) := by
  unfold PutPost at h
  split at h
  · rename_i hm
    obtain ⟨A', c', rfl, o⟩ := h
    simp only [if_pos hm]
    exact bytesErr_some rfl o
  · rename_i hm
    subst h
    simp only [if_neg hm]
    exact bytesErr_none _ _ _
theorem allOut_one (b : List UInt8) : allOut [b] = if mayR b then frm b else [] := by
  unfold allOut; cases h : mayR b <;> simp [h]
theorem allErr_one (b : List UInt8) : allErr [b] = if mayR b then 0 else 130 := by
  unfold allErr; cases h : mayR b <;> simp [h]

set_option maxRecDepth 100000 in
set_option maxHeartbeats 4000000 in
theorem frameMakes_walk (v0 : Value) (ls : List (List UInt8)) (a1 : Option Addr) (len1 cap1 : Nat) (z1 : List Int) (w : World) (w0 : LRows w v0 ls ∧ (ls.map List.length).sum + ls.length ≤ 1048576) (w1 : IsRow .u8 w a1 len1 cap1 z1) :
    Calls Try.prog 3 #[v0, .slice a1 len1 cap1] w fun e w' => e = .returned (.bool true) ∧ Below w.heap.size w w' := by
  obtain ⟨⟨A, c, rfl, hlc, hcm, hzA, hF⟩, hsum⟩ := w0
  obtain ⟨hm1, hm2, hz1⟩ := w1.caps
  unfold maxLen at hm2 hcm
  obtain ⟨a, rfl, hR⟩ := w1.bytes
  have hza : a1 = none → a.length = 0 := fun h => (hz1 h).1
  clear w1 hz1
  have hfs := flat_sum ls
  by_cases hg : 9000 < (ls.flatMap frm).length
  · have HG := Lib.hid hg
    go_enter Try.func3, Try.ntmps3
    go_wp2_with fail
    refine (refGreat_calls ls A c ls.length rfl w _ hF (by omega)).mono ?_
    rintro e w' ⟨rfl, rfl⟩
    rw [if_pos HG.out]
    go_wp2_with fail
    go_ret; exact ⟨rfl, Below.refl _ _⟩
  · by_cases hg2 : 500 < a.length
    · have HG := Lib.hid hg
      have k1 : (500 : Int) < (a.length : Int) := by omega
      go_enter Try.func3, Try.ntmps3
      go_wp2_with fail
      refine (refGreat_calls ls A c ls.length rfl w _ hF (by omega)).mono ?_
      rintro e w' ⟨rfl, rfl⟩
      rw [if_neg HG.out]
      go_wp2_with fail
      go_ret; exact ⟨rfl, Below.refl _ _⟩
    · obtain ⟨N, hN⟩ : ∃ N, ls.length = N := ⟨_, rfl⟩
      have hcnt := count_le ls
      have k1 : (a.length : Int) ≤ 500 := by omega
      have k2 : N ≤ 1500 := by omega
      have HG := Lib.hid hg
      have HN := Lib.hid hN
      have HF := Lib.hid hF
      have HR := Lib.hid hR
      have Hza := Lib.hid hza
      have HzA := Lib.hid hzA
      rw [hN] at hlc
      rw [show ls.length = N from hN]
      clear hg hN hF hR hza hzA hfs hsum hcnt hg2
      go_enter Try.func3, Try.ntmps3
      go_wp2_with fail
      refine (refGreat_calls ls A c N HN.out.symm w _ HF.out (by have := HG.out; omega)).mono ?_
      rintro e w' ⟨rfl, rfl⟩
      rw [if_neg HG.out]
      go_wp2_with fail
      refine (frameAll_calls A N c ls HN.out.symm (by have := HG.out; omega) w HF.out).mono ?_
      rintro e w1 ⟨hp1, hb1⟩
      obtain ⟨A2, n2, c2, rfl, rfl, hc2, hd2, hr2, hz2, -⟩ := hp1.form
      obtain ⟨q, hq⟩ : ∃ q, allOut ls = q := ⟨_, rfl⟩
      obtain ⟨x, hx⟩ : ∃ x, allErr ls = x := ⟨_, rfl⟩
      obtain ⟨L, hL⟩ : ∃ L, q.length = L := ⟨_, rfl⟩
      rw [hq, hL] at hc2
      rw [hq] at hr2 hz2
      rw [hx, hq, hL]
      have HL := Lib.hid hL
      have HC2 := Lib.hid (refAll_calls A N c ls HN.out.symm (by have := HG.out; omega) w1 (HF.out.go hb1))
      have Hq := Lib.hid hq
      have Hx := Lib.hid hx
      clear hp1 hq hx hL
      go_wp2_with fail
      refine HC2.out.mono ?_
      rintro e w2 ⟨hp2, hb2⟩
      obtain ⟨A3, n3, c3, rfl, rfl, hc3, hd3, hr3, hz3, -⟩ := hp2.form
      rw [Hq.out, HL.out] at hc3
      rw [Hq.out] at hr3 hz3
      rw [Hx.out, Hq.out, HL.out]
      have hbw2 := bnext hb1 hb2
      have s1 := run_string (P := Try.prog) (src := 23) (dst := 9) (hr2.go hb2) c2 hz2 Try.underlying23 Try.underlying5 Try.underlying9
      have s2 := run_string (P := Try.prog) (src := 23) (dst := 9) hr3 c3 hz3 Try.underlying23 Try.underlying5 Try.underlying9
      have s3 := run_string (P := Try.prog) (src := 23) (dst := 9) (HR.out.go hbw2) cap1 Hza.out Try.underlying23 Try.underlying5 Try.underlying9
      rw [HL.out] at s1 s2
      clear HC2 hp2 hr2 hr3 hz2 hz3 hb2
      go_wp2_with fail
      clear s1 s2 s3
      go_loopw [10] (fun i wr => ∃ k : Nat, k ≤ N ∧ i = .int .i64 k ∧ Below w.heap.size w wr) (fun i _ => N - (intOf i).toNat)
      case atStart => exact ⟨0, Nat.zero_le _, rfl, hbw2⟩
      case round =>
        obtain ⟨k, hk, rfl, hb⟩ := hrel
        by_cases hlt : k < N
        · have hltl : k < ls.length := by rw [HN.out]; exact hlt
          have hone0 := HF.out.kept hb.keptB
          obtain ⟨b1, o1, B1, C1, rfl, hb1', x0, x1, x2, x3, x4⟩ := hone0.cells hltl
          have hone := hone0.one hltl
          have hkI : (k : Int) < (N : Int) := by omega
          have hro := row_le ls k hltl
          obtain ⟨b, hbq⟩ : ∃ b, lrd ls k = b := ⟨_, rfl⟩
          rw [hbq] at x0 x1 x2 x3 hro hone
          obtain ⟨z, hz⟩ : ∃ z, b.length = z := ⟨_, rfl⟩
          rw [hz] at x0 x3
          have hz9 : z ≤ 9000 := by have := HG.out; omega
          have HP := Lib.hid (put_n a1 B1 a.length z cap1 C1 a b rfl hz.symm (by omega) (by omega) wr ((HR.out.below hb).more hb.size) x1.rd Hza.out x2)
          have hcell := Lib.hid x0
          have Hone := Lib.hid hone
          have Hz := Lib.hid hz
          have hck : ¬ c = k := by omega
          have kc : (k : Int) + 1 ≤ (c : Int) := by omega
          clear hone hone0 hro x1 x2 hz hbq
          cases hmb : mayR b with
          | true =>
            obtain ⟨y, hy⟩ : ∃ y, frm b = y := ⟨_, rfl⟩
            obtain ⟨p, hp⟩ : ∃ p, a ++ y = p := ⟨_, rfl⟩
            have hyl : y.length = 6 + z := by rw [← hy, frm_length, Hz.out]
            go_wp2_with fail
            refine HP.out.mono ?_
            rintro e w3 ⟨hp3, hb3⟩
            have hp4 := hp3.form
            rw [hmb, if_pos rfl, if_pos rfl, hy, hp] at hp4
            obtain ⟨A4, n4, c4, rfl, rfl, hc4, hd4, hr4, hz4, -⟩ := hp4
            have HR2 := Lib.hid (refAll_calls (some ⟨b1, o1 + k, none⟩) 1 (c - k) [b] rfl (by simp [frm_length]; have := Hz.out; omega) w3 (Hone.out.go hb3))
            obtain ⟨P, hP⟩ : ∃ P, p.length = P := ⟨_, rfl⟩
            rw [hP] at hc4 ⊢
            have HPl := Lib.hid hP
            have Hp := Lib.hid hp
            have Hyl := Lib.hid hyl
            clear HP hp3 hp hyl hP
            go_wp2_with fail
            refine HR2.out.mono ?_
            rintro e w4 ⟨hp5, hb4⟩
            have hp6 := hp5.form
            rw [allOut_one, allErr_one, hmb, if_pos rfl, if_pos rfl, hy] at hp6
            obtain ⟨A5, n5, c5, rfl, rfl, hc5, hd5, hr5, hz5, -⟩ := hp6
            rw [Hyl.out] at hc5 ⊢
            have hb34 := bnext hb3 hb4
            have HK : Hid (∀ W, Below w4.heap.size w4 W → W.cell? ⟨b1, o1 + k, none⟩ = some (.slice B1 z C1) ∧
              (convert 23 9 (.slice A4 P c4)).run Try.prog W = .ok (.string ⟨p.toArray⟩) W ∧ (convert 23 9 (.slice A5 (6 + z) c5)).run Try.prog W = .ok (.string ⟨y.toArray⟩) W ∧
              (convert 23 9 (.slice a1 a.length cap1)).run Try.prog W = .ok (.string ⟨a.toArray⟩) W) := fun W hW => by
              have hx := hb34.trans (hW.mono hb34.size)
              refine ⟨(hx.cell (p := ⟨b1, _, none⟩) hb1').trans hcell.out, ?_, ?_, ?_⟩
              · have := run_string (P := Try.prog) (src := 23) (dst := 9) (hr4.go (bnext hb4 hW)) c4 hz4 Try.underlying23 Try.underlying5 Try.underlying9
                rwa [HPl.out] at this
              · have := run_string (P := Try.prog) (src := 23) (dst := 9) (hr5.go hW) c5 hz5 Try.underlying23 Try.underlying5 Try.underlying9
                rwa [Hyl.out] at this
              · exact run_string (P := Try.prog) (((HR.out.below hb).more hb.size).go hx) cap1 Hza.out Try.underlying23 Try.underlying5 Try.underlying9
            have HS := Lib.hid (size_n B1 z C1 (by omega) (6 + (z : Int)) (by rw [if_pos (by have := (mayR_iff b).1 hmb; have := Hz.out; omega)]) w4)
            obtain ⟨e0, e1, e2, e3⟩ := HK.out w4 (Below.refl _ _)
            have hcat : (⟨a.toArray⟩ : ByteArray) ++ ⟨y.toArray⟩ = ⟨p.toArray⟩ := by rw [← Hp.out]; exact bytes_cat a y
            have hbw4 := hb.trans (hb34.mono hb.size)
            clear HR2 hp5 hr4 hr5 hz4 hz5 hb3 hb4 x0 HK hmb hy hb34
            go_wp2_with fail
            refine HS.out.mono ?_
            rintro e w' ⟨rfl, rfl⟩
            go_wp2_with fail
            all_goals first
              | exact ⟨⟨k + 1, by omega, rfl, hbw4⟩, by simp [intOf]; omega⟩
              | (exfalso; rename_i hx; simp [ByteArray.size, Hyl.out] at hx; omega)
          | false =>
            go_wp2_with fail
            refine HP.out.mono ?_
            rintro e w3 ⟨hp3, hb3⟩
            have hp4 := hp3.form
            rw [hmb, if_neg (by decide), if_neg (by decide)] at hp4
            obtain ⟨A4, n4, c4, rfl, rfl, hc4, hd4, hr4, hz4, -⟩ := hp4
            have HR2 := Lib.hid (refAll_calls (some ⟨b1, o1 + k, none⟩) 1 (c - k) [b] rfl (by simp [frm_length]; have := Hz.out; omega) w3 (Hone.out.go hb3))
            clear HP hp3
            go_wp2_with fail
            refine HR2.out.mono ?_
            rintro e w4 ⟨hp5, hb4⟩
            have hp6 := hp5.form
            rw [allOut_one, allErr_one, hmb, if_neg (by decide), if_neg (by decide)] at hp6
            obtain ⟨A5, n5, c5, rfl, rfl, hc5, hd5, hr5, hz5, -⟩ := hp6
            have hb34 := bnext hb3 hb4
            have HS := Lib.hid (size_n B1 z C1 (by omega) 0 (by
              have hn : ¬ (1 ≤ z ∧ z ≤ 4096) := fun h => by
                have := (mayR_iff b).2 (by rw [Hz.out]; exact h)
                rw [hmb] at this; cases this
              rw [if_neg hn]) w4)
            have e0 : w4.cell? ⟨b1, o1 + k, none⟩ = some (.slice B1 z C1) := (hb34.cell (p := ⟨b1, _, none⟩) hb1').trans hcell.out
            have e3 := run_string (P := Try.prog) (src := 23) (dst := 9) (((HR.out.below hb).more hb.size).go hb34) cap1 Hza.out Try.underlying23 Try.underlying5 Try.underlying9
            have hbw4 := hb.trans (hb34.mono hb.size)
            clear HR2 hp5 hr4 hr5 hz4 hz5 hb3 hb4 x0 hmb hb34
            go_wp2_with fail
            refine HS.out.mono ?_
            rintro e w' ⟨rfl, rfl⟩
            go_wp2_with fail
            exact ⟨⟨k + 1, by omega, rfl, hbw4⟩, by simp [intOf]; omega⟩
        · obtain rfl : N = k := by omega
          go_wp2_with fail
          go_ret
          exact ⟨rfl, hb⟩
end Go.Proofs.Ytajpinbabgcnkaa
