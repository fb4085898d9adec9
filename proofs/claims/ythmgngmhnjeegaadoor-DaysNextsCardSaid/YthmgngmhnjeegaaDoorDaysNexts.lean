/-
  DaysNexts: the walk of the law. Conditions stand at each theorem.
-/
import Derived.Test.YthmgngmhnjeegaaDoorAlive
import Derived.Test.YthmgngmhnjeegaaDoorDaysKinds
namespace Go.Proofs.YthmgngmhnjeegaaDoor
open Go Go.RowKit Go.Kw Go.Kw.Cv
set_option linter.unusedVariables false
set_option linter.unusedSimpArgs false

/-- What the law asks of the day ahead. -/
theorem next_prev {gh : Nat → Nat → Int} {la : Nat} {n kind r : Int} (hn : 1 ≤ n ∧ n ≤ 2000000) (h : n ≤ r ∧ r ≤ lastN n ∧ kindD gh la r = kind ∧ ∀ i, n ≤ i → i < r → kindD gh la i ≠ kind) {m : Int} {b : Bool} (h2 : NextP gh la (n - 1) kind m b) :
    (kindD gh la (n - 1) = kind ∧ b = true ∧ m = n - 1) ∨ (kindD gh la (n - 1) ≠ kind ∧ (b = false ∨ (b = true ∧ m = r))) := by
  by_cases hk : kindD gh la (n - 1) = kind
  · refine .inl ⟨hk, ?_⟩
    rcases h2 with ⟨rfl, h3, h4, h5, h6⟩ | ⟨rfl, h3, h4⟩
    · refine ⟨rfl, ?_⟩
      by_cases e : n - 1 < m
      · exact absurd hk (h6 _ (Int.le_refl _) e)
      · omega
    · exact absurd hk (h4 _ (Int.le_refl _) (by unfold lastN; split <;> omega))
  · refine .inr ⟨hk, ?_⟩
    rcases h2 with ⟨rfl, h3, h4, h5, h6⟩ | ⟨rfl, h3, h4⟩
    · refine .inr ⟨rfl, ?_⟩
      have h7 : m ≠ n - 1 := fun e => hk (by rw [← e]; exact h5)
      rcases Int.lt_trichotomy m r with h8 | h8 | h8
      · exact absurd h5 (h.2.2.2 m (by omega) h8)
      · exact h8
      · exact absurd h.2.2.1 (h6 r (by omega) h8)
    · exact .inl rfl
set_option maxRecDepth 100000 in
set_option maxHeartbeats 8000000 in
theorem daysNexts_walk (v : Value) (x : CalX) (n kind : Int) (w : World) (hx : v = calC x.1.1 x.1.2.1 x.1.2.2.1 x.2.1 x.2.2.1 x.2.2.2.1 ∧ RdCal w x.1.1 x.1.2.1 x.1.2.2.1 x.1.2.2.2 x.2.1 x.2.2.1 x.2.2.2.1 x.2.2.2.2) (hn0 : (Lit.int .i64 n).wf = true) (hk0 : (Lit.int .i64 kind).wf = true) (hL : Lens w) :
    Calls Tryd.prog 4 #[v, .int .i64 n, .int .i64 kind] w fun e w' => e = .returned (.bool true) ∧ Below w.heap.size w w' := by
  obtain ⟨⟨A, la, ca, gh⟩, ⟨B, lb, cb, gs⟩⟩ := x
  dsimp only at hx
  obtain ⟨rfl, hR⟩ := hx
  have hS := St.new hR hL
  obtain ⟨b0, hb0⟩ : ∃ b0, w.heap.size = b0 := ⟨_, rfl⟩
  have Hb0 := Lib.hid hb0
  rw [show St w.heap.size w A la ca gh B lb cb gs = St b0 w A la ca gh B lb cb gs by rw [hb0]] at hS
  have HA := Lib.hid (alive_calls _ hS.2.2.1)
  have HS := Lib.hid hS
  unfold calC
  clear hR hL hn0 hk0 hS
  go_enter Tryd.func4, Tryd.ntmps4
  go_wp2_with fail
  refine HA.out.mono ?_
  rintro e w1 ⟨rfl, hb⟩
  have hS := HS.out.go hb
  clear hb
  have c0 := hS.c0
  have c1 := hS.c1
  by_cases hla : (la : Int) > 20
  · have k1 : decide ((la : Int) > 20) = true := decide_eq_true hla
    have HB := Lib.hid hS.2.2.2
    clear hla hS
    go_wp2_with fail
    go_ret
    exact ⟨rfl, by first | exact HB.out | (rw [Hb0.out]; exact HB.out) | (rw [← Hb0.out]; exact HB.out)⟩
  · have k1 : decide ((la : Int) > 20) = false := decide_eq_false hla
    have HC := daysCheck_calls A la ca gh B lb cb gs w1 hS.2.1 hS.2.2.1
    unfold calC at HC
    by_cases hcal : calOk la gh lb gs
    · rw [show calE la gh lb gs = 0 from if_pos hcal] at HC
      replace HC := Lib.hid HC
      have Hcal := Lib.hid hcal
      by_cases h1 : n < 1
      · have k2 : decide (n < 1) = true := decide_eq_true h1
        have HT := Lib.hid hS
        clear hla hcal h1 hS
        go_wp2_with fail
        refine HC.out.mono ?_
        rintro e w2 ⟨rfl, hb⟩
        have HB := Lib.hid (HT.out.go hb).2.2.2
        clear hb c0 c1
        go_wp2_with fail
        go_ret
        exact ⟨rfl, by first | exact HB.out | (rw [Hb0.out]; exact HB.out) | (rw [← Hb0.out]; exact HB.out)⟩
      · have k2 : decide (n < 1) = false := decide_eq_false h1
        by_cases h2 : n > 2000000
        · have k3 : decide (n > 2000000) = true := decide_eq_true h2
          have HT := Lib.hid hS
          clear hla hcal h1 h2 hS
          go_wp2_with fail
          refine HC.out.mono ?_
          rintro e w2 ⟨rfl, hb⟩
          have HB := Lib.hid (HT.out.go hb).2.2.2
          clear hb c0 c1
          go_wp2_with fail
          go_ret
          exact ⟨rfl, by first | exact HB.out | (rw [Hb0.out]; exact HB.out) | (rw [← Hb0.out]; exact HB.out)⟩
        · have k3 : decide (n > 2000000) = false := decide_eq_false h2
          have Hn := Lib.hid (show 1 ≤ n ∧ n ≤ 2000000 by omega)
          have HT := Lib.hid hS
          clear hla hcal h1 h2 hS
          go_wp2_with fail
          refine HC.out.mono ?_
          rintro e w2 ⟨rfl, hb⟩
          have hS := HT.out.go hb
          clear hb c0 c1 HC HT
          have c0 := hS.c0
          have c1 := hS.c1
          have HX := next_ok A la ca gh B lb cb gs n kind Hcal.out (by have := Hn.out; omega) w2 hS.2.1 hS.2.2.1
          unfold calC at HX
          replace HX := Lib.hid HX
          have HT := Lib.hid hS
          clear hS
          go_wp2_with fail
          refine HX.out.mono ?_
          rintro e w3 ⟨⟨r, b, rfl, hP⟩, hb⟩
          have hS := HT.out.go hb
          clear hb c0 c1 HX HT
          rcases hP with ⟨rfl, hP⟩ | ⟨rfl, rfl, -⟩
          · have HP := Lib.hid hP
            have HSw := Lib.hid hS
            have hr0 := hP.1
            clear hP hS
            have a1 := i64_same (n + 400) (by have := Hn.out; omega)
            have A1 := Lib.hid (wrap64_in (n + 400) (by have := Hn.out; omega))
            go_wp2_with fail
            go_loopw [10] (fun vi wr => ∃ i : Int, vi = .int .i64 i ∧ n ≤ i ∧ i ≤ r ∧ St b0 w A la ca gh B lb cb gs wr) (fun vi _ => (r - intOf vi).toNat)
            case atStart => exact ⟨n, rfl, by omega, hr0, HSw.out⟩
            case round =>
              clear hr0
              obtain ⟨i, rfl, hi1, hi2, hS⟩ := hrel
              have x1 := A1.out
              have hr3 : r ≤ 2932896 := by
                have h1 := HP.out.2.1; have h2 : lastN n ≤ 2932896 := by unfold lastN; split <;> omega
                omega
              have Hr3 := Lib.hid hr3
              clear hr3
              by_cases hgo : i < r ∧ i < n + 400
              · have g1 : decide (i < r) = true := decide_eq_true hgo.1
                have g2 : decide (i < n + 400) = true := decide_eq_true hgo.2
                have c0 := hS.c0
                have c1 := hS.c1
                have HK := daysKind_ok A la ca gh B lb cb gs i Hcal.out (by have := Hn.out; have := Hr3.out; omega) wr hS.2.1 hS.2.2.1
                have hne := HP.out.2.2.2 i hi1 hgo.1
                obtain ⟨K, hK⟩ : ∃ K, kindD gh la i = K := ⟨_, rfl⟩
                rw [hK] at HK hne
                have kk : (K == kind) = false := beq_eq_false_iff_ne.2 hne
                unfold calC at HK
                replace HK := Lib.hid HK
                have HT := Lib.hid hS
                have a2 := i64_same (i + 1) (by have := Hn.out; have := Hr3.out; omega)
                have A2 := Lib.hid (wrap64_in (i + 1) (by have := Hn.out; have := Hr3.out; omega))
                have Hi := Lib.hid (And.intro hi1 hgo.1)
                have HMs := Lib.hid (show (r - (i + 1)).toNat < (r - i).toNat by omega)
                clear hne hK hgo hi1 hi2 hS
                have x2 := A2.out
                go_wp2_with fail
                refine HK.out.mono ?_
                rintro e w4 ⟨rfl, hb⟩
                have hS := HT.out.go hb
                clear hb c0 c1
                go_wp2_with fail
                clear x1 x2
                exact ⟨⟨i + 1, rfl, by have := Hi.out; omega, by have := Hi.out; omega, hS⟩, HMs.out⟩
              · have c0 := hS.c0
                have c1 := hS.c1
                have HK := daysKind_ok A la ca gh B lb cb gs r Hcal.out (by have := Hn.out; have := Hr3.out; have := HP.out.1; omega) wr hS.2.1 hS.2.2.1
                rw [HP.out.2.2.1] at HK
                unfold calC at HK
                replace HK := Lib.hid HK
                have HT := Lib.hid hS
                have a2 := i64_same (n - 1) (by have := Hn.out; omega)
                have A2 := Lib.hid (wrap64_in (n - 1) (by have := Hn.out; omega))
                have hge : decide (r ≥ n) = true := decide_eq_true HP.out.1
                have Hgo := Lib.hid hgo
                clear hgo hi1 hi2 hS
                have x2 := A2.out
                by_cases g1' : i < r
                · have g1 : decide (i < r) = true := decide_eq_true g1'
                  have g2 : decide (i < n + 400) = false := decide_eq_false (fun h => Hgo.out ⟨g1', h⟩)
                  clear g1'
                  go_wp2_with fail
                  refine HK.out.mono ?_
                  rintro e w4 ⟨rfl, hb⟩
                  have hS := HT.out.go hb
                  clear hb c0 c1 HT
                  have c0 := hS.c0
                  have c1 := hS.c1
                  have HK2 := daysKind_ok A la ca gh B lb cb gs (n - 1) Hcal.out (by have := Hn.out; omega) w4 hS.2.1 hS.2.2.1
                  obtain ⟨K2, hK2⟩ : ∃ K, kindD gh la (n - 1) = K := ⟨_, rfl⟩
                  rw [hK2] at HK2
                  unfold calC at HK2
                  replace HK2 := Lib.hid HK2
                  have HT := Lib.hid hS
                  have HKe := Lib.hid hK2
                  clear hK2 hS
                  go_wp2_with fail
                  refine HK2.out.mono ?_
                  rintro e w5 ⟨rfl, hb⟩
                  have hS := HT.out.go hb
                  clear hb c0 c1 HT
                  have c0 := hS.c0
                  have c1 := hS.c1
                  have HX := next_ok A la ca gh B lb cb gs (n - 1) kind Hcal.out (by have := Hn.out; omega) w5 hS.2.1 hS.2.2.1
                  unfold calC at HX
                  replace HX := Lib.hid HX
                  have HT := Lib.hid hS
                  clear hS
                  go_wp2_with fail
                  refine HX.out.mono ?_
                  rintro e w6 ⟨⟨m, b, rfl, hP2⟩, hb⟩
                  have HB := Lib.hid (HT.out.go hb).2.2.2
                  clear hb c0 c1 HT
                  have hfin := next_prev Hn.out HP.out hP2
                  rw [HKe.out] at hfin
                  clear hP2
                  rcases hfin with ⟨rfl, rfl, rfl⟩ | ⟨hne, (rfl | ⟨rfl, rfl⟩)⟩
                  · go_wp2_with fail
                    go_ret
                    exact ⟨rfl, by first | exact HB.out | (rw [Hb0.out]; exact HB.out) | (rw [← Hb0.out]; exact HB.out)⟩
                  · have q1 : (K2 == kind) = false := beq_eq_false_iff_ne.2 hne
                    have q2 : (K2 != kind) = true := bne_iff_ne.2 hne
                    clear hne
                    go_wp2_with fail
                    go_ret
                    exact ⟨rfl, by first | exact HB.out | (rw [Hb0.out]; exact HB.out) | (rw [← Hb0.out]; exact HB.out)⟩
                  · have q1 : (K2 == kind) = false := beq_eq_false_iff_ne.2 hne
                    have q2 : (K2 != kind) = true := bne_iff_ne.2 hne
                    clear hne
                    go_wp2_with fail
                    go_ret
                    exact ⟨rfl, by first | exact HB.out | (rw [Hb0.out]; exact HB.out) | (rw [← Hb0.out]; exact HB.out)⟩
                · have g1 : decide (i < r) = false := decide_eq_false g1'
                  clear g1'
                  go_wp2_with fail
                  refine HK.out.mono ?_
                  rintro e w4 ⟨rfl, hb⟩
                  have hS := HT.out.go hb
                  clear hb c0 c1 HT
                  have c0 := hS.c0
                  have c1 := hS.c1
                  have HK2 := daysKind_ok A la ca gh B lb cb gs (n - 1) Hcal.out (by have := Hn.out; omega) w4 hS.2.1 hS.2.2.1
                  obtain ⟨K2, hK2⟩ : ∃ K, kindD gh la (n - 1) = K := ⟨_, rfl⟩
                  rw [hK2] at HK2
                  unfold calC at HK2
                  replace HK2 := Lib.hid HK2
                  have HT := Lib.hid hS
                  have HKe := Lib.hid hK2
                  clear hK2 hS
                  go_wp2_with fail
                  refine HK2.out.mono ?_
                  rintro e w5 ⟨rfl, hb⟩
                  have hS := HT.out.go hb
                  clear hb c0 c1 HT
                  have c0 := hS.c0
                  have c1 := hS.c1
                  have HX := next_ok A la ca gh B lb cb gs (n - 1) kind Hcal.out (by have := Hn.out; omega) w5 hS.2.1 hS.2.2.1
                  unfold calC at HX
                  replace HX := Lib.hid HX
                  have HT := Lib.hid hS
                  clear hS
                  go_wp2_with fail
                  refine HX.out.mono ?_
                  rintro e w6 ⟨⟨m, b, rfl, hP2⟩, hb⟩
                  have HB := Lib.hid (HT.out.go hb).2.2.2
                  clear hb c0 c1 HT
                  have hfin := next_prev Hn.out HP.out hP2
                  rw [HKe.out] at hfin
                  clear hP2
                  rcases hfin with ⟨rfl, rfl, rfl⟩ | ⟨hne, (rfl | ⟨rfl, rfl⟩)⟩
                  · go_wp2_with fail
                    go_ret
                    exact ⟨rfl, by first | exact HB.out | (rw [Hb0.out]; exact HB.out) | (rw [← Hb0.out]; exact HB.out)⟩
                  · have q1 : (K2 == kind) = false := beq_eq_false_iff_ne.2 hne
                    have q2 : (K2 != kind) = true := bne_iff_ne.2 hne
                    clear hne
                    go_wp2_with fail
                    go_ret
                    exact ⟨rfl, by first | exact HB.out | (rw [Hb0.out]; exact HB.out) | (rw [← Hb0.out]; exact HB.out)⟩
                  · have q1 : (K2 == kind) = false := beq_eq_false_iff_ne.2 hne
                    have q2 : (K2 != kind) = true := bne_iff_ne.2 hne
                    clear hne
                    go_wp2_with fail
                    go_ret
                    exact ⟨rfl, by first | exact HB.out | (rw [Hb0.out]; exact HB.out) | (rw [← Hb0.out]; exact HB.out)⟩
          · have HB := Lib.hid hS.2.2.2
            clear hS
            go_wp2_with fail
            go_ret
            exact ⟨rfl, by first | exact HB.out | (rw [Hb0.out]; exact HB.out) | (rw [← Hb0.out]; exact HB.out)⟩
    · rw [show calE la gh lb gs = 80 from if_neg hcal] at HC
      replace HC := Lib.hid HC
      have HT := Lib.hid hS
      clear hla hcal hS
      go_wp2_with fail
      refine HC.out.mono ?_
      rintro e w2 ⟨rfl, hb⟩
      have HB := Lib.hid (HT.out.go hb).2.2.2
      clear hb c0 c1
      go_wp2_with fail
      go_ret
      exact ⟨rfl, by first | exact HB.out | (rw [Hb0.out]; exact HB.out) | (rw [← Hb0.out]; exact HB.out)⟩
end Go.Proofs.YthmgngmhnjeegaaDoor
