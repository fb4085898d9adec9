/-
  Easter Sunday: both sides, walked. Conditions stand at each theorem. (Printed by gen_easter.py.)
-/
import Derived.Test.YtgbkedjjgbhcmaaGreatDoorDays3
namespace Go.Proofs.YtgbkedjjgbhcmaaGreatDoor
open Go Go.RowKit Go.Kw Go.Kw.Cv Go.Shelf
set_option linter.unusedVariables false
set_option linter.unusedSimpArgs false

def eaA (y : Int) : Int := y % 19
def eaB (y : Int) : Int := y / 100
def eaC (y : Int) : Int := y % 100
def eaG (y : Int) : Int := (eaB y - (eaB y + 8) / 25 + 1) / 3
def eaH (y : Int) : Int := (19 * eaA y + eaB y - eaB y / 4 - eaG y + 15) % 30
def eaL (y : Int) : Int := (32 + 2 * (eaB y % 4) + 2 * (eaC y / 4) - eaH y - eaC y % 4) % 7
def eaM (y : Int) : Int := (eaA y + 11 * eaH y + 22 * eaL y) / 451
def eaN (y : Int) : Int := eaH y + eaL y - 7 * eaM y + 114
/-- Easter Sunday's month and day. -/
def easM (y : Int) : Int := eaN y / 31
def easD (y : Int) : Int := eaN y % 31 + 1
set_option maxRecDepth 100000 in
set_option maxHeartbeats 8000000 in
theorem refEaster_calls (y : Int) (hy : 1970 ≤ y ∧ y ≤ 9999) (w : World) : Calls Tryz.prog 103 #[.int .i64 y] w fun e w' => e = .returned (.tuple #[.int .i64 (easM y), .int .i64 (easD y)]) ∧ w' = w := by
  have Ry := Lib.hid hy
  clear hy
  obtain ⟨A, EA⟩ : ∃ A : Int, y % 19 = A := ⟨_, rfl⟩
  have RA := Lib.hid (show 0 ≤ A ∧ A ≤ 18 by have := Ry.out; omega)
  have DA := Lib.hid (show Int.tmod y 19 = A by have := Ry.out; rw [Int.tmod_eq_emod_of_nonneg (by omega)]; exact EA)
  have WA := Lib.hid (i64_same A (by have := RA.out; omega))
  replace EA := Lib.hid EA
  obtain ⟨B, EB⟩ : ∃ B : Int, y / 100 = B := ⟨_, rfl⟩
  have RB := Lib.hid (show 19 ≤ B ∧ B ≤ 99 by have := Ry.out; omega)
  have DB := Lib.hid (show Int.tdiv y 100 = B by have := Ry.out; rw [Int.tdiv_eq_ediv_of_nonneg (by omega)]; exact EB)
  have WB := Lib.hid (i64_same B (by have := RB.out; omega))
  replace EB := Lib.hid EB
  obtain ⟨C, EC⟩ : ∃ C : Int, y % 100 = C := ⟨_, rfl⟩
  have RC := Lib.hid (show 0 ≤ C ∧ C ≤ 99 by have := Ry.out; omega)
  have DC := Lib.hid (show Int.tmod y 100 = C by have := Ry.out; rw [Int.tmod_eq_emod_of_nonneg (by omega)]; exact EC)
  have WC := Lib.hid (i64_same C (by have := RC.out; omega))
  replace EC := Lib.hid EC
  obtain ⟨T24, ET24⟩ : ∃ T24 : Int, B + 8 = T24 := ⟨_, rfl⟩
  have RT24 := Lib.hid (show 27 ≤ T24 ∧ T24 ≤ 107 by have := RB.out; omega)
  have WT24 := Lib.hid (show IntKind.i64.wrap (B + 8) = T24 by rw [ET24]; exact i64_same _ (by have := RT24.out; omega))
  have XT24 := Lib.hid (show wrap64 (B + 8) = T24 by rw [ET24]; exact wrap64_in _ (by have := RT24.out; omega))
  replace ET24 := Lib.hid ET24
  obtain ⟨T25, ET25⟩ : ∃ T25 : Int, T24 / 25 = T25 := ⟨_, rfl⟩
  have RT25 := Lib.hid (show 1 ≤ T25 ∧ T25 ≤ 4 by have := RT24.out; omega)
  have DT25 := Lib.hid (show Int.tdiv T24 25 = T25 by have := RT24.out; rw [Int.tdiv_eq_ediv_of_nonneg (by omega)]; exact ET25)
  have WT25 := Lib.hid (i64_same T25 (by have := RT25.out; omega))
  replace ET25 := Lib.hid ET25
  obtain ⟨T26, ET26⟩ : ∃ T26 : Int, B - T25 = T26 := ⟨_, rfl⟩
  have RT26 := Lib.hid (show 15 ≤ T26 ∧ T26 ≤ 98 by have := RB.out; have := RT25.out; omega)
  have WT26 := Lib.hid (show IntKind.i64.wrap (B - T25) = T26 by rw [ET26]; exact i64_same _ (by have := RT26.out; omega))
  have XT26 := Lib.hid (show wrap64 (B - T25) = T26 by rw [ET26]; exact wrap64_in _ (by have := RT26.out; omega))
  replace ET26 := Lib.hid ET26
  obtain ⟨T27, ET27⟩ : ∃ T27 : Int, T26 + 1 = T27 := ⟨_, rfl⟩
  have RT27 := Lib.hid (show 16 ≤ T27 ∧ T27 ≤ 99 by have := RT26.out; omega)
  have WT27 := Lib.hid (show IntKind.i64.wrap (T26 + 1) = T27 by rw [ET27]; exact i64_same _ (by have := RT27.out; omega))
  have XT27 := Lib.hid (show wrap64 (T26 + 1) = T27 by rw [ET27]; exact wrap64_in _ (by have := RT27.out; omega))
  replace ET27 := Lib.hid ET27
  obtain ⟨G, EG⟩ : ∃ G : Int, T27 / 3 = G := ⟨_, rfl⟩
  have RG := Lib.hid (show 5 ≤ G ∧ G ≤ 33 by have := RT27.out; omega)
  have DG := Lib.hid (show Int.tdiv T27 3 = G by have := RT27.out; rw [Int.tdiv_eq_ediv_of_nonneg (by omega)]; exact EG)
  have WG := Lib.hid (i64_same G (by have := RG.out; omega))
  replace EG := Lib.hid EG
  obtain ⟨T30, ET30⟩ : ∃ T30 : Int, 19 * A = T30 := ⟨_, rfl⟩
  have RT30 := Lib.hid (show 0 ≤ T30 ∧ T30 ≤ 342 by have := RA.out; omega)
  have WT30 := Lib.hid (show IntKind.i64.wrap (19 * A) = T30 by rw [ET30]; exact i64_same _ (by have := RT30.out; omega))
  have XT30 := Lib.hid (show wrap64 (19 * A) = T30 by rw [ET30]; exact wrap64_in _ (by have := RT30.out; omega))
  replace ET30 := Lib.hid ET30
  obtain ⟨T32, ET32⟩ : ∃ T32 : Int, T30 + B = T32 := ⟨_, rfl⟩
  have RT32 := Lib.hid (show 19 ≤ T32 ∧ T32 ≤ 441 by have := RT30.out; have := RB.out; omega)
  have WT32 := Lib.hid (show IntKind.i64.wrap (T30 + B) = T32 by rw [ET32]; exact i64_same _ (by have := RT32.out; omega))
  have XT32 := Lib.hid (show wrap64 (T30 + B) = T32 by rw [ET32]; exact wrap64_in _ (by have := RT32.out; omega))
  replace ET32 := Lib.hid ET32
  obtain ⟨T34, ET34⟩ : ∃ T34 : Int, B / 4 = T34 := ⟨_, rfl⟩
  have RT34 := Lib.hid (show 4 ≤ T34 ∧ T34 ≤ 24 by have := RB.out; omega)
  have DT34 := Lib.hid (show Int.tdiv B 4 = T34 by have := RB.out; rw [Int.tdiv_eq_ediv_of_nonneg (by omega)]; exact ET34)
  have WT34 := Lib.hid (i64_same T34 (by have := RT34.out; omega))
  replace ET34 := Lib.hid ET34
  obtain ⟨T35, ET35⟩ : ∃ T35 : Int, T32 - T34 = T35 := ⟨_, rfl⟩
  have RT35 := Lib.hid (show -5 ≤ T35 ∧ T35 ≤ 437 by have := RT32.out; have := RT34.out; omega)
  have WT35 := Lib.hid (show IntKind.i64.wrap (T32 - T34) = T35 by rw [ET35]; exact i64_same _ (by have := RT35.out; omega))
  have XT35 := Lib.hid (show wrap64 (T32 - T34) = T35 by rw [ET35]; exact wrap64_in _ (by have := RT35.out; omega))
  replace ET35 := Lib.hid ET35
  obtain ⟨T37, ET37⟩ : ∃ T37 : Int, T35 - G = T37 := ⟨_, rfl⟩
  have RT37 := Lib.hid (show -38 ≤ T37 ∧ T37 ≤ 432 by have := RT35.out; have := RG.out; omega)
  have WT37 := Lib.hid (show IntKind.i64.wrap (T35 - G) = T37 by rw [ET37]; exact i64_same _ (by have := RT37.out; omega))
  have XT37 := Lib.hid (show wrap64 (T35 - G) = T37 by rw [ET37]; exact wrap64_in _ (by have := RT37.out; omega))
  replace ET37 := Lib.hid ET37
  obtain ⟨T38, ET38⟩ : ∃ T38 : Int, T37 + 15 = T38 := ⟨_, rfl⟩
  have RT38 := Lib.hid (show 0 ≤ T38 ∧ T38 ≤ 1000 by have := RT37.out; have := ET24.out; have := RT24.out; have := ET25.out; have := RT25.out; have := ET26.out; have := RT26.out; have := ET27.out; have := RT27.out; have := EG.out; have := RG.out; have := ET30.out; have := RT30.out; have := ET32.out; have := RT32.out; have := ET34.out; have := RT34.out; have := ET35.out; have := RT35.out; have := ET37.out; have := RT37.out; have := RB.out; have := RA.out; omega)
  have WT38 := Lib.hid (show IntKind.i64.wrap (T37 + 15) = T38 by rw [ET38]; exact i64_same _ (by have := RT38.out; omega))
  have XT38 := Lib.hid (show wrap64 (T37 + 15) = T38 by rw [ET38]; exact wrap64_in _ (by have := RT38.out; omega))
  replace ET38 := Lib.hid ET38
  obtain ⟨H, EH⟩ : ∃ H : Int, T38 % 30 = H := ⟨_, rfl⟩
  have RH := Lib.hid (show 0 ≤ H ∧ H ≤ 29 by have := RT38.out; omega)
  have DH := Lib.hid (show Int.tmod T38 30 = H by have := RT38.out; rw [Int.tmod_eq_emod_of_nonneg (by omega)]; exact EH)
  have WH := Lib.hid (i64_same H (by have := RH.out; omega))
  replace EH := Lib.hid EH
  obtain ⟨T41, ET41⟩ : ∃ T41 : Int, B % 4 = T41 := ⟨_, rfl⟩
  have RT41 := Lib.hid (show 0 ≤ T41 ∧ T41 ≤ 3 by have := RB.out; omega)
  have DT41 := Lib.hid (show Int.tmod B 4 = T41 by have := RB.out; rw [Int.tmod_eq_emod_of_nonneg (by omega)]; exact ET41)
  have WT41 := Lib.hid (i64_same T41 (by have := RT41.out; omega))
  replace ET41 := Lib.hid ET41
  obtain ⟨T42, ET42⟩ : ∃ T42 : Int, 2 * T41 = T42 := ⟨_, rfl⟩
  have RT42 := Lib.hid (show 0 ≤ T42 ∧ T42 ≤ 6 by have := RT41.out; omega)
  have WT42 := Lib.hid (show IntKind.i64.wrap (2 * T41) = T42 by rw [ET42]; exact i64_same _ (by have := RT42.out; omega))
  have XT42 := Lib.hid (show wrap64 (2 * T41) = T42 by rw [ET42]; exact wrap64_in _ (by have := RT42.out; omega))
  replace ET42 := Lib.hid ET42
  obtain ⟨T43, ET43⟩ : ∃ T43 : Int, 32 + T42 = T43 := ⟨_, rfl⟩
  have RT43 := Lib.hid (show 32 ≤ T43 ∧ T43 ≤ 38 by have := RT42.out; omega)
  have WT43 := Lib.hid (show IntKind.i64.wrap (32 + T42) = T43 by rw [ET43]; exact i64_same _ (by have := RT43.out; omega))
  have XT43 := Lib.hid (show wrap64 (32 + T42) = T43 by rw [ET43]; exact wrap64_in _ (by have := RT43.out; omega))
  replace ET43 := Lib.hid ET43
  obtain ⟨T45, ET45⟩ : ∃ T45 : Int, C / 4 = T45 := ⟨_, rfl⟩
  have RT45 := Lib.hid (show 0 ≤ T45 ∧ T45 ≤ 24 by have := RC.out; omega)
  have DT45 := Lib.hid (show Int.tdiv C 4 = T45 by have := RC.out; rw [Int.tdiv_eq_ediv_of_nonneg (by omega)]; exact ET45)
  have WT45 := Lib.hid (i64_same T45 (by have := RT45.out; omega))
  replace ET45 := Lib.hid ET45
  obtain ⟨T46, ET46⟩ : ∃ T46 : Int, 2 * T45 = T46 := ⟨_, rfl⟩
  have RT46 := Lib.hid (show 0 ≤ T46 ∧ T46 ≤ 48 by have := RT45.out; omega)
  have WT46 := Lib.hid (show IntKind.i64.wrap (2 * T45) = T46 by rw [ET46]; exact i64_same _ (by have := RT46.out; omega))
  have XT46 := Lib.hid (show wrap64 (2 * T45) = T46 by rw [ET46]; exact wrap64_in _ (by have := RT46.out; omega))
  replace ET46 := Lib.hid ET46
  obtain ⟨T47, ET47⟩ : ∃ T47 : Int, T43 + T46 = T47 := ⟨_, rfl⟩
  have RT47 := Lib.hid (show 32 ≤ T47 ∧ T47 ≤ 86 by have := RT43.out; have := RT46.out; omega)
  have WT47 := Lib.hid (show IntKind.i64.wrap (T43 + T46) = T47 by rw [ET47]; exact i64_same _ (by have := RT47.out; omega))
  have XT47 := Lib.hid (show wrap64 (T43 + T46) = T47 by rw [ET47]; exact wrap64_in _ (by have := RT47.out; omega))
  replace ET47 := Lib.hid ET47
  obtain ⟨T49, ET49⟩ : ∃ T49 : Int, T47 - H = T49 := ⟨_, rfl⟩
  have RT49 := Lib.hid (show 3 ≤ T49 ∧ T49 ≤ 86 by have := RT47.out; have := RH.out; omega)
  have WT49 := Lib.hid (show IntKind.i64.wrap (T47 - H) = T49 by rw [ET49]; exact i64_same _ (by have := RT49.out; omega))
  have XT49 := Lib.hid (show wrap64 (T47 - H) = T49 by rw [ET49]; exact wrap64_in _ (by have := RT49.out; omega))
  replace ET49 := Lib.hid ET49
  obtain ⟨T51, ET51⟩ : ∃ T51 : Int, C % 4 = T51 := ⟨_, rfl⟩
  have RT51 := Lib.hid (show 0 ≤ T51 ∧ T51 ≤ 3 by have := RC.out; omega)
  have DT51 := Lib.hid (show Int.tmod C 4 = T51 by have := RC.out; rw [Int.tmod_eq_emod_of_nonneg (by omega)]; exact ET51)
  have WT51 := Lib.hid (i64_same T51 (by have := RT51.out; omega))
  replace ET51 := Lib.hid ET51
  obtain ⟨T52, ET52⟩ : ∃ T52 : Int, T49 - T51 = T52 := ⟨_, rfl⟩
  have RT52 := Lib.hid (show 0 ≤ T52 ∧ T52 ≤ 86 by have := RT49.out; have := RT51.out; omega)
  have WT52 := Lib.hid (show IntKind.i64.wrap (T49 - T51) = T52 by rw [ET52]; exact i64_same _ (by have := RT52.out; omega))
  have XT52 := Lib.hid (show wrap64 (T49 - T51) = T52 by rw [ET52]; exact wrap64_in _ (by have := RT52.out; omega))
  replace ET52 := Lib.hid ET52
  obtain ⟨L, EL⟩ : ∃ L : Int, T52 % 7 = L := ⟨_, rfl⟩
  have RL := Lib.hid (show 0 ≤ L ∧ L ≤ 6 by have := RT52.out; omega)
  have DL := Lib.hid (show Int.tmod T52 7 = L by have := RT52.out; rw [Int.tmod_eq_emod_of_nonneg (by omega)]; exact EL)
  have WL := Lib.hid (i64_same L (by have := RL.out; omega))
  replace EL := Lib.hid EL
  obtain ⟨T56, ET56⟩ : ∃ T56 : Int, 11 * H = T56 := ⟨_, rfl⟩
  have RT56 := Lib.hid (show 0 ≤ T56 ∧ T56 ≤ 319 by have := RH.out; omega)
  have WT56 := Lib.hid (show IntKind.i64.wrap (11 * H) = T56 by rw [ET56]; exact i64_same _ (by have := RT56.out; omega))
  have XT56 := Lib.hid (show wrap64 (11 * H) = T56 by rw [ET56]; exact wrap64_in _ (by have := RT56.out; omega))
  replace ET56 := Lib.hid ET56
  obtain ⟨T57, ET57⟩ : ∃ T57 : Int, A + T56 = T57 := ⟨_, rfl⟩
  have RT57 := Lib.hid (show 0 ≤ T57 ∧ T57 ≤ 337 by have := RA.out; have := RT56.out; omega)
  have WT57 := Lib.hid (show IntKind.i64.wrap (A + T56) = T57 by rw [ET57]; exact i64_same _ (by have := RT57.out; omega))
  have XT57 := Lib.hid (show wrap64 (A + T56) = T57 by rw [ET57]; exact wrap64_in _ (by have := RT57.out; omega))
  replace ET57 := Lib.hid ET57
  obtain ⟨T59, ET59⟩ : ∃ T59 : Int, 22 * L = T59 := ⟨_, rfl⟩
  have RT59 := Lib.hid (show 0 ≤ T59 ∧ T59 ≤ 132 by have := RL.out; omega)
  have WT59 := Lib.hid (show IntKind.i64.wrap (22 * L) = T59 by rw [ET59]; exact i64_same _ (by have := RT59.out; omega))
  have XT59 := Lib.hid (show wrap64 (22 * L) = T59 by rw [ET59]; exact wrap64_in _ (by have := RT59.out; omega))
  replace ET59 := Lib.hid ET59
  obtain ⟨T60, ET60⟩ : ∃ T60 : Int, T57 + T59 = T60 := ⟨_, rfl⟩
  have RT60 := Lib.hid (show 0 ≤ T60 ∧ T60 ≤ 469 by have := RT57.out; have := RT59.out; omega)
  have WT60 := Lib.hid (show IntKind.i64.wrap (T57 + T59) = T60 by rw [ET60]; exact i64_same _ (by have := RT60.out; omega))
  have XT60 := Lib.hid (show wrap64 (T57 + T59) = T60 by rw [ET60]; exact wrap64_in _ (by have := RT60.out; omega))
  replace ET60 := Lib.hid ET60
  obtain ⟨M, EM⟩ : ∃ M : Int, T60 / 451 = M := ⟨_, rfl⟩
  have RM := Lib.hid (show 0 ≤ M ∧ M ≤ 1 by have := RT60.out; omega)
  have DM := Lib.hid (show Int.tdiv T60 451 = M by have := RT60.out; rw [Int.tdiv_eq_ediv_of_nonneg (by omega)]; exact EM)
  have WM := Lib.hid (i64_same M (by have := RM.out; omega))
  replace EM := Lib.hid EM
  obtain ⟨T64, ET64⟩ : ∃ T64 : Int, H + L = T64 := ⟨_, rfl⟩
  have RT64 := Lib.hid (show 0 ≤ T64 ∧ T64 ≤ 35 by have := RH.out; have := RL.out; omega)
  have WT64 := Lib.hid (show IntKind.i64.wrap (H + L) = T64 by rw [ET64]; exact i64_same _ (by have := RT64.out; omega))
  have XT64 := Lib.hid (show wrap64 (H + L) = T64 by rw [ET64]; exact wrap64_in _ (by have := RT64.out; omega))
  replace ET64 := Lib.hid ET64
  obtain ⟨T66, ET66⟩ : ∃ T66 : Int, 7 * M = T66 := ⟨_, rfl⟩
  have RT66 := Lib.hid (show 0 ≤ T66 ∧ T66 ≤ 7 by have := RM.out; omega)
  have WT66 := Lib.hid (show IntKind.i64.wrap (7 * M) = T66 by rw [ET66]; exact i64_same _ (by have := RT66.out; omega))
  have XT66 := Lib.hid (show wrap64 (7 * M) = T66 by rw [ET66]; exact wrap64_in _ (by have := RT66.out; omega))
  replace ET66 := Lib.hid ET66
  obtain ⟨T67, ET67⟩ : ∃ T67 : Int, T64 - T66 = T67 := ⟨_, rfl⟩
  have RT67 := Lib.hid (show -7 ≤ T67 ∧ T67 ≤ 35 by have := RT64.out; have := RT66.out; omega)
  have WT67 := Lib.hid (show IntKind.i64.wrap (T64 - T66) = T67 by rw [ET67]; exact i64_same _ (by have := RT67.out; omega))
  have XT67 := Lib.hid (show wrap64 (T64 - T66) = T67 by rw [ET67]; exact wrap64_in _ (by have := RT67.out; omega))
  replace ET67 := Lib.hid ET67
  obtain ⟨N, EN⟩ : ∃ N : Int, T67 + 114 = N := ⟨_, rfl⟩
  have RN := Lib.hid (show 107 ≤ N ∧ N ≤ 149 by have := RT67.out; omega)
  have WN := Lib.hid (show IntKind.i64.wrap (T67 + 114) = N by rw [EN]; exact i64_same _ (by have := RN.out; omega))
  have XN := Lib.hid (show wrap64 (T67 + 114) = N by rw [EN]; exact wrap64_in _ (by have := RN.out; omega))
  replace EN := Lib.hid EN
  obtain ⟨T71, ET71⟩ : ∃ T71 : Int, N / 31 = T71 := ⟨_, rfl⟩
  have RT71 := Lib.hid (show 3 ≤ T71 ∧ T71 ≤ 4 by have := RN.out; omega)
  have DT71 := Lib.hid (show Int.tdiv N 31 = T71 by have := RN.out; rw [Int.tdiv_eq_ediv_of_nonneg (by omega)]; exact ET71)
  have WT71 := Lib.hid (i64_same T71 (by have := RT71.out; omega))
  replace ET71 := Lib.hid ET71
  obtain ⟨T73, ET73⟩ : ∃ T73 : Int, N % 31 = T73 := ⟨_, rfl⟩
  have RT73 := Lib.hid (show 0 ≤ T73 ∧ T73 ≤ 30 by have := RN.out; omega)
  have DT73 := Lib.hid (show Int.tmod N 31 = T73 by have := RN.out; rw [Int.tmod_eq_emod_of_nonneg (by omega)]; exact ET73)
  have WT73 := Lib.hid (i64_same T73 (by have := RT73.out; omega))
  replace ET73 := Lib.hid ET73
  obtain ⟨T74, ET74⟩ : ∃ T74 : Int, T73 + 1 = T74 := ⟨_, rfl⟩
  have RT74 := Lib.hid (show 1 ≤ T74 ∧ T74 ≤ 31 by have := RT73.out; omega)
  have WT74 := Lib.hid (show IntKind.i64.wrap (T73 + 1) = T74 by rw [ET74]; exact i64_same _ (by have := RT74.out; omega))
  have XT74 := Lib.hid (show wrap64 (T73 + 1) = T74 by rw [ET74]; exact wrap64_in _ (by have := RT74.out; omega))
  replace ET74 := Lib.hid ET74
  have Esm : easM y = T71 := by
    simp only [← ET71.out, ← EN.out, ← ET67.out, ← ET66.out, ← EM.out, ← ET60.out, ← ET59.out, ← ET57.out, ← ET56.out, ← ET64.out, ← EL.out, ← ET52.out, ← ET49.out, ← ET51.out, ← ET47.out, ← ET46.out, ← ET45.out, ← ET43.out, ← ET42.out, ← ET41.out, ← EH.out, ← ET38.out, ← ET37.out, ← ET35.out, ← ET34.out, ← ET32.out, ← ET30.out, ← EG.out, ← ET27.out, ← ET26.out, ← ET25.out, ← ET24.out, ← EC.out, ← EB.out, ← EA.out]; rfl
  have Esd : easD y = T74 := by
    simp only [← ET74.out, ← ET73.out, ← EN.out, ← ET67.out, ← ET66.out, ← EM.out, ← ET60.out, ← ET59.out, ← ET57.out, ← ET56.out, ← ET64.out, ← EL.out, ← ET52.out, ← ET49.out, ← ET51.out, ← ET47.out, ← ET46.out, ← ET45.out, ← ET43.out, ← ET42.out, ← ET41.out, ← EH.out, ← ET38.out, ← ET37.out, ← ET35.out, ← ET34.out, ← ET32.out, ← ET30.out, ← EG.out, ← ET27.out, ← ET26.out, ← ET25.out, ← ET24.out, ← EC.out, ← EB.out, ← EA.out]; rfl
  rw [Esm, Esd]
  clear Esm Esd
  have dA := DA.out
  have wA := WA.out
  have dB := DB.out
  have wB := WB.out
  have dC := DC.out
  have wC := WC.out
  have wT24 := WT24.out
  have xT24 := XT24.out
  have dT25 := DT25.out
  have wT25 := WT25.out
  have wT26 := WT26.out
  have xT26 := XT26.out
  have wT27 := WT27.out
  have xT27 := XT27.out
  have dG := DG.out
  have wG := WG.out
  have wT30 := WT30.out
  have xT30 := XT30.out
  have wT32 := WT32.out
  have xT32 := XT32.out
  have dT34 := DT34.out
  have wT34 := WT34.out
  have wT35 := WT35.out
  have xT35 := XT35.out
  have wT37 := WT37.out
  have xT37 := XT37.out
  have wT38 := WT38.out
  have xT38 := XT38.out
  have dH := DH.out
  have wH := WH.out
  have dT41 := DT41.out
  have wT41 := WT41.out
  have wT42 := WT42.out
  have xT42 := XT42.out
  have wT43 := WT43.out
  have xT43 := XT43.out
  have dT45 := DT45.out
  have wT45 := WT45.out
  have wT46 := WT46.out
  have xT46 := XT46.out
  have wT47 := WT47.out
  have xT47 := XT47.out
  have wT49 := WT49.out
  have xT49 := XT49.out
  have dT51 := DT51.out
  have wT51 := WT51.out
  have wT52 := WT52.out
  have xT52 := XT52.out
  have dL := DL.out
  have wL := WL.out
  have wT56 := WT56.out
  have xT56 := XT56.out
  have wT57 := WT57.out
  have xT57 := XT57.out
  have wT59 := WT59.out
  have xT59 := XT59.out
  have wT60 := WT60.out
  have xT60 := XT60.out
  have dM := DM.out
  have wM := WM.out
  have wT64 := WT64.out
  have xT64 := XT64.out
  have wT66 := WT66.out
  have xT66 := XT66.out
  have wT67 := WT67.out
  have xT67 := XT67.out
  have wN := WN.out
  have xN := XN.out
  have dT71 := DT71.out
  have wT71 := WT71.out
  have dT73 := DT73.out
  have wT73 := WT73.out
  have wT74 := WT74.out
  have xT74 := XT74.out
  go_enter Tryz.func103, Tryz.ntmps103
  go_wp2_with fail
  go_ret2
  exact ⟨rfl, rfl⟩
set_option maxRecDepth 100000 in
set_option maxHeartbeats 8000000 in
theorem easter_calls (y : Int) (hy : 1970 ≤ y ∧ y ≤ 9999) (w : World) : Calls Tryz.prog 102 #[.int .i64 y] w fun e w' => e = .returned (.tuple #[.agg #[.int .i64 y, .int .i64 (easM y), .int .i64 (easD y)], .int .i64 0]) ∧ Below w.heap.size w w' := by
  have HIn := in_calls y 1970 9999
  rw [show (decide (1970 ≤ y) && decide (y ≤ 9999)) = true by rw [decide_eq_true hy.1, decide_eq_true hy.2]; rfl] at HIn
  replace HIn := Lib.hid HIn
  have Ry := Lib.hid hy
  clear hy
  obtain ⟨A, EA⟩ : ∃ A : Int, y % 19 = A := ⟨_, rfl⟩
  have RA := Lib.hid (show 0 ≤ A ∧ A ≤ 18 by have := Ry.out; omega)
  have DA := Lib.hid (show Int.tmod y 19 = A by have := Ry.out; rw [Int.tmod_eq_emod_of_nonneg (by omega)]; exact EA)
  have WA := Lib.hid (i64_same A (by have := RA.out; omega))
  replace EA := Lib.hid EA
  obtain ⟨B, EB⟩ : ∃ B : Int, y / 100 = B := ⟨_, rfl⟩
  have RB := Lib.hid (show 19 ≤ B ∧ B ≤ 99 by have := Ry.out; omega)
  have DB := Lib.hid (show Int.tdiv y 100 = B by have := Ry.out; rw [Int.tdiv_eq_ediv_of_nonneg (by omega)]; exact EB)
  have WB := Lib.hid (i64_same B (by have := RB.out; omega))
  replace EB := Lib.hid EB
  obtain ⟨C, EC⟩ : ∃ C : Int, y % 100 = C := ⟨_, rfl⟩
  have RC := Lib.hid (show 0 ≤ C ∧ C ≤ 99 by have := Ry.out; omega)
  have DC := Lib.hid (show Int.tmod y 100 = C by have := Ry.out; rw [Int.tmod_eq_emod_of_nonneg (by omega)]; exact EC)
  have WC := Lib.hid (i64_same C (by have := RC.out; omega))
  replace EC := Lib.hid EC
  obtain ⟨T24, ET24⟩ : ∃ T24 : Int, B + 8 = T24 := ⟨_, rfl⟩
  have RT24 := Lib.hid (show 27 ≤ T24 ∧ T24 ≤ 107 by have := RB.out; omega)
  have WT24 := Lib.hid (show IntKind.i64.wrap (B + 8) = T24 by rw [ET24]; exact i64_same _ (by have := RT24.out; omega))
  have XT24 := Lib.hid (show wrap64 (B + 8) = T24 by rw [ET24]; exact wrap64_in _ (by have := RT24.out; omega))
  replace ET24 := Lib.hid ET24
  obtain ⟨T25, ET25⟩ : ∃ T25 : Int, T24 / 25 = T25 := ⟨_, rfl⟩
  have RT25 := Lib.hid (show 1 ≤ T25 ∧ T25 ≤ 4 by have := RT24.out; omega)
  have DT25 := Lib.hid (show Int.tdiv T24 25 = T25 by have := RT24.out; rw [Int.tdiv_eq_ediv_of_nonneg (by omega)]; exact ET25)
  have WT25 := Lib.hid (i64_same T25 (by have := RT25.out; omega))
  replace ET25 := Lib.hid ET25
  obtain ⟨T26, ET26⟩ : ∃ T26 : Int, B - T25 = T26 := ⟨_, rfl⟩
  have RT26 := Lib.hid (show 15 ≤ T26 ∧ T26 ≤ 98 by have := RB.out; have := RT25.out; omega)
  have WT26 := Lib.hid (show IntKind.i64.wrap (B - T25) = T26 by rw [ET26]; exact i64_same _ (by have := RT26.out; omega))
  have XT26 := Lib.hid (show wrap64 (B - T25) = T26 by rw [ET26]; exact wrap64_in _ (by have := RT26.out; omega))
  replace ET26 := Lib.hid ET26
  obtain ⟨T27, ET27⟩ : ∃ T27 : Int, T26 + 1 = T27 := ⟨_, rfl⟩
  have RT27 := Lib.hid (show 16 ≤ T27 ∧ T27 ≤ 99 by have := RT26.out; omega)
  have WT27 := Lib.hid (show IntKind.i64.wrap (T26 + 1) = T27 by rw [ET27]; exact i64_same _ (by have := RT27.out; omega))
  have XT27 := Lib.hid (show wrap64 (T26 + 1) = T27 by rw [ET27]; exact wrap64_in _ (by have := RT27.out; omega))
  replace ET27 := Lib.hid ET27
  obtain ⟨G, EG⟩ : ∃ G : Int, T27 / 3 = G := ⟨_, rfl⟩
  have RG := Lib.hid (show 5 ≤ G ∧ G ≤ 33 by have := RT27.out; omega)
  have DG := Lib.hid (show Int.tdiv T27 3 = G by have := RT27.out; rw [Int.tdiv_eq_ediv_of_nonneg (by omega)]; exact EG)
  have WG := Lib.hid (i64_same G (by have := RG.out; omega))
  replace EG := Lib.hid EG
  obtain ⟨T30, ET30⟩ : ∃ T30 : Int, 19 * A = T30 := ⟨_, rfl⟩
  have RT30 := Lib.hid (show 0 ≤ T30 ∧ T30 ≤ 342 by have := RA.out; omega)
  have WT30 := Lib.hid (show IntKind.i64.wrap (19 * A) = T30 by rw [ET30]; exact i64_same _ (by have := RT30.out; omega))
  have XT30 := Lib.hid (show wrap64 (19 * A) = T30 by rw [ET30]; exact wrap64_in _ (by have := RT30.out; omega))
  replace ET30 := Lib.hid ET30
  obtain ⟨T32, ET32⟩ : ∃ T32 : Int, T30 + B = T32 := ⟨_, rfl⟩
  have RT32 := Lib.hid (show 19 ≤ T32 ∧ T32 ≤ 441 by have := RT30.out; have := RB.out; omega)
  have WT32 := Lib.hid (show IntKind.i64.wrap (T30 + B) = T32 by rw [ET32]; exact i64_same _ (by have := RT32.out; omega))
  have XT32 := Lib.hid (show wrap64 (T30 + B) = T32 by rw [ET32]; exact wrap64_in _ (by have := RT32.out; omega))
  replace ET32 := Lib.hid ET32
  obtain ⟨T34, ET34⟩ : ∃ T34 : Int, B / 4 = T34 := ⟨_, rfl⟩
  have RT34 := Lib.hid (show 4 ≤ T34 ∧ T34 ≤ 24 by have := RB.out; omega)
  have DT34 := Lib.hid (show Int.tdiv B 4 = T34 by have := RB.out; rw [Int.tdiv_eq_ediv_of_nonneg (by omega)]; exact ET34)
  have WT34 := Lib.hid (i64_same T34 (by have := RT34.out; omega))
  replace ET34 := Lib.hid ET34
  obtain ⟨T35, ET35⟩ : ∃ T35 : Int, T32 - T34 = T35 := ⟨_, rfl⟩
  have RT35 := Lib.hid (show -5 ≤ T35 ∧ T35 ≤ 437 by have := RT32.out; have := RT34.out; omega)
  have WT35 := Lib.hid (show IntKind.i64.wrap (T32 - T34) = T35 by rw [ET35]; exact i64_same _ (by have := RT35.out; omega))
  have XT35 := Lib.hid (show wrap64 (T32 - T34) = T35 by rw [ET35]; exact wrap64_in _ (by have := RT35.out; omega))
  replace ET35 := Lib.hid ET35
  obtain ⟨T37, ET37⟩ : ∃ T37 : Int, T35 - G = T37 := ⟨_, rfl⟩
  have RT37 := Lib.hid (show -38 ≤ T37 ∧ T37 ≤ 432 by have := RT35.out; have := RG.out; omega)
  have WT37 := Lib.hid (show IntKind.i64.wrap (T35 - G) = T37 by rw [ET37]; exact i64_same _ (by have := RT37.out; omega))
  have XT37 := Lib.hid (show wrap64 (T35 - G) = T37 by rw [ET37]; exact wrap64_in _ (by have := RT37.out; omega))
  replace ET37 := Lib.hid ET37
  obtain ⟨T38, ET38⟩ : ∃ T38 : Int, T37 + 15 = T38 := ⟨_, rfl⟩
  have RT38 := Lib.hid (show 0 ≤ T38 ∧ T38 ≤ 1000 by have := RT37.out; have := ET24.out; have := RT24.out; have := ET25.out; have := RT25.out; have := ET26.out; have := RT26.out; have := ET27.out; have := RT27.out; have := EG.out; have := RG.out; have := ET30.out; have := RT30.out; have := ET32.out; have := RT32.out; have := ET34.out; have := RT34.out; have := ET35.out; have := RT35.out; have := ET37.out; have := RT37.out; have := RB.out; have := RA.out; omega)
  have WT38 := Lib.hid (show IntKind.i64.wrap (T37 + 15) = T38 by rw [ET38]; exact i64_same _ (by have := RT38.out; omega))
  have XT38 := Lib.hid (show wrap64 (T37 + 15) = T38 by rw [ET38]; exact wrap64_in _ (by have := RT38.out; omega))
  replace ET38 := Lib.hid ET38
  obtain ⟨H, EH⟩ : ∃ H : Int, T38 % 30 = H := ⟨_, rfl⟩
  have RH := Lib.hid (show 0 ≤ H ∧ H ≤ 29 by have := RT38.out; omega)
  have DH := Lib.hid (show Int.tmod T38 30 = H by have := RT38.out; rw [Int.tmod_eq_emod_of_nonneg (by omega)]; exact EH)
  have WH := Lib.hid (i64_same H (by have := RH.out; omega))
  replace EH := Lib.hid EH
  obtain ⟨T41, ET41⟩ : ∃ T41 : Int, B % 4 = T41 := ⟨_, rfl⟩
  have RT41 := Lib.hid (show 0 ≤ T41 ∧ T41 ≤ 3 by have := RB.out; omega)
  have DT41 := Lib.hid (show Int.tmod B 4 = T41 by have := RB.out; rw [Int.tmod_eq_emod_of_nonneg (by omega)]; exact ET41)
  have WT41 := Lib.hid (i64_same T41 (by have := RT41.out; omega))
  replace ET41 := Lib.hid ET41
  obtain ⟨T42, ET42⟩ : ∃ T42 : Int, 2 * T41 = T42 := ⟨_, rfl⟩
  have RT42 := Lib.hid (show 0 ≤ T42 ∧ T42 ≤ 6 by have := RT41.out; omega)
  have WT42 := Lib.hid (show IntKind.i64.wrap (2 * T41) = T42 by rw [ET42]; exact i64_same _ (by have := RT42.out; omega))
  have XT42 := Lib.hid (show wrap64 (2 * T41) = T42 by rw [ET42]; exact wrap64_in _ (by have := RT42.out; omega))
  replace ET42 := Lib.hid ET42
  obtain ⟨T43, ET43⟩ : ∃ T43 : Int, 32 + T42 = T43 := ⟨_, rfl⟩
  have RT43 := Lib.hid (show 32 ≤ T43 ∧ T43 ≤ 38 by have := RT42.out; omega)
  have WT43 := Lib.hid (show IntKind.i64.wrap (32 + T42) = T43 by rw [ET43]; exact i64_same _ (by have := RT43.out; omega))
  have XT43 := Lib.hid (show wrap64 (32 + T42) = T43 by rw [ET43]; exact wrap64_in _ (by have := RT43.out; omega))
  replace ET43 := Lib.hid ET43
  obtain ⟨T45, ET45⟩ : ∃ T45 : Int, C / 4 = T45 := ⟨_, rfl⟩
  have RT45 := Lib.hid (show 0 ≤ T45 ∧ T45 ≤ 24 by have := RC.out; omega)
  have DT45 := Lib.hid (show Int.tdiv C 4 = T45 by have := RC.out; rw [Int.tdiv_eq_ediv_of_nonneg (by omega)]; exact ET45)
  have WT45 := Lib.hid (i64_same T45 (by have := RT45.out; omega))
  replace ET45 := Lib.hid ET45
  obtain ⟨T46, ET46⟩ : ∃ T46 : Int, 2 * T45 = T46 := ⟨_, rfl⟩
  have RT46 := Lib.hid (show 0 ≤ T46 ∧ T46 ≤ 48 by have := RT45.out; omega)
  have WT46 := Lib.hid (show IntKind.i64.wrap (2 * T45) = T46 by rw [ET46]; exact i64_same _ (by have := RT46.out; omega))
  have XT46 := Lib.hid (show wrap64 (2 * T45) = T46 by rw [ET46]; exact wrap64_in _ (by have := RT46.out; omega))
  replace ET46 := Lib.hid ET46
  obtain ⟨T47, ET47⟩ : ∃ T47 : Int, T43 + T46 = T47 := ⟨_, rfl⟩
  have RT47 := Lib.hid (show 32 ≤ T47 ∧ T47 ≤ 86 by have := RT43.out; have := RT46.out; omega)
  have WT47 := Lib.hid (show IntKind.i64.wrap (T43 + T46) = T47 by rw [ET47]; exact i64_same _ (by have := RT47.out; omega))
  have XT47 := Lib.hid (show wrap64 (T43 + T46) = T47 by rw [ET47]; exact wrap64_in _ (by have := RT47.out; omega))
  replace ET47 := Lib.hid ET47
  obtain ⟨T49, ET49⟩ : ∃ T49 : Int, T47 - H = T49 := ⟨_, rfl⟩
  have RT49 := Lib.hid (show 3 ≤ T49 ∧ T49 ≤ 86 by have := RT47.out; have := RH.out; omega)
  have WT49 := Lib.hid (show IntKind.i64.wrap (T47 - H) = T49 by rw [ET49]; exact i64_same _ (by have := RT49.out; omega))
  have XT49 := Lib.hid (show wrap64 (T47 - H) = T49 by rw [ET49]; exact wrap64_in _ (by have := RT49.out; omega))
  replace ET49 := Lib.hid ET49
  obtain ⟨T51, ET51⟩ : ∃ T51 : Int, C % 4 = T51 := ⟨_, rfl⟩
  have RT51 := Lib.hid (show 0 ≤ T51 ∧ T51 ≤ 3 by have := RC.out; omega)
  have DT51 := Lib.hid (show Int.tmod C 4 = T51 by have := RC.out; rw [Int.tmod_eq_emod_of_nonneg (by omega)]; exact ET51)
  have WT51 := Lib.hid (i64_same T51 (by have := RT51.out; omega))
  replace ET51 := Lib.hid ET51
  obtain ⟨T52, ET52⟩ : ∃ T52 : Int, T49 - T51 = T52 := ⟨_, rfl⟩
  have RT52 := Lib.hid (show 0 ≤ T52 ∧ T52 ≤ 86 by have := RT49.out; have := RT51.out; omega)
  have WT52 := Lib.hid (show IntKind.i64.wrap (T49 - T51) = T52 by rw [ET52]; exact i64_same _ (by have := RT52.out; omega))
  have XT52 := Lib.hid (show wrap64 (T49 - T51) = T52 by rw [ET52]; exact wrap64_in _ (by have := RT52.out; omega))
  replace ET52 := Lib.hid ET52
  obtain ⟨L, EL⟩ : ∃ L : Int, T52 % 7 = L := ⟨_, rfl⟩
  have RL := Lib.hid (show 0 ≤ L ∧ L ≤ 6 by have := RT52.out; omega)
  have DL := Lib.hid (show Int.tmod T52 7 = L by have := RT52.out; rw [Int.tmod_eq_emod_of_nonneg (by omega)]; exact EL)
  have WL := Lib.hid (i64_same L (by have := RL.out; omega))
  replace EL := Lib.hid EL
  obtain ⟨T56, ET56⟩ : ∃ T56 : Int, 11 * H = T56 := ⟨_, rfl⟩
  have RT56 := Lib.hid (show 0 ≤ T56 ∧ T56 ≤ 319 by have := RH.out; omega)
  have WT56 := Lib.hid (show IntKind.i64.wrap (11 * H) = T56 by rw [ET56]; exact i64_same _ (by have := RT56.out; omega))
  have XT56 := Lib.hid (show wrap64 (11 * H) = T56 by rw [ET56]; exact wrap64_in _ (by have := RT56.out; omega))
  replace ET56 := Lib.hid ET56
  obtain ⟨T57, ET57⟩ : ∃ T57 : Int, A + T56 = T57 := ⟨_, rfl⟩
  have RT57 := Lib.hid (show 0 ≤ T57 ∧ T57 ≤ 337 by have := RA.out; have := RT56.out; omega)
  have WT57 := Lib.hid (show IntKind.i64.wrap (A + T56) = T57 by rw [ET57]; exact i64_same _ (by have := RT57.out; omega))
  have XT57 := Lib.hid (show wrap64 (A + T56) = T57 by rw [ET57]; exact wrap64_in _ (by have := RT57.out; omega))
  replace ET57 := Lib.hid ET57
  obtain ⟨T59, ET59⟩ : ∃ T59 : Int, 22 * L = T59 := ⟨_, rfl⟩
  have RT59 := Lib.hid (show 0 ≤ T59 ∧ T59 ≤ 132 by have := RL.out; omega)
  have WT59 := Lib.hid (show IntKind.i64.wrap (22 * L) = T59 by rw [ET59]; exact i64_same _ (by have := RT59.out; omega))
  have XT59 := Lib.hid (show wrap64 (22 * L) = T59 by rw [ET59]; exact wrap64_in _ (by have := RT59.out; omega))
  replace ET59 := Lib.hid ET59
  obtain ⟨T60, ET60⟩ : ∃ T60 : Int, T57 + T59 = T60 := ⟨_, rfl⟩
  have RT60 := Lib.hid (show 0 ≤ T60 ∧ T60 ≤ 469 by have := RT57.out; have := RT59.out; omega)
  have WT60 := Lib.hid (show IntKind.i64.wrap (T57 + T59) = T60 by rw [ET60]; exact i64_same _ (by have := RT60.out; omega))
  have XT60 := Lib.hid (show wrap64 (T57 + T59) = T60 by rw [ET60]; exact wrap64_in _ (by have := RT60.out; omega))
  replace ET60 := Lib.hid ET60
  obtain ⟨M, EM⟩ : ∃ M : Int, T60 / 451 = M := ⟨_, rfl⟩
  have RM := Lib.hid (show 0 ≤ M ∧ M ≤ 1 by have := RT60.out; omega)
  have DM := Lib.hid (show Int.tdiv T60 451 = M by have := RT60.out; rw [Int.tdiv_eq_ediv_of_nonneg (by omega)]; exact EM)
  have WM := Lib.hid (i64_same M (by have := RM.out; omega))
  replace EM := Lib.hid EM
  obtain ⟨T64, ET64⟩ : ∃ T64 : Int, H + L = T64 := ⟨_, rfl⟩
  have RT64 := Lib.hid (show 0 ≤ T64 ∧ T64 ≤ 35 by have := RH.out; have := RL.out; omega)
  have WT64 := Lib.hid (show IntKind.i64.wrap (H + L) = T64 by rw [ET64]; exact i64_same _ (by have := RT64.out; omega))
  have XT64 := Lib.hid (show wrap64 (H + L) = T64 by rw [ET64]; exact wrap64_in _ (by have := RT64.out; omega))
  replace ET64 := Lib.hid ET64
  obtain ⟨T66, ET66⟩ : ∃ T66 : Int, 7 * M = T66 := ⟨_, rfl⟩
  have RT66 := Lib.hid (show 0 ≤ T66 ∧ T66 ≤ 7 by have := RM.out; omega)
  have WT66 := Lib.hid (show IntKind.i64.wrap (7 * M) = T66 by rw [ET66]; exact i64_same _ (by have := RT66.out; omega))
  have XT66 := Lib.hid (show wrap64 (7 * M) = T66 by rw [ET66]; exact wrap64_in _ (by have := RT66.out; omega))
  replace ET66 := Lib.hid ET66
  obtain ⟨T67, ET67⟩ : ∃ T67 : Int, T64 - T66 = T67 := ⟨_, rfl⟩
  have RT67 := Lib.hid (show -7 ≤ T67 ∧ T67 ≤ 35 by have := RT64.out; have := RT66.out; omega)
  have WT67 := Lib.hid (show IntKind.i64.wrap (T64 - T66) = T67 by rw [ET67]; exact i64_same _ (by have := RT67.out; omega))
  have XT67 := Lib.hid (show wrap64 (T64 - T66) = T67 by rw [ET67]; exact wrap64_in _ (by have := RT67.out; omega))
  replace ET67 := Lib.hid ET67
  obtain ⟨N, EN⟩ : ∃ N : Int, T67 + 114 = N := ⟨_, rfl⟩
  have RN := Lib.hid (show 107 ≤ N ∧ N ≤ 149 by have := RT67.out; omega)
  have WN := Lib.hid (show IntKind.i64.wrap (T67 + 114) = N by rw [EN]; exact i64_same _ (by have := RN.out; omega))
  have XN := Lib.hid (show wrap64 (T67 + 114) = N by rw [EN]; exact wrap64_in _ (by have := RN.out; omega))
  replace EN := Lib.hid EN
  obtain ⟨T71, ET71⟩ : ∃ T71 : Int, N / 31 = T71 := ⟨_, rfl⟩
  have RT71 := Lib.hid (show 3 ≤ T71 ∧ T71 ≤ 4 by have := RN.out; omega)
  have DT71 := Lib.hid (show Int.tdiv N 31 = T71 by have := RN.out; rw [Int.tdiv_eq_ediv_of_nonneg (by omega)]; exact ET71)
  have WT71 := Lib.hid (i64_same T71 (by have := RT71.out; omega))
  replace ET71 := Lib.hid ET71
  obtain ⟨T73, ET73⟩ : ∃ T73 : Int, N % 31 = T73 := ⟨_, rfl⟩
  have RT73 := Lib.hid (show 0 ≤ T73 ∧ T73 ≤ 30 by have := RN.out; omega)
  have DT73 := Lib.hid (show Int.tmod N 31 = T73 by have := RN.out; rw [Int.tmod_eq_emod_of_nonneg (by omega)]; exact ET73)
  have WT73 := Lib.hid (i64_same T73 (by have := RT73.out; omega))
  replace ET73 := Lib.hid ET73
  obtain ⟨T74, ET74⟩ : ∃ T74 : Int, T73 + 1 = T74 := ⟨_, rfl⟩
  have RT74 := Lib.hid (show 1 ≤ T74 ∧ T74 ≤ 31 by have := RT73.out; omega)
  have WT74 := Lib.hid (show IntKind.i64.wrap (T73 + 1) = T74 by rw [ET74]; exact i64_same _ (by have := RT74.out; omega))
  have XT74 := Lib.hid (show wrap64 (T73 + 1) = T74 by rw [ET74]; exact wrap64_in _ (by have := RT74.out; omega))
  replace ET74 := Lib.hid ET74
  have Esm : easM y = T71 := by
    simp only [← ET71.out, ← EN.out, ← ET67.out, ← ET66.out, ← EM.out, ← ET60.out, ← ET59.out, ← ET57.out, ← ET56.out, ← ET64.out, ← EL.out, ← ET52.out, ← ET49.out, ← ET51.out, ← ET47.out, ← ET46.out, ← ET45.out, ← ET43.out, ← ET42.out, ← ET41.out, ← EH.out, ← ET38.out, ← ET37.out, ← ET35.out, ← ET34.out, ← ET32.out, ← ET30.out, ← EG.out, ← ET27.out, ← ET26.out, ← ET25.out, ← ET24.out, ← EC.out, ← EB.out, ← EA.out]; rfl
  have Esd : easD y = T74 := by
    simp only [← ET74.out, ← ET73.out, ← EN.out, ← ET67.out, ← ET66.out, ← EM.out, ← ET60.out, ← ET59.out, ← ET57.out, ← ET56.out, ← ET64.out, ← EL.out, ← ET52.out, ← ET49.out, ← ET51.out, ← ET47.out, ← ET46.out, ← ET45.out, ← ET43.out, ← ET42.out, ← ET41.out, ← EH.out, ← ET38.out, ← ET37.out, ← ET35.out, ← ET34.out, ← ET32.out, ← ET30.out, ← EG.out, ← ET27.out, ← ET26.out, ← ET25.out, ← ET24.out, ← EC.out, ← EB.out, ← EA.out]; rfl
  rw [Esm, Esd]
  clear Esm Esd
  have dA := DA.out
  have wA := WA.out
  have dB := DB.out
  have wB := WB.out
  have dC := DC.out
  have wC := WC.out
  have wT24 := WT24.out
  have xT24 := XT24.out
  have dT25 := DT25.out
  have wT25 := WT25.out
  have wT26 := WT26.out
  have xT26 := XT26.out
  have wT27 := WT27.out
  have xT27 := XT27.out
  have dG := DG.out
  have wG := WG.out
  have wT30 := WT30.out
  have xT30 := XT30.out
  have wT32 := WT32.out
  have xT32 := XT32.out
  have dT34 := DT34.out
  have wT34 := WT34.out
  have wT35 := WT35.out
  have xT35 := XT35.out
  have wT37 := WT37.out
  have xT37 := XT37.out
  have wT38 := WT38.out
  have xT38 := XT38.out
  have dH := DH.out
  have wH := WH.out
  have dT41 := DT41.out
  have wT41 := WT41.out
  have wT42 := WT42.out
  have xT42 := XT42.out
  have wT43 := WT43.out
  have xT43 := XT43.out
  have dT45 := DT45.out
  have wT45 := WT45.out
  have wT46 := WT46.out
  have xT46 := XT46.out
  have wT47 := WT47.out
  have xT47 := XT47.out
  have wT49 := WT49.out
  have xT49 := XT49.out
  have dT51 := DT51.out
  have wT51 := WT51.out
  have wT52 := WT52.out
  have xT52 := XT52.out
  have dL := DL.out
  have wL := WL.out
  have wT56 := WT56.out
  have xT56 := XT56.out
  have wT57 := WT57.out
  have xT57 := XT57.out
  have wT59 := WT59.out
  have xT59 := XT59.out
  have wT60 := WT60.out
  have xT60 := XT60.out
  have dM := DM.out
  have wM := WM.out
  have wT64 := WT64.out
  have xT64 := XT64.out
  have wT66 := WT66.out
  have xT66 := XT66.out
  have wT67 := WT67.out
  have xT67 := XT67.out
  have wN := WN.out
  have xN := XN.out
  have dT71 := DT71.out
  have wT71 := WT71.out
  have dT73 := DT73.out
  have wT73 := WT73.out
  have wT74 := WT74.out
  have xT74 := XT74.out
  obtain ⟨b0, hb0⟩ : ∃ b0, w.heap.size = b0 := ⟨_, rfl⟩
  have Hb0 := Lib.hid hb0
  have hrow := World.alloc_heap_new w (.cells #[.int .i64 0, .int .i64 0, .int .i64 0] 113)
  have hB1 := bstep w (.cells #[.int .i64 0, .int .i64 0, .int .i64 0] 113)
  rw [hb0] at hrow hB1
  have hs1 : (w.alloc (.cells #[.int .i64 0, .int .i64 0, .int .i64 0] 113)).heap.size = b0 + 1 := by simp [hb0]
  go_enter Tryz.func102, Tryz.ntmps102
  go_wp2_with fail
  refine (HIn.out _).mono ?_
  rintro e w1 ⟨rfl, rfl⟩
  have z0 := cell_of_row _ b0 0 _ _ _ hrow
  have z1 := cell_of_row _ b0 1 _ _ _ hrow
  have z2 := cell_of_row _ b0 2 _ _ _ hrow
  have f0 := blk_frozen hrow 0
  have f1 := blk_frozen hrow 1
  have f2 := blk_frozen hrow 2
  have hz7 := World.alloc_heap_new w (.cells #[.int .i64 y, .int .i64 T71, .int .i64 T74] 113)
  have hB7 := bstep w (.cells #[.int .i64 y, .int .i64 T71, .int .i64 T74] 113)
  rw [hb0] at hz7 hB7
  clear hrow hB1
  go_wp2_with fail
  refine bodyPost_ret (res_date rfl rfl hz7) rfl ?_
  exact ⟨rfl, by rw [Hb0.out]; exact hB7⟩
set_option maxRecDepth 100000 in
set_option maxHeartbeats 8000000 in
theorem easter_bad (y : Int) (hy : ¬ (1970 ≤ y ∧ y ≤ 9999)) (w : World) : Calls Tryz.prog 102 #[.int .i64 y] w fun e w' => e = .returned (.tuple #[.agg #[.int .i64 0, .int .i64 0, .int .i64 0], .int .i64 60]) ∧ Below w.heap.size w w' := by
  have HIn := in_calls y 1970 9999
  rw [show (decide (1970 ≤ y) && decide (y ≤ 9999)) = false by
    rw [Bool.and_eq_false_iff, decide_eq_false_iff_not, decide_eq_false_iff_not]; omega] at HIn
  replace HIn := Lib.hid HIn
  clear hy
  obtain ⟨b0, hb0⟩ : ∃ b0, w.heap.size = b0 := ⟨_, rfl⟩
  have Hb0 := Lib.hid hb0
  have hrow := World.alloc_heap_new w (.cells #[.int .i64 0, .int .i64 0, .int .i64 0] 113)
  have hB1 := bstep w (.cells #[.int .i64 0, .int .i64 0, .int .i64 0] 113)
  rw [hb0] at hrow hB1
  go_enter Tryz.func102, Tryz.ntmps102
  go_wp2_with fail
  refine (HIn.out _).mono ?_
  rintro e w1 ⟨rfl, rfl⟩
  have z0 := cell_of_row _ b0 0 _ _ _ hrow
  have z1 := cell_of_row _ b0 1 _ _ _ hrow
  have z2 := cell_of_row _ b0 2 _ _ _ hrow
  have f0 := blk_frozen hrow 0
  have f1 := blk_frozen hrow 1
  have f2 := blk_frozen hrow 2
  have hz7 := World.alloc_heap_new w (.cells #[.int .i64 0, .int .i64 0, .int .i64 0] 113)
  have hB7 := bstep w (.cells #[.int .i64 0, .int .i64 0, .int .i64 0] 113)
  rw [hb0] at hz7 hB7
  clear hrow hB1
  go_wp2_with fail
  refine bodyPost_ret (res_date rfl rfl hz7) rfl ?_
  exact ⟨rfl, by rw [Hb0.out]; exact hB7⟩
end Go.Proofs.YtgbkedjjgbhcmaaGreatDoor
