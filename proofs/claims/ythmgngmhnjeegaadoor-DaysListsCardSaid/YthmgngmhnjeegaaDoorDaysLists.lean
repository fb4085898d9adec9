/-
  DaysLists: the walk of the law, case by case. Conditions stand at each theorem. (Printed by gen_dlists.py.)
-/
import Derived.Test.YthmgngmhnjeegaaDoorDaysLists1
import Derived.Test.YthmgngmhnjeegaaDoorDaysLists2
import Derived.Test.YthmgngmhnjeegaaDoorDaysLists3
namespace Go.Proofs.YthmgngmhnjeegaaDoor
open Go Go.RowKit Go.Kw Go.Kw.Cv
set_option linter.unusedVariables false
set_option linter.unusedSimpArgs false

theorem daysLists_walk (v : Value) (x : CalX) (y n kind : Int) (w : World) (hx : v = calC x.1.1 x.1.2.1 x.1.2.2.1 x.2.1 x.2.2.1 x.2.2.2.1 ∧ RdCal w x.1.1 x.1.2.1 x.1.2.2.1 x.1.2.2.2 x.2.1 x.2.2.1 x.2.2.2.1 x.2.2.2.2) (hy0 : (Lit.int .i64 y).wf = true) (hn0 : (Lit.int .i64 n).wf = true) (hk0 : (Lit.int .i64 kind).wf = true) (hL : Lens w) :
    Calls Tryd.prog 8 #[v, .int .i64 y, .int .i64 n, .int .i64 kind] w fun e w' => e = .returned (.bool true) ∧ Below w.heap.size w w' := by
  obtain ⟨⟨A, la, ca, gh⟩, ⟨B, lb, cb, gs⟩⟩ := x
  dsimp only at hx
  obtain ⟨rfl, hR⟩ := hx
  by_cases h20 : la > 20
  · exact lists_many A la ca gh B lb cb gs y n kind w hR hL h20
  · by_cases h30 : lb > 30
    · exact lists_seasons A la ca gh B lb cb gs y n kind w hR hL h20 h30
    · by_cases hy : 1970 ≤ y ∧ y ≤ 9999
      · by_cases hcal : calOk la gh lb gs
        · by_cases hn : 0 ≤ n ∧ n ≤ 2932896
          · exact lists_day A la ca gh B lb cb gs y n kind w hR hL h20 h30 hcal hy hn
          · exact lists_noday A la ca gh B lb cb gs y n kind w hR hL h20 h30 hcal hy hn
        · exact lists_badcal A la ca gh B lb cb gs y n kind w hR hL h20 h30 hcal hy
      · by_cases hcal : calOk la gh lb gs
        · exact lists_badyear A la ca gh B lb cb gs y n kind w hR hL h20 h30 hcal hy
        · exact lists_badboth A la ca gh B lb cb gs y n kind w hR hL h20 h30 hcal hy
end Go.Proofs.YthmgngmhnjeegaaDoor
