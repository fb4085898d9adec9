/-
  The law ZoneEdges: its cases joined. Conditions stand at each theorem.
-/
import Derived.Test.YtoipmhmghcngcaaDoorZoneEdges2
namespace Go.Proofs.YtoipmhmghcngcaaDoor
open Go Go.RowKit Go.Kw Go.Kw.Cv Go.Shelf
set_option linter.unusedVariables false
set_option linter.unusedSimpArgs false
theorem zoneEdges_walk (v : Value) (x : ZX) (y : Int) (w : World) (hx : v = .agg #[.int .i64 x.1, .slice x.2.1 x.2.2.1 x.2.2.2.1] ∧ RdZ w x.2.1 x.2.2.1 x.2.2.2.1 x.2.2.2.2 ∧ (Lit.int .i64 x.1).wf = true) (ht0 : (Lit.int .i64 y).wf = true) (hL : Lens w) :
    Calls Tryd.prog 8 #[v, .int .i64 y] w fun e w' => e = .returned (.bool true) ∧ Below w.heap.size w w' := by
  obtain ⟨rfl, hR, -⟩ := hx
  obtain ⟨o, A, lr, cr, g⟩ := x
  dsimp only at hR ⊢
  by_cases hl : lr = 1
  · subst hl
    by_cases hi : OfIs o 1 g y
    · by_cases h1 : 9999 ≤ y
      · exact ze_late o A cr g y w hR hi h1 hL
      · by_cases h2 : y ≤ 1970
        · exact ze_early o A cr g y w hR hi h1 h2 hL
        · have hy : 1970 < y ∧ y < 9999 := by omega
          by_cases h3 : onT g 0 y - o < dayN y 1 3 * 86400
          · exact ze_a o A cr g y w hR hi hy h3 hL
          · by_cases h4 : dayN y 12 29 * 86400 < offT g 0 y - o
            · exact ze_b o A cr g y w hR hi hy h3 h4 hL
            · by_cases h5 : offT g 0 y - o - (onT g 0 y - o) < 86400
              · exact ze_c o A cr g y w hR hi hy h3 h4 h5 hL
              · exact ze_good o A cr g y w hR hi hy h3 h4 h5 hL
    · exact ze_no o A cr g y w hR hi hL
  · exact ze_many o A lr cr g y w hR hl hL
end Go.Proofs.YtoipmhmghcngcaaDoor
