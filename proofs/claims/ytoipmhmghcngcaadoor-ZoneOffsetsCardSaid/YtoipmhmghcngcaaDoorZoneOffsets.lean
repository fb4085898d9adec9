/-
  The law ZoneOffsets: its cases joined. Conditions stand at each theorem.
-/
import Derived.Test.YtoipmhmghcngcaaDoorZoneOffs1
import Derived.Test.YtoipmhmghcngcaaDoorZoneOffs2
import Derived.Test.YtoipmhmghcngcaaDoorZoneOffs3
import Derived.Test.YtoipmhmghcngcaaDoorZoneOffs4
namespace Go.Proofs.YtoipmhmghcngcaaDoor
open Go Go.RowKit Go.Kw Go.Kw.Cv Go.Shelf
set_option linter.unusedVariables false
set_option linter.unusedSimpArgs false

attribute [local go_sem] eq_rul eq_mom
theorem zoneOffsets_walk (v : Value) (x : ZX) (y t : Int) (w : World) (hx : v = .agg #[.int .i64 x.1, .slice x.2.1 x.2.2.1 x.2.2.2.1] ∧ RdZ w x.2.1 x.2.2.1 x.2.2.2.1 x.2.2.2.2 ∧ (Lit.int .i64 x.1).wf = true) (hy0 : (Lit.int .i64 y).wf = true) (ht0 : (Lit.int .i64 t).wf = true) (hL : Lens w) :
    Calls Tryd.prog 3 #[v, .int .i64 y, .int .i64 t] w fun e w' => e = .returned (.bool true) ∧ Below w.heap.size w w' := by
  obtain ⟨rfl, hR, -⟩ := hx
  by_cases hl : x.2.2.1 ≤ 100
  · by_cases hok : zonOk x.1 x.2.2.1 x.2.2.2.2
    · by_cases hi : OfIs x.1 x.2.2.1 x.2.2.2.2 y
      · by_cases he : offE x.1 x.2.2.1 x.2.2.2.2 t = 0
        · exact zo_good1 _ _ _ _ _ y t w hR hl hok hi he hL
        · exact zo_good2 _ _ _ _ _ y t w hR hl hok hi he hL
      · by_cases he : offE x.1 x.2.2.1 x.2.2.2.2 t = 0
        · exact zo_good3 _ _ _ _ _ y t w hR hl hok hi he hL
        · exact zo_good4 _ _ _ _ _ y t w hR hl hok hi he hL
    · exact zo_bad _ _ _ _ _ y t w hR hl hok hL
  · exact zo_many _ _ _ _ _ y t w hR (by omega) hL
end Go.Proofs.YtoipmhmghcngcaaDoor
