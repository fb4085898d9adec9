/-
  The law ZoneBack: its cases joined. Conditions stand at each theorem.
-/
import Derived.Test.YtoipmhmghcngcaaDoorZoneBack2
import Derived.Test.YtoipmhmghcngcaaDoorZoneBack3
import Derived.Test.YtoipmhmghcngcaaDoorZoneBack4
namespace Go.Proofs.YtoipmhmghcngcaaDoor
open Go Go.RowKit Go.Kw Go.Kw.Cv Go.Shelf
set_option linter.unusedVariables false
set_option linter.unusedSimpArgs false
attribute [local go_sem] eq_mom
theorem zoneBack_walk (v : Value) (x : ZX) (t : Int) (v2 : Value) (x2 : MX) (w : World) (hx : v = .agg #[.int .i64 x.1, .slice x.2.1 x.2.2.1 x.2.2.2.1] ∧ RdZ w x.2.1 x.2.2.1 x.2.2.2.1 x.2.2.2.2 ∧ (Lit.int .i64 x.1).wf = true) (ht0 : (Lit.int .i64 t).wf = true) (hx2 : v2 = momX x2) (hL : Lens w) :
    Calls Tryd.prog 6 #[v, .int .i64 t, v2] w fun e w' => e = .returned (.bool true) ∧ Below w.heap.size w w' := by
  obtain ⟨rfl, hR, -⟩ := hx
  subst hx2
  obtain ⟨o, A, lr, cr, g⟩ := x
  obtain ⟨y, m, d, h, i, s⟩ := x2
  dsimp only at hR ⊢
  unfold momX
  by_cases hl : lr ≤ 100
  · by_cases hok : zonOk o lr g
    · by_cases he : offE o lr g t = 0
      · by_cases hm : okD y m d ∧ clkOk h i s
        · exact zb_em o A lr cr g t y m d h i s w hR hl hok he hm.1 hm.2 hL
        · exact zb_ex o A lr cr g t y m d h i s w hR hl hok he hm hL
      · by_cases hm : okD y m d ∧ clkOk h i s
        · exact zb_nm o A lr cr g t y m d h i s w hR hl hok he hm.1 hm.2 hL
        · exact zb_nx o A lr cr g t y m d h i s w hR hl hok he hm hL
    · exact zb_nozone o A lr cr g t y m d h i s w hR hl hok hL
  · exact zb_many o A lr cr g t y m d h i s w hR (by omega) hL
end Go.Proofs.YtoipmhmghcngcaaDoor
