/-
  DERIVED. GIVEN WITH THE SEED: THE CARDS: each row of YtoipmhmghcngcaaDoorRows.lean that lists a variable, with what it lists TIED to the program's text (the seventh form; the later family's looks); each row that meets fmt, with fmt's text TOLD by the authors' own Lean function (tested against real Go, not proved from fmt's source: count such statements apart). THE CARD IS WHAT COUNTS. Prove the row's statement (the work); the ties are given (YtoipmhmghcngcaaDoorTie.lean); close each card by the builder's one call (the guide's Derived/Test/ToyasCard.lean, 'card_holds'). Laid BY PROGRAM, IN A SANDBOX (cutbox-door.mjs). By AI agents, Wed Nov 11 2026. No macro, syntax, notation, axiom, sorry.
-/
import Derived.Test.YtoipmhmghcngcaaDoorRows
import GoSem.ClaimSeven
namespace Go.Proofs.YtoipmhmghcngcaaDoor
namespace Rows

/-- THE TIED CARD OF 'kilowattlaw07.ZoneOffsets'. -/
def zoneOffsetsCard : Claim7 := { stood := { row := zoneOffsetsRow, standIns := [], harness := (true, "dd3816a5c1c72164c20342153377384fc9d254f629c01d9bc3b9b36bf4fa72b1"), looks := false }, kinds := [], alts := [], laidByText := true, laidKinds := [.data], laidTests := true, laidLooks := .later }
def ZoneOffsetsCardSaid : Prop := Claim7.holds Tryd.pinned (.plain (OpenSpec.ofChange zoneOffsetsSpec)) zoneOffsetsCard

/-- THE TIED CARD OF 'kilowattlaw07.ZoneInstants'. -/
def zoneInstantsCard : Claim7 := { stood := { row := zoneInstantsRow, standIns := [], harness := (true, "dd3816a5c1c72164c20342153377384fc9d254f629c01d9bc3b9b36bf4fa72b1"), looks := false }, kinds := [], alts := [], laidByText := true, laidKinds := [.data], laidTests := true, laidLooks := .later }
def ZoneInstantsCardSaid : Prop := Claim7.holds Tryd.pinned (.plain (OpenSpec.ofChange zoneInstantsSpec)) zoneInstantsCard

/-- THE TIED CARD OF 'kilowattlaw07.ZoneNames'. -/
def zoneNamesCard : Claim7 := { stood := { row := zoneNamesRow, standIns := [], harness := (true, "dd3816a5c1c72164c20342153377384fc9d254f629c01d9bc3b9b36bf4fa72b1"), looks := false }, kinds := [], alts := [], laidByText := true, laidKinds := [.data], laidTests := true, laidLooks := .later }
def ZoneNamesCardSaid : Prop := Claim7.holds Tryd.pinned (.plain (OpenSpec.ofChange zoneNamesSpec)) zoneNamesCard

/-- THE TIED CARD OF 'kilowattlaw07.ZoneBack'. -/
def zoneBackCard : Claim7 := { stood := { row := zoneBackRow, standIns := [], harness := (true, "dd3816a5c1c72164c20342153377384fc9d254f629c01d9bc3b9b36bf4fa72b1"), looks := false }, kinds := [], alts := [], laidByText := true, laidKinds := [.data], laidTests := true, laidLooks := .later }
def ZoneBackCardSaid : Prop := Claim7.holds Tryd.pinned (.plain (OpenSpec.ofChange zoneBackSpec)) zoneBackCard

/-- THE TIED CARD OF 'kilowattlaw07.ZonePlain'. -/
def zonePlainCard : Claim7 := { stood := { row := zonePlainRow, standIns := [], harness := (true, "dd3816a5c1c72164c20342153377384fc9d254f629c01d9bc3b9b36bf4fa72b1"), looks := false }, kinds := [], alts := [], laidByText := true, laidKinds := [.data], laidTests := true, laidLooks := .later }
def ZonePlainCardSaid : Prop := Claim7.holds Tryd.pinned (.plain (OpenSpec.ofChange zonePlainSpec)) zonePlainCard

/-- THE TIED CARD OF 'kilowattlaw07.ZoneEdges'. -/
def zoneEdgesCard : Claim7 := { stood := { row := zoneEdgesRow, standIns := [], harness := (true, "dd3816a5c1c72164c20342153377384fc9d254f629c01d9bc3b9b36bf4fa72b1"), looks := false }, kinds := [], alts := [], laidByText := true, laidKinds := [.data], laidTests := true, laidLooks := .later }
def ZoneEdgesCardSaid : Prop := Claim7.holds Tryd.pinned (.plain (OpenSpec.ofChange zoneEdgesSpec)) zoneEdgesCard

/-- THE SECOND FORM's CARD OF 'kilowattlaw07.ZoneOffsets'. -/
def zoneOffsetsUptoCard : Claim7 := { stood := { row := zoneOffsetsUptoRow, standIns := [], harness := (true, "dd3816a5c1c72164c20342153377384fc9d254f629c01d9bc3b9b36bf4fa72b1"), looks := false }, kinds := [], alts := [], laidByText := true, laidKinds := [.data], laidTests := true, laidLooks := .later }
def ZoneOffsetsUptoCardSaid : Prop := Claim7.holds Tryd.pinned (.plain (OpenSpec.upto zoneOffsetsSpec)) zoneOffsetsUptoCard

/-- THE SECOND FORM's CARD OF 'kilowattlaw07.ZoneInstants'. -/
def zoneInstantsUptoCard : Claim7 := { stood := { row := zoneInstantsUptoRow, standIns := [], harness := (true, "dd3816a5c1c72164c20342153377384fc9d254f629c01d9bc3b9b36bf4fa72b1"), looks := false }, kinds := [], alts := [], laidByText := true, laidKinds := [.data], laidTests := true, laidLooks := .later }
def ZoneInstantsUptoCardSaid : Prop := Claim7.holds Tryd.pinned (.plain (OpenSpec.upto zoneInstantsSpec)) zoneInstantsUptoCard

/-- THE SECOND FORM's CARD OF 'kilowattlaw07.ZoneNames'. -/
def zoneNamesUptoCard : Claim7 := { stood := { row := zoneNamesUptoRow, standIns := [], harness := (true, "dd3816a5c1c72164c20342153377384fc9d254f629c01d9bc3b9b36bf4fa72b1"), looks := false }, kinds := [], alts := [], laidByText := true, laidKinds := [.data], laidTests := true, laidLooks := .later }
def ZoneNamesUptoCardSaid : Prop := Claim7.holds Tryd.pinned (.plain (OpenSpec.upto zoneNamesSpec)) zoneNamesUptoCard

/-- THE SECOND FORM's CARD OF 'kilowattlaw07.ZoneBack'. -/
def zoneBackUptoCard : Claim7 := { stood := { row := zoneBackUptoRow, standIns := [], harness := (true, "dd3816a5c1c72164c20342153377384fc9d254f629c01d9bc3b9b36bf4fa72b1"), looks := false }, kinds := [], alts := [], laidByText := true, laidKinds := [.data], laidTests := true, laidLooks := .later }
def ZoneBackUptoCardSaid : Prop := Claim7.holds Tryd.pinned (.plain (OpenSpec.upto zoneBackSpec)) zoneBackUptoCard

/-- THE SECOND FORM's CARD OF 'kilowattlaw07.ZonePlain'. -/
def zonePlainUptoCard : Claim7 := { stood := { row := zonePlainUptoRow, standIns := [], harness := (true, "dd3816a5c1c72164c20342153377384fc9d254f629c01d9bc3b9b36bf4fa72b1"), looks := false }, kinds := [], alts := [], laidByText := true, laidKinds := [.data], laidTests := true, laidLooks := .later }
def ZonePlainUptoCardSaid : Prop := Claim7.holds Tryd.pinned (.plain (OpenSpec.upto zonePlainSpec)) zonePlainUptoCard

/-- THE SECOND FORM's CARD OF 'kilowattlaw07.ZoneEdges'. -/
def zoneEdgesUptoCard : Claim7 := { stood := { row := zoneEdgesUptoRow, standIns := [], harness := (true, "dd3816a5c1c72164c20342153377384fc9d254f629c01d9bc3b9b36bf4fa72b1"), looks := false }, kinds := [], alts := [], laidByText := true, laidKinds := [.data], laidTests := true, laidLooks := .later }
def ZoneEdgesUptoCardSaid : Prop := Claim7.holds Tryd.pinned (.plain (OpenSpec.upto zoneEdgesSpec)) zoneEdgesUptoCard
end Rows
end Go.Proofs.YtoipmhmghcngcaaDoor
