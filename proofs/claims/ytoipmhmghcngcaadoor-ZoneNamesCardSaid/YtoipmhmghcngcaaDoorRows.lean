/-
  NARROWER THAN 'FOR EVERY INPUT', by the rows' own cells (each row's printed sentence says how): ZoneOffsets: laid · ZoneInstants: laid · ZoneNames: laid · ZoneBack: laid · ZonePlain: laid · ZoneEdges: laid.
  DERIVED. THE GIVEN ROWS OF THIS SEAT. 6 by the template 'for every input the law returns true; each argument reads behind the call as it read before'; 0 by the template 'total and deterministic' (their statements: YtoipmhmghcngcaaDoorTotals.lean).
  GIVEN WITH THE SEED: the statements are not yours to turn. If you find one false, say at which input.
  Laid BY PROGRAM, IN A SANDBOX (cutbox-rows.mjs): the forced cells as the released guide's own fill.sh prints them over the translation 2ffa6199ab7f6e69… (all of the seat's roots in one cut). By AI agents, Wed Nov 11 2026. No macro, syntax, notation, axiom, sorry.
-/
import Derived.Test.YtoipmhmghcngcaaDoorChecked
import GoSem.Claim
import GoSem.ClaimJoined
import GoSem.ClaimMapViews
import Derived.JoinedTies
import Derived.KernelRfl
namespace Go.Proofs.YtoipmhmghcngcaaDoor
/- THE CELL 'sum', in the pinned program and in every row, IS THE sha256 OF THE DUMP (.gsa) THAT YtoipmhmghcngcaaDoorProg.lean LOADS. Nothing in Lean hashes anything: it is a label: what it is worth is what the hold of that sum in a sandbox is worth. -/
noncomputable def Tryd.pinned : Pinned := { name := "ytoipmhmghcngcaadoor", sum := "2ffa6199ab7f6e69dd6d0267f7e4993ab56a4e359605e68101f68c493f31577c", checked := Tryd.checked }
namespace Rows
def none {H : Type} : Left H := { results := [], args := [] }

/- WHAT THE LISTED PACKAGE-LEVEL VARIABLES READ AS WHEN THE CALL BEGINS. Each datum BY PROGRAM (the guide's laid-datum.mjs) off the statement by which the dump's own 'gosem.cut.vars' lays the variable. In a bare row this is a premise. The card (YtoipmhmghcngcaaDoorCards.lean) ties it to the program's text. -/
def laid_kilowatt_civil_lengths {H : Type} : DataW H := .agg [.lit (.int .i64 31), .lit (.int .i64 28), .lit (.int .i64 31), .lit (.int .i64 30), .lit (.int .i64 31), .lit (.int .i64 30), .lit (.int .i64 31), .lit (.int .i64 31), .lit (.int .i64 30), .lit (.int .i64 31), .lit (.int .i64 30), .lit (.int .i64 31)]

/-- 'kilowattlaw07.ZoneOffsets': WHATEVER THE INPUT: true; the input reads as it did. -/
def zoneOffsetsSpec : ChangeSpec := { name := "zoneOffsets", fn := fun _ => fun
  | [d1, d2, d3] => { results := [.lit (.bool true)], args := [d1, d2, d3] }
  | _ => none }
def zoneOffsetsRow : OpenClaim := { program := "ytoipmhmghcngcaadoor", sum := "2ffa6199ab7f6e69dd6d0267f7e4993ab56a4e359605e68101f68c493f31577c", func := "kilowatt/kilowattlaw07.ZoneOffsets", spec := "zoneOffsets", unfollowed := true, recurses := true, named := ["kilowatt/civil.lengths"], apart := false, laid := [("kilowatt/civil.lengths", laid_kilowatt_civil_lengths)] }
def ZoneOffsetsSaid : Prop := zoneOffsetsRow.holds Tryd.pinned (OpenSpec.ofChange zoneOffsetsSpec)

/-- ITS FALSE NEIGHBOUR: 'it returns false'. Refute it at one input. -/
def zoneOffsetsWrong : ChangeSpec := { name := "zoneOffsets", fn := fun _ => fun
  | [d1, d2, d3] => { results := [.lit (.bool false)], args := [d1, d2, d3] }
  | _ => none }
def ZoneOffsetsWrongFalsely : Prop := zoneOffsetsRow.holds Tryd.pinned (OpenSpec.ofChange zoneOffsetsWrong)

/-- 'kilowattlaw07.ZoneInstants': WHATEVER THE INPUT: true; the input reads as it did. -/
def zoneInstantsSpec : ChangeSpec := { name := "zoneInstants", fn := fun _ => fun
  | [d1, d2] => { results := [.lit (.bool true)], args := [d1, d2] }
  | _ => none }
def zoneInstantsRow : OpenClaim := { program := "ytoipmhmghcngcaadoor", sum := "2ffa6199ab7f6e69dd6d0267f7e4993ab56a4e359605e68101f68c493f31577c", func := "kilowatt/kilowattlaw07.ZoneInstants", spec := "zoneInstants", unfollowed := true, recurses := true, named := ["kilowatt/civil.lengths"], apart := false, laid := [("kilowatt/civil.lengths", laid_kilowatt_civil_lengths)] }
def ZoneInstantsSaid : Prop := zoneInstantsRow.holds Tryd.pinned (OpenSpec.ofChange zoneInstantsSpec)

/-- ITS FALSE NEIGHBOUR: 'it returns false'. Refute it at one input. -/
def zoneInstantsWrong : ChangeSpec := { name := "zoneInstants", fn := fun _ => fun
  | [d1, d2] => { results := [.lit (.bool false)], args := [d1, d2] }
  | _ => none }
def ZoneInstantsWrongFalsely : Prop := zoneInstantsRow.holds Tryd.pinned (OpenSpec.ofChange zoneInstantsWrong)

/-- 'kilowattlaw07.ZoneNames': WHATEVER THE INPUT: true; the input reads as it did. -/
def zoneNamesSpec : ChangeSpec := { name := "zoneNames", fn := fun _ => fun
  | [] => { results := [.lit (.bool true)], args := [] }
  | _ => none }
def zoneNamesRow : OpenClaim := { program := "ytoipmhmghcngcaadoor", sum := "2ffa6199ab7f6e69dd6d0267f7e4993ab56a4e359605e68101f68c493f31577c", func := "kilowatt/kilowattlaw07.ZoneNames", spec := "zoneNames", unfollowed := true, recurses := true, named := ["kilowatt/civil.lengths"], apart := false, laid := [("kilowatt/civil.lengths", laid_kilowatt_civil_lengths)] }
def ZoneNamesSaid : Prop := zoneNamesRow.holds Tryd.pinned (OpenSpec.ofChange zoneNamesSpec)

/-- ITS FALSE NEIGHBOUR: 'it returns false'. Refute it at one input. -/
def zoneNamesWrong : ChangeSpec := { name := "zoneNames", fn := fun _ => fun
  | [] => { results := [.lit (.bool false)], args := [] }
  | _ => none }
def ZoneNamesWrongFalsely : Prop := zoneNamesRow.holds Tryd.pinned (OpenSpec.ofChange zoneNamesWrong)

/-- 'kilowattlaw07.ZoneBack': WHATEVER THE INPUT: true; the input reads as it did. -/
def zoneBackSpec : ChangeSpec := { name := "zoneBack", fn := fun _ => fun
  | [d1, d2, d3] => { results := [.lit (.bool true)], args := [d1, d2, d3] }
  | _ => none }
def zoneBackRow : OpenClaim := { program := "ytoipmhmghcngcaadoor", sum := "2ffa6199ab7f6e69dd6d0267f7e4993ab56a4e359605e68101f68c493f31577c", func := "kilowatt/kilowattlaw07.ZoneBack", spec := "zoneBack", unfollowed := true, recurses := true, named := ["kilowatt/civil.lengths"], apart := false, laid := [("kilowatt/civil.lengths", laid_kilowatt_civil_lengths)] }
def ZoneBackSaid : Prop := zoneBackRow.holds Tryd.pinned (OpenSpec.ofChange zoneBackSpec)

/-- ITS FALSE NEIGHBOUR: 'it returns false'. Refute it at one input. -/
def zoneBackWrong : ChangeSpec := { name := "zoneBack", fn := fun _ => fun
  | [d1, d2, d3] => { results := [.lit (.bool false)], args := [d1, d2, d3] }
  | _ => none }
def ZoneBackWrongFalsely : Prop := zoneBackRow.holds Tryd.pinned (OpenSpec.ofChange zoneBackWrong)

/-- 'kilowattlaw07.ZonePlain': WHATEVER THE INPUT: true; the input reads as it did. -/
def zonePlainSpec : ChangeSpec := { name := "zonePlain", fn := fun _ => fun
  | [d1, d2] => { results := [.lit (.bool true)], args := [d1, d2] }
  | _ => none }
def zonePlainRow : OpenClaim := { program := "ytoipmhmghcngcaadoor", sum := "2ffa6199ab7f6e69dd6d0267f7e4993ab56a4e359605e68101f68c493f31577c", func := "kilowatt/kilowattlaw07.ZonePlain", spec := "zonePlain", unfollowed := true, recurses := true, named := ["kilowatt/civil.lengths"], apart := false, laid := [("kilowatt/civil.lengths", laid_kilowatt_civil_lengths)] }
def ZonePlainSaid : Prop := zonePlainRow.holds Tryd.pinned (OpenSpec.ofChange zonePlainSpec)

/-- ITS FALSE NEIGHBOUR: 'it returns false'. Refute it at one input. -/
def zonePlainWrong : ChangeSpec := { name := "zonePlain", fn := fun _ => fun
  | [d1, d2] => { results := [.lit (.bool false)], args := [d1, d2] }
  | _ => none }
def ZonePlainWrongFalsely : Prop := zonePlainRow.holds Tryd.pinned (OpenSpec.ofChange zonePlainWrong)

/-- 'kilowattlaw07.ZoneEdges': WHATEVER THE INPUT: true; the input reads as it did. -/
def zoneEdgesSpec : ChangeSpec := { name := "zoneEdges", fn := fun _ => fun
  | [d1, d2] => { results := [.lit (.bool true)], args := [d1, d2] }
  | _ => none }
def zoneEdgesRow : OpenClaim := { program := "ytoipmhmghcngcaadoor", sum := "2ffa6199ab7f6e69dd6d0267f7e4993ab56a4e359605e68101f68c493f31577c", func := "kilowatt/kilowattlaw07.ZoneEdges", spec := "zoneEdges", unfollowed := true, recurses := true, named := ["kilowatt/civil.lengths"], apart := false, laid := [("kilowatt/civil.lengths", laid_kilowatt_civil_lengths)] }
def ZoneEdgesSaid : Prop := zoneEdgesRow.holds Tryd.pinned (OpenSpec.ofChange zoneEdgesSpec)

/-- ITS FALSE NEIGHBOUR: 'it returns false'. Refute it at one input. -/
def zoneEdgesWrong : ChangeSpec := { name := "zoneEdges", fn := fun _ => fun
  | [d1, d2] => { results := [.lit (.bool false)], args := [d1, d2] }
  | _ => none }
def ZoneEdgesWrongFalsely : Prop := zoneEdgesRow.holds Tryd.pinned (OpenSpec.ofChange zoneEdgesWrong)

/- THE SECOND FORM. 'bulk': how many values and letters a reading holds, each counted each time it is reached (what is shared counts as often as it is met; a slice's spare places count too). A statement '..UptoSaid' is the law's where the arguments, and the package variables that the reading takes, are together of bulk at most 1048576: NARROWER than '..Said'. Prove '..Said' where nothing that the law and all that it calls make is longer than what came in: it says more and counts as full. Else prove '..UptoSaid'. A law counts once. -/
mutual
def uptoBulk {H : Type} : DataW H → Nat
  | .lit (.string bytes) => bytes.length + 1
  | .lit _ => 1
  | .nil => 1
  | .ptr d => uptoBulk d + 1
  | .slice elems spare => uptoBulkAll elems + uptoBulkAll spare + 1
  | .agg parts => uptoBulkAll parts + 1
  | .iface _ d => uptoBulk d + 1
  | .map entries => uptoBulkEntries entries + 1
  | .held _ => 1
def uptoBulkAll {H : Type} : List (DataW H) → Nat
  | [] => 0
  | d :: r => uptoBulk d + uptoBulkAll r
def uptoBulkEntries {H : Type} : List (Lit × DataW H) → Nat
  | [] => 0
  | x :: r => uptoBulkEntry x + uptoBulkEntries r
def uptoBulkEntry {H : Type} : Lit × DataW H → Nat
  | (.string bytes, d) => bytes.length + uptoBulk d + 1
  | (_, d) => uptoBulk d + 1
 end
def uptoSmall : (H : Type) → List (DataW H) → Bool := fun _ ds => decide (uptoBulkAll ds ≤ 1048576)
def OpenSpec.upto (s : _root_.Go.ChangeSpec) : _root_.Go.OpenSpec := { _root_.Go.OpenSpec.ofChange s with cond := some uptoSmall }

/-- 'kilowattlaw07.ZoneOffsets', WHERE WHAT IT READS IS OF BULK AT MOST 1048576: true; the input reads as it did. -/
def zoneOffsetsUptoRow : OpenClaim := { program := "ytoipmhmghcngcaadoor", sum := "2ffa6199ab7f6e69dd6d0267f7e4993ab56a4e359605e68101f68c493f31577c", func := "kilowatt/kilowattlaw07.ZoneOffsets", spec := "zoneOffsets", unfollowed := true, recurses := true, named := ["kilowatt/civil.lengths"], apart := false, laid := [("kilowatt/civil.lengths", laid_kilowatt_civil_lengths)], narrowed := true }
def ZoneOffsetsUptoSaid : Prop := zoneOffsetsUptoRow.holds Tryd.pinned (OpenSpec.upto zoneOffsetsSpec)

/-- 'kilowattlaw07.ZoneInstants', WHERE WHAT IT READS IS OF BULK AT MOST 1048576: true; the input reads as it did. -/
def zoneInstantsUptoRow : OpenClaim := { program := "ytoipmhmghcngcaadoor", sum := "2ffa6199ab7f6e69dd6d0267f7e4993ab56a4e359605e68101f68c493f31577c", func := "kilowatt/kilowattlaw07.ZoneInstants", spec := "zoneInstants", unfollowed := true, recurses := true, named := ["kilowatt/civil.lengths"], apart := false, laid := [("kilowatt/civil.lengths", laid_kilowatt_civil_lengths)], narrowed := true }
def ZoneInstantsUptoSaid : Prop := zoneInstantsUptoRow.holds Tryd.pinned (OpenSpec.upto zoneInstantsSpec)

/-- 'kilowattlaw07.ZoneNames', WHERE WHAT IT READS IS OF BULK AT MOST 1048576: true; the input reads as it did. -/
def zoneNamesUptoRow : OpenClaim := { program := "ytoipmhmghcngcaadoor", sum := "2ffa6199ab7f6e69dd6d0267f7e4993ab56a4e359605e68101f68c493f31577c", func := "kilowatt/kilowattlaw07.ZoneNames", spec := "zoneNames", unfollowed := true, recurses := true, named := ["kilowatt/civil.lengths"], apart := false, laid := [("kilowatt/civil.lengths", laid_kilowatt_civil_lengths)], narrowed := true }
def ZoneNamesUptoSaid : Prop := zoneNamesUptoRow.holds Tryd.pinned (OpenSpec.upto zoneNamesSpec)

/-- 'kilowattlaw07.ZoneBack', WHERE WHAT IT READS IS OF BULK AT MOST 1048576: true; the input reads as it did. -/
def zoneBackUptoRow : OpenClaim := { program := "ytoipmhmghcngcaadoor", sum := "2ffa6199ab7f6e69dd6d0267f7e4993ab56a4e359605e68101f68c493f31577c", func := "kilowatt/kilowattlaw07.ZoneBack", spec := "zoneBack", unfollowed := true, recurses := true, named := ["kilowatt/civil.lengths"], apart := false, laid := [("kilowatt/civil.lengths", laid_kilowatt_civil_lengths)], narrowed := true }
def ZoneBackUptoSaid : Prop := zoneBackUptoRow.holds Tryd.pinned (OpenSpec.upto zoneBackSpec)

/-- 'kilowattlaw07.ZonePlain', WHERE WHAT IT READS IS OF BULK AT MOST 1048576: true; the input reads as it did. -/
def zonePlainUptoRow : OpenClaim := { program := "ytoipmhmghcngcaadoor", sum := "2ffa6199ab7f6e69dd6d0267f7e4993ab56a4e359605e68101f68c493f31577c", func := "kilowatt/kilowattlaw07.ZonePlain", spec := "zonePlain", unfollowed := true, recurses := true, named := ["kilowatt/civil.lengths"], apart := false, laid := [("kilowatt/civil.lengths", laid_kilowatt_civil_lengths)], narrowed := true }
def ZonePlainUptoSaid : Prop := zonePlainUptoRow.holds Tryd.pinned (OpenSpec.upto zonePlainSpec)

/-- 'kilowattlaw07.ZoneEdges', WHERE WHAT IT READS IS OF BULK AT MOST 1048576: true; the input reads as it did. -/
def zoneEdgesUptoRow : OpenClaim := { program := "ytoipmhmghcngcaadoor", sum := "2ffa6199ab7f6e69dd6d0267f7e4993ab56a4e359605e68101f68c493f31577c", func := "kilowatt/kilowattlaw07.ZoneEdges", spec := "zoneEdges", unfollowed := true, recurses := true, named := ["kilowatt/civil.lengths"], apart := false, laid := [("kilowatt/civil.lengths", laid_kilowatt_civil_lengths)], narrowed := true }
def ZoneEdgesUptoSaid : Prop := zoneEdgesUptoRow.holds Tryd.pinned (OpenSpec.upto zoneEdgesSpec)

end Rows
end Go.Proofs.YtoipmhmghcngcaaDoor
