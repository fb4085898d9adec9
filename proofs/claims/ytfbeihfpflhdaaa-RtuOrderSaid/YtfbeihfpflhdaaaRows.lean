/-
  No cell of these rows narrows 'for every input' (looked for: loops, veiled, ifaces, maps, wideKeys, modest, calm, conditions, laid).
  DERIVED. THE GIVEN ROWS OF THIS SEAT. 5 by the template 'for every input the law returns true; each argument reads behind the call as it read before'; 0 by the template 'total and deterministic' (their statements: YtfbeihfpflhdaaaTotals.lean).
  GIVEN WITH THE SEED: the statements are not yours to turn. If you find one false, say at which input.
  Laid BY PROGRAM, IN A SANDBOX (cutbox-rows.mjs): the forced cells as the released guide's own fill.sh prints them over the translation 88d899234cd5034f… (all of the seat's roots in one cut). By AI agents, Wed Nov 11 2026. No macro, syntax, notation, axiom, sorry.
-/
import Derived.Test.YtfbeihfpflhdaaaChecked
import GoSem.Claim
import GoSem.ClaimJoined
import GoSem.ClaimMapViews
import Derived.JoinedTies
import Derived.KernelRfl
namespace Go.Proofs.Ytfbeihfpflhdaaa
/- THE CELL 'sum', in the pinned program and in every row, IS THE sha256 OF THE DUMP (.gsa) THAT YtfbeihfpflhdaaaProg.lean LOADS. Nothing in Lean hashes anything: it is a label: what it is worth is what the hold of that sum in a sandbox is worth. -/
noncomputable def Try.pinned : Pinned := { name := "ytfbeihfpflhdaaa", sum := "88d899234cd5034fccabf4f53b9ce76ee202efc5d0aa95bec09a7d0a011314dc", checked := Try.checked }
namespace Rows
def none {H : Type} : Left H := { results := [], args := [] }

/-- 'kilowattlaw20.RtuFrames': WHATEVER THE INPUT: true; the input reads as it did. -/
def rtuFramesSpec : ChangeSpec := { name := "rtuFrames", fn := fun _ => fun
  | [d1, d2] => { results := [.lit (.bool true)], args := [d1, d2] }
  | _ => none }
def rtuFramesRow : OpenClaim := { program := "ytfbeihfpflhdaaa", sum := "88d899234cd5034fccabf4f53b9ce76ee202efc5d0aa95bec09a7d0a011314dc", func := "kilowatt/kilowattlaw20.RtuFrames", spec := "rtuFrames", unfollowed := true, recurses := true, apart := false }
def RtuFramesSaid : Prop := rtuFramesRow.holds Try.pinned (OpenSpec.ofChange rtuFramesSpec)

/-- ITS FALSE NEIGHBOUR: 'it returns false'. Refute it at one input. -/
def rtuFramesWrong : ChangeSpec := { name := "rtuFrames", fn := fun _ => fun
  | [d1, d2] => { results := [.lit (.bool false)], args := [d1, d2] }
  | _ => none }
def RtuFramesWrongFalsely : Prop := rtuFramesRow.holds Try.pinned (OpenSpec.ofChange rtuFramesWrong)

/-- 'kilowattlaw20.RtuBack': WHATEVER THE INPUT: true; the input reads as it did. -/
def rtuBackSpec : ChangeSpec := { name := "rtuBack", fn := fun _ => fun
  | [d1, d2, d3] => { results := [.lit (.bool true)], args := [d1, d2, d3] }
  | _ => none }
def rtuBackRow : OpenClaim := { program := "ytfbeihfpflhdaaa", sum := "88d899234cd5034fccabf4f53b9ce76ee202efc5d0aa95bec09a7d0a011314dc", func := "kilowatt/kilowattlaw20.RtuBack", spec := "rtuBack", unfollowed := true, recurses := true, apart := false }
def RtuBackSaid : Prop := rtuBackRow.holds Try.pinned (OpenSpec.ofChange rtuBackSpec)

/-- ITS FALSE NEIGHBOUR: 'it returns false'. Refute it at one input. -/
def rtuBackWrong : ChangeSpec := { name := "rtuBack", fn := fun _ => fun
  | [d1, d2, d3] => { results := [.lit (.bool false)], args := [d1, d2, d3] }
  | _ => none }
def RtuBackWrongFalsely : Prop := rtuBackRow.holds Try.pinned (OpenSpec.ofChange rtuBackWrong)

/-- 'kilowattlaw20.RtuNames': WHATEVER THE INPUT: true; the input reads as it did. -/
def rtuNamesSpec : ChangeSpec := { name := "rtuNames", fn := fun _ => fun
  | [] => { results := [.lit (.bool true)], args := [] }
  | _ => none }
def rtuNamesRow : OpenClaim := { program := "ytfbeihfpflhdaaa", sum := "88d899234cd5034fccabf4f53b9ce76ee202efc5d0aa95bec09a7d0a011314dc", func := "kilowatt/kilowattlaw20.RtuNames", spec := "rtuNames", unfollowed := true, recurses := true, apart := false }
def RtuNamesSaid : Prop := rtuNamesRow.holds Try.pinned (OpenSpec.ofChange rtuNamesSpec)

/-- ITS FALSE NEIGHBOUR: 'it returns false'. Refute it at one input. -/
def rtuNamesWrong : ChangeSpec := { name := "rtuNames", fn := fun _ => fun
  | [] => { results := [.lit (.bool false)], args := [] }
  | _ => none }
def RtuNamesWrongFalsely : Prop := rtuNamesRow.holds Try.pinned (OpenSpec.ofChange rtuNamesWrong)

/-- 'kilowattlaw20.RtuOrder': WHATEVER THE INPUT: true; the input reads as it did. -/
def rtuOrderSpec : ChangeSpec := { name := "rtuOrder", fn := fun _ => fun
  | [d1, d2, d3] => { results := [.lit (.bool true)], args := [d1, d2, d3] }
  | _ => none }
def rtuOrderRow : OpenClaim := { program := "ytfbeihfpflhdaaa", sum := "88d899234cd5034fccabf4f53b9ce76ee202efc5d0aa95bec09a7d0a011314dc", func := "kilowatt/kilowattlaw20.RtuOrder", spec := "rtuOrder", unfollowed := true, recurses := true, apart := false }
def RtuOrderSaid : Prop := rtuOrderRow.holds Try.pinned (OpenSpec.ofChange rtuOrderSpec)

/-- ITS FALSE NEIGHBOUR: 'it returns false'. Refute it at one input. -/
def rtuOrderWrong : ChangeSpec := { name := "rtuOrder", fn := fun _ => fun
  | [d1, d2, d3] => { results := [.lit (.bool false)], args := [d1, d2, d3] }
  | _ => none }
def RtuOrderWrongFalsely : Prop := rtuOrderRow.holds Try.pinned (OpenSpec.ofChange rtuOrderWrong)

/-- 'kilowattlaw20.RtuBad': WHATEVER THE INPUT: true; the input reads as it did. -/
def rtuBadSpec : ChangeSpec := { name := "rtuBad", fn := fun _ => fun
  | [d1, d2, d3] => { results := [.lit (.bool true)], args := [d1, d2, d3] }
  | _ => none }
def rtuBadRow : OpenClaim := { program := "ytfbeihfpflhdaaa", sum := "88d899234cd5034fccabf4f53b9ce76ee202efc5d0aa95bec09a7d0a011314dc", func := "kilowatt/kilowattlaw20.RtuBad", spec := "rtuBad", unfollowed := true, recurses := true, apart := false }
def RtuBadSaid : Prop := rtuBadRow.holds Try.pinned (OpenSpec.ofChange rtuBadSpec)

/-- ITS FALSE NEIGHBOUR: 'it returns false'. Refute it at one input. -/
def rtuBadWrong : ChangeSpec := { name := "rtuBad", fn := fun _ => fun
  | [d1, d2, d3] => { results := [.lit (.bool false)], args := [d1, d2, d3] }
  | _ => none }
def RtuBadWrongFalsely : Prop := rtuBadRow.holds Try.pinned (OpenSpec.ofChange rtuBadWrong)

/- THE SECOND FORM. 'bulk': how many values and letters a reading holds, each counted each time it is reached (what is shared counts as often as it is met; a slice's spare places count too). A statement '..UptoSaid' is the law's where the arguments, and the package variables that the reading takes, are together of bulk at most 1048576: NARROWER than '..Said'. Prove '..Said' where nothing that the law and all that it calls make is longer than what came in: it says more and counts as full. Else prove '..UptoSaid'. A law counts once. -/
mutual
def uptoBulk {H : Type} : DataW H → Nat
  | .lit (.string bytes) => bytes.length + 1
  | .lit _ => 1
  | .nil => 1
  | .ptr d => uptoBulk d + 1
  | .slice elems spare => uptoBulkAll elems + uptoBulkAll spare + 1
  | .agg parts => uptoBulkAll parts + 1
  | .iface _ d => uptoBulk d + 1
  | .map entries => uptoBulkEntries entries + 1
  | .held _ => 1
def uptoBulkAll {H : Type} : List (DataW H) → Nat
  | [] => 0
  | d :: r => uptoBulk d + uptoBulkAll r
def uptoBulkEntries {H : Type} : List (Lit × DataW H) → Nat
  | [] => 0
  | x :: r => uptoBulkEntry x + uptoBulkEntries r
def uptoBulkEntry {H : Type} : Lit × DataW H → Nat
  | (.string bytes, d) => bytes.length + uptoBulk d + 1
  | (_, d) => uptoBulk d + 1
 end
def uptoSmall : (H : Type) → List (DataW H) → Bool := fun _ ds => decide (uptoBulkAll ds ≤ 1048576)
def OpenSpec.upto (s : _root_.Go.ChangeSpec) : _root_.Go.OpenSpec := { _root_.Go.OpenSpec.ofChange s with cond := some uptoSmall }

/-- 'kilowattlaw20.RtuFrames', WHERE WHAT IT READS IS OF BULK AT MOST 1048576: true; the input reads as it did. -/
def rtuFramesUptoRow : OpenClaim := { program := "ytfbeihfpflhdaaa", sum := "88d899234cd5034fccabf4f53b9ce76ee202efc5d0aa95bec09a7d0a011314dc", func := "kilowatt/kilowattlaw20.RtuFrames", spec := "rtuFrames", unfollowed := true, recurses := true, apart := false, narrowed := true }
def RtuFramesUptoSaid : Prop := rtuFramesUptoRow.holds Try.pinned (OpenSpec.upto rtuFramesSpec)

/-- 'kilowattlaw20.RtuBack', WHERE WHAT IT READS IS OF BULK AT MOST 1048576: true; the input reads as it did. -/
def rtuBackUptoRow : OpenClaim := { program := "ytfbeihfpflhdaaa", sum := "88d899234cd5034fccabf4f53b9ce76ee202efc5d0aa95bec09a7d0a011314dc", func := "kilowatt/kilowattlaw20.RtuBack", spec := "rtuBack", unfollowed := true, recurses := true, apart := false, narrowed := true }
def RtuBackUptoSaid : Prop := rtuBackUptoRow.holds Try.pinned (OpenSpec.upto rtuBackSpec)

/-- 'kilowattlaw20.RtuNames', WHERE WHAT IT READS IS OF BULK AT MOST 1048576: true; the input reads as it did. -/
def rtuNamesUptoRow : OpenClaim := { program := "ytfbeihfpflhdaaa", sum := "88d899234cd5034fccabf4f53b9ce76ee202efc5d0aa95bec09a7d0a011314dc", func := "kilowatt/kilowattlaw20.RtuNames", spec := "rtuNames", unfollowed := true, recurses := true, apart := false, narrowed := true }
def RtuNamesUptoSaid : Prop := rtuNamesUptoRow.holds Try.pinned (OpenSpec.upto rtuNamesSpec)

/-- 'kilowattlaw20.RtuOrder', WHERE WHAT IT READS IS OF BULK AT MOST 1048576: true; the input reads as it did. -/
def rtuOrderUptoRow : OpenClaim := { program := "ytfbeihfpflhdaaa", sum := "88d899234cd5034fccabf4f53b9ce76ee202efc5d0aa95bec09a7d0a011314dc", func := "kilowatt/kilowattlaw20.RtuOrder", spec := "rtuOrder", unfollowed := true, recurses := true, apart := false, narrowed := true }
def RtuOrderUptoSaid : Prop := rtuOrderUptoRow.holds Try.pinned (OpenSpec.upto rtuOrderSpec)

/-- 'kilowattlaw20.RtuBad', WHERE WHAT IT READS IS OF BULK AT MOST 1048576: true; the input reads as it did. -/
def rtuBadUptoRow : OpenClaim := { program := "ytfbeihfpflhdaaa", sum := "88d899234cd5034fccabf4f53b9ce76ee202efc5d0aa95bec09a7d0a011314dc", func := "kilowatt/kilowattlaw20.RtuBad", spec := "rtuBad", unfollowed := true, recurses := true, apart := false, narrowed := true }
def RtuBadUptoSaid : Prop := rtuBadUptoRow.holds Try.pinned (OpenSpec.upto rtuBadSpec)

end Rows
end Go.Proofs.Ytfbeihfpflhdaaa
