/-
  No cell of these rows narrows 'for every input' (looked for: loops, veiled, ifaces, maps, wideKeys, modest, calm, conditions, laid).
  DERIVED. THE GIVEN ROWS OF THIS SEAT. 6 by the template 'for every input the law returns true; each argument reads behind the call as it read before'; 0 by the template 'total and deterministic' (their statements: YtjmkbpgakfeceaaTotals.lean).
  GIVEN WITH THE SEED: the statements are not yours to turn. If you find one false, say at which input.
  Laid BY PROGRAM, IN A SANDBOX (cutbox-rows.mjs): the forced cells as the released guide's own fill.sh prints them over the translation 6d9c59db7da3a567… (all of the seat's roots in one cut). By AI agents, Wed Nov 11 2026. No macro, syntax, notation, axiom, sorry.
-/
import Derived.Test.YtjmkbpgakfeceaaChecked
import GoSem.Claim
import GoSem.ClaimJoined
import GoSem.ClaimMapViews
import Derived.JoinedTies
import Derived.KernelRfl
namespace Go.Proofs.Ytjmkbpgakfeceaa
/- THE CELL 'sum', in the pinned program and in every row, IS THE sha256 OF THE DUMP (.gsa) THAT YtjmkbpgakfeceaaProg.lean LOADS. Nothing in Lean hashes anything: it is a label: what it is worth is what the hold of that sum in a sandbox is worth. -/
noncomputable def Try.pinned : Pinned := { name := "ytjmkbpgakfeceaa", sum := "6d9c59db7da3a5678e009704d8d0594bf722942f533dd32c780d2240f0c7c6e9", checked := Try.checked }
namespace Rows
def none {H : Type} : Left H := { results := [], args := [] }

/-- 'kilowattlaw24.MeterEnergies': WHATEVER THE INPUT: true; the input reads as it did. -/
def meterEnergiesSpec : ChangeSpec := { name := "meterEnergies", fn := fun _ => fun
  | [d1, d2] => { results := [.lit (.bool true)], args := [d1, d2] }
  | _ => none }
def meterEnergiesRow : OpenClaim := { program := "ytjmkbpgakfeceaa", sum := "6d9c59db7da3a5678e009704d8d0594bf722942f533dd32c780d2240f0c7c6e9", func := "kilowatt/kilowattlaw24.MeterEnergies", spec := "meterEnergies", inPlace := ["math/bits.Add64"], unfollowed := true, recurses := true, named := ["math/bits.divideError", "math/bits.overflowError"], apart := false }
def MeterEnergiesSaid : Prop := meterEnergiesRow.holds Try.pinned (OpenSpec.ofChange meterEnergiesSpec)

/-- ITS FALSE NEIGHBOUR: 'it returns false'. Refute it at one input. -/
def meterEnergiesWrong : ChangeSpec := { name := "meterEnergies", fn := fun _ => fun
  | [d1, d2] => { results := [.lit (.bool false)], args := [d1, d2] }
  | _ => none }
def MeterEnergiesWrongFalsely : Prop := meterEnergiesRow.holds Try.pinned (OpenSpec.ofChange meterEnergiesWrong)

/-- 'kilowattlaw24.MeterExact': WHATEVER THE INPUT: true; the input reads as it did. -/
def meterExactSpec : ChangeSpec := { name := "meterExact", fn := fun _ => fun
  | [d1, d2, d3] => { results := [.lit (.bool true)], args := [d1, d2, d3] }
  | _ => none }
def meterExactRow : OpenClaim := { program := "ytjmkbpgakfeceaa", sum := "6d9c59db7da3a5678e009704d8d0594bf722942f533dd32c780d2240f0c7c6e9", func := "kilowatt/kilowattlaw24.MeterExact", spec := "meterExact", inPlace := ["math/bits.Add64"], unfollowed := true, recurses := true, named := ["math/bits.divideError", "math/bits.overflowError"], apart := false }
def MeterExactSaid : Prop := meterExactRow.holds Try.pinned (OpenSpec.ofChange meterExactSpec)

/-- ITS FALSE NEIGHBOUR: 'it returns false'. Refute it at one input. -/
def meterExactWrong : ChangeSpec := { name := "meterExact", fn := fun _ => fun
  | [d1, d2, d3] => { results := [.lit (.bool false)], args := [d1, d2, d3] }
  | _ => none }
def MeterExactWrongFalsely : Prop := meterExactRow.holds Try.pinned (OpenSpec.ofChange meterExactWrong)

/-- 'kilowattlaw24.MeterStretch': WHATEVER THE INPUT: true; the input reads as it did. -/
def meterStretchSpec : ChangeSpec := { name := "meterStretch", fn := fun _ => fun
  | [d1, d2, d3] => { results := [.lit (.bool true)], args := [d1, d2, d3] }
  | _ => none }
def meterStretchRow : OpenClaim := { program := "ytjmkbpgakfeceaa", sum := "6d9c59db7da3a5678e009704d8d0594bf722942f533dd32c780d2240f0c7c6e9", func := "kilowatt/kilowattlaw24.MeterStretch", spec := "meterStretch", inPlace := ["math/bits.Add64"], unfollowed := true, recurses := true, named := ["math/bits.divideError", "math/bits.overflowError"], apart := false }
def MeterStretchSaid : Prop := meterStretchRow.holds Try.pinned (OpenSpec.ofChange meterStretchSpec)

/-- ITS FALSE NEIGHBOUR: 'it returns false'. Refute it at one input. -/
def meterStretchWrong : ChangeSpec := { name := "meterStretch", fn := fun _ => fun
  | [d1, d2, d3] => { results := [.lit (.bool false)], args := [d1, d2, d3] }
  | _ => none }
def MeterStretchWrongFalsely : Prop := meterStretchRow.holds Try.pinned (OpenSpec.ofChange meterStretchWrong)

/-- 'kilowattlaw24.MeterRuns': WHATEVER THE INPUT: true; the input reads as it did. -/
def meterRunsSpec : ChangeSpec := { name := "meterRuns", fn := fun _ => fun
  | [d1, d2] => { results := [.lit (.bool true)], args := [d1, d2] }
  | _ => none }
def meterRunsRow : OpenClaim := { program := "ytjmkbpgakfeceaa", sum := "6d9c59db7da3a5678e009704d8d0594bf722942f533dd32c780d2240f0c7c6e9", func := "kilowatt/kilowattlaw24.MeterRuns", spec := "meterRuns", inPlace := ["math/bits.Add64"], unfollowed := true, recurses := true, named := ["math/bits.divideError", "math/bits.overflowError"], apart := false }
def MeterRunsSaid : Prop := meterRunsRow.holds Try.pinned (OpenSpec.ofChange meterRunsSpec)

/-- ITS FALSE NEIGHBOUR: 'it returns false'. Refute it at one input. -/
def meterRunsWrong : ChangeSpec := { name := "meterRuns", fn := fun _ => fun
  | [d1, d2] => { results := [.lit (.bool false)], args := [d1, d2] }
  | _ => none }
def MeterRunsWrongFalsely : Prop := meterRunsRow.holds Try.pinned (OpenSpec.ofChange meterRunsWrong)

/-- 'kilowattlaw24.MeterPlays': WHATEVER THE INPUT: true; the input reads as it did. -/
def meterPlaysSpec : ChangeSpec := { name := "meterPlays", fn := fun _ => fun
  | [d1, d2, d3] => { results := [.lit (.bool true)], args := [d1, d2, d3] }
  | _ => none }
def meterPlaysRow : OpenClaim := { program := "ytjmkbpgakfeceaa", sum := "6d9c59db7da3a5678e009704d8d0594bf722942f533dd32c780d2240f0c7c6e9", func := "kilowatt/kilowattlaw24.MeterPlays", spec := "meterPlays", inPlace := ["math/bits.Add64"], unfollowed := true, recurses := true, named := ["math/bits.divideError", "math/bits.overflowError"], apart := false }
def MeterPlaysSaid : Prop := meterPlaysRow.holds Try.pinned (OpenSpec.ofChange meterPlaysSpec)

/-- ITS FALSE NEIGHBOUR: 'it returns false'. Refute it at one input. -/
def meterPlaysWrong : ChangeSpec := { name := "meterPlays", fn := fun _ => fun
  | [d1, d2, d3] => { results := [.lit (.bool false)], args := [d1, d2, d3] }
  | _ => none }
def MeterPlaysWrongFalsely : Prop := meterPlaysRow.holds Try.pinned (OpenSpec.ofChange meterPlaysWrong)

/-- 'kilowattlaw24.MeterNames': WHATEVER THE INPUT: true; the input reads as it did. -/
def meterNamesSpec : ChangeSpec := { name := "meterNames", fn := fun _ => fun
  | [] => { results := [.lit (.bool true)], args := [] }
  | _ => none }
def meterNamesRow : OpenClaim := { program := "ytjmkbpgakfeceaa", sum := "6d9c59db7da3a5678e009704d8d0594bf722942f533dd32c780d2240f0c7c6e9", func := "kilowatt/kilowattlaw24.MeterNames", spec := "meterNames", inPlace := ["math/bits.Add64"], unfollowed := true, recurses := true, named := ["math/bits.divideError", "math/bits.overflowError"], apart := false }
def MeterNamesSaid : Prop := meterNamesRow.holds Try.pinned (OpenSpec.ofChange meterNamesSpec)

/-- ITS FALSE NEIGHBOUR: 'it returns false'. Refute it at one input. -/
def meterNamesWrong : ChangeSpec := { name := "meterNames", fn := fun _ => fun
  | [] => { results := [.lit (.bool false)], args := [] }
  | _ => none }
def MeterNamesWrongFalsely : Prop := meterNamesRow.holds Try.pinned (OpenSpec.ofChange meterNamesWrong)

/- THE SECOND FORM. 'bulk': how many values and letters a reading holds, each counted each time it is reached (what is shared counts as often as it is met; a slice's spare places count too). A statement '..UptoSaid' is the law's where the arguments, and the package variables that the reading takes, are together of bulk at most 1048576: NARROWER than '..Said'. Prove '..Said' where nothing that the law and all that it calls make is longer than what came in: it says more and counts as full. Else prove '..UptoSaid'. A law counts once. -/
mutual
def uptoBulk {H : Type} : DataW H → Nat
  | .lit (.string bytes) => bytes.length + 1
  | .lit _ => 1
  | .nil => 1
  | .ptr d => uptoBulk d + 1
  | .slice elems spare => uptoBulkAll elems + uptoBulkAll spare + 1
  | .agg parts => uptoBulkAll parts + 1
  | .iface _ d => uptoBulk d + 1
  | .map entries => uptoBulkEntries entries + 1
  | .held _ => 1
def uptoBulkAll {H : Type} : List (DataW H) → Nat
  | [] => 0
  | d :: r => uptoBulk d + uptoBulkAll r
def uptoBulkEntries {H : Type} : List (Lit × DataW H) → Nat
  | [] => 0
  | x :: r => uptoBulkEntry x + uptoBulkEntries r
def uptoBulkEntry {H : Type} : Lit × DataW H → Nat
  | (.string bytes, d) => bytes.length + uptoBulk d + 1
  | (_, d) => uptoBulk d + 1
 end
def uptoSmall : (H : Type) → List (DataW H) → Bool := fun _ ds => decide (uptoBulkAll ds ≤ 1048576)
def OpenSpec.upto (s : _root_.Go.ChangeSpec) : _root_.Go.OpenSpec := { _root_.Go.OpenSpec.ofChange s with cond := some uptoSmall }

/-- 'kilowattlaw24.MeterEnergies', WHERE WHAT IT READS IS OF BULK AT MOST 1048576: true; the input reads as it did. -/
def meterEnergiesUptoRow : OpenClaim := { program := "ytjmkbpgakfeceaa", sum := "6d9c59db7da3a5678e009704d8d0594bf722942f533dd32c780d2240f0c7c6e9", func := "kilowatt/kilowattlaw24.MeterEnergies", spec := "meterEnergies", inPlace := ["math/bits.Add64"], unfollowed := true, recurses := true, named := ["math/bits.divideError", "math/bits.overflowError"], apart := false, narrowed := true }
def MeterEnergiesUptoSaid : Prop := meterEnergiesUptoRow.holds Try.pinned (OpenSpec.upto meterEnergiesSpec)

/-- 'kilowattlaw24.MeterExact', WHERE WHAT IT READS IS OF BULK AT MOST 1048576: true; the input reads as it did. -/
def meterExactUptoRow : OpenClaim := { program := "ytjmkbpgakfeceaa", sum := "6d9c59db7da3a5678e009704d8d0594bf722942f533dd32c780d2240f0c7c6e9", func := "kilowatt/kilowattlaw24.MeterExact", spec := "meterExact", inPlace := ["math/bits.Add64"], unfollowed := true, recurses := true, named := ["math/bits.divideError", "math/bits.overflowError"], apart := false, narrowed := true }
def MeterExactUptoSaid : Prop := meterExactUptoRow.holds Try.pinned (OpenSpec.upto meterExactSpec)

/-- 'kilowattlaw24.MeterStretch', WHERE WHAT IT READS IS OF BULK AT MOST 1048576: true; the input reads as it did. -/
def meterStretchUptoRow : OpenClaim := { program := "ytjmkbpgakfeceaa", sum := "6d9c59db7da3a5678e009704d8d0594bf722942f533dd32c780d2240f0c7c6e9", func := "kilowatt/kilowattlaw24.MeterStretch", spec := "meterStretch", inPlace := ["math/bits.Add64"], unfollowed := true, recurses := true, named := ["math/bits.divideError", "math/bits.overflowError"], apart := false, narrowed := true }
def MeterStretchUptoSaid : Prop := meterStretchUptoRow.holds Try.pinned (OpenSpec.upto meterStretchSpec)

/-- 'kilowattlaw24.MeterRuns', WHERE WHAT IT READS IS OF BULK AT MOST 1048576: true; the input reads as it did. -/
def meterRunsUptoRow : OpenClaim := { program := "ytjmkbpgakfeceaa", sum := "6d9c59db7da3a5678e009704d8d0594bf722942f533dd32c780d2240f0c7c6e9", func := "kilowatt/kilowattlaw24.MeterRuns", spec := "meterRuns", inPlace := ["math/bits.Add64"], unfollowed := true, recurses := true, named := ["math/bits.divideError", "math/bits.overflowError"], apart := false, narrowed := true }
def MeterRunsUptoSaid : Prop := meterRunsUptoRow.holds Try.pinned (OpenSpec.upto meterRunsSpec)

/-- 'kilowattlaw24.MeterPlays', WHERE WHAT IT READS IS OF BULK AT MOST 1048576: true; the input reads as it did. -/
def meterPlaysUptoRow : OpenClaim := { program := "ytjmkbpgakfeceaa", sum := "6d9c59db7da3a5678e009704d8d0594bf722942f533dd32c780d2240f0c7c6e9", func := "kilowatt/kilowattlaw24.MeterPlays", spec := "meterPlays", inPlace := ["math/bits.Add64"], unfollowed := true, recurses := true, named := ["math/bits.divideError", "math/bits.overflowError"], apart := false, narrowed := true }
def MeterPlaysUptoSaid : Prop := meterPlaysUptoRow.holds Try.pinned (OpenSpec.upto meterPlaysSpec)

/-- 'kilowattlaw24.MeterNames', WHERE WHAT IT READS IS OF BULK AT MOST 1048576: true; the input reads as it did. -/
def meterNamesUptoRow : OpenClaim := { program := "ytjmkbpgakfeceaa", sum := "6d9c59db7da3a5678e009704d8d0594bf722942f533dd32c780d2240f0c7c6e9", func := "kilowatt/kilowattlaw24.MeterNames", spec := "meterNames", inPlace := ["math/bits.Add64"], unfollowed := true, recurses := true, named := ["math/bits.divideError", "math/bits.overflowError"], apart := false, narrowed := true }
def MeterNamesUptoSaid : Prop := meterNamesUptoRow.holds Try.pinned (OpenSpec.upto meterNamesSpec)

end Rows
end Go.Proofs.Ytjmkbpgakfeceaa
