/-
  No cell of these rows narrows 'for every input' (looked for: loops, veiled, ifaces, maps, wideKeys, modest, calm, conditions, laid).
  DERIVED. THE GIVEN ROWS OF THIS SEAT. 6 by the template 'for every input the law returns true; each argument reads behind the call as it read before'; 0 by the template 'total and deterministic' (their statements: YtmfngkhpaadehaaTotals.lean).
  GIVEN WITH THE SEED: the statements are not yours to turn. If you find one false, say at which input.
  Laid BY PROGRAM, IN A SANDBOX (cutbox-rows.mjs): the forced cells as the released guide's own fill.sh prints them over the translation f641f800991e0e53… (all of the seat's roots in one cut). By AI agents, Wed Nov 11 2026. No macro, syntax, notation, axiom, sorry.
-/
import Derived.Test.YtmfngkhpaadehaaChecked
import GoSem.Claim
import GoSem.ClaimJoined
import GoSem.ClaimMapViews
import Derived.JoinedTies
import Derived.KernelRfl
namespace Go.Proofs.Ytmfngkhpaadehaa
/- THE CELL 'sum', in the pinned program and in every row, IS THE sha256 OF THE DUMP (.gsa) THAT YtmfngkhpaadehaaProg.lean LOADS. Nothing in Lean hashes anything: it is a label: what it is worth is what the hold of that sum in a sandbox is worth. -/
noncomputable def Try.pinned : Pinned := { name := "ytmfngkhpaadehaa", sum := "f641f800991e0e53380c94519165e18d6f9e58423d20481b64bb12aee12eb0e9", checked := Try.checked }
namespace Rows
def none {H : Type} : Left H := { results := [], args := [] }

/-- 'kilowattlaw21.MbapReads': WHATEVER THE INPUT: true; the input reads as it did. -/
def mbapReadsSpec : ChangeSpec := { name := "mbapReads", fn := fun _ => fun
  | [d1, d2, d3] => { results := [.lit (.bool true)], args := [d1, d2, d3] }
  | _ => none }
def mbapReadsRow : OpenClaim := { program := "ytmfngkhpaadehaa", sum := "f641f800991e0e53380c94519165e18d6f9e58423d20481b64bb12aee12eb0e9", func := "kilowatt/kilowattlaw21.MbapReads", spec := "mbapReads", apart := false }
def MbapReadsSaid : Prop := mbapReadsRow.holds Try.pinned (OpenSpec.ofChange mbapReadsSpec)

/-- ITS FALSE NEIGHBOUR: 'it returns false'. Refute it at one input. -/
def mbapReadsWrong : ChangeSpec := { name := "mbapReads", fn := fun _ => fun
  | [d1, d2, d3] => { results := [.lit (.bool false)], args := [d1, d2, d3] }
  | _ => none }
def MbapReadsWrongFalsely : Prop := mbapReadsRow.holds Try.pinned (OpenSpec.ofChange mbapReadsWrong)

/-- 'kilowattlaw21.MbapGathers': WHATEVER THE INPUT: true; the input reads as it did. -/
def mbapGathersSpec : ChangeSpec := { name := "mbapGathers", fn := fun _ => fun
  | [d] => { results := [.lit (.bool true)], args := [d] }
  | _ => none }
def mbapGathersRow : OpenClaim := { program := "ytmfngkhpaadehaa", sum := "f641f800991e0e53380c94519165e18d6f9e58423d20481b64bb12aee12eb0e9", func := "kilowatt/kilowattlaw21.MbapGathers", spec := "mbapGathers", unfollowed := true, recurses := true, apart := false }
def MbapGathersSaid : Prop := mbapGathersRow.holds Try.pinned (OpenSpec.ofChange mbapGathersSpec)

/-- ITS FALSE NEIGHBOUR: 'it returns false'. Refute it at one input. -/
def mbapGathersWrong : ChangeSpec := { name := "mbapGathers", fn := fun _ => fun
  | [d] => { results := [.lit (.bool false)], args := [d] }
  | _ => none }
def MbapGathersWrongFalsely : Prop := mbapGathersRow.holds Try.pinned (OpenSpec.ofChange mbapGathersWrong)

/-- 'kilowattlaw21.MbapPieces': WHATEVER THE INPUT: true; the input reads as it did. -/
def mbapPiecesSpec : ChangeSpec := { name := "mbapPieces", fn := fun _ => fun
  | [d1, d2, d3] => { results := [.lit (.bool true)], args := [d1, d2, d3] }
  | _ => none }
def mbapPiecesRow : OpenClaim := { program := "ytmfngkhpaadehaa", sum := "f641f800991e0e53380c94519165e18d6f9e58423d20481b64bb12aee12eb0e9", func := "kilowatt/kilowattlaw21.MbapPieces", spec := "mbapPieces", unfollowed := true, recurses := true, apart := false }
def MbapPiecesSaid : Prop := mbapPiecesRow.holds Try.pinned (OpenSpec.ofChange mbapPiecesSpec)

/-- ITS FALSE NEIGHBOUR: 'it returns false'. Refute it at one input. -/
def mbapPiecesWrong : ChangeSpec := { name := "mbapPieces", fn := fun _ => fun
  | [d1, d2, d3] => { results := [.lit (.bool false)], args := [d1, d2, d3] }
  | _ => none }
def MbapPiecesWrongFalsely : Prop := mbapPiecesRow.holds Try.pinned (OpenSpec.ofChange mbapPiecesWrong)

/-- 'kilowattlaw21.MbapBack': WHATEVER THE INPUT: true; the input reads as it did. -/
def mbapBackSpec : ChangeSpec := { name := "mbapBack", fn := fun _ => fun
  | [d1, d2] => { results := [.lit (.bool true)], args := [d1, d2] }
  | _ => none }
def mbapBackRow : OpenClaim := { program := "ytmfngkhpaadehaa", sum := "f641f800991e0e53380c94519165e18d6f9e58423d20481b64bb12aee12eb0e9", func := "kilowatt/kilowattlaw21.MbapBack", spec := "mbapBack", unfollowed := true, recurses := true, apart := false }
def MbapBackSaid : Prop := mbapBackRow.holds Try.pinned (OpenSpec.ofChange mbapBackSpec)

/-- ITS FALSE NEIGHBOUR: 'it returns false'. Refute it at one input. -/
def mbapBackWrong : ChangeSpec := { name := "mbapBack", fn := fun _ => fun
  | [d1, d2] => { results := [.lit (.bool false)], args := [d1, d2] }
  | _ => none }
def MbapBackWrongFalsely : Prop := mbapBackRow.holds Try.pinned (OpenSpec.ofChange mbapBackWrong)

/-- 'kilowattlaw21.MbapNames': WHATEVER THE INPUT: true; the input reads as it did. -/
def mbapNamesSpec : ChangeSpec := { name := "mbapNames", fn := fun _ => fun
  | [] => { results := [.lit (.bool true)], args := [] }
  | _ => none }
def mbapNamesRow : OpenClaim := { program := "ytmfngkhpaadehaa", sum := "f641f800991e0e53380c94519165e18d6f9e58423d20481b64bb12aee12eb0e9", func := "kilowatt/kilowattlaw21.MbapNames", spec := "mbapNames", unfollowed := true, recurses := true, apart := false }
def MbapNamesSaid : Prop := mbapNamesRow.holds Try.pinned (OpenSpec.ofChange mbapNamesSpec)

/-- ITS FALSE NEIGHBOUR: 'it returns false'. Refute it at one input. -/
def mbapNamesWrong : ChangeSpec := { name := "mbapNames", fn := fun _ => fun
  | [] => { results := [.lit (.bool false)], args := [] }
  | _ => none }
def MbapNamesWrongFalsely : Prop := mbapNamesRow.holds Try.pinned (OpenSpec.ofChange mbapNamesWrong)

/-- 'kilowattlaw21.MbapStays': WHATEVER THE INPUT: true; the input reads as it did. -/
def mbapStaysSpec : ChangeSpec := { name := "mbapStays", fn := fun _ => fun
  | [d1, d2] => { results := [.lit (.bool true)], args := [d1, d2] }
  | _ => none }
def mbapStaysRow : OpenClaim := { program := "ytmfngkhpaadehaa", sum := "f641f800991e0e53380c94519165e18d6f9e58423d20481b64bb12aee12eb0e9", func := "kilowatt/kilowattlaw21.MbapStays", spec := "mbapStays", unfollowed := true, recurses := true, apart := false }
def MbapStaysSaid : Prop := mbapStaysRow.holds Try.pinned (OpenSpec.ofChange mbapStaysSpec)

/-- ITS FALSE NEIGHBOUR: 'it returns false'. Refute it at one input. -/
def mbapStaysWrong : ChangeSpec := { name := "mbapStays", fn := fun _ => fun
  | [d1, d2] => { results := [.lit (.bool false)], args := [d1, d2] }
  | _ => none }
def MbapStaysWrongFalsely : Prop := mbapStaysRow.holds Try.pinned (OpenSpec.ofChange mbapStaysWrong)

/- THE SECOND FORM. 'bulk': how many values and letters a reading holds, each counted each time it is reached (what is shared counts as often as it is met; a slice's spare places count too). A statement '..UptoSaid' is the law's where the arguments, and the package variables that the reading takes, are together of bulk at most 1048576: NARROWER than '..Said'. Prove '..Said' where nothing that the law and all that it calls make is longer than what came in: it says more and counts as full. Else prove '..UptoSaid'. A law counts once. -/
mutual
def uptoBulk {H : Type} : DataW H → Nat
  | .lit (.string bytes) => bytes.length + 1
  | .lit _ => 1
  | .nil => 1
  | .ptr d => uptoBulk d + 1
  | .slice elems spare => uptoBulkAll elems + uptoBulkAll spare + 1
  | .agg parts => uptoBulkAll parts + 1
  | .iface _ d => uptoBulk d + 1
  | .map entries => uptoBulkEntries entries + 1
  | .held _ => 1
def uptoBulkAll {H : Type} : List (DataW H) → Nat
  | [] => 0
  | d :: r => uptoBulk d + uptoBulkAll r
def uptoBulkEntries {H : Type} : List (Lit × DataW H) → Nat
  | [] => 0
  | x :: r => uptoBulkEntry x + uptoBulkEntries r
def uptoBulkEntry {H : Type} : Lit × DataW H → Nat
  | (.string bytes, d) => bytes.length + uptoBulk d + 1
  | (_, d) => uptoBulk d + 1
 end
def uptoSmall : (H : Type) → List (DataW H) → Bool := fun _ ds => decide (uptoBulkAll ds ≤ 1048576)
def OpenSpec.upto (s : _root_.Go.ChangeSpec) : _root_.Go.OpenSpec := { _root_.Go.OpenSpec.ofChange s with cond := some uptoSmall }

/-- 'kilowattlaw21.MbapReads', WHERE WHAT IT READS IS OF BULK AT MOST 1048576: true; the input reads as it did. -/
def mbapReadsUptoRow : OpenClaim := { program := "ytmfngkhpaadehaa", sum := "f641f800991e0e53380c94519165e18d6f9e58423d20481b64bb12aee12eb0e9", func := "kilowatt/kilowattlaw21.MbapReads", spec := "mbapReads", apart := false, narrowed := true }
def MbapReadsUptoSaid : Prop := mbapReadsUptoRow.holds Try.pinned (OpenSpec.upto mbapReadsSpec)

/-- 'kilowattlaw21.MbapGathers', WHERE WHAT IT READS IS OF BULK AT MOST 1048576: true; the input reads as it did. -/
def mbapGathersUptoRow : OpenClaim := { program := "ytmfngkhpaadehaa", sum := "f641f800991e0e53380c94519165e18d6f9e58423d20481b64bb12aee12eb0e9", func := "kilowatt/kilowattlaw21.MbapGathers", spec := "mbapGathers", unfollowed := true, recurses := true, apart := false, narrowed := true }
def MbapGathersUptoSaid : Prop := mbapGathersUptoRow.holds Try.pinned (OpenSpec.upto mbapGathersSpec)

/-- 'kilowattlaw21.MbapPieces', WHERE WHAT IT READS IS OF BULK AT MOST 1048576: true; the input reads as it did. -/
def mbapPiecesUptoRow : OpenClaim := { program := "ytmfngkhpaadehaa", sum := "f641f800991e0e53380c94519165e18d6f9e58423d20481b64bb12aee12eb0e9", func := "kilowatt/kilowattlaw21.MbapPieces", spec := "mbapPieces", unfollowed := true, recurses := true, apart := false, narrowed := true }
def MbapPiecesUptoSaid : Prop := mbapPiecesUptoRow.holds Try.pinned (OpenSpec.upto mbapPiecesSpec)

/-- 'kilowattlaw21.MbapBack', WHERE WHAT IT READS IS OF BULK AT MOST 1048576: true; the input reads as it did. -/
def mbapBackUptoRow : OpenClaim := { program := "ytmfngkhpaadehaa", sum := "f641f800991e0e53380c94519165e18d6f9e58423d20481b64bb12aee12eb0e9", func := "kilowatt/kilowattlaw21.MbapBack", spec := "mbapBack", unfollowed := true, recurses := true, apart := false, narrowed := true }
def MbapBackUptoSaid : Prop := mbapBackUptoRow.holds Try.pinned (OpenSpec.upto mbapBackSpec)

/-- 'kilowattlaw21.MbapNames', WHERE WHAT IT READS IS OF BULK AT MOST 1048576: true; the input reads as it did. -/
def mbapNamesUptoRow : OpenClaim := { program := "ytmfngkhpaadehaa", sum := "f641f800991e0e53380c94519165e18d6f9e58423d20481b64bb12aee12eb0e9", func := "kilowatt/kilowattlaw21.MbapNames", spec := "mbapNames", unfollowed := true, recurses := true, apart := false, narrowed := true }
def MbapNamesUptoSaid : Prop := mbapNamesUptoRow.holds Try.pinned (OpenSpec.upto mbapNamesSpec)

/-- 'kilowattlaw21.MbapStays', WHERE WHAT IT READS IS OF BULK AT MOST 1048576: true; the input reads as it did. -/
def mbapStaysUptoRow : OpenClaim := { program := "ytmfngkhpaadehaa", sum := "f641f800991e0e53380c94519165e18d6f9e58423d20481b64bb12aee12eb0e9", func := "kilowatt/kilowattlaw21.MbapStays", spec := "mbapStays", unfollowed := true, recurses := true, apart := false, narrowed := true }
def MbapStaysUptoSaid : Prop := mbapStaysUptoRow.holds Try.pinned (OpenSpec.upto mbapStaysSpec)

end Rows
end Go.Proofs.Ytmfngkhpaadehaa
