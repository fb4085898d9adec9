/-
  The walk of FrameBack. Conditions: the bulk of what is read is bounded (the second form of the statement).
-/
import Derived.Test.YtajpinbabgcnkaaFrameBack1
import Derived.Test.YtajpinbabgcnkaaFrameBack2
namespace Go.Proofs.Ytajpinbabgcnkaa
open Go Go.RowKit Go.Kw Go.Kw.Crc Go.Kw.Fm
set_option linter.unusedVariables false
theorem frameBack_walk (v0 : Value) (ls : List (List UInt8)) (a1 : Option Addr) (len1 cap1 : Nat) (z1 : List Int) (w : World) (w0 : LRows w v0 ls ∧ (ls.map List.length).sum + ls.length ≤ 1048576) (w1 : IsRow .u8 w a1 len1 cap1 z1) :
    Calls Try.prog 5 #[v0, .slice a1 len1 cap1] w fun e w' => e = .returned (.bool true) ∧ Below w.heap.size w w' := by
  cases hall : ls.all mayR with
  | true => exact frameBack_true v0 ls a1 len1 cap1 z1 w w0 w1 hall
  | false => exact frameBack_false v0 ls a1 len1 cap1 z1 w w0 w1 hall
end Go.Proofs.Ytajpinbabgcnkaa
