/-
  The walk of RtuBack. Conditions: none beyond the given rows.
-/
import Derived.Test.YtfbeihfpflhdaaaRtuAlive
namespace Go.Proofs.Ytfbeihfpflhdaaa
open Go Go.RowKit Go.Kw Go.Kw.Crc

theorem rtuBack_walk (a0 : Int) (b0 : Option Addr) (len0 cap0 : Nat) (z0 : List Int) (a1 : Option Addr) (len1 cap1 : Nat) (z1 : List Int) (a2 : Int) (w : World) (w0 : (Lit.int .i64 a0).wf = true ∧ IsRow .u8 w b0 len0 cap0 z0) (w1 : IsRow .u8 w a1 len1 cap1 z1) (w2 : (Lit.int .u16 a2).wf = true) :
    Calls Try.prog 4 #[.agg #[.int .i64 a0, .slice b0 len0 cap0], .slice a1 len1 cap1, .int .u16 a2] w fun e w' => e = .returned (.bool true) ∧ Below w.heap.size w w' :=
  rtuBack_of alive_calls a0 b0 len0 cap0 z0 a1 len1 cap1 z1 a2 w w0 w1 w2
end Go.Proofs.Ytfbeihfpflhdaaa
