/-
  WORDS OF THE LAWS: 'the call answers true, and changes nothing that was there'; cells of literals and of bools.
-/
import Derived.Test.YtaedbnbeelkkcaaDoorBa
namespace Go.Proofs.YtaedbnbeelkkcaaDoor
open Go.RowKit
/-- the call answers true, and changes nothing that was there -/
def LPost (W : World) (e : Ending) (w' : World) : Prop := e = .returned (.bool true) ∧ Below W.heap.size W w'
def litVals (l : List Int) : List Value := l.map fun x => .int .i64 x
def boolVals (l : List Bool) : List Value := l.map Value.bool
end Go.Proofs.YtaedbnbeelkkcaaDoor
