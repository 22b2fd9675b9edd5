/-
  A CLOSED FACT on the program's types.
-/
import Derived.Test.YtaedbnbeelkkcaaDoorProg
import Derived.Test.YtaedbnbeelkkcaaDoorBa
namespace Go.Proofs.YtaedbnbeelkkcaaDoor
open Go.RowKit
theorem laidOut : laidOutB Tryd.prog = true := by kernel_rfl
end Go.Proofs.YtaedbnbeelkkcaaDoor
