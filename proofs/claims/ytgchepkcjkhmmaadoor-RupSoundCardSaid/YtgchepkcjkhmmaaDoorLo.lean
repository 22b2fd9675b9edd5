/-
  A CLOSED FACT on the program's types.
-/
import Derived.Test.YtgchepkcjkhmmaaDoorProg
import Derived.Test.YtgchepkcjkhmmaaDoorBa
namespace Go.Proofs.YtgchepkcjkhmmaaDoor
open Go.RowKit
theorem laidOut : laidOutB Tryd.prog = true := by kernel_rfl
end Go.Proofs.YtgchepkcjkhmmaaDoor
