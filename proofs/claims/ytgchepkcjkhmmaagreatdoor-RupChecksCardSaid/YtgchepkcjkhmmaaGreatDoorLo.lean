/-
  A CLOSED FACT on the program's types.
-/
import Derived.Test.YtgchepkcjkhmmaaGreatDoorProg
import Derived.Test.YtgchepkcjkhmmaaGreatDoorBa
namespace Go.Proofs.YtgchepkcjkhmmaaGreatDoor
open Go.RowKit
theorem laidOut : laidOutB Tryz.prog = true := by kernel_rfl
end Go.Proofs.YtgchepkcjkhmmaaGreatDoor
