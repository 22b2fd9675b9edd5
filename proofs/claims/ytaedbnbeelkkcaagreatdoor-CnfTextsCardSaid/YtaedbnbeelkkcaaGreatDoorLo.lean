/-
  A CLOSED FACT on the program's types.
-/
import Derived.Test.YtaedbnbeelkkcaaGreatDoorProg
import Derived.Test.YtaedbnbeelkkcaaGreatDoorBa
namespace Go.Proofs.YtaedbnbeelkkcaaGreatDoor
open Go.RowKit
theorem laidOut : laidOutB Tryz.prog = true := by kernel_rfl
end Go.Proofs.YtaedbnbeelkkcaaGreatDoor
