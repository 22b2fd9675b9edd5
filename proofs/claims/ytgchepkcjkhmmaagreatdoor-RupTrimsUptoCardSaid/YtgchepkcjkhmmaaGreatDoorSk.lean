/-
  CLOSED FACTS OF THE SEAT's PROGRAM, each a declaration of its own; no law among them.
-/
import Derived.Test.YtgchepkcjkhmmaaGreatDoorCards
import Derived.Test.YtgchepkcjkhmmaaGreatDoorJo
namespace Go.Proofs.YtgchepkcjkhmmaaGreatDoor.sf
open Go
theorem mapsRowed_ : mapsRowed Tryz.prog = true := by kernel_rfl
theorem stops_ : (Tryz.prog.stops == []) = true := by kernel_rfl
theorem knobs_ : (Tryz.prog.stopKnobs == []) = true := by kernel_rfl
theorem plainKeys_ : (true == Tryz.prog.plainKeys) = true := by kernel_rfl
theorem heard_ : Tryz.prog.stopsHeard = true := by kernel_rfl
theorem enters_ : Tryz.prog.mayEnter = true := by kernel_rfl
theorem lifts_ : (false == Tryz.prog.liftsFinal) = true := by kernel_rfl
theorem make_ : (Tryz.prog.make == some .cut) = true := by kernel_rfl
theorem looks_ : true = Tryz.prog.looks [] := by kernel_rfl
end Go.Proofs.YtgchepkcjkhmmaaGreatDoor.sf
