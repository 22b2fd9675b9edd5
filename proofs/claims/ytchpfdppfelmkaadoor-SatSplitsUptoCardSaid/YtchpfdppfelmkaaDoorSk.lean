/-
  CLOSED FACTS OF THE SEAT's PROGRAM, each a declaration of its own; no law among them.
-/
import Derived.Test.YtchpfdppfelmkaaDoorCards
import Derived.Test.YtchpfdppfelmkaaDoorJo
namespace Go.Proofs.YtchpfdppfelmkaaDoor.sf
open Go
theorem mapsRowed_ : mapsRowed Tryd.prog = true := by kernel_rfl
theorem stops_ : (Tryd.prog.stops == []) = true := by kernel_rfl
theorem knobs_ : (Tryd.prog.stopKnobs == []) = true := by kernel_rfl
theorem plainKeys_ : (true == Tryd.prog.plainKeys) = true := by kernel_rfl
theorem heard_ : Tryd.prog.stopsHeard = true := by kernel_rfl
theorem enters_ : Tryd.prog.mayEnter = true := by kernel_rfl
theorem lifts_ : (false == Tryd.prog.liftsFinal) = true := by kernel_rfl
theorem make_ : (Tryd.prog.make == some .cut) = true := by kernel_rfl
theorem looks_ : true = Tryd.prog.looks [] := by kernel_rfl
end Go.Proofs.YtchpfdppfelmkaaDoor.sf
