/-
  DERIVED. GIVEN WITH THE SEED: THE CARDS: each row of YtmbjhpgemphmmaaDoorRows.lean that lists a variable, with what it lists TIED to the program's text (the seventh form; the later family's looks); each row that meets fmt, with fmt's text TOLD by the authors' own Lean function (tested against real Go, not proved from fmt's source: count such statements apart). THE CARD IS WHAT COUNTS. Prove the row's statement (the work); the ties are given (YtmbjhpgemphmmaaDoorTie.lean); close each card by the builder's one call (the guide's Derived/Test/ToyasCard.lean, 'card_holds'). Laid BY PROGRAM, IN A SANDBOX (cutbox-door.mjs). By AI agents, Wed Nov 11 2026. No macro, syntax, notation, axiom, sorry.
-/
import Derived.Test.YtmbjhpgemphmmaaDoorRows
import GoSem.ClaimSeven
namespace Go.Proofs.YtmbjhpgemphmmaaDoor
namespace Rows

/-- THE TIED CARD OF 'lustrumlaw3.CnfAlone'. -/
def cnfAloneCard : Claim7 := { stood := { row := cnfAloneRow, standIns := [], harness := (true, "ec281961211401424644ba4e9967c3bf7244d3e96daa4222ddd9136c403c7f3d"), looks := true }, kinds := [], alts := [], laidByText := true, laidKinds := [.data, .data, .data, .sentinel, .sentinel, .sentinel], laidTests := true, laidLooks := .later }
def CnfAloneCardSaid : Prop := Claim7.holds Tryd.pinned (.plain (OpenSpec.ofChange cnfAloneSpec)) cnfAloneCard

/-- THE TIED CARD OF 'lustrumlaw3.FlowGates'. -/
def flowGatesCard : Claim7 := { stood := { row := flowGatesRow, standIns := [], harness := (true, "ec281961211401424644ba4e9967c3bf7244d3e96daa4222ddd9136c403c7f3d"), looks := true }, kinds := [], alts := [], laidByText := true, laidKinds := [.sentinel, .sentinel, .sentinel, .widerDeep], laidTests := true, laidLooks := .later }
def FlowGatesCardSaid : Prop := Claim7.holds Tryd.pinned (.plain (OpenSpec.ofChange flowGatesSpec)) flowGatesCard

/-- THE TIED CARD OF 'lustrumlaw3.WordShapes'. -/
def wordShapesCard : Claim7 := { stood := { row := wordShapesRow, standIns := [], harness := (true, "ec281961211401424644ba4e9967c3bf7244d3e96daa4222ddd9136c403c7f3d"), looks := true }, kinds := [], alts := [], laidByText := true, laidKinds := [.handle, .sentinel, .sentinel, .sentinel, .sentinel, .sentinel, .sentinel, .sentinel, .sentinel, .sentinel, .widerDeep], laidTests := true, laidLooks := .later }
def WordShapesCardSaid : Prop := Claim7.holds Tryd.pinned (.plain (OpenSpec.ofChange wordShapesSpec)) wordShapesCard

/-- THE TIED CARD OF 'lustrumlaw3.WordApplies'. -/
def wordAppliesCard : Claim7 := { stood := { row := wordAppliesRow, standIns := [], harness := (true, "ec281961211401424644ba4e9967c3bf7244d3e96daa4222ddd9136c403c7f3d"), looks := true }, kinds := [], alts := [], laidByText := true, laidKinds := [.handle, .sentinel, .sentinel, .sentinel, .sentinel, .sentinel, .sentinel, .sentinel, .sentinel, .sentinel, .widerDeep], laidTests := true, laidLooks := .later }
def WordAppliesCardSaid : Prop := Claim7.holds Tryd.pinned (.plain (OpenSpec.ofChange wordAppliesSpec)) wordAppliesCard

/-- THE TIED CARD OF 'lustrumlaw3.CnfOf'. -/
def cnfOfCard : Claim7 := { stood := { row := cnfOfRow, standIns := [], harness := (true, "ec281961211401424644ba4e9967c3bf7244d3e96daa4222ddd9136c403c7f3d"), looks := true }, kinds := [], alts := [], laidByText := true, laidKinds := [.data, .data, .data, .handle, .sentinel, .sentinel, .sentinel, .sentinel, .sentinel, .sentinel, .sentinel, .sentinel, .sentinel], laidTests := true, laidLooks := .later }
def CnfOfCardSaid : Prop := Claim7.holds Tryd.pinned (.plain (OpenSpec.ofChange cnfOfSpec)) cnfOfCard

/-- THE TIED CARD OF 'lustrumlaw3.CnfHolds'. -/
def cnfHoldsCard : Claim7 := { stood := { row := cnfHoldsRow, standIns := [], harness := (true, "ec281961211401424644ba4e9967c3bf7244d3e96daa4222ddd9136c403c7f3d"), looks := true }, kinds := [], alts := [], laidByText := true, laidKinds := [.data, .data, .data, .handle, .sentinel, .sentinel, .sentinel, .sentinel, .sentinel, .sentinel, .sentinel, .sentinel, .sentinel], laidTests := true, laidLooks := .later }
def CnfHoldsCardSaid : Prop := Claim7.holds Tryd.pinned (.plain (OpenSpec.ofChange cnfHoldsSpec)) cnfHoldsCard

/-- THE SECOND FORM's CARD OF 'lustrumlaw3.CnfAlone'. -/
def cnfAloneUptoCard : Claim7 := { stood := { row := cnfAloneUptoRow, standIns := [], harness := (true, "ec281961211401424644ba4e9967c3bf7244d3e96daa4222ddd9136c403c7f3d"), looks := true }, kinds := [], alts := [], laidByText := true, laidKinds := [.data, .data, .data, .sentinel, .sentinel, .sentinel], laidTests := true, laidLooks := .later }
def CnfAloneUptoCardSaid : Prop := Claim7.holds Tryd.pinned (.plain (OpenSpec.upto cnfAloneSpec)) cnfAloneUptoCard

/-- THE SECOND FORM's CARD OF 'lustrumlaw3.FlowGates'. -/
def flowGatesUptoCard : Claim7 := { stood := { row := flowGatesUptoRow, standIns := [], harness := (true, "ec281961211401424644ba4e9967c3bf7244d3e96daa4222ddd9136c403c7f3d"), looks := true }, kinds := [], alts := [], laidByText := true, laidKinds := [.sentinel, .sentinel, .sentinel, .widerDeep], laidTests := true, laidLooks := .later }
def FlowGatesUptoCardSaid : Prop := Claim7.holds Tryd.pinned (.plain (OpenSpec.upto flowGatesSpec)) flowGatesUptoCard

/-- THE SECOND FORM's CARD OF 'lustrumlaw3.WordShapes'. -/
def wordShapesUptoCard : Claim7 := { stood := { row := wordShapesUptoRow, standIns := [], harness := (true, "ec281961211401424644ba4e9967c3bf7244d3e96daa4222ddd9136c403c7f3d"), looks := true }, kinds := [], alts := [], laidByText := true, laidKinds := [.handle, .sentinel, .sentinel, .sentinel, .sentinel, .sentinel, .sentinel, .sentinel, .sentinel, .sentinel, .widerDeep], laidTests := true, laidLooks := .later }
def WordShapesUptoCardSaid : Prop := Claim7.holds Tryd.pinned (.plain (OpenSpec.upto wordShapesSpec)) wordShapesUptoCard

/-- THE SECOND FORM's CARD OF 'lustrumlaw3.WordApplies'. -/
def wordAppliesUptoCard : Claim7 := { stood := { row := wordAppliesUptoRow, standIns := [], harness := (true, "ec281961211401424644ba4e9967c3bf7244d3e96daa4222ddd9136c403c7f3d"), looks := true }, kinds := [], alts := [], laidByText := true, laidKinds := [.handle, .sentinel, .sentinel, .sentinel, .sentinel, .sentinel, .sentinel, .sentinel, .sentinel, .sentinel, .widerDeep], laidTests := true, laidLooks := .later }
def WordAppliesUptoCardSaid : Prop := Claim7.holds Tryd.pinned (.plain (OpenSpec.upto wordAppliesSpec)) wordAppliesUptoCard

/-- THE SECOND FORM's CARD OF 'lustrumlaw3.CnfOf'. -/
def cnfOfUptoCard : Claim7 := { stood := { row := cnfOfUptoRow, standIns := [], harness := (true, "ec281961211401424644ba4e9967c3bf7244d3e96daa4222ddd9136c403c7f3d"), looks := true }, kinds := [], alts := [], laidByText := true, laidKinds := [.data, .data, .data, .handle, .sentinel, .sentinel, .sentinel, .sentinel, .sentinel, .sentinel, .sentinel, .sentinel, .sentinel], laidTests := true, laidLooks := .later }
def CnfOfUptoCardSaid : Prop := Claim7.holds Tryd.pinned (.plain (OpenSpec.upto cnfOfSpec)) cnfOfUptoCard

/-- THE SECOND FORM's CARD OF 'lustrumlaw3.CnfHolds'. -/
def cnfHoldsUptoCard : Claim7 := { stood := { row := cnfHoldsUptoRow, standIns := [], harness := (true, "ec281961211401424644ba4e9967c3bf7244d3e96daa4222ddd9136c403c7f3d"), looks := true }, kinds := [], alts := [], laidByText := true, laidKinds := [.data, .data, .data, .handle, .sentinel, .sentinel, .sentinel, .sentinel, .sentinel, .sentinel, .sentinel, .sentinel, .sentinel], laidTests := true, laidLooks := .later }
def CnfHoldsUptoCardSaid : Prop := Claim7.holds Tryd.pinned (.plain (OpenSpec.upto cnfHoldsSpec)) cnfHoldsUptoCard
end Rows
end Go.Proofs.YtmbjhpgemphmmaaDoor
