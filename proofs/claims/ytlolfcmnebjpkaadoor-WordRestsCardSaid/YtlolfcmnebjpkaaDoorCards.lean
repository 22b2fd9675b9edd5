/-
  DERIVED. GIVEN WITH THE SEED: THE CARDS: each row of YtlolfcmnebjpkaaDoorRows.lean that lists a variable, with what it lists TIED to the program's text (the seventh form; the later family's looks); each row that meets fmt, with fmt's text TOLD by the authors' own Lean function (tested against real Go, not proved from fmt's source: count such statements apart). THE CARD IS WHAT COUNTS. Prove the row's statement (the work); the ties are given (YtlolfcmnebjpkaaDoorTie.lean); close each card by the builder's one call (the guide's Derived/Test/ToyasCard.lean, 'card_holds'). Laid BY PROGRAM, IN A SANDBOX (cutbox-door.mjs). By AI agents, Wed Nov 11 2026. No macro, syntax, notation, axiom, sorry.
-/
import Derived.Test.YtlolfcmnebjpkaaDoorRows
import GoSem.ClaimSeven
namespace Go.Proofs.YtlolfcmnebjpkaaDoor
namespace Rows

/-- THE TIED CARD OF 'lustrumlaw3.WordConst'. -/
def wordConstCard : Claim7 := { stood := { row := wordConstRow, standIns := [], harness := (true, "2e9e69296a76014737cf95d6940397e4c940dede164a6ad241fe3f77ae0191f0"), looks := true }, kinds := [], alts := [], laidByText := true, laidKinds := [.handle, .sentinel, .sentinel, .sentinel, .sentinel, .sentinel, .sentinel, .sentinel, .sentinel, .sentinel], laidTests := true, laidLooks := .later }
def WordConstCardSaid : Prop := Claim7.holds Tryd.pinned (.plain (OpenSpec.ofChange wordConstSpec)) wordConstCard

/-- THE TIED CARD OF 'lustrumlaw3.GraphTurned'. -/
def graphTurnedCard : Claim7 := { stood := { row := graphTurnedRow, standIns := [], harness := (true, "2e9e69296a76014737cf95d6940397e4c940dede164a6ad241fe3f77ae0191f0"), looks := true }, kinds := [], alts := [], laidByText := true, laidKinds := [.handle, .sentinel, .sentinel, .sentinel, .sentinel, .sentinel, .sentinel, .sentinel, .sentinel, .sentinel], laidTests := true, laidLooks := .later }
def GraphTurnedCardSaid : Prop := Claim7.holds Tryd.pinned (.plain (OpenSpec.ofChange graphTurnedSpec)) graphTurnedCard

/-- THE TIED CARD OF 'lustrumlaw3.GraphMakes'. -/
def graphMakesCard : Claim7 := { stood := { row := graphMakesRow, standIns := [], harness := (true, "2e9e69296a76014737cf95d6940397e4c940dede164a6ad241fe3f77ae0191f0"), looks := true }, kinds := [], alts := [], laidByText := true, laidKinds := [.handle, .sentinel, .sentinel, .sentinel, .sentinel, .sentinel, .sentinel, .sentinel, .sentinel, .sentinel], laidTests := true, laidLooks := .later }
def GraphMakesCardSaid : Prop := Claim7.holds Tryd.pinned (.plain (OpenSpec.ofChange graphMakesSpec)) graphMakesCard

/-- THE TIED CARD OF 'lustrumlaw3.GraphUnlike'. -/
def graphUnlikeCard : Claim7 := { stood := { row := graphUnlikeRow, standIns := [], harness := (true, "2e9e69296a76014737cf95d6940397e4c940dede164a6ad241fe3f77ae0191f0"), looks := true }, kinds := [], alts := [], laidByText := true, laidKinds := [.handle, .sentinel, .sentinel, .sentinel, .sentinel, .sentinel, .sentinel, .sentinel, .sentinel, .sentinel], laidTests := true, laidLooks := .later }
def GraphUnlikeCardSaid : Prop := Claim7.holds Tryd.pinned (.plain (OpenSpec.ofChange graphUnlikeSpec)) graphUnlikeCard

/-- THE TIED CARD OF 'lustrumlaw3.GraphEvals'. -/
def graphEvalsCard : Claim7 := { stood := { row := graphEvalsRow, standIns := [], harness := (true, "2e9e69296a76014737cf95d6940397e4c940dede164a6ad241fe3f77ae0191f0"), looks := true }, kinds := [], alts := [], laidByText := true, laidKinds := [.handle, .sentinel, .sentinel, .sentinel, .sentinel, .sentinel, .sentinel, .sentinel, .sentinel, .sentinel], laidTests := true, laidLooks := .later }
def GraphEvalsCardSaid : Prop := Claim7.holds Tryd.pinned (.plain (OpenSpec.ofChange graphEvalsSpec)) graphEvalsCard

/-- THE TIED CARD OF 'lustrumlaw3.WordRing'. -/
def wordRingCard : Claim7 := { stood := { row := wordRingRow, standIns := [], harness := (true, "2e9e69296a76014737cf95d6940397e4c940dede164a6ad241fe3f77ae0191f0"), looks := true }, kinds := [], alts := [], laidByText := true, laidKinds := [.sentinel, .sentinel, .widerDeep], laidTests := true, laidLooks := .later }
def WordRingCardSaid : Prop := Claim7.holds Tryd.pinned (.plain (OpenSpec.ofChange wordRingSpec)) wordRingCard

/-- THE TIED CARD OF 'lustrumlaw3.WordRests'. -/
def wordRestsCard : Claim7 := { stood := { row := wordRestsRow, standIns := [], harness := (true, "2e9e69296a76014737cf95d6940397e4c940dede164a6ad241fe3f77ae0191f0"), looks := true }, kinds := [], alts := [], laidByText := true, laidKinds := [.sentinel, .sentinel, .widerDeep], laidTests := true, laidLooks := .later }
def WordRestsCardSaid : Prop := Claim7.holds Tryd.pinned (.plain (OpenSpec.ofChange wordRestsSpec)) wordRestsCard

/-- THE TIED CARD OF 'lustrumlaw3.CnfAlone'. -/
def cnfAloneCard : Claim7 := { stood := { row := cnfAloneRow, standIns := [], harness := (true, "2e9e69296a76014737cf95d6940397e4c940dede164a6ad241fe3f77ae0191f0"), looks := true }, kinds := [], alts := [], laidByText := true, laidKinds := [.data, .data, .data, .sentinel, .sentinel, .sentinel], laidTests := true, laidLooks := .later }
def CnfAloneCardSaid : Prop := Claim7.holds Tryd.pinned (.plain (OpenSpec.ofChange cnfAloneSpec)) cnfAloneCard

/-- THE SECOND FORM's CARD OF 'lustrumlaw3.WordConst'. -/
def wordConstUptoCard : Claim7 := { stood := { row := wordConstUptoRow, standIns := [], harness := (true, "2e9e69296a76014737cf95d6940397e4c940dede164a6ad241fe3f77ae0191f0"), looks := true }, kinds := [], alts := [], laidByText := true, laidKinds := [.handle, .sentinel, .sentinel, .sentinel, .sentinel, .sentinel, .sentinel, .sentinel, .sentinel, .sentinel], laidTests := true, laidLooks := .later }
def WordConstUptoCardSaid : Prop := Claim7.holds Tryd.pinned (.plain (OpenSpec.upto wordConstSpec)) wordConstUptoCard

/-- THE SECOND FORM's CARD OF 'lustrumlaw3.GraphTurned'. -/
def graphTurnedUptoCard : Claim7 := { stood := { row := graphTurnedUptoRow, standIns := [], harness := (true, "2e9e69296a76014737cf95d6940397e4c940dede164a6ad241fe3f77ae0191f0"), looks := true }, kinds := [], alts := [], laidByText := true, laidKinds := [.handle, .sentinel, .sentinel, .sentinel, .sentinel, .sentinel, .sentinel, .sentinel, .sentinel, .sentinel], laidTests := true, laidLooks := .later }
def GraphTurnedUptoCardSaid : Prop := Claim7.holds Tryd.pinned (.plain (OpenSpec.upto graphTurnedSpec)) graphTurnedUptoCard

/-- THE SECOND FORM's CARD OF 'lustrumlaw3.GraphMakes'. -/
def graphMakesUptoCard : Claim7 := { stood := { row := graphMakesUptoRow, standIns := [], harness := (true, "2e9e69296a76014737cf95d6940397e4c940dede164a6ad241fe3f77ae0191f0"), looks := true }, kinds := [], alts := [], laidByText := true, laidKinds := [.handle, .sentinel, .sentinel, .sentinel, .sentinel, .sentinel, .sentinel, .sentinel, .sentinel, .sentinel], laidTests := true, laidLooks := .later }
def GraphMakesUptoCardSaid : Prop := Claim7.holds Tryd.pinned (.plain (OpenSpec.upto graphMakesSpec)) graphMakesUptoCard

/-- THE SECOND FORM's CARD OF 'lustrumlaw3.GraphUnlike'. -/
def graphUnlikeUptoCard : Claim7 := { stood := { row := graphUnlikeUptoRow, standIns := [], harness := (true, "2e9e69296a76014737cf95d6940397e4c940dede164a6ad241fe3f77ae0191f0"), looks := true }, kinds := [], alts := [], laidByText := true, laidKinds := [.handle, .sentinel, .sentinel, .sentinel, .sentinel, .sentinel, .sentinel, .sentinel, .sentinel, .sentinel], laidTests := true, laidLooks := .later }
def GraphUnlikeUptoCardSaid : Prop := Claim7.holds Tryd.pinned (.plain (OpenSpec.upto graphUnlikeSpec)) graphUnlikeUptoCard

/-- THE SECOND FORM's CARD OF 'lustrumlaw3.GraphEvals'. -/
def graphEvalsUptoCard : Claim7 := { stood := { row := graphEvalsUptoRow, standIns := [], harness := (true, "2e9e69296a76014737cf95d6940397e4c940dede164a6ad241fe3f77ae0191f0"), looks := true }, kinds := [], alts := [], laidByText := true, laidKinds := [.handle, .sentinel, .sentinel, .sentinel, .sentinel, .sentinel, .sentinel, .sentinel, .sentinel, .sentinel], laidTests := true, laidLooks := .later }
def GraphEvalsUptoCardSaid : Prop := Claim7.holds Tryd.pinned (.plain (OpenSpec.upto graphEvalsSpec)) graphEvalsUptoCard

/-- THE SECOND FORM's CARD OF 'lustrumlaw3.WordRing'. -/
def wordRingUptoCard : Claim7 := { stood := { row := wordRingUptoRow, standIns := [], harness := (true, "2e9e69296a76014737cf95d6940397e4c940dede164a6ad241fe3f77ae0191f0"), looks := true }, kinds := [], alts := [], laidByText := true, laidKinds := [.sentinel, .sentinel, .widerDeep], laidTests := true, laidLooks := .later }
def WordRingUptoCardSaid : Prop := Claim7.holds Tryd.pinned (.plain (OpenSpec.upto wordRingSpec)) wordRingUptoCard

/-- THE SECOND FORM's CARD OF 'lustrumlaw3.WordRests'. -/
def wordRestsUptoCard : Claim7 := { stood := { row := wordRestsUptoRow, standIns := [], harness := (true, "2e9e69296a76014737cf95d6940397e4c940dede164a6ad241fe3f77ae0191f0"), looks := true }, kinds := [], alts := [], laidByText := true, laidKinds := [.sentinel, .sentinel, .widerDeep], laidTests := true, laidLooks := .later }
def WordRestsUptoCardSaid : Prop := Claim7.holds Tryd.pinned (.plain (OpenSpec.upto wordRestsSpec)) wordRestsUptoCard

/-- THE SECOND FORM's CARD OF 'lustrumlaw3.CnfAlone'. -/
def cnfAloneUptoCard : Claim7 := { stood := { row := cnfAloneUptoRow, standIns := [], harness := (true, "2e9e69296a76014737cf95d6940397e4c940dede164a6ad241fe3f77ae0191f0"), looks := true }, kinds := [], alts := [], laidByText := true, laidKinds := [.data, .data, .data, .sentinel, .sentinel, .sentinel], laidTests := true, laidLooks := .later }
def CnfAloneUptoCardSaid : Prop := Claim7.holds Tryd.pinned (.plain (OpenSpec.upto cnfAloneSpec)) cnfAloneUptoCard
end Rows
end Go.Proofs.YtlolfcmnebjpkaaDoor
