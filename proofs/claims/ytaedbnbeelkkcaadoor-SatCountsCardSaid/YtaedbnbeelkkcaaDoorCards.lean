/-
  DERIVED. GIVEN WITH THE SEED: THE CARDS: each row of YtaedbnbeelkkcaaDoorRows.lean that lists a variable, with what it lists TIED to the program's text (the seventh form; the later family's looks); each row that meets fmt, with fmt's text TOLD by the authors' own Lean function (tested against real Go, not proved from fmt's source: count such statements apart). THE CARD IS WHAT COUNTS. Prove the row's statement (the work); the ties are given (YtaedbnbeelkkcaaDoorTie.lean); close each card by the builder's one call (the guide's Derived/Test/ToyasCard.lean, 'card_holds'). Laid BY PROGRAM, IN A SANDBOX (cutbox-door.mjs). By AI agents, Wed Nov 11 2026. No macro, syntax, notation, axiom, sorry.
-/
import Derived.Test.YtaedbnbeelkkcaaDoorRows
import GoSem.ClaimSeven
namespace Go.Proofs.YtaedbnbeelkkcaaDoor
namespace Rows

/-- THE TIED CARD OF 'lustrumlaw3.SatSplits'. -/
def satSplitsCard : Claim7 := { stood := { row := satSplitsRow, standIns := [], harness := (true, "b726003c697e17383130c94da99f38525c692344768371fa379fae8111fc6aee"), looks := true }, kinds := [], alts := [], laidByText := true, laidKinds := [.sentinel, .sentinel], laidTests := true, laidLooks := .later }
def SatSplitsCardSaid : Prop := Claim7.holds Tryd.pinned (.plain (OpenSpec.ofChange satSplitsSpec)) satSplitsCard

/-- THE TIED CARD OF 'lustrumlaw3.SatCounts'. -/
def satCountsCard : Claim7 := { stood := { row := satCountsRow, standIns := [], harness := (true, "b726003c697e17383130c94da99f38525c692344768371fa379fae8111fc6aee"), looks := true }, kinds := [], alts := [], laidByText := true, laidKinds := [.handle, .sentinel, .sentinel, .sentinel, .sentinel, .sentinel, .sentinel, .sentinel, .sentinel, .sentinel], laidTests := true, laidLooks := .later }
def SatCountsCardSaid : Prop := Claim7.holds Tryd.pinned (.plain (OpenSpec.ofChange satCountsSpec)) satCountsCard

/-- THE SECOND FORM's CARD OF 'lustrumlaw3.SatSplits'. -/
def satSplitsUptoCard : Claim7 := { stood := { row := satSplitsUptoRow, standIns := [], harness := (true, "b726003c697e17383130c94da99f38525c692344768371fa379fae8111fc6aee"), looks := true }, kinds := [], alts := [], laidByText := true, laidKinds := [.sentinel, .sentinel], laidTests := true, laidLooks := .later }
def SatSplitsUptoCardSaid : Prop := Claim7.holds Tryd.pinned (.plain (OpenSpec.upto satSplitsSpec)) satSplitsUptoCard

/-- THE SECOND FORM's CARD OF 'lustrumlaw3.SatCounts'. -/
def satCountsUptoCard : Claim7 := { stood := { row := satCountsUptoRow, standIns := [], harness := (true, "b726003c697e17383130c94da99f38525c692344768371fa379fae8111fc6aee"), looks := true }, kinds := [], alts := [], laidByText := true, laidKinds := [.handle, .sentinel, .sentinel, .sentinel, .sentinel, .sentinel, .sentinel, .sentinel, .sentinel, .sentinel], laidTests := true, laidLooks := .later }
def SatCountsUptoCardSaid : Prop := Claim7.holds Tryd.pinned (.plain (OpenSpec.upto satCountsSpec)) satCountsUptoCard
end Rows
end Go.Proofs.YtaedbnbeelkkcaaDoor
