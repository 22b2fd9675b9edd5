/-
  DERIVED. GIVEN WITH THE SEED: THE CARDS: each row of YtchpfdppfelmkaaDoorRows.lean that lists a variable, with what it lists TIED to the program's text (the seventh form; the later family's looks); each row that meets fmt, with fmt's text TOLD by the authors' own Lean function (tested against real Go, not proved from fmt's source: count such statements apart). THE CARD IS WHAT COUNTS. Prove the row's statement (the work); the ties are given (YtchpfdppfelmkaaDoorTie.lean); close each card by the builder's one call (the guide's Derived/Test/ToyasCard.lean, 'card_holds'). Laid BY PROGRAM, IN A SANDBOX (cutbox-door.mjs). By AI agents, Wed Nov 11 2026. No macro, syntax, notation, axiom, sorry.
-/
import Derived.Test.YtchpfdppfelmkaaDoorRows
import GoSem.ClaimSeven
namespace Go.Proofs.YtchpfdppfelmkaaDoor
namespace Rows

/-- THE TIED CARD OF 'lustrumlaw3.SatSplits'. -/
def satSplitsCard : Claim7 := { stood := { row := satSplitsRow, standIns := [], harness := (true, "1f6fca202dcc7b001f7f7e22c07e5a19359043e7e1e7c5aac14524ce2a22767c"), looks := true }, kinds := [], alts := [], laidByText := true, laidKinds := [.sentinel, .sentinel], laidTests := true, laidLooks := .later }
def SatSplitsCardSaid : Prop := Claim7.holds Tryd.pinned (.plain (OpenSpec.ofChange satSplitsSpec)) satSplitsCard

/-- THE TIED CARD OF 'lustrumlaw3.SatQueens'. -/
def satQueensCard : Claim7 := { stood := { row := satQueensRow, standIns := [], harness := (true, "1f6fca202dcc7b001f7f7e22c07e5a19359043e7e1e7c5aac14524ce2a22767c"), looks := true }, kinds := [], alts := [], laidByText := true, laidKinds := [.sentinel, .sentinel], laidTests := true, laidLooks := .later }
def SatQueensCardSaid : Prop := Claim7.holds Tryd.pinned (.plain (OpenSpec.ofChange satQueensSpec)) satQueensCard

/-- THE TIED CARD OF 'lustrumlaw3.SatCounts'. -/
def satCountsCard : Claim7 := { stood := { row := satCountsRow, standIns := [], harness := (true, "1f6fca202dcc7b001f7f7e22c07e5a19359043e7e1e7c5aac14524ce2a22767c"), looks := true }, kinds := [], alts := [], laidByText := true, laidKinds := [.handle, .sentinel, .sentinel, .sentinel, .sentinel, .sentinel, .sentinel, .sentinel, .sentinel, .sentinel], laidTests := true, laidLooks := .later }
def SatCountsCardSaid : Prop := Claim7.holds Tryd.pinned (.plain (OpenSpec.ofChange satCountsSpec)) satCountsCard

/-- THE TIED CARD OF 'lustrumlaw3.SatHoles'. -/
def satHolesCard : Claim7 := { stood := { row := satHolesRow, standIns := [], harness := (true, "1f6fca202dcc7b001f7f7e22c07e5a19359043e7e1e7c5aac14524ce2a22767c"), looks := true }, kinds := [], alts := [], laidByText := true, laidKinds := [.sentinel, .sentinel, .sentinel], laidTests := true, laidLooks := .later }
def SatHolesCardSaid : Prop := Claim7.holds Tryd.pinned (.plain (OpenSpec.ofChange satHolesSpec)) satHolesCard

/-- THE TIED CARD OF 'lustrumlaw3.SatColors'. -/
def satColorsCard : Claim7 := { stood := { row := satColorsRow, standIns := [], harness := (true, "1f6fca202dcc7b001f7f7e22c07e5a19359043e7e1e7c5aac14524ce2a22767c"), looks := true }, kinds := [], alts := [], laidByText := true, laidKinds := [.sentinel, .sentinel, .sentinel], laidTests := true, laidLooks := .later }
def SatColorsCardSaid : Prop := Claim7.holds Tryd.pinned (.plain (OpenSpec.ofChange satColorsSpec)) satColorsCard

/-- THE SECOND FORM's CARD OF 'lustrumlaw3.SatSplits'. -/
def satSplitsUptoCard : Claim7 := { stood := { row := satSplitsUptoRow, standIns := [], harness := (true, "1f6fca202dcc7b001f7f7e22c07e5a19359043e7e1e7c5aac14524ce2a22767c"), looks := true }, kinds := [], alts := [], laidByText := true, laidKinds := [.sentinel, .sentinel], laidTests := true, laidLooks := .later }
def SatSplitsUptoCardSaid : Prop := Claim7.holds Tryd.pinned (.plain (OpenSpec.upto satSplitsSpec)) satSplitsUptoCard

/-- THE SECOND FORM's CARD OF 'lustrumlaw3.SatQueens'. -/
def satQueensUptoCard : Claim7 := { stood := { row := satQueensUptoRow, standIns := [], harness := (true, "1f6fca202dcc7b001f7f7e22c07e5a19359043e7e1e7c5aac14524ce2a22767c"), looks := true }, kinds := [], alts := [], laidByText := true, laidKinds := [.sentinel, .sentinel], laidTests := true, laidLooks := .later }
def SatQueensUptoCardSaid : Prop := Claim7.holds Tryd.pinned (.plain (OpenSpec.upto satQueensSpec)) satQueensUptoCard

/-- THE SECOND FORM's CARD OF 'lustrumlaw3.SatCounts'. -/
def satCountsUptoCard : Claim7 := { stood := { row := satCountsUptoRow, standIns := [], harness := (true, "1f6fca202dcc7b001f7f7e22c07e5a19359043e7e1e7c5aac14524ce2a22767c"), looks := true }, kinds := [], alts := [], laidByText := true, laidKinds := [.handle, .sentinel, .sentinel, .sentinel, .sentinel, .sentinel, .sentinel, .sentinel, .sentinel, .sentinel], laidTests := true, laidLooks := .later }
def SatCountsUptoCardSaid : Prop := Claim7.holds Tryd.pinned (.plain (OpenSpec.upto satCountsSpec)) satCountsUptoCard

/-- THE SECOND FORM's CARD OF 'lustrumlaw3.SatHoles'. -/
def satHolesUptoCard : Claim7 := { stood := { row := satHolesUptoRow, standIns := [], harness := (true, "1f6fca202dcc7b001f7f7e22c07e5a19359043e7e1e7c5aac14524ce2a22767c"), looks := true }, kinds := [], alts := [], laidByText := true, laidKinds := [.sentinel, .sentinel, .sentinel], laidTests := true, laidLooks := .later }
def SatHolesUptoCardSaid : Prop := Claim7.holds Tryd.pinned (.plain (OpenSpec.upto satHolesSpec)) satHolesUptoCard

/-- THE SECOND FORM's CARD OF 'lustrumlaw3.SatColors'. -/
def satColorsUptoCard : Claim7 := { stood := { row := satColorsUptoRow, standIns := [], harness := (true, "1f6fca202dcc7b001f7f7e22c07e5a19359043e7e1e7c5aac14524ce2a22767c"), looks := true }, kinds := [], alts := [], laidByText := true, laidKinds := [.sentinel, .sentinel, .sentinel], laidTests := true, laidLooks := .later }
def SatColorsUptoCardSaid : Prop := Claim7.holds Tryd.pinned (.plain (OpenSpec.upto satColorsSpec)) satColorsUptoCard
end Rows
end Go.Proofs.YtchpfdppfelmkaaDoor
