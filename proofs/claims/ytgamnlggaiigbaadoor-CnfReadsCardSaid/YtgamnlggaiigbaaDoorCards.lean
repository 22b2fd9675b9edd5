/-
  DERIVED. GIVEN WITH THE SEED: THE CARDS: each row of YtgamnlggaiigbaaDoorRows.lean that lists a variable, with what it lists TIED to the program's text (the seventh form; the later family's looks); each row that meets fmt, with fmt's text TOLD by the authors' own Lean function (tested against real Go, not proved from fmt's source: count such statements apart). THE CARD IS WHAT COUNTS. Prove the row's statement (the work); the ties are given (YtgamnlggaiigbaaDoorTie.lean); close each card by the builder's one call (the guide's Derived/Test/ToyasCard.lean, 'card_holds'). Laid BY PROGRAM, IN A SANDBOX (cutbox-door.mjs). By AI agents, Wed Nov 11 2026. No macro, syntax, notation, axiom, sorry.
-/
import Derived.Test.YtgamnlggaiigbaaDoorRows
import GoSem.ClaimSeven
namespace Go.Proofs.YtgamnlggaiigbaaDoor
namespace Rows

/-- THE TIED CARD OF 'lustrumlaw3.CnfReads'. -/
def cnfReadsCard : Claim7 := { stood := { row := cnfReadsRow, standIns := [], harness := (true, "3e39749d25c34dbfc7663c1a083f255f4cd94cf15571482cb160652c7c699964"), looks := true }, kinds := [], alts := [], laidByText := true, laidKinds := [.data, .data, .data, .data, .sentinel, .sentinel, .sentinel, .sentinel, .sentinel, .pinned], laidTests := true, laidLooks := .later }
def CnfReadsCardSaid : Prop := Claim7.holds Tryd.pinned (.plain (OpenSpec.ofChange cnfReadsSpec)) cnfReadsCard

/-- THE SECOND FORM's CARD OF 'lustrumlaw3.CnfReads'. -/
def cnfReadsUptoCard : Claim7 := { stood := { row := cnfReadsUptoRow, standIns := [], harness := (true, "3e39749d25c34dbfc7663c1a083f255f4cd94cf15571482cb160652c7c699964"), looks := true }, kinds := [], alts := [], laidByText := true, laidKinds := [.data, .data, .data, .data, .sentinel, .sentinel, .sentinel, .sentinel, .sentinel, .pinned], laidTests := true, laidLooks := .later }
def CnfReadsUptoCardSaid : Prop := Claim7.holds Tryd.pinned (.plain (OpenSpec.upto cnfReadsSpec)) cnfReadsUptoCard
end Rows
end Go.Proofs.YtgamnlggaiigbaaDoor
