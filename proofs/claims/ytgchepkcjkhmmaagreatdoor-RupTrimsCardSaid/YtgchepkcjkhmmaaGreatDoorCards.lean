/-
  DERIVED. GIVEN WITH THE SEED: THE CARDS: each row of YtgchepkcjkhmmaaGreatDoorRows.lean that lists a variable, with what it lists TIED to the program's text (the seventh form; the later family's looks); each row that meets fmt, with fmt's text TOLD by the authors' own Lean function (tested against real Go, not proved from fmt's source: count such statements apart). THE CARD IS WHAT COUNTS. Prove the row's statement (the work); the ties are given (YtgchepkcjkhmmaaGreatDoorTie.lean); close each card by the builder's one call (the guide's Derived/Test/ToyasCard.lean, 'card_holds'). Laid BY PROGRAM, IN A SANDBOX (cutbox-door.mjs). By AI agents, Wed Nov 11 2026. No macro, syntax, notation, axiom, sorry.
-/
import Derived.Test.YtgchepkcjkhmmaaGreatDoorRows
import GoSem.ClaimSeven
namespace Go.Proofs.YtgchepkcjkhmmaaGreatDoor
namespace Rows

/-- THE TIED CARD OF 'lustrumlaw3.RupChecks'. -/
def rupChecksCard : Claim7 := { stood := { row := rupChecksRow, standIns := [], harness := (true, "b79804127f4f837ed3e791b10234789e0a42cc189925f8ce6286de78f6c63afb"), looks := true }, kinds := [], alts := [], laidByText := true, laidKinds := [.handle, .sentinel, .sentinel, .sentinel, .sentinel, .sentinel, .sentinel, .sentinel, .sentinel, .sentinel], laidTests := true, laidLooks := .later }
def RupChecksCardSaid : Prop := Claim7.holds Tryz.pinned (.plain (OpenSpec.ofChange rupChecksSpec)) rupChecksCard

/-- THE TIED CARD OF 'lustrumlaw3.RupTrims'. -/
def rupTrimsCard : Claim7 := { stood := { row := rupTrimsRow, standIns := [], harness := (true, "b79804127f4f837ed3e791b10234789e0a42cc189925f8ce6286de78f6c63afb"), looks := true }, kinds := [], alts := [], laidByText := true, laidKinds := [.handle, .sentinel, .sentinel, .sentinel, .sentinel, .sentinel, .sentinel, .sentinel, .sentinel, .sentinel], laidTests := true, laidLooks := .later }
def RupTrimsCardSaid : Prop := Claim7.holds Tryz.pinned (.plain (OpenSpec.ofChange rupTrimsSpec)) rupTrimsCard

/-- THE SECOND FORM's CARD OF 'lustrumlaw3.RupChecks'. -/
def rupChecksUptoCard : Claim7 := { stood := { row := rupChecksUptoRow, standIns := [], harness := (true, "b79804127f4f837ed3e791b10234789e0a42cc189925f8ce6286de78f6c63afb"), looks := true }, kinds := [], alts := [], laidByText := true, laidKinds := [.handle, .sentinel, .sentinel, .sentinel, .sentinel, .sentinel, .sentinel, .sentinel, .sentinel, .sentinel], laidTests := true, laidLooks := .later }
def RupChecksUptoCardSaid : Prop := Claim7.holds Tryz.pinned (.plain (OpenSpec.upto rupChecksSpec)) rupChecksUptoCard

/-- THE SECOND FORM's CARD OF 'lustrumlaw3.RupTrims'. -/
def rupTrimsUptoCard : Claim7 := { stood := { row := rupTrimsUptoRow, standIns := [], harness := (true, "b79804127f4f837ed3e791b10234789e0a42cc189925f8ce6286de78f6c63afb"), looks := true }, kinds := [], alts := [], laidByText := true, laidKinds := [.handle, .sentinel, .sentinel, .sentinel, .sentinel, .sentinel, .sentinel, .sentinel, .sentinel, .sentinel], laidTests := true, laidLooks := .later }
def RupTrimsUptoCardSaid : Prop := Claim7.holds Tryz.pinned (.plain (OpenSpec.upto rupTrimsSpec)) rupTrimsUptoCard
end Rows
end Go.Proofs.YtgchepkcjkhmmaaGreatDoor
