/-
  DERIVED. GIVEN WITH THE SEED: THE CARDS: each row of YthkhfbofhdfdoaaGreatDoorRows.lean that lists a variable, with what it lists TIED to the program's text (the seventh form; the later family's looks); each row that meets fmt, with fmt's text TOLD by the authors' own Lean function (tested against real Go, not proved from fmt's source: count such statements apart). THE CARD IS WHAT COUNTS. Prove the row's statement (the work); the ties are given (YthkhfbofhdfdoaaGreatDoorTie.lean); close each card by the builder's one call (the guide's Derived/Test/ToyasCard.lean, 'card_holds'). Laid BY PROGRAM, IN A SANDBOX (cutbox-door.mjs). By AI agents, Wed Nov 11 2026. No macro, syntax, notation, axiom, sorry.
-/
import Derived.Test.YthkhfbofhdfdoaaGreatDoorRows
import GoSem.ClaimSeven
namespace Go.Proofs.YthkhfbofhdfdoaaGreatDoor
namespace Rows

/-- THE TIED CARD OF 'lustrumlaw3.WordSums'. -/
def wordSumsCard : Claim7 := { stood := { row := wordSumsRow, standIns := [], harness := (true, "224c09629816324fe810fcfe42782dcb0b302d4bf7c2f2ad866a49f20557119b"), looks := true }, kinds := [], alts := [], laidByText := true, laidKinds := [.sentinel, .sentinel, .sentinel, .sentinel, .widerDeep], laidTests := true, laidLooks := .later }
def WordSumsCardSaid : Prop := Claim7.holds Tryz.pinned (.plain (OpenSpec.ofChange wordSumsSpec)) wordSumsCard

/-- THE SECOND FORM's CARD OF 'lustrumlaw3.WordSums'. -/
def wordSumsUptoCard : Claim7 := { stood := { row := wordSumsUptoRow, standIns := [], harness := (true, "224c09629816324fe810fcfe42782dcb0b302d4bf7c2f2ad866a49f20557119b"), looks := true }, kinds := [], alts := [], laidByText := true, laidKinds := [.sentinel, .sentinel, .sentinel, .sentinel, .widerDeep], laidTests := true, laidLooks := .later }
def WordSumsUptoCardSaid : Prop := Claim7.holds Tryz.pinned (.plain (OpenSpec.upto wordSumsSpec)) wordSumsUptoCard
end Rows
end Go.Proofs.YthkhfbofhdfdoaaGreatDoor
