/-
  DERIVED. GIVEN WITH THE SEED: THE CARDS: each row of YtgchepkcjkhmmaaDoorRows.lean that lists a variable, with what it lists TIED to the program's text (the seventh form; the later family's looks); each row that meets fmt, with fmt's text TOLD by the authors' own Lean function (tested against real Go, not proved from fmt's source: count such statements apart). THE CARD IS WHAT COUNTS. Prove the row's statement (the work); the ties are given (YtgchepkcjkhmmaaDoorTie.lean); close each card by the builder's one call (the guide's Derived/Test/ToyasCard.lean, 'card_holds'). Laid BY PROGRAM, IN A SANDBOX (cutbox-door.mjs). By AI agents, Wed Nov 11 2026. No macro, syntax, notation, axiom, sorry.
-/
import Derived.Test.YtgchepkcjkhmmaaDoorRows
import GoSem.ClaimSeven
namespace Go.Proofs.YtgchepkcjkhmmaaDoor
namespace Rows

/-- THE TIED CARD OF 'lustrumlaw3.RupSound'. -/
def rupSoundCard : Claim7 := { stood := { row := rupSoundRow, standIns := [], harness := (true, "dde75bc18337284e0727ad59e307d5bea5b010f0e08d8426fc51cfb569d3b60e"), looks := false }, kinds := [], alts := [], laidByText := true, laidKinds := [.sentinel, .sentinel, .sentinel], laidTests := true, laidLooks := .later }
def RupSoundCardSaid : Prop := Claim7.holds Tryd.pinned (.plain (OpenSpec.ofChange rupSoundSpec)) rupSoundCard

/-- THE TIED CARD OF 'lustrumlaw3.RupMore'. -/
def rupMoreCard : Claim7 := { stood := { row := rupMoreRow, standIns := [], harness := (true, "dde75bc18337284e0727ad59e307d5bea5b010f0e08d8426fc51cfb569d3b60e"), looks := false }, kinds := [], alts := [], laidByText := true, laidKinds := [.sentinel, .sentinel, .sentinel], laidTests := true, laidLooks := .later }
def RupMoreCardSaid : Prop := Claim7.holds Tryd.pinned (.plain (OpenSpec.ofChange rupMoreSpec)) rupMoreCard

/-- THE SECOND FORM's CARD OF 'lustrumlaw3.RupSound'. -/
def rupSoundUptoCard : Claim7 := { stood := { row := rupSoundUptoRow, standIns := [], harness := (true, "dde75bc18337284e0727ad59e307d5bea5b010f0e08d8426fc51cfb569d3b60e"), looks := false }, kinds := [], alts := [], laidByText := true, laidKinds := [.sentinel, .sentinel, .sentinel], laidTests := true, laidLooks := .later }
def RupSoundUptoCardSaid : Prop := Claim7.holds Tryd.pinned (.plain (OpenSpec.upto rupSoundSpec)) rupSoundUptoCard

/-- THE SECOND FORM's CARD OF 'lustrumlaw3.RupMore'. -/
def rupMoreUptoCard : Claim7 := { stood := { row := rupMoreUptoRow, standIns := [], harness := (true, "dde75bc18337284e0727ad59e307d5bea5b010f0e08d8426fc51cfb569d3b60e"), looks := false }, kinds := [], alts := [], laidByText := true, laidKinds := [.sentinel, .sentinel, .sentinel], laidTests := true, laidLooks := .later }
def RupMoreUptoCardSaid : Prop := Claim7.holds Tryd.pinned (.plain (OpenSpec.upto rupMoreSpec)) rupMoreUptoCard
end Rows
end Go.Proofs.YtgchepkcjkhmmaaDoor
