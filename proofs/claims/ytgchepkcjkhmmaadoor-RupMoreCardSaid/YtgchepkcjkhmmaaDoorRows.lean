/-
  NARROWER THAN 'FOR EVERY INPUT', by the rows' own cells (each row's printed sentence says how): RupSound: laid · RupMore: laid.
  DERIVED. THE GIVEN ROWS OF THIS SEAT. 2 by the template 'for every input the law returns true; each argument reads behind the call as it read before'; 0 by the template 'total and deterministic' (their statements: YtgchepkcjkhmmaaDoorTotals.lean).
  GIVEN WITH THE SEED: the statements are not yours to turn. If you find one false, say at which input.
  Laid BY PROGRAM, IN A SANDBOX (cutbox-rows.mjs): the forced cells as the released guide's own fill.sh prints them over the translation 48d34e51a92e6e93… (all of the seat's roots in one cut). By AI agents, Wed Nov 11 2026. No macro, syntax, notation, axiom, sorry.
-/
import Derived.Test.YtgchepkcjkhmmaaDoorChecked
import GoSem.Claim
import GoSem.ClaimJoined
import GoSem.ClaimMapViews
import Derived.JoinedTies
import Derived.KernelRfl
namespace Go.Proofs.YtgchepkcjkhmmaaDoor
/- THE CELL 'sum', in the pinned program and in every row, IS THE sha256 OF THE DUMP (.gsa) THAT YtgchepkcjkhmmaaDoorProg.lean LOADS. Nothing in Lean hashes anything: it is a label: what it is worth is what the hold of that sum in a sandbox is worth. -/
noncomputable def Tryd.pinned : Pinned := { name := "ytgchepkcjkhmmaadoor", sum := "48d34e51a92e6e935ed0ffee229a70ccc148dd73fe8b0e5f42356ea27ba8fcb2", checked := Tryd.checked }
namespace Rows
def none {H : Type} : Left H := { results := [], args := [] }

/- WHAT THE LISTED PACKAGE-LEVEL VARIABLES READ AS WHEN THE CALL BEGINS. Each datum BY PROGRAM (the guide's laid-datum.mjs) off the statement by which the dump's own 'gosem.cut.vars' lays the variable. In a bare row this is a premise. The card (YtgchepkcjkhmmaaDoorCards.lean) ties it to the program's text. -/
def laid_lustrum_api_ErrBound {H : Type} : DataW H := .iface "*errors.errorString" (.ptr (.agg [.lit (.string [108, 117, 115, 116, 114, 117, 109, 58, 32, 98, 111, 117, 110, 100])]))
def laid_lustrum_api_ErrShape {H : Type} : DataW H := .iface "*errors.errorString" (.ptr (.agg [.lit (.string [108, 117, 115, 116, 114, 117, 109, 58, 32, 115, 104, 97, 112, 101])]))
def laid_lustrum_api_ErrProof {H : Type} : DataW H := .iface "*errors.errorString" (.ptr (.agg [.lit (.string [108, 117, 115, 116, 114, 117, 109, 58, 32, 112, 114, 111, 111, 102])]))

/-- 'lustrumlaw3.RupSound': WHATEVER THE INPUT: true; the input reads as it did. -/
def rupSoundSpec : ChangeSpec := { name := "rupSound", fn := fun _ => fun
  | [d1, d2] => { results := [.lit (.bool true)], args := [d1, d2] }
  | _ => none }
def rupSoundRow : OpenClaim := { program := "ytgchepkcjkhmmaadoor", sum := "48d34e51a92e6e935ed0ffee229a70ccc148dd73fe8b0e5f42356ea27ba8fcb2", func := "lustrum/lustrumlaw3.RupSound", spec := "rupSound", unfollowed := true, recurses := true, named := ["lustrum/api.ErrBound", "lustrum/api.ErrShape", "lustrum/api.ErrProof"], apart := false, laid := [("lustrum/api.ErrBound", laid_lustrum_api_ErrBound), ("lustrum/api.ErrShape", laid_lustrum_api_ErrShape), ("lustrum/api.ErrProof", laid_lustrum_api_ErrProof)] }
def RupSoundSaid : Prop := rupSoundRow.holds Tryd.pinned (OpenSpec.ofChange rupSoundSpec)

/-- ITS FALSE NEIGHBOUR: 'it returns false'. Refute it at one input. -/
def rupSoundWrong : ChangeSpec := { name := "rupSound", fn := fun _ => fun
  | [d1, d2] => { results := [.lit (.bool false)], args := [d1, d2] }
  | _ => none }
def RupSoundWrongFalsely : Prop := rupSoundRow.holds Tryd.pinned (OpenSpec.ofChange rupSoundWrong)

/-- 'lustrumlaw3.RupMore': WHATEVER THE INPUT: true; the input reads as it did. -/
def rupMoreSpec : ChangeSpec := { name := "rupMore", fn := fun _ => fun
  | [d1, d2, d3] => { results := [.lit (.bool true)], args := [d1, d2, d3] }
  | _ => none }
def rupMoreRow : OpenClaim := { program := "ytgchepkcjkhmmaadoor", sum := "48d34e51a92e6e935ed0ffee229a70ccc148dd73fe8b0e5f42356ea27ba8fcb2", func := "lustrum/lustrumlaw3.RupMore", spec := "rupMore", unfollowed := true, recurses := true, named := ["lustrum/api.ErrBound", "lustrum/api.ErrShape", "lustrum/api.ErrProof"], apart := false, laid := [("lustrum/api.ErrBound", laid_lustrum_api_ErrBound), ("lustrum/api.ErrShape", laid_lustrum_api_ErrShape), ("lustrum/api.ErrProof", laid_lustrum_api_ErrProof)] }
def RupMoreSaid : Prop := rupMoreRow.holds Tryd.pinned (OpenSpec.ofChange rupMoreSpec)

/-- ITS FALSE NEIGHBOUR: 'it returns false'. Refute it at one input. -/
def rupMoreWrong : ChangeSpec := { name := "rupMore", fn := fun _ => fun
  | [d1, d2, d3] => { results := [.lit (.bool false)], args := [d1, d2, d3] }
  | _ => none }
def RupMoreWrongFalsely : Prop := rupMoreRow.holds Tryd.pinned (OpenSpec.ofChange rupMoreWrong)

/- THE SECOND FORM. 'bulk': how many values and letters a reading holds, each counted each time it is reached (what is shared counts as often as it is met; a slice's spare places count too). A statement '..UptoSaid' is the law's where the arguments, and the package variables that the reading takes, are together of bulk at most 1048576: NARROWER than '..Said'. Prove '..Said' where nothing that the law and all that it calls make is longer than what came in: it says more and counts as full. Else prove '..UptoSaid'. A law counts once. -/
mutual
def uptoBulk {H : Type} : DataW H → Nat
  | .lit (.string bytes) => bytes.length + 1
  | .lit _ => 1
  | .nil => 1
  | .ptr d => uptoBulk d + 1
  | .slice elems spare => uptoBulkAll elems + uptoBulkAll spare + 1
  | .agg parts => uptoBulkAll parts + 1
  | .iface _ d => uptoBulk d + 1
  | .map entries => uptoBulkEntries entries + 1
  | .held _ => 1
def uptoBulkAll {H : Type} : List (DataW H) → Nat
  | [] => 0
  | d :: r => uptoBulk d + uptoBulkAll r
def uptoBulkEntries {H : Type} : List (Lit × DataW H) → Nat
  | [] => 0
  | x :: r => uptoBulkEntry x + uptoBulkEntries r
def uptoBulkEntry {H : Type} : Lit × DataW H → Nat
  | (.string bytes, d) => bytes.length + uptoBulk d + 1
  | (_, d) => uptoBulk d + 1
 end
def uptoSmall : (H : Type) → List (DataW H) → Bool := fun _ ds => decide (uptoBulkAll ds ≤ 1048576)
def OpenSpec.upto (s : _root_.Go.ChangeSpec) : _root_.Go.OpenSpec := { _root_.Go.OpenSpec.ofChange s with cond := some uptoSmall }

/-- 'lustrumlaw3.RupSound', WHERE WHAT IT READS IS OF BULK AT MOST 1048576: true; the input reads as it did. -/
def rupSoundUptoRow : OpenClaim := { program := "ytgchepkcjkhmmaadoor", sum := "48d34e51a92e6e935ed0ffee229a70ccc148dd73fe8b0e5f42356ea27ba8fcb2", func := "lustrum/lustrumlaw3.RupSound", spec := "rupSound", unfollowed := true, recurses := true, named := ["lustrum/api.ErrBound", "lustrum/api.ErrShape", "lustrum/api.ErrProof"], apart := false, laid := [("lustrum/api.ErrBound", laid_lustrum_api_ErrBound), ("lustrum/api.ErrShape", laid_lustrum_api_ErrShape), ("lustrum/api.ErrProof", laid_lustrum_api_ErrProof)], narrowed := true }
def RupSoundUptoSaid : Prop := rupSoundUptoRow.holds Tryd.pinned (OpenSpec.upto rupSoundSpec)

/-- 'lustrumlaw3.RupMore', WHERE WHAT IT READS IS OF BULK AT MOST 1048576: true; the input reads as it did. -/
def rupMoreUptoRow : OpenClaim := { program := "ytgchepkcjkhmmaadoor", sum := "48d34e51a92e6e935ed0ffee229a70ccc148dd73fe8b0e5f42356ea27ba8fcb2", func := "lustrum/lustrumlaw3.RupMore", spec := "rupMore", unfollowed := true, recurses := true, named := ["lustrum/api.ErrBound", "lustrum/api.ErrShape", "lustrum/api.ErrProof"], apart := false, laid := [("lustrum/api.ErrBound", laid_lustrum_api_ErrBound), ("lustrum/api.ErrShape", laid_lustrum_api_ErrShape), ("lustrum/api.ErrProof", laid_lustrum_api_ErrProof)], narrowed := true }
def RupMoreUptoSaid : Prop := rupMoreUptoRow.holds Tryd.pinned (OpenSpec.upto rupMoreSpec)

end Rows
end Go.Proofs.YtgchepkcjkhmmaaDoor
