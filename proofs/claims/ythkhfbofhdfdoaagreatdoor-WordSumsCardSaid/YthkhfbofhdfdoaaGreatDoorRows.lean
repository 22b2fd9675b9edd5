/-
  NARROWER THAN 'FOR EVERY INPUT', by the rows' own cells (each row's printed sentence says how): WordSums: laid.
  DERIVED. THE GIVEN ROWS OF THIS SEAT. 1 by the template 'for every input the law returns true; each argument reads behind the call as it read before'; 0 by the template 'total and deterministic' (their statements: YthkhfbofhdfdoaaGreatDoorTotals.lean).
  GIVEN WITH THE SEED: the statements are not yours to turn. If you find one false, say at which input.
  Laid BY PROGRAM, IN A SANDBOX (cutbox-rows.mjs): the forced cells as the released guide's own fill.sh prints them over the translation 82a498121e3ddc29… (all of the seat's roots in one cut). By AI agents, Wed Nov 11 2026. No macro, syntax, notation, axiom, sorry.
-/
import Derived.Test.YthkhfbofhdfdoaaGreatDoorChecked
import GoSem.Claim
import GoSem.ClaimJoined
import GoSem.ClaimMapViews
import Derived.JoinedTies
import Derived.KernelRfl
namespace Go.Proofs.YthkhfbofhdfdoaaGreatDoor
/- THE CELL 'sum', in the pinned program and in every row, IS THE sha256 OF THE DUMP (.gsa) THAT YthkhfbofhdfdoaaGreatDoorProg.lean LOADS. Nothing in Lean hashes anything: it is a label: what it is worth is what the hold of that sum in a sandbox is worth. -/
noncomputable def Tryz.pinned : Pinned := { name := "ythkhfbofhdfdoaagreatdoor", sum := "82a498121e3ddc2941bd1ee41d868073b5329d7e9df1dfda12a62e07cf70bb36", checked := Tryz.checked }
namespace Rows
def none {H : Type} : Left H := { results := [], args := [] }

/- WHAT THE LISTED PACKAGE-LEVEL VARIABLES READ AS WHEN THE CALL BEGINS. Each datum BY PROGRAM (the guide's laid-datum.mjs) off the statement by which the dump's own 'gosem.cut.vars' lays the variable. In a bare row this is a premise. The card (YthkhfbofhdfdoaaGreatDoorCards.lean) ties it to the program's text. -/
def laid_lustrum_api_ErrBound {H : Type} : DataW H := .iface "*errors.errorString" (.ptr (.agg [.lit (.string [108, 117, 115, 116, 114, 117, 109, 58, 32, 98, 111, 117, 110, 100])]))
def laid_lustrum_api_ErrShape {H : Type} : DataW H := .iface "*errors.errorString" (.ptr (.agg [.lit (.string [108, 117, 115, 116, 114, 117, 109, 58, 32, 115, 104, 97, 112, 101])]))
def laid_lustrum_api_ErrProof {H : Type} : DataW H := .iface "*errors.errorString" (.ptr (.agg [.lit (.string [108, 117, 115, 116, 114, 117, 109, 58, 32, 112, 114, 111, 111, 102])]))
def laid_lustrum_api_ErrNone {H : Type} : DataW H := .iface "*errors.errorString" (.ptr (.agg [.lit (.string [108, 117, 115, 116, 114, 117, 109, 58, 32, 110, 111, 110, 101])]))
def laid_lustrum_tree_levels {H : Type} : DataW H := .agg [.slice [.lit (.string [111, 114]), .lit (.string [120, 111, 114])] [], .slice [.lit (.string [97, 110, 100])] [], .slice [.lit (.string [61]), .lit (.string [60, 62]), .lit (.string [60]), .lit (.string [60, 61]), .lit (.string [62]), .lit (.string [62, 61]), .lit (.string [61, 62])] [], .slice [.lit (.string [43]), .lit (.string [45])] [], .slice [.lit (.string [42]), .lit (.string [47]), .lit (.string [109, 111, 100])] []]

/-- 'lustrumlaw3.WordSums': WHATEVER THE INPUT: true; the input reads as it did. -/
def wordSumsSpec : ChangeSpec := { name := "wordSums", fn := fun _ => fun
  | [d1, d2] => { results := [.lit (.bool true)], args := [d1, d2] }
  | _ => none }
def wordSumsRow : OpenClaim := { program := "ythkhfbofhdfdoaagreatdoor", sum := "82a498121e3ddc2941bd1ee41d868073b5329d7e9df1dfda12a62e07cf70bb36", func := "lustrum/lustrumlaw3.WordSums", spec := "wordSums", unfollowed := true, recurses := true, named := ["lustrum/api.ErrBound", "lustrum/api.ErrShape", "lustrum/tree.levels", "lustrum/api.ErrNone", "lustrum/api.ErrProof"], plainKeys := false, apart := false, laid := [("lustrum/api.ErrBound", laid_lustrum_api_ErrBound), ("lustrum/api.ErrShape", laid_lustrum_api_ErrShape), ("lustrum/api.ErrProof", laid_lustrum_api_ErrProof), ("lustrum/api.ErrNone", laid_lustrum_api_ErrNone), ("lustrum/tree.levels", laid_lustrum_tree_levels)] }
def WordSumsSaid : Prop := wordSumsRow.holds Tryz.pinned (OpenSpec.ofChange wordSumsSpec)

/-- ITS FALSE NEIGHBOUR: 'it returns false'. Refute it at one input. -/
def wordSumsWrong : ChangeSpec := { name := "wordSums", fn := fun _ => fun
  | [d1, d2] => { results := [.lit (.bool false)], args := [d1, d2] }
  | _ => none }
def WordSumsWrongFalsely : Prop := wordSumsRow.holds Tryz.pinned (OpenSpec.ofChange wordSumsWrong)

/- THE SECOND FORM. 'bulk': how many values and letters a reading holds, each counted each time it is reached (what is shared counts as often as it is met; a slice's spare places count too). A statement '..UptoSaid' is the law's where the arguments, and the package variables that the reading takes, are together of bulk at most 1048576: NARROWER than '..Said'. Prove '..Said' where nothing that the law and all that it calls make is longer than what came in: it says more and counts as full. Else prove '..UptoSaid'. A law counts once. -/
mutual
def uptoBulk {H : Type} : DataW H → Nat
  | .lit (.string bytes) => bytes.length + 1
  | .lit _ => 1
  | .nil => 1
  | .ptr d => uptoBulk d + 1
  | .slice elems spare => uptoBulkAll elems + uptoBulkAll spare + 1
  | .agg parts => uptoBulkAll parts + 1
  | .iface _ d => uptoBulk d + 1
  | .map entries => uptoBulkEntries entries + 1
  | .held _ => 1
def uptoBulkAll {H : Type} : List (DataW H) → Nat
  | [] => 0
  | d :: r => uptoBulk d + uptoBulkAll r
def uptoBulkEntries {H : Type} : List (Lit × DataW H) → Nat
  | [] => 0
  | x :: r => uptoBulkEntry x + uptoBulkEntries r
def uptoBulkEntry {H : Type} : Lit × DataW H → Nat
  | (.string bytes, d) => bytes.length + uptoBulk d + 1
  | (_, d) => uptoBulk d + 1
 end
def uptoSmall : (H : Type) → List (DataW H) → Bool := fun _ ds => decide (uptoBulkAll ds ≤ 1048576)
def OpenSpec.upto (s : _root_.Go.ChangeSpec) : _root_.Go.OpenSpec := { _root_.Go.OpenSpec.ofChange s with cond := some uptoSmall }

/-- 'lustrumlaw3.WordSums', WHERE WHAT IT READS IS OF BULK AT MOST 1048576: true; the input reads as it did. -/
def wordSumsUptoRow : OpenClaim := { program := "ythkhfbofhdfdoaagreatdoor", sum := "82a498121e3ddc2941bd1ee41d868073b5329d7e9df1dfda12a62e07cf70bb36", func := "lustrum/lustrumlaw3.WordSums", spec := "wordSums", unfollowed := true, recurses := true, named := ["lustrum/api.ErrBound", "lustrum/api.ErrShape", "lustrum/tree.levels", "lustrum/api.ErrNone", "lustrum/api.ErrProof"], plainKeys := false, apart := false, laid := [("lustrum/api.ErrBound", laid_lustrum_api_ErrBound), ("lustrum/api.ErrShape", laid_lustrum_api_ErrShape), ("lustrum/api.ErrProof", laid_lustrum_api_ErrProof), ("lustrum/api.ErrNone", laid_lustrum_api_ErrNone), ("lustrum/tree.levels", laid_lustrum_tree_levels)], narrowed := true }
def WordSumsUptoSaid : Prop := wordSumsUptoRow.holds Tryz.pinned (OpenSpec.upto wordSumsSpec)

end Rows
end Go.Proofs.YthkhfbofhdfdoaaGreatDoor
