/-
  NARROWER THAN 'FOR EVERY INPUT', by the rows' own cells (each row's printed sentence says how): CnfAlone: laid · FlowGates: laid · WordShapes: laid · WordApplies: laid · CnfOf: laid · CnfHolds: laid.
  DERIVED. THE GIVEN ROWS OF THIS SEAT. 6 by the template 'for every input the law returns true; each argument reads behind the call as it read before'; 0 by the template 'total and deterministic' (their statements: YtmbjhpgemphmmaaDoorTotals.lean).
  GIVEN WITH THE SEED: the statements are not yours to turn. If you find one false, say at which input.
  Laid BY PROGRAM, IN A SANDBOX (cutbox-rows.mjs): the forced cells as the released guide's own fill.sh prints them over the translation 4bc6136df0549c25… (all of the seat's roots in one cut). By AI agents, Wed Nov 11 2026. No macro, syntax, notation, axiom, sorry.
-/
import Derived.Test.YtmbjhpgemphmmaaDoorChecked
import GoSem.Claim
import GoSem.ClaimJoined
import GoSem.ClaimMapViews
import Derived.JoinedTies
import Derived.KernelRfl
namespace Go.Proofs.YtmbjhpgemphmmaaDoor
/- THE CELL 'sum', in the pinned program and in every row, IS THE sha256 OF THE DUMP (.gsa) THAT YtmbjhpgemphmmaaDoorProg.lean LOADS. Nothing in Lean hashes anything: it is a label: what it is worth is what the hold of that sum in a sandbox is worth. -/
noncomputable def Tryd.pinned : Pinned := { name := "ytmbjhpgemphmmaadoor", sum := "4bc6136df0549c2589f1cf4c84d43edbfce2fef8729e32afb251cdbf052f3fac", checked := Tryd.checked }
namespace Rows
def none {H : Type} : Left H := { results := [], args := [] }

/- WHAT THE LISTED PACKAGE-LEVEL VARIABLES READ AS WHEN THE CALL BEGINS. Each datum BY PROGRAM (the guide's laid-datum.mjs) off the statement by which the dump's own 'gosem.cut.vars' lays the variable. In a bare row this is a premise. The card (YtmbjhpgemphmmaaDoorCards.lean) ties it to the program's text. -/
def laid_math_bits_deBruijn32tab {H : Type} : DataW H := .agg [.lit (.int .u8 0), .lit (.int .u8 1), .lit (.int .u8 28), .lit (.int .u8 2), .lit (.int .u8 29), .lit (.int .u8 14), .lit (.int .u8 24), .lit (.int .u8 3), .lit (.int .u8 30), .lit (.int .u8 22), .lit (.int .u8 20), .lit (.int .u8 15), .lit (.int .u8 25), .lit (.int .u8 17), .lit (.int .u8 4), .lit (.int .u8 8), .lit (.int .u8 31), .lit (.int .u8 27), .lit (.int .u8 13), .lit (.int .u8 23), .lit (.int .u8 21), .lit (.int .u8 19), .lit (.int .u8 16), .lit (.int .u8 7), .lit (.int .u8 26), .lit (.int .u8 12), .lit (.int .u8 18), .lit (.int .u8 6), .lit (.int .u8 11), .lit (.int .u8 5), .lit (.int .u8 10), .lit (.int .u8 9)]
def laid_math_bits_deBruijn64tab {H : Type} : DataW H := .agg [.lit (.int .u8 0), .lit (.int .u8 1), .lit (.int .u8 56), .lit (.int .u8 2), .lit (.int .u8 57), .lit (.int .u8 49), .lit (.int .u8 28), .lit (.int .u8 3), .lit (.int .u8 61), .lit (.int .u8 58), .lit (.int .u8 42), .lit (.int .u8 50), .lit (.int .u8 38), .lit (.int .u8 29), .lit (.int .u8 17), .lit (.int .u8 4), .lit (.int .u8 62), .lit (.int .u8 47), .lit (.int .u8 59), .lit (.int .u8 36), .lit (.int .u8 45), .lit (.int .u8 43), .lit (.int .u8 51), .lit (.int .u8 22), .lit (.int .u8 53), .lit (.int .u8 39), .lit (.int .u8 33), .lit (.int .u8 30), .lit (.int .u8 24), .lit (.int .u8 18), .lit (.int .u8 12), .lit (.int .u8 5), .lit (.int .u8 63), .lit (.int .u8 55), .lit (.int .u8 48), .lit (.int .u8 27), .lit (.int .u8 60), .lit (.int .u8 41), .lit (.int .u8 37), .lit (.int .u8 16), .lit (.int .u8 46), .lit (.int .u8 35), .lit (.int .u8 44), .lit (.int .u8 21), .lit (.int .u8 52), .lit (.int .u8 32), .lit (.int .u8 23), .lit (.int .u8 11), .lit (.int .u8 54), .lit (.int .u8 26), .lit (.int .u8 40), .lit (.int .u8 15), .lit (.int .u8 34), .lit (.int .u8 20), .lit (.int .u8 31), .lit (.int .u8 10), .lit (.int .u8 25), .lit (.int .u8 14), .lit (.int .u8 19), .lit (.int .u8 9), .lit (.int .u8 13), .lit (.int .u8 8), .lit (.int .u8 7), .lit (.int .u8 6)]
def laid_internal_strconv_uint64pow10 {H : Type} : DataW H := .agg [.lit (.int .u64 1), .lit (.int .u64 10), .lit (.int .u64 100), .lit (.int .u64 1000), .lit (.int .u64 10000), .lit (.int .u64 100000), .lit (.int .u64 1000000), .lit (.int .u64 10000000), .lit (.int .u64 100000000), .lit (.int .u64 1000000000), .lit (.int .u64 10000000000), .lit (.int .u64 100000000000), .lit (.int .u64 1000000000000), .lit (.int .u64 10000000000000), .lit (.int .u64 100000000000000), .lit (.int .u64 1000000000000000), .lit (.int .u64 10000000000000000), .lit (.int .u64 100000000000000000), .lit (.int .u64 1000000000000000000), .lit (.int .u64 10000000000000000000)]
def laid_lustrum_api_ErrBound {H : Type} : DataW H := .iface "*errors.errorString" (.ptr (.agg [.lit (.string [108, 117, 115, 116, 114, 117, 109, 58, 32, 98, 111, 117, 110, 100])]))
def laid_lustrum_api_ErrShape {H : Type} : DataW H := .iface "*errors.errorString" (.ptr (.agg [.lit (.string [108, 117, 115, 116, 114, 117, 109, 58, 32, 115, 104, 97, 112, 101])]))
def laid_lustrum_api_ErrNone {H : Type} : DataW H := .iface "*errors.errorString" (.ptr (.agg [.lit (.string [108, 117, 115, 116, 114, 117, 109, 58, 32, 110, 111, 110, 101])]))
def laid_lustrum_api_ErrType {H : Type} : DataW H := .iface "*errors.errorString" (.ptr (.agg [.lit (.string [108, 117, 115, 116, 114, 117, 109, 58, 32, 116, 121, 112, 101])]))
def laid_lustrum_tree_levels {H : Type} : DataW H := .agg [.slice [.lit (.string [111, 114]), .lit (.string [120, 111, 114])] [], .slice [.lit (.string [97, 110, 100])] [], .slice [.lit (.string [61]), .lit (.string [60, 62]), .lit (.string [60]), .lit (.string [60, 61]), .lit (.string [62]), .lit (.string [62, 61]), .lit (.string [61, 62])] [], .slice [.lit (.string [43]), .lit (.string [45])] [], .slice [.lit (.string [42]), .lit (.string [47]), .lit (.string [109, 111, 100])] []]
def laid_errors_errorType {H : Type} : DataW H := .iface "internal/reflectlite.rtype" (.agg [.ptr (.lit (.string [101, 114, 114, 111, 114]))])
def laid_lustrum_api_ErrText {H : Type} : DataW H := .iface "*errors.errorString" (.ptr (.agg [.lit (.string [108, 117, 115, 116, 114, 117, 109, 58, 32, 116, 101, 120, 116])]))
def laid_lustrum_api_ErrName {H : Type} : DataW H := .iface "*errors.errorString" (.ptr (.agg [.lit (.string [108, 117, 115, 116, 114, 117, 109, 58, 32, 110, 97, 109, 101])]))
def laid_lustrum_api_ErrCycle {H : Type} : DataW H := .iface "*errors.errorString" (.ptr (.agg [.lit (.string [108, 117, 115, 116, 114, 117, 109, 58, 32, 99, 121, 99, 108, 101])]))
def laid_lustrum_api_ErrFirst {H : Type} : DataW H := .iface "*errors.errorString" (.ptr (.agg [.lit (.string [108, 117, 115, 116, 114, 117, 109, 58, 32, 102, 105, 114, 115, 116])]))
def laid_lustrum_api_ErrProof {H : Type} : DataW H := .iface "*errors.errorString" (.ptr (.agg [.lit (.string [108, 117, 115, 116, 114, 117, 109, 58, 32, 112, 114, 111, 111, 102])]))

/-- 'lustrumlaw3.CnfAlone': WHATEVER THE INPUT: true; the input reads as it did. -/
def cnfAloneSpec : ChangeSpec := { name := "cnfAlone", fn := fun _ => fun
  | [d1, d2] => { results := [.lit (.bool true)], args := [d1, d2] }
  | _ => none }
def cnfAloneRow : OpenClaim := { program := "ytmbjhpgemphmmaadoor", sum := "4bc6136df0549c2589f1cf4c84d43edbfce2fef8729e32afb251cdbf052f3fac", func := "lustrum/lustrumlaw3.CnfAlone", spec := "cnfAlone", inPlace := ["internal/abi.NoEscape"], unfollowed := true, recurses := true, named := ["lustrum/api.ErrBound", "lustrum/api.ErrShape", "internal/strconv.uint64pow10", "math/bits.deBruijn32tab", "math/bits.deBruijn64tab", "lustrum/api.ErrNone"], plainKeys := false, apart := false, laid := [("math/bits.deBruijn32tab", laid_math_bits_deBruijn32tab), ("math/bits.deBruijn64tab", laid_math_bits_deBruijn64tab), ("internal/strconv.uint64pow10", laid_internal_strconv_uint64pow10), ("lustrum/api.ErrBound", laid_lustrum_api_ErrBound), ("lustrum/api.ErrShape", laid_lustrum_api_ErrShape), ("lustrum/api.ErrNone", laid_lustrum_api_ErrNone)] }
def CnfAloneSaid : Prop := cnfAloneRow.holds Tryd.pinned (OpenSpec.ofChange cnfAloneSpec)

/-- ITS FALSE NEIGHBOUR: 'it returns false'. Refute it at one input. -/
def cnfAloneWrong : ChangeSpec := { name := "cnfAlone", fn := fun _ => fun
  | [d1, d2] => { results := [.lit (.bool false)], args := [d1, d2] }
  | _ => none }
def CnfAloneWrongFalsely : Prop := cnfAloneRow.holds Tryd.pinned (OpenSpec.ofChange cnfAloneWrong)

/-- 'lustrumlaw3.FlowGates': WHATEVER THE INPUT: true; the input reads as it did. -/
def flowGatesSpec : ChangeSpec := { name := "flowGates", fn := fun _ => fun
  | [d1, d2, d3] => { results := [.lit (.bool true)], args := [d1, d2, d3] }
  | _ => none }
def flowGatesRow : OpenClaim := { program := "ytmbjhpgemphmmaadoor", sum := "4bc6136df0549c2589f1cf4c84d43edbfce2fef8729e32afb251cdbf052f3fac", func := "lustrum/lustrumlaw3.FlowGates", spec := "flowGates", unfollowed := true, recurses := true, named := ["lustrum/api.ErrBound", "lustrum/api.ErrShape", "lustrum/api.ErrType", "lustrum/tree.levels"], plainKeys := false, apart := false, laid := [("lustrum/api.ErrBound", laid_lustrum_api_ErrBound), ("lustrum/api.ErrShape", laid_lustrum_api_ErrShape), ("lustrum/api.ErrType", laid_lustrum_api_ErrType), ("lustrum/tree.levels", laid_lustrum_tree_levels)] }
def FlowGatesSaid : Prop := flowGatesRow.holds Tryd.pinned (OpenSpec.ofChange flowGatesSpec)

/-- ITS FALSE NEIGHBOUR: 'it returns false'. Refute it at one input. -/
def flowGatesWrong : ChangeSpec := { name := "flowGates", fn := fun _ => fun
  | [d1, d2, d3] => { results := [.lit (.bool false)], args := [d1, d2, d3] }
  | _ => none }
def FlowGatesWrongFalsely : Prop := flowGatesRow.holds Tryd.pinned (OpenSpec.ofChange flowGatesWrong)

/-- 'lustrumlaw3.WordShapes': WHATEVER THE INPUT: true; the input reads as it did. -/
def wordShapesSpec : ChangeSpec := { name := "wordShapes", fn := fun _ => fun
  | [d1, d2] => { results := [.lit (.bool true)], args := [d1, d2] }
  | _ => none }
def wordShapesRow : OpenClaim := { program := "ytmbjhpgemphmmaadoor", sum := "4bc6136df0549c2589f1cf4c84d43edbfce2fef8729e32afb251cdbf052f3fac", func := "lustrum/lustrumlaw3.WordShapes", spec := "wordShapes", inPlace := ["internal/reflectlite.ValueOf", "(internal/reflectlite.Value).Type", "(internal/reflectlite.Value).IsNil", "internal/reflectlite.TypeOf", "(internal/reflectlite.Value).Elem", "(internal/reflectlite.Value).Set"], unfollowed := true, recurses := true, named := ["lustrum/api.ErrBound", "lustrum/api.ErrShape", "lustrum/tree.levels", "lustrum/api.ErrText", "lustrum/api.ErrName", "lustrum/api.ErrType", "lustrum/api.ErrCycle", "lustrum/api.ErrFirst", "lustrum/api.ErrProof", "lustrum/api.ErrNone", "errors.errorType"], plainKeys := false, apart := false, laid := [("errors.errorType", laid_errors_errorType), ("lustrum/api.ErrText", laid_lustrum_api_ErrText), ("lustrum/api.ErrBound", laid_lustrum_api_ErrBound), ("lustrum/api.ErrShape", laid_lustrum_api_ErrShape), ("lustrum/api.ErrName", laid_lustrum_api_ErrName), ("lustrum/api.ErrType", laid_lustrum_api_ErrType), ("lustrum/api.ErrCycle", laid_lustrum_api_ErrCycle), ("lustrum/api.ErrFirst", laid_lustrum_api_ErrFirst), ("lustrum/api.ErrProof", laid_lustrum_api_ErrProof), ("lustrum/api.ErrNone", laid_lustrum_api_ErrNone), ("lustrum/tree.levels", laid_lustrum_tree_levels)] }
def WordShapesSaid : Prop := wordShapesRow.holds Tryd.pinned (OpenSpec.ofChange wordShapesSpec)

/-- ITS FALSE NEIGHBOUR: 'it returns false'. Refute it at one input. -/
def wordShapesWrong : ChangeSpec := { name := "wordShapes", fn := fun _ => fun
  | [d1, d2] => { results := [.lit (.bool false)], args := [d1, d2] }
  | _ => none }
def WordShapesWrongFalsely : Prop := wordShapesRow.holds Tryd.pinned (OpenSpec.ofChange wordShapesWrong)

/-- 'lustrumlaw3.WordApplies': WHATEVER THE INPUT: true; the input reads as it did. -/
def wordAppliesSpec : ChangeSpec := { name := "wordApplies", fn := fun _ => fun
  | [d1, d2] => { results := [.lit (.bool true)], args := [d1, d2] }
  | _ => none }
def wordAppliesRow : OpenClaim := { program := "ytmbjhpgemphmmaadoor", sum := "4bc6136df0549c2589f1cf4c84d43edbfce2fef8729e32afb251cdbf052f3fac", func := "lustrum/lustrumlaw3.WordApplies", spec := "wordApplies", inPlace := ["internal/reflectlite.ValueOf", "(internal/reflectlite.Value).Type", "(internal/reflectlite.Value).IsNil", "internal/reflectlite.TypeOf", "(internal/reflectlite.Value).Elem", "(internal/reflectlite.Value).Set"], unfollowed := true, recurses := true, named := ["lustrum/api.ErrBound", "lustrum/api.ErrType", "lustrum/api.ErrShape", "lustrum/tree.levels", "lustrum/api.ErrText", "lustrum/api.ErrName", "lustrum/api.ErrCycle", "lustrum/api.ErrFirst", "lustrum/api.ErrProof", "lustrum/api.ErrNone", "errors.errorType"], plainKeys := false, apart := false, laid := [("errors.errorType", laid_errors_errorType), ("lustrum/api.ErrText", laid_lustrum_api_ErrText), ("lustrum/api.ErrBound", laid_lustrum_api_ErrBound), ("lustrum/api.ErrShape", laid_lustrum_api_ErrShape), ("lustrum/api.ErrName", laid_lustrum_api_ErrName), ("lustrum/api.ErrType", laid_lustrum_api_ErrType), ("lustrum/api.ErrCycle", laid_lustrum_api_ErrCycle), ("lustrum/api.ErrFirst", laid_lustrum_api_ErrFirst), ("lustrum/api.ErrProof", laid_lustrum_api_ErrProof), ("lustrum/api.ErrNone", laid_lustrum_api_ErrNone), ("lustrum/tree.levels", laid_lustrum_tree_levels)] }
def WordAppliesSaid : Prop := wordAppliesRow.holds Tryd.pinned (OpenSpec.ofChange wordAppliesSpec)

/-- ITS FALSE NEIGHBOUR: 'it returns false'. Refute it at one input. -/
def wordAppliesWrong : ChangeSpec := { name := "wordApplies", fn := fun _ => fun
  | [d1, d2] => { results := [.lit (.bool false)], args := [d1, d2] }
  | _ => none }
def WordAppliesWrongFalsely : Prop := wordAppliesRow.holds Tryd.pinned (OpenSpec.ofChange wordAppliesWrong)

/-- 'lustrumlaw3.CnfOf': WHATEVER THE INPUT: true; the input reads as it did. -/
def cnfOfSpec : ChangeSpec := { name := "cnfOf", fn := fun _ => fun
  | [d1, d2] => { results := [.lit (.bool true)], args := [d1, d2] }
  | _ => none }
def cnfOfRow : OpenClaim := { program := "ytmbjhpgemphmmaadoor", sum := "4bc6136df0549c2589f1cf4c84d43edbfce2fef8729e32afb251cdbf052f3fac", func := "lustrum/lustrumlaw3.CnfOf", spec := "cnfOf", inPlace := ["internal/abi.NoEscape", "internal/reflectlite.ValueOf", "(internal/reflectlite.Value).Type", "(internal/reflectlite.Value).IsNil", "internal/reflectlite.TypeOf", "(internal/reflectlite.Value).Elem", "(internal/reflectlite.Value).Set"], unfollowed := true, recurses := true, named := ["lustrum/api.ErrBound", "lustrum/api.ErrShape", "internal/strconv.uint64pow10", "math/bits.deBruijn32tab", "math/bits.deBruijn64tab", "lustrum/api.ErrText", "lustrum/api.ErrName", "lustrum/api.ErrType", "lustrum/api.ErrCycle", "lustrum/api.ErrFirst", "lustrum/api.ErrProof", "lustrum/api.ErrNone", "errors.errorType"], plainKeys := false, apart := false, laid := [("math/bits.deBruijn32tab", laid_math_bits_deBruijn32tab), ("math/bits.deBruijn64tab", laid_math_bits_deBruijn64tab), ("internal/strconv.uint64pow10", laid_internal_strconv_uint64pow10), ("errors.errorType", laid_errors_errorType), ("lustrum/api.ErrText", laid_lustrum_api_ErrText), ("lustrum/api.ErrBound", laid_lustrum_api_ErrBound), ("lustrum/api.ErrShape", laid_lustrum_api_ErrShape), ("lustrum/api.ErrName", laid_lustrum_api_ErrName), ("lustrum/api.ErrType", laid_lustrum_api_ErrType), ("lustrum/api.ErrCycle", laid_lustrum_api_ErrCycle), ("lustrum/api.ErrFirst", laid_lustrum_api_ErrFirst), ("lustrum/api.ErrProof", laid_lustrum_api_ErrProof), ("lustrum/api.ErrNone", laid_lustrum_api_ErrNone)] }
def CnfOfSaid : Prop := cnfOfRow.holds Tryd.pinned (OpenSpec.ofChange cnfOfSpec)

/-- ITS FALSE NEIGHBOUR: 'it returns false'. Refute it at one input. -/
def cnfOfWrong : ChangeSpec := { name := "cnfOf", fn := fun _ => fun
  | [d1, d2] => { results := [.lit (.bool false)], args := [d1, d2] }
  | _ => none }
def CnfOfWrongFalsely : Prop := cnfOfRow.holds Tryd.pinned (OpenSpec.ofChange cnfOfWrong)

/-- 'lustrumlaw3.CnfHolds': WHATEVER THE INPUT: true; the input reads as it did. -/
def cnfHoldsSpec : ChangeSpec := { name := "cnfHolds", fn := fun _ => fun
  | [d1, d2, d3] => { results := [.lit (.bool true)], args := [d1, d2, d3] }
  | _ => none }
def cnfHoldsRow : OpenClaim := { program := "ytmbjhpgemphmmaadoor", sum := "4bc6136df0549c2589f1cf4c84d43edbfce2fef8729e32afb251cdbf052f3fac", func := "lustrum/lustrumlaw3.CnfHolds", spec := "cnfHolds", inPlace := ["internal/abi.NoEscape", "internal/reflectlite.ValueOf", "(internal/reflectlite.Value).Type", "(internal/reflectlite.Value).IsNil", "internal/reflectlite.TypeOf", "(internal/reflectlite.Value).Elem", "(internal/reflectlite.Value).Set"], unfollowed := true, recurses := true, named := ["lustrum/api.ErrBound", "lustrum/api.ErrShape", "internal/strconv.uint64pow10", "math/bits.deBruijn32tab", "math/bits.deBruijn64tab", "lustrum/api.ErrText", "lustrum/api.ErrName", "lustrum/api.ErrType", "lustrum/api.ErrCycle", "lustrum/api.ErrFirst", "lustrum/api.ErrProof", "lustrum/api.ErrNone", "errors.errorType"], plainKeys := false, apart := false, laid := [("math/bits.deBruijn32tab", laid_math_bits_deBruijn32tab), ("math/bits.deBruijn64tab", laid_math_bits_deBruijn64tab), ("internal/strconv.uint64pow10", laid_internal_strconv_uint64pow10), ("errors.errorType", laid_errors_errorType), ("lustrum/api.ErrText", laid_lustrum_api_ErrText), ("lustrum/api.ErrBound", laid_lustrum_api_ErrBound), ("lustrum/api.ErrShape", laid_lustrum_api_ErrShape), ("lustrum/api.ErrName", laid_lustrum_api_ErrName), ("lustrum/api.ErrType", laid_lustrum_api_ErrType), ("lustrum/api.ErrCycle", laid_lustrum_api_ErrCycle), ("lustrum/api.ErrFirst", laid_lustrum_api_ErrFirst), ("lustrum/api.ErrProof", laid_lustrum_api_ErrProof), ("lustrum/api.ErrNone", laid_lustrum_api_ErrNone)] }
def CnfHoldsSaid : Prop := cnfHoldsRow.holds Tryd.pinned (OpenSpec.ofChange cnfHoldsSpec)

/-- ITS FALSE NEIGHBOUR: 'it returns false'. Refute it at one input. -/
def cnfHoldsWrong : ChangeSpec := { name := "cnfHolds", fn := fun _ => fun
  | [d1, d2, d3] => { results := [.lit (.bool false)], args := [d1, d2, d3] }
  | _ => none }
def CnfHoldsWrongFalsely : Prop := cnfHoldsRow.holds Tryd.pinned (OpenSpec.ofChange cnfHoldsWrong)

/- THE SECOND FORM. 'bulk': how many values and letters a reading holds, each counted each time it is reached (what is shared counts as often as it is met; a slice's spare places count too). A statement '..UptoSaid' is the law's where the arguments, and the package variables that the reading takes, are together of bulk at most 1048576: NARROWER than '..Said'. Prove '..Said' where nothing that the law and all that it calls make is longer than what came in: it says more and counts as full. Else prove '..UptoSaid'. A law counts once. -/
mutual
def uptoBulk {H : Type} : DataW H → Nat
  | .lit (.string bytes) => bytes.length + 1
  | .lit _ => 1
  | .nil => 1
  | .ptr d => uptoBulk d + 1
  | .slice elems spare => uptoBulkAll elems + uptoBulkAll spare + 1
  | .agg parts => uptoBulkAll parts + 1
  | .iface _ d => uptoBulk d + 1
  | .map entries => uptoBulkEntries entries + 1
  | .held _ => 1
def uptoBulkAll {H : Type} : List (DataW H) → Nat
  | [] => 0
  | d :: r => uptoBulk d + uptoBulkAll r
def uptoBulkEntries {H : Type} : List (Lit × DataW H) → Nat
  | [] => 0
  | x :: r => uptoBulkEntry x + uptoBulkEntries r
def uptoBulkEntry {H : Type} : Lit × DataW H → Nat
  | (.string bytes, d) => bytes.length + uptoBulk d + 1
  | (_, d) => uptoBulk d + 1
 end
def uptoSmall : (H : Type) → List (DataW H) → Bool := fun _ ds => decide (uptoBulkAll ds ≤ 1048576)
def OpenSpec.upto (s : _root_.Go.ChangeSpec) : _root_.Go.OpenSpec := { _root_.Go.OpenSpec.ofChange s with cond := some uptoSmall }

/-- 'lustrumlaw3.CnfAlone', WHERE WHAT IT READS IS OF BULK AT MOST 1048576: true; the input reads as it did. -/
def cnfAloneUptoRow : OpenClaim := { program := "ytmbjhpgemphmmaadoor", sum := "4bc6136df0549c2589f1cf4c84d43edbfce2fef8729e32afb251cdbf052f3fac", func := "lustrum/lustrumlaw3.CnfAlone", spec := "cnfAlone", inPlace := ["internal/abi.NoEscape"], unfollowed := true, recurses := true, named := ["lustrum/api.ErrBound", "lustrum/api.ErrShape", "internal/strconv.uint64pow10", "math/bits.deBruijn32tab", "math/bits.deBruijn64tab", "lustrum/api.ErrNone"], plainKeys := false, apart := false, laid := [("math/bits.deBruijn32tab", laid_math_bits_deBruijn32tab), ("math/bits.deBruijn64tab", laid_math_bits_deBruijn64tab), ("internal/strconv.uint64pow10", laid_internal_strconv_uint64pow10), ("lustrum/api.ErrBound", laid_lustrum_api_ErrBound), ("lustrum/api.ErrShape", laid_lustrum_api_ErrShape), ("lustrum/api.ErrNone", laid_lustrum_api_ErrNone)], narrowed := true }
def CnfAloneUptoSaid : Prop := cnfAloneUptoRow.holds Tryd.pinned (OpenSpec.upto cnfAloneSpec)

/-- 'lustrumlaw3.FlowGates', WHERE WHAT IT READS IS OF BULK AT MOST 1048576: true; the input reads as it did. -/
def flowGatesUptoRow : OpenClaim := { program := "ytmbjhpgemphmmaadoor", sum := "4bc6136df0549c2589f1cf4c84d43edbfce2fef8729e32afb251cdbf052f3fac", func := "lustrum/lustrumlaw3.FlowGates", spec := "flowGates", unfollowed := true, recurses := true, named := ["lustrum/api.ErrBound", "lustrum/api.ErrShape", "lustrum/api.ErrType", "lustrum/tree.levels"], plainKeys := false, apart := false, laid := [("lustrum/api.ErrBound", laid_lustrum_api_ErrBound), ("lustrum/api.ErrShape", laid_lustrum_api_ErrShape), ("lustrum/api.ErrType", laid_lustrum_api_ErrType), ("lustrum/tree.levels", laid_lustrum_tree_levels)], narrowed := true }
def FlowGatesUptoSaid : Prop := flowGatesUptoRow.holds Tryd.pinned (OpenSpec.upto flowGatesSpec)

/-- 'lustrumlaw3.WordShapes', WHERE WHAT IT READS IS OF BULK AT MOST 1048576: true; the input reads as it did. -/
def wordShapesUptoRow : OpenClaim := { program := "ytmbjhpgemphmmaadoor", sum := "4bc6136df0549c2589f1cf4c84d43edbfce2fef8729e32afb251cdbf052f3fac", func := "lustrum/lustrumlaw3.WordShapes", spec := "wordShapes", inPlace := ["internal/reflectlite.ValueOf", "(internal/reflectlite.Value).Type", "(internal/reflectlite.Value).IsNil", "internal/reflectlite.TypeOf", "(internal/reflectlite.Value).Elem", "(internal/reflectlite.Value).Set"], unfollowed := true, recurses := true, named := ["lustrum/api.ErrBound", "lustrum/api.ErrShape", "lustrum/tree.levels", "lustrum/api.ErrText", "lustrum/api.ErrName", "lustrum/api.ErrType", "lustrum/api.ErrCycle", "lustrum/api.ErrFirst", "lustrum/api.ErrProof", "lustrum/api.ErrNone", "errors.errorType"], plainKeys := false, apart := false, laid := [("errors.errorType", laid_errors_errorType), ("lustrum/api.ErrText", laid_lustrum_api_ErrText), ("lustrum/api.ErrBound", laid_lustrum_api_ErrBound), ("lustrum/api.ErrShape", laid_lustrum_api_ErrShape), ("lustrum/api.ErrName", laid_lustrum_api_ErrName), ("lustrum/api.ErrType", laid_lustrum_api_ErrType), ("lustrum/api.ErrCycle", laid_lustrum_api_ErrCycle), ("lustrum/api.ErrFirst", laid_lustrum_api_ErrFirst), ("lustrum/api.ErrProof", laid_lustrum_api_ErrProof), ("lustrum/api.ErrNone", laid_lustrum_api_ErrNone), ("lustrum/tree.levels", laid_lustrum_tree_levels)], narrowed := true }
def WordShapesUptoSaid : Prop := wordShapesUptoRow.holds Tryd.pinned (OpenSpec.upto wordShapesSpec)

/-- 'lustrumlaw3.WordApplies', WHERE WHAT IT READS IS OF BULK AT MOST 1048576: true; the input reads as it did. -/
def wordAppliesUptoRow : OpenClaim := { program := "ytmbjhpgemphmmaadoor", sum := "4bc6136df0549c2589f1cf4c84d43edbfce2fef8729e32afb251cdbf052f3fac", func := "lustrum/lustrumlaw3.WordApplies", spec := "wordApplies", inPlace := ["internal/reflectlite.ValueOf", "(internal/reflectlite.Value).Type", "(internal/reflectlite.Value).IsNil", "internal/reflectlite.TypeOf", "(internal/reflectlite.Value).Elem", "(internal/reflectlite.Value).Set"], unfollowed := true, recurses := true, named := ["lustrum/api.ErrBound", "lustrum/api.ErrType", "lustrum/api.ErrShape", "lustrum/tree.levels", "lustrum/api.ErrText", "lustrum/api.ErrName", "lustrum/api.ErrCycle", "lustrum/api.ErrFirst", "lustrum/api.ErrProof", "lustrum/api.ErrNone", "errors.errorType"], plainKeys := false, apart := false, laid := [("errors.errorType", laid_errors_errorType), ("lustrum/api.ErrText", laid_lustrum_api_ErrText), ("lustrum/api.ErrBound", laid_lustrum_api_ErrBound), ("lustrum/api.ErrShape", laid_lustrum_api_ErrShape), ("lustrum/api.ErrName", laid_lustrum_api_ErrName), ("lustrum/api.ErrType", laid_lustrum_api_ErrType), ("lustrum/api.ErrCycle", laid_lustrum_api_ErrCycle), ("lustrum/api.ErrFirst", laid_lustrum_api_ErrFirst), ("lustrum/api.ErrProof", laid_lustrum_api_ErrProof), ("lustrum/api.ErrNone", laid_lustrum_api_ErrNone), ("lustrum/tree.levels", laid_lustrum_tree_levels)], narrowed := true }
def WordAppliesUptoSaid : Prop := wordAppliesUptoRow.holds Tryd.pinned (OpenSpec.upto wordAppliesSpec)

/-- 'lustrumlaw3.CnfOf', WHERE WHAT IT READS IS OF BULK AT MOST 1048576: true; the input reads as it did. -/
def cnfOfUptoRow : OpenClaim := { program := "ytmbjhpgemphmmaadoor", sum := "4bc6136df0549c2589f1cf4c84d43edbfce2fef8729e32afb251cdbf052f3fac", func := "lustrum/lustrumlaw3.CnfOf", spec := "cnfOf", inPlace := ["internal/abi.NoEscape", "internal/reflectlite.ValueOf", "(internal/reflectlite.Value).Type", "(internal/reflectlite.Value).IsNil", "internal/reflectlite.TypeOf", "(internal/reflectlite.Value).Elem", "(internal/reflectlite.Value).Set"], unfollowed := true, recurses := true, named := ["lustrum/api.ErrBound", "lustrum/api.ErrShape", "internal/strconv.uint64pow10", "math/bits.deBruijn32tab", "math/bits.deBruijn64tab", "lustrum/api.ErrText", "lustrum/api.ErrName", "lustrum/api.ErrType", "lustrum/api.ErrCycle", "lustrum/api.ErrFirst", "lustrum/api.ErrProof", "lustrum/api.ErrNone", "errors.errorType"], plainKeys := false, apart := false, laid := [("math/bits.deBruijn32tab", laid_math_bits_deBruijn32tab), ("math/bits.deBruijn64tab", laid_math_bits_deBruijn64tab), ("internal/strconv.uint64pow10", laid_internal_strconv_uint64pow10), ("errors.errorType", laid_errors_errorType), ("lustrum/api.ErrText", laid_lustrum_api_ErrText), ("lustrum/api.ErrBound", laid_lustrum_api_ErrBound), ("lustrum/api.ErrShape", laid_lustrum_api_ErrShape), ("lustrum/api.ErrName", laid_lustrum_api_ErrName), ("lustrum/api.ErrType", laid_lustrum_api_ErrType), ("lustrum/api.ErrCycle", laid_lustrum_api_ErrCycle), ("lustrum/api.ErrFirst", laid_lustrum_api_ErrFirst), ("lustrum/api.ErrProof", laid_lustrum_api_ErrProof), ("lustrum/api.ErrNone", laid_lustrum_api_ErrNone)], narrowed := true }
def CnfOfUptoSaid : Prop := cnfOfUptoRow.holds Tryd.pinned (OpenSpec.upto cnfOfSpec)

/-- 'lustrumlaw3.CnfHolds', WHERE WHAT IT READS IS OF BULK AT MOST 1048576: true; the input reads as it did. -/
def cnfHoldsUptoRow : OpenClaim := { program := "ytmbjhpgemphmmaadoor", sum := "4bc6136df0549c2589f1cf4c84d43edbfce2fef8729e32afb251cdbf052f3fac", func := "lustrum/lustrumlaw3.CnfHolds", spec := "cnfHolds", inPlace := ["internal/abi.NoEscape", "internal/reflectlite.ValueOf", "(internal/reflectlite.Value).Type", "(internal/reflectlite.Value).IsNil", "internal/reflectlite.TypeOf", "(internal/reflectlite.Value).Elem", "(internal/reflectlite.Value).Set"], unfollowed := true, recurses := true, named := ["lustrum/api.ErrBound", "lustrum/api.ErrShape", "internal/strconv.uint64pow10", "math/bits.deBruijn32tab", "math/bits.deBruijn64tab", "lustrum/api.ErrText", "lustrum/api.ErrName", "lustrum/api.ErrType", "lustrum/api.ErrCycle", "lustrum/api.ErrFirst", "lustrum/api.ErrProof", "lustrum/api.ErrNone", "errors.errorType"], plainKeys := false, apart := false, laid := [("math/bits.deBruijn32tab", laid_math_bits_deBruijn32tab), ("math/bits.deBruijn64tab", laid_math_bits_deBruijn64tab), ("internal/strconv.uint64pow10", laid_internal_strconv_uint64pow10), ("errors.errorType", laid_errors_errorType), ("lustrum/api.ErrText", laid_lustrum_api_ErrText), ("lustrum/api.ErrBound", laid_lustrum_api_ErrBound), ("lustrum/api.ErrShape", laid_lustrum_api_ErrShape), ("lustrum/api.ErrName", laid_lustrum_api_ErrName), ("lustrum/api.ErrType", laid_lustrum_api_ErrType), ("lustrum/api.ErrCycle", laid_lustrum_api_ErrCycle), ("lustrum/api.ErrFirst", laid_lustrum_api_ErrFirst), ("lustrum/api.ErrProof", laid_lustrum_api_ErrProof), ("lustrum/api.ErrNone", laid_lustrum_api_ErrNone)], narrowed := true }
def CnfHoldsUptoSaid : Prop := cnfHoldsUptoRow.holds Tryd.pinned (OpenSpec.upto cnfHoldsSpec)

end Rows
end Go.Proofs.YtmbjhpgemphmmaaDoor
