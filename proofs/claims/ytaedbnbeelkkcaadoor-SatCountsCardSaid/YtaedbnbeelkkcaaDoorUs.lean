/-
  A CHECKER IN MEMORY; walks of (*checker).of, (*checker).set.
-/
import Derived.Test.YtaedbnbeelkkcaaDoorProg
import Derived.Test.YtaedbnbeelkkcaaDoorLp
import Derived.Test.YtaedbnbeelkkcaaDoorRm
import Derived.Test.YtaedbnbeelkkcaaDoorUc
import Derived.Deep.DeepCutAuto
namespace Go.Proofs.YtaedbnbeelkkcaaDoor
open Go.RowKit
def i8Vals (l : List Int) : List Value := l.map (Value.int .i8)
def kVals (l : List Nat) : List Value := l.map fun (k : Nat) => .int .i64 (k : Int)
theorem i8_at {l : List Int} {k : Nat} {x : Int} (h : l[k]? = some x) : (i8Vals l)[k]? = some (.int .i8 x) := by unfold i8Vals; simp [h]
theorem lit_at {l : List Int} {k : Nat} {x : Int} (h : l[k]? = some x) : (litVals l)[k]? = some (.int .i64 x) := by unfold litVals; simp [h]
theorem k_at {l : List Nat} {k x : Nat} (h : l[k]? = some x) : (kVals l)[k]? = some (.int .i64 (x : Int)) := by unfold kVals; simp [h]
theorem i8_set (l : List Int) (k : Nat) (x : Int) : (i8Vals l).set k (.int .i8 x) = i8Vals (l.set k x) := by unfold i8Vals; rw [List.map_set]
theorem lit_set (l : List Int) (k : Nat) (x : Int) : (litVals l).set k (.int .i64 x) = litVals (l.set k x) := by unfold litVals; rw [List.map_set]
theorem litVals_len (l : List Int) : (litVals l).length = l.length := by unfold litVals; simp
theorem kVals_len (l : List Nat) : (kVals l).length = l.length := by unfold kVals; simp
theorem lit_snoc (l : List Int) (x : Int) : litVals l ++ [.int .i64 x] = litVals (l ++ [x]) := by unfold litVals; simp
theorem k_snoc (l : List Nat) (x : Nat) : kVals l ++ [.int .i64 (x : Int)] = kVals (l ++ [x]) := by unfold kVals; simp
abbrev Fr (k : Nat) (t : Tag) : Prop := 1 ≤ t.1 ∧ t.1 ≤ k
/-- blocks of a tag keep it -/
def Rt (tag tag' : Nat → Tag) (t : Tag) : Prop := ∀ g, tag g = t → tag' g = t
section
variable {w w' : World} {tag tag' : Nat → Tag} {S : Tag → Prop} {t : Tag}
theorem Row.rt {base : Nat} {e : TypeId} {v : Value} {l : List Value} (h : Row w tag t base e v l) (hr : Rt tag tag' t) : Row w tag' t base e v l := ⟨h.own, fun g hg => hr g (h.tg g hg)⟩
theorem Cel.rt {g : Nat} {l : List Value} (h : Cel w tag t g l) (hr : Rt tag tag' t) : Cel w tag' t g l := ⟨hr g h.tg, h.has⟩
theorem Blk.tchg {g : Nat} {e : TypeId} {cs : Array Value} (h : Blk w g e cs) (ht : tag g = t) (hc : Cg tag S w w') (hn : ¬ S t) : Blk w' g e cs := h.chg hc (by show ¬ S (tag g); rw [ht]; exact hn)
end
theorem lv_cases (n : Int) (vs : List Int) : lv (va vs) n = if n < 0 then -(vs.getD n.natAbs 0) else vs.getD n.natAbs 0 := by unfold lv va; rfl
theorem info_int : (Tryd.prog.info? 3).map (fun i => (i.zero, i.size, i.bytes)) = some (some (.int .i64 0), 1, 8) := by kernel_rfl
end Go.Proofs.YtaedbnbeelkkcaaDoor
