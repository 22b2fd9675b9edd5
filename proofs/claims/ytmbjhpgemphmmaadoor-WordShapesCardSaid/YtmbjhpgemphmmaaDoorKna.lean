/-
  THE LAW WordShapes, called with whatever can be read.
-/
import Derived.Test.YtmbjhpgemphmmaaDoorLv
import Derived.Test.YtmbjhpgemphmmaaDoorLs
import Derived.Test.YtmbjhpgemphmmaaDoorSl
import Derived.ChangeMaps5
namespace Go.Proofs.YtmbjhpgemphmmaaDoor.wordShapes
open Go.ChangeShapes Go.WideShapes Go.ChangeAt Go.RowKit
set_option maxRecDepth 100000 in
theorem calls (H : Type) (enc : TypeId × Value → H) (W : World) (base : Nat) (args : Array Value) (ds gs : List (DataW H)) (before : List MemPlace)
    (hval : ∀ (j : Nat) t v, Tryd.f5.params[j]? = some t → args[j]? = some v → Value.okWide Tryd.prog W .any base t v)
    (hW : DataW.Whole enc Tryd.prog Tryd.f5.params.toList Rows.wordShapesSpec.vars false W args.toList ds gs before) (hL : laidMetH Tryd.prog Rows.wordShapesRow.laid W) :
    Calls Tryd.prog 5 args W (LPost W) := by
  obtain ⟨p, q, hA0, hV, rfl, hfz, hnd⟩ := hW
  have hA : DataW.TrodAll enc Tryd.prog W 0 (fun _ => true) true Tryd.f5.params.toList args.toList ds p := hA0
  rw [Tryd.params5] at hA hval
  obtain ⟨v0, vs0, d0, ds0, p0, q0, hargs, rfl, rfl, h0, r0⟩ := trodAll_cons hA
  obtain ⟨v1, vs1, d1, ds1, p1, q1, rfl, rfl, rfl, h1, r1⟩ := trodAll_cons r0
  obtain ⟨rfl, rfl, rfl⟩ := trodAll_nil r1
  obtain rfl : args = #[v0, v1] := by cases args; simp_all
  obtain ⟨s, rfl, rfl, rfl, hs⟩ := ChangeMaps.open_string Tryd.underlying9 (hval 0 9 v0 rfl rfl) h0
  obtain ⟨A3, ns, c3, rfl, hr3, hw3⟩ := open_intRow Tryd.underlying37 Tryd.underlying3 (by kernel_rfl) (hval 1 37 v1 rfl rfl) h1
  obtain ⟨ea, he⟩ := errs_of_laid hL (fun x hx => show x ∈ errList ++ [("lustrum/tree.levels", Rows.laid_lustrum_tree_levels)] from List.mem_append_left _ hx)
  by_cases hlen : ns.length ≤ 5
  · exact shapes_short he (Nat.le_refl _) (lvls_of_laid hL (List.mem_of_getElem? (i := 10) rfl)) (Nat.le_refl _) rfl hlen hr3
  · exact shapes_long (by omega)
end Go.Proofs.YtmbjhpgemphmmaaDoor.wordShapes
