/-
  THE LAW GraphMakes, called with whatever can be read.
-/
import Derived.Test.YtlolfcmnebjpkaaDoorLo
import Derived.Test.YtlolfcmnebjpkaaDoorGa
namespace Go.Proofs.YtlolfcmnebjpkaaDoor.graphMakes
open Go.ChangeShapes Go.WideShapes Go.ChangeAt Go.RowKit

set_option maxRecDepth 100000 in
theorem calls (H : Type) (enc : TypeId × Value → H) (W : World) (base : Nat) (args : Array Value) (ds gs : List (DataW H)) (before : List MemPlace)
    (hval : ∀ (j : Nat) t v, Tryd.f5.params[j]? = some t → args[j]? = some v → Value.okWide Tryd.prog W .any base t v)
    (hW : DataW.Whole enc Tryd.prog Tryd.f5.params.toList Rows.graphMakesSpec.vars false W args.toList ds gs before) (hL : laidMetH Tryd.prog Rows.graphMakesRow.laid W) :
    Calls Tryd.prog 5 args W (LPost W) := by
  obtain ⟨p, q, hA0, hV, rfl, hfz, hnd⟩ := hW
  have hA : DataW.TrodAll enc Tryd.prog W 0 (fun _ => true) true Tryd.f5.params.toList args.toList ds p := hA0
  rw [Tryd.params5] at hA hval
  obtain ⟨v0, vs0, d0, ds0, p0, q0, hargs, rfl, rfl, h0, r0⟩ := trodAll_cons hA
  obtain ⟨v1, vs1, d1, ds1, p1, q1, rfl, rfl, rfl, h1, r1⟩ := trodAll_cons r0
  obtain ⟨rfl, rfl, rfl⟩ := trodAll_nil r1
  obtain rfl : args = #[v0, v1] := by cases args; simp_all
  obtain ⟨A, ms, c, rfl, hr, hf⟩ := open_makes Tryd.underlying40 Tryd.underlying90 (by kernel_rfl) rfl (by kernel_rfl) (fun j f hj => by
    match j, hj with
    | 0, hj => simp at hj; subst hj; exact Tryd.underlying3
    | 1, hj => simp at hj; subst hj; exact Tryd.underlying3
    | 2, hj => simp at hj; subst hj; exact Tryd.underlying3
    | 3, hj => simp at hj; subst hj; exact Tryd.underlying3
    | j + 4, hj => simp at hj) (hval 0 40 v0 rfl rfl) h0
  obtain ⟨n1, rfl, rfl, rfl, w1⟩ := open_int Tryd.underlying3 (hval 1 3 v1 rfl rfl) h1
  obtain ⟨ea, he⟩ := errs_of_laid hL (fun x hx => hx)
  by_cases hlen : ms.length ≤ 60
  · exact gmakes_short he (Nat.le_refl _) hlen hf hr w1
  · exact gmakes_long (by omega)
end Go.Proofs.YtlolfcmnebjpkaaDoor.graphMakes
