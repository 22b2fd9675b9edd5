/-
  THE LAW GraphUnlike, called with whatever can be read.
-/
import Derived.Test.YtlolfcmnebjpkaaDoorLo
import Derived.Test.YtlolfcmnebjpkaaDoorGb
namespace Go.Proofs.YtlolfcmnebjpkaaDoor.graphUnlike
open Go.ChangeShapes Go.WideShapes Go.ChangeAt Go.RowKit

set_option maxRecDepth 100000 in
theorem calls (H : Type) (enc : TypeId × Value → H) (W : World) (base : Nat) (args : Array Value) (ds gs : List (DataW H)) (before : List MemPlace)
    (hval : ∀ (j : Nat) t v, Tryd.f6.params[j]? = some t → args[j]? = some v → Value.okWide Tryd.prog W .any base t v)
    (hW : DataW.Whole enc Tryd.prog Tryd.f6.params.toList Rows.graphUnlikeSpec.vars false W args.toList ds gs before) (hL : laidMetH Tryd.prog Rows.graphUnlikeRow.laid W) :
    Calls Tryd.prog 6 args W (LPost W) := by
  obtain ⟨p, q, hA0, hV, rfl, hfz, hnd⟩ := hW
  have hA : DataW.TrodAll enc Tryd.prog W 0 (fun _ => true) true Tryd.f6.params.toList args.toList ds p := hA0
  rw [Tryd.params6] at hA hval
  obtain ⟨v0, vs0, d0, ds0, p0, q0, hargs, rfl, rfl, h0, r0⟩ := trodAll_cons hA
  obtain ⟨rfl, rfl, rfl⟩ := trodAll_nil r0
  obtain rfl : args = #[v0] := by cases args; simp_all
  obtain ⟨A, ms, c, rfl, hr, hf⟩ := open_makes Tryd.underlying40 Tryd.underlying90 (by kernel_rfl) rfl (by kernel_rfl) (fun j f hj => by
    match j, hj with
    | 0, hj => simp at hj; subst hj; exact Tryd.underlying3
    | 1, hj => simp at hj; subst hj; exact Tryd.underlying3
    | 2, hj => simp at hj; subst hj; exact Tryd.underlying3
    | 3, hj => simp at hj; subst hj; exact Tryd.underlying3
    | j + 4, hj => simp at hj) (hval 0 40 v0 rfl rfl) h0
  obtain ⟨ea, he⟩ := errs_of_laid hL (fun x hx => hx)
  by_cases hlen : ms.length ≤ 60
  · exact gunlike_short he (Nat.le_refl _) hlen hf hr
  · exact gunlike_long (by omega)
end Go.Proofs.YtlolfcmnebjpkaaDoor.graphUnlike
