/-
  THE LAW GraphTurned, called with whatever can be read.
-/
import Derived.Test.YtlolfcmnebjpkaaDoorLo
import Derived.Test.YtlolfcmnebjpkaaDoorGd
namespace Go.Proofs.YtlolfcmnebjpkaaDoor.graphTurned
open Go.ChangeShapes Go.WideShapes Go.ChangeAt Go.RowKit

set_option maxRecDepth 100000 in
theorem calls (H : Type) (enc : TypeId × Value → H) (W : World) (base : Nat) (args : Array Value) (ds gs : List (DataW H)) (before : List MemPlace)
    (hval : ∀ (j : Nat) t v, Tryd.f4.params[j]? = some t → args[j]? = some v → Value.okWide Tryd.prog W .any base t v)
    (hW : DataW.Whole enc Tryd.prog Tryd.f4.params.toList Rows.graphTurnedSpec.vars false W args.toList ds gs before) (hL : laidMetH Tryd.prog Rows.graphTurnedRow.laid W) :
    Calls Tryd.prog 4 args W (LPost W) := by
  obtain ⟨p, q, hA0, hV, rfl, hfz, hnd⟩ := hW
  have hA : DataW.TrodAll enc Tryd.prog W 0 (fun _ => true) true Tryd.f4.params.toList args.toList ds p := hA0
  rw [Tryd.params4] at hA hval
  obtain ⟨v0, vs0, d0, ds0, p0, q0, hargs, rfl, rfl, h0, r0⟩ := trodAll_cons hA
  obtain ⟨v1, vs1, d1, ds1, p1, q1, rfl, rfl, rfl, h1, r1⟩ := trodAll_cons r0
  obtain ⟨v2, vs2, d2, ds2, p2, q2, rfl, rfl, rfl, h2, r2⟩ := trodAll_cons r1
  obtain ⟨rfl, rfl, rfl⟩ := trodAll_nil r2
  obtain rfl : args = #[v0, v1, v2] := by cases args; simp_all
  obtain ⟨A, ms, c, rfl, hr, hf⟩ := open_makes Tryd.underlying40 Tryd.underlying90 (by kernel_rfl) rfl (by kernel_rfl) (fun j f hj => by
    match j, hj with
    | 0, hj => simp at hj; subst hj; exact Tryd.underlying3
    | 1, hj => simp at hj; subst hj; exact Tryd.underlying3
    | 2, hj => simp at hj; subst hj; exact Tryd.underlying3
    | 3, hj => simp at hj; subst hj; exact Tryd.underlying3
    | j + 4, hj => simp at hj) (hval 0 40 v0 rfl rfl) h0
  obtain ⟨n1, rfl, rfl, rfl, w1⟩ := open_int Tryd.underlying3 (hval 1 3 v1 rfl rfl) h1
  obtain ⟨n2, rfl, rfl, rfl, w2⟩ := open_int Tryd.underlying3 (hval 2 3 v2 rfl rfl) h2
  obtain ⟨ea, he⟩ := errs_of_laid hL (fun x hx => hx)
  by_cases hlen : ms.length ≤ 60
  · exact gturned_short he (Nat.le_refl _) hlen hf hr w1 w2
  · exact gturned_long (by omega)
end Go.Proofs.YtlolfcmnebjpkaaDoor.graphTurned
