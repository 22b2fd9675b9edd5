/-
  THE LAW WordRests, called with whatever can be read.
-/
import Derived.Test.YtlolfcmnebjpkaaDoorLv
import Derived.Test.YtlolfcmnebjpkaaDoorLs
import Derived.Test.YtlolfcmnebjpkaaDoorYy
namespace Go.Proofs.YtlolfcmnebjpkaaDoor.wordRests
open Go.ChangeShapes Go.WideShapes Go.ChangeAt Go.RowKit

set_option maxRecDepth 100000 in
theorem calls (H : Type) (enc : TypeId × Value → H) (W : World) (base : Nat) (args : Array Value) (ds gs : List (DataW H)) (before : List MemPlace)
    (hval : ∀ (j : Nat) t v, Tryd.f9.params[j]? = some t → args[j]? = some v → Value.okWide Tryd.prog W .any base t v)
    (hW : DataW.Whole enc Tryd.prog Tryd.f9.params.toList Rows.wordRestsSpec.vars false W args.toList ds gs before) (hL : laidMetH Tryd.prog Rows.wordRestsRow.laid W) :
    Calls Tryd.prog 9 args W (LPost W) := by
  obtain ⟨p, q, hA0, hV, rfl, hfz, hnd⟩ := hW
  have hA : DataW.TrodAll enc Tryd.prog W 0 (fun _ => true) true Tryd.f9.params.toList args.toList ds p := hA0
  rw [Tryd.params9] at hA hval
  obtain ⟨v0, vs0, d0, ds0, p0, q0, hargs, rfl, rfl, h0, r0⟩ := trodAll_cons hA
  obtain ⟨v1, vs1, d1, ds1, p1, q1, rfl, rfl, rfl, h1, r1⟩ := trodAll_cons r0
  obtain ⟨rfl, rfl, rfl⟩ := trodAll_nil r1
  obtain rfl : args = #[v0, v1] := by cases args; simp_all
  obtain ⟨n0, rfl, rfl, rfl, w0⟩ := open_int Tryd.underlying3 (hval 0 3 v0 rfl rfl) h0
  obtain ⟨n1, rfl, rfl, rfl, w1⟩ := open_int Tryd.underlying3 (hval 1 3 v1 rfl rfl) h1
  exact rests_any (lvls_of_laid hL (List.mem_of_getElem? (i := 2) rfl)) (Nat.le_refl _) w0 w1
end Go.Proofs.YtlolfcmnebjpkaaDoor.wordRests
