/-
  THE LAW WordConst, called with whatever can be read.
-/
import Derived.Test.YtlolfcmnebjpkaaDoorLs
import Derived.Test.YtlolfcmnebjpkaaDoorWm
namespace Go.Proofs.YtlolfcmnebjpkaaDoor.wordConst
open Go.ChangeShapes Go.WideShapes Go.ChangeAt Go.RowKit

set_option maxRecDepth 100000 in
theorem calls (H : Type) (enc : TypeId × Value → H) (W : World) (base : Nat) (args : Array Value) (ds gs : List (DataW H)) (before : List MemPlace)
    (hval : ∀ (j : Nat) t v, Tryd.f3.params[j]? = some t → args[j]? = some v → Value.okWide Tryd.prog W .any base t v)
    (hW : DataW.Whole enc Tryd.prog Tryd.f3.params.toList Rows.wordConstSpec.vars false W args.toList ds gs before) (hL : laidMetH Tryd.prog Rows.wordConstRow.laid W) :
    Calls Tryd.prog 3 args W (LPost W) := by
  obtain ⟨p, q, hA0, hV, rfl, hfz, hnd⟩ := hW
  have hA : DataW.TrodAll enc Tryd.prog W 0 (fun _ => true) true Tryd.f3.params.toList args.toList ds p := hA0
  rw [Tryd.params3] at hA hval
  obtain ⟨v0, vs0, d0, ds0, p0, q0, hargs, rfl, rfl, h0, r0⟩ := trodAll_cons hA
  obtain ⟨v1, vs1, d1, ds1, p1, q1, rfl, rfl, rfl, h1, r1⟩ := trodAll_cons r0
  obtain ⟨v2, vs2, d2, ds2, p2, q2, rfl, rfl, rfl, h2, r2⟩ := trodAll_cons r1
  obtain ⟨rfl, rfl, rfl⟩ := trodAll_nil r2
  obtain rfl : args = #[v0, v1, v2] := by cases args; simp_all
  obtain ⟨n, rfl, rfl, rfl, _⟩ := open_int Tryd.underlying3 (hval 0 3 v0 rfl rfl) h0
  obtain ⟨a0, a1, y0, y1, m, rfl, _, _, k0, k1⟩ := Joins.open_agg2 Tryd.underlying23 (by kernel_rfl) (by kernel_rfl) (hval 1 23 v1 rfl rfl) h1
  obtain ⟨a, ha, _⟩ := DataW.trod_int Tryd.underlying3 k0
  obtain ⟨b, hb, _⟩ := DataW.trod_int Tryd.underlying3 k1
  obtain rfl : a0 = .int .i64 a := by simpa using ha
  obtain rfl : a1 = .int .i64 b := by simpa using hb
  obtain ⟨A, bs, c, rfl, hr, _⟩ := open_boolRow Tryd.underlying24 Tryd.underlying4 (by kernel_rfl) (hval 2 24 v2 rfl rfl) h2
  obtain ⟨ea, he⟩ := errs_of_laid hL (fun x hx => hx)
  by_cases hlen : bs.length ≤ 50
  · exact wc_short he (Nat.le_refl _) hlen hr
  · exact wc_long (by omega)
end Go.Proofs.YtlolfcmnebjpkaaDoor.wordConst
