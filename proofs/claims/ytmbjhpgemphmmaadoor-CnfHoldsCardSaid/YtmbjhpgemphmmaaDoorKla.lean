/-
  THE LAW CnfHolds, called with whatever can be read.
-/
import Derived.Test.YtmbjhpgemphmmaaDoorLo
import Derived.Test.YtmbjhpgemphmmaaDoorCi
import Derived.Test.YtmbjhpgemphmmaaDoorLq
namespace Go.Proofs.YtmbjhpgemphmmaaDoor.cnfHolds
open Go.ChangeShapes Go.WideShapes Go.ChangeAt Go.RowKit

theorem errs_in : ∀ x ∈ errList, x ∈ Rows.cnfHoldsRow.laid := fun x hx => List.mem_of_mem_drop (i := 3) (show x ∈ Rows.cnfHoldsRow.laid.drop 3 from hx)
set_option maxRecDepth 100000 in
theorem calls (H : Type) (enc : TypeId × Value → H) (W : World) (base : Nat) (args : Array Value) (ds gs : List (DataW H)) (before : List MemPlace)
    (hval : ∀ (j : Nat) t v, Tryd.f8.params[j]? = some t → args[j]? = some v → Value.okWide Tryd.prog W .any base t v)
    (hW : DataW.Whole enc Tryd.prog Tryd.f8.params.toList Rows.cnfHoldsSpec.vars false W args.toList ds gs before) (hL : laidMetH Tryd.prog Rows.cnfHoldsRow.laid W) :
    Calls Tryd.prog 8 args W (LPost W) := by
  obtain ⟨p, q, hA0, hV, rfl, hfz, hnd⟩ := hW
  have hA : DataW.TrodAll enc Tryd.prog W 0 (fun _ => true) true Tryd.f8.params.toList args.toList ds p := hA0
  rw [Tryd.params8] at hA hval
  obtain ⟨v0, vs0, d0, ds0, p0, q0, hargs, rfl, rfl, h0, r0⟩ := trodAll_cons hA
  obtain ⟨v1, vs1, d1, ds1, p1, q1, rfl, rfl, rfl, h1, r1⟩ := trodAll_cons r0
  obtain ⟨v2, vs2, d2, ds2, p2, q2, rfl, rfl, rfl, h2, r2⟩ := trodAll_cons r1
  obtain ⟨rfl, rfl, rfl⟩ := trodAll_nil r2
  obtain rfl : args = #[v0, v1, v2] := by cases args; simp_all
  obtain ⟨A, ms, c, rfl, hr, hf⟩ := open_makes Tryd.underlying68 Tryd.underlying120 (by kernel_rfl) rfl (by kernel_rfl) (fun j f hj => by
    match j, hj with
    | 0, hj => simp at hj; subst hj; exact Tryd.underlying3
    | 1, hj => simp at hj; subst hj; exact Tryd.underlying3
    | 2, hj => simp at hj; subst hj; exact Tryd.underlying3
    | 3, hj => simp at hj; subst hj; exact Tryd.underlying3
    | j + 4, hj => simp at hj) (hval 0 68 v0 rfl rfl) h0
  obtain ⟨A2, ns, c2, rfl, hr2, hw2⟩ := open_intRow Tryd.underlying37 Tryd.underlying3 (by kernel_rfl) (hval 1 37 v1 rfl rfl) h1
  obtain ⟨A3, bs, c3, rfl, hr3, _⟩ := open_boolRow Tryd.underlying54 Tryd.underlying4 (by kernel_rfl) (hval 2 54 v2 rfl rfl) h2
  obtain ⟨ea, he⟩ := errs_of_laid hL errs_in
  by_cases hlen : ms.length ≤ 60 ∧ ns.length ≤ 60
  · exact cholds_short he (Nat.le_refl _) hlen.1 hf hr hlen.2 hw2 hr2 hr3
  · exact cholds_long (by omega)
end Go.Proofs.YtmbjhpgemphmmaaDoor.cnfHolds
