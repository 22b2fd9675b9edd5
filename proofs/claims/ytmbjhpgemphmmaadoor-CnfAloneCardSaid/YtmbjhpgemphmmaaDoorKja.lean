/-
  THE LAW CnfAlone, called with whatever can be read.
-/
import Derived.Test.YtmbjhpgemphmmaaDoorLs
import Derived.Test.YtmbjhpgemphmmaaDoorCk
namespace Go.Proofs.YtmbjhpgemphmmaaDoor.cnfAlone
open Go.ChangeShapes Go.WideShapes Go.ChangeAt Go.RowKit

theorem any {w : World} (many which : Int) : Calls Tryd.prog 3 #[.int .i64 many, .int .i64 which] w (LPost w) := by
  by_cases h : many < 1 ∨ 50 < many ∨ which < 0 ∨ many ≤ which
  · exact calone_out h
  · obtain ⟨m, rfl⟩ : ∃ m : Nat, (m : Int) = many := ⟨many.toNat, by omega⟩
    obtain ⟨q, rfl⟩ : ∃ q : Nat, (q : Int) = which := ⟨which.toNat, by omega⟩
    exact calone_in (by omega) (by omega) (by omega)
set_option maxRecDepth 100000 in
theorem calls (H : Type) (enc : TypeId × Value → H) (W : World) (base : Nat) (args : Array Value) (ds gs : List (DataW H)) (before : List MemPlace)
    (hval : ∀ (j : Nat) t v, Tryd.f3.params[j]? = some t → args[j]? = some v → Value.okWide Tryd.prog W .any base t v)
    (hW : DataW.Whole enc Tryd.prog Tryd.f3.params.toList Rows.cnfAloneSpec.vars false W args.toList ds gs before) (_hL : laidMetH Tryd.prog Rows.cnfAloneRow.laid W) :
    Calls Tryd.prog 3 args W (LPost W) := by
  obtain ⟨p, q, hA0, hV, rfl, hfz, hnd⟩ := hW
  have hA : DataW.TrodAll enc Tryd.prog W 0 (fun _ => true) true Tryd.f3.params.toList args.toList ds p := hA0
  rw [Tryd.params3] at hA hval
  obtain ⟨v0, vs0, d0, ds0, p0, q0, hargs, rfl, rfl, h0, r0⟩ := trodAll_cons hA
  obtain ⟨v1, vs1, d1, ds1, p1, q1, rfl, rfl, rfl, h1, r1⟩ := trodAll_cons r0
  obtain ⟨rfl, rfl, rfl⟩ := trodAll_nil r1
  obtain rfl : args = #[v0, v1] := by cases args; simp_all
  obtain ⟨n0, rfl, rfl, rfl, w0⟩ := open_int Tryd.underlying3 (hval 0 3 v0 rfl rfl) h0
  obtain ⟨n1, rfl, rfl, rfl, w1⟩ := open_int Tryd.underlying3 (hval 1 3 v1 rfl rfl) h1
  exact any n0 n1
end Go.Proofs.YtmbjhpgemphmmaaDoor.cnfAlone
