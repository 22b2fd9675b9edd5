/-
  THE LAW FlowGates, called with whatever can be read.
-/
import Derived.Test.YtmbjhpgemphmmaaDoorLv
import Derived.Test.YtmbjhpgemphmmaaDoorLs
import Derived.Test.YtmbjhpgemphmmaaDoorFu
import Derived.ChangeMaps5
namespace Go.Proofs.YtmbjhpgemphmmaaDoor.flowGates
open Go.ChangeShapes Go.WideShapes Go.ChangeAt Go.RowKit
theorem str_ne {s x : ByteArray} {l : List UInt8} (hx : x.toList = l) (h : s ≠ x) : (s.toList == l) = false := by
  rw [← hx]; exact (Lib.bytes_beq_false_iff s x).2 h
set_option maxRecDepth 100000 in
theorem calls (H : Type) (enc : TypeId × Value → H) (W : World) (base : Nat) (args : Array Value) (ds gs : List (DataW H)) (before : List MemPlace)
    (hval : ∀ (j : Nat) t v, Tryd.f4.params[j]? = some t → args[j]? = some v → Value.okWide Tryd.prog W .any base t v)
    (hW : DataW.Whole enc Tryd.prog Tryd.f4.params.toList Rows.flowGatesSpec.vars false W args.toList ds gs before) (hL : laidMetH Tryd.prog Rows.flowGatesRow.laid W) :
    Calls Tryd.prog 4 args W (LPost W) := by
  obtain ⟨p, q, hA0, hV, rfl, hfz, hnd⟩ := hW
  have hA : DataW.TrodAll enc Tryd.prog W 0 (fun _ => true) true Tryd.f4.params.toList args.toList ds p := hA0
  rw [Tryd.params4] at hA hval
  obtain ⟨v0, vs0, d0, ds0, p0, q0, hargs, rfl, rfl, h0, r0⟩ := trodAll_cons hA
  obtain ⟨v1, vs1, d1, ds1, p1, q1, rfl, rfl, rfl, h1, r1⟩ := trodAll_cons r0
  obtain ⟨v2, vs2, d2, ds2, p2, q2, rfl, rfl, rfl, h2, r2⟩ := trodAll_cons r1
  obtain ⟨rfl, rfl, rfl⟩ := trodAll_nil r2
  obtain rfl : args = #[v0, v1, v2] := by cases args; simp_all
  obtain ⟨s, rfl, rfl, rfl, hs⟩ := ChangeMaps.open_string Tryd.underlying9 (hval 0 9 v0 rfl rfl) h0
  obtain ⟨n1, rfl, rfl, rfl, w1⟩ := open_int Tryd.underlying3 (hval 1 3 v1 rfl rfl) h1
  obtain ⟨n2, rfl, rfl, rfl, w2⟩ := open_int Tryd.underlying3 (hval 2 3 v2 rfl rfl) h2
  by_cases hop : s = ⟨#[47]⟩ ∨ s = ⟨#[109, 111, 100]⟩
  · by_cases hr : small8 n1 ∧ small8 n2
    · obtain ⟨pe, _, he, _⟩ := sent_of_laid hL (n := "lustrum/api.ErrShape") (text := errText 3) (g := 0) (List.mem_of_getElem? (i := 1) rfl) (by kernel_rfl) (by kernel_rfl)
      exact fgates_in hop (lvls_of_laid hL (List.mem_of_getElem? (i := 3) rfl)) (Nat.le_refl _) he hr.1 hr.2
    · exact fgates_out hop hr
  · exact fgates_other (str_ne (x := ⟨#[47]⟩) (by decide +kernel) fun e => hop (.inl e)) (str_ne (x := ⟨#[109, 111, 100]⟩) (by decide +kernel) fun e => hop (.inr e))
end Go.Proofs.YtmbjhpgemphmmaaDoor.flowGates
