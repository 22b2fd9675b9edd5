/-
  THE LAW CnfReads, called with whatever can be read.
-/
import Derived.Test.YtgamnlggaiigbaaDoorLn
import Derived.Test.YtgamnlggaiigbaaDoorRl
import Derived.ChangeMaps5
namespace Go.Proofs.YtgamnlggaiigbaaDoor.cnfReads
open Go.ChangeShapes Go.WideShapes Go.ChangeAt Go.RowKit
theorem sent_in {W : World} (hL : laidMetH Tryd.prog Rows.cnfReadsRow.laid W) {n : String} {text : List UInt8} {g : Nat} (hm : (n, sentD text) ∈ Rows.cnfReadsRow.laid) (hg : Tryd.prog.globalNamed n = some g) (ht : (Tryd.prog.globals[g]?).map (·.type) = some 27) : SentAt W g := by
  obtain ⟨a, _, h, _⟩ := sent_of_laid hL hm hg ht
  exact ⟨a, h⟩
theorem tens_in {W : World} (hL : laidMetH Tryd.prog Rows.cnfReadsRow.laid W) : Tens W :=
  tab_of_laid hL (g := 6) (t := 93) (e := 79) (n := 20) (List.mem_of_getElem? (i := 2) rfl) (by kernel_rfl) (by kernel_rfl) Tryd.underlying93 Tryd.underlying79 (by kernel_rfl) (by kernel_rfl)
set_option maxRecDepth 100000 in
theorem calls (H : Type) (enc : TypeId × Value → H) (W : World) (base : Nat) (args : Array Value) (ds gs : List (DataW H)) (before : List MemPlace)
    (hval : ∀ (j : Nat) t v, Tryd.f3.params[j]? = some t → args[j]? = some v → Value.okWide Tryd.prog W .any base t v)
    (hW : DataW.Whole enc Tryd.prog Tryd.f3.params.toList Rows.cnfReadsSpec.vars false W args.toList ds gs before) (hL : laidMetH Tryd.prog Rows.cnfReadsRow.laid W) (hsh : W.ShapedOpen Tryd.prog) :
    Calls Tryd.prog 3 args W (LPost2 W) := by
  obtain ⟨p, q, hA0, hV, rfl, hfz, hnd⟩ := hW
  have hA : DataW.TrodAll enc Tryd.prog W 0 (fun _ => true) true Tryd.f3.params.toList args.toList ds p := hA0
  rw [Tryd.params3] at hA hval
  obtain ⟨v0, vs0, d0, ds0, p0, q0, hargs, rfl, rfl, h0, r0⟩ := trodAll_cons hA
  obtain ⟨rfl, rfl, rfl⟩ := trodAll_nil r0
  obtain rfl : args = #[v0] := by cases args; simp_all
  obtain ⟨s, rfl, rfl, rfl, hs⟩ := ChangeMaps.open_string Tryd.underlying9 (hval 0 9 v0 rfl rfl) h0
  have ht := tens_in hL
  have he1 := sent_in hL (g := 1) (text := [108, 117, 115, 116, 114, 117, 109, 58, 32, 116, 101, 120, 116]) (List.mem_of_getElem? (i := 4) rfl) (by kernel_rfl) (by kernel_rfl)
  have he2 := sent_in hL (g := 0) (text := [108, 117, 115, 116, 114, 117, 109, 58, 32, 98, 111, 117, 110, 100]) (List.mem_of_getElem? (i := 5) rfl) (by kernel_rfl) (by kernel_rfl)
  have he3 := sent_in hL (g := 2) (text := [108, 117, 115, 116, 114, 117, 109, 58, 32, 115, 104, 97, 112, 101]) (List.mem_of_getElem? (i := 6) rfl) (by kernel_rfl) (by kernel_rfl)
  have hr := sent_in hL (g := 5) (text := [118, 97, 108, 117, 101, 32, 111, 117, 116, 32, 111, 102, 32, 114, 97, 110, 103, 101]) (List.mem_of_getElem? (i := 7) rfl) (by kernel_rfl) (by kernel_rfl)
  have hy := sent_in hL (g := 4) (text := [105, 110, 118, 97, 108, 105, 100, 32, 115, 121, 110, 116, 97, 120]) (List.mem_of_getElem? (i := 8) rfl) (by kernel_rfl) (by kernel_rfl)
  have ha : AtE W := by
    obtain ⟨a, hr⟩ := hr
    obtain ⟨b, hy⟩ := hy
    exact ⟨⟨_, _, hy⟩, ⟨_, _, hr⟩⟩
  have hm : MaxL W := Tryd.laysM146.s1_3 W hsh
  by_cases hlen : s.size ≤ 2000
  · exact reads_short hlen ht ha hm he1 he2 he3
  · exact reads_long (by omega) ht he2 he3
end Go.Proofs.YtgamnlggaiigbaaDoor.cnfReads
