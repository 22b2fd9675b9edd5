/-
  OPENER of a law's argument: an []int.
-/
import Derived.Test.YtmbjhpgemphmmaaDoorLs
namespace Go.Proofs.YtmbjhpgemphmmaaDoor
open Go.ChangeShapes Go.WideShapes Go.ChangeAt Go.RowKit
section
variable {H : Type} {enc : TypeId × Value → H} {P : Program}
theorem open_intRow {W : World} {base : Nat} {t e : TypeId} {r : Reach} {v : Value} {d : DataW H} {p : List MemPlace} (ht : P.underlying t = some (.slice e)) (he : P.underlying e = some (.int .i64)) (hc : P.cellsOf e = 1)
    (hval : Value.okWide P W r base t v) (h : DataW.Trod enc P W 0 (fun _ => true) true t v d p) :
    ∃ (A : Option Addr) (ns : List Int) (c : Nat), v = .slice A ns.length c ∧ Reads W W.heap.size 1 A ns.length (litVals ns) ∧ ∀ a ∈ ns, (Lit.int .i64 a).wf = true := by
  obtain ⟨a0, l0, c0, rfl⟩ := okWide_slice ht hval
  obtain ⟨fuel, hf⟩ := h
  rcases open_ints ht he hc hf with ⟨hcs, _⟩ | ⟨a, len, cap, zs, hcs, _, hlen, hmax, hz, _, hcell, hw⟩
  · simp only [Value.cells, List.cons.injEq, Value.slice.injEq, and_true] at hcs
    obtain ⟨rfl, rfl, rfl⟩ := hcs
    exact ⟨none, [], 0, rfl, .none_, by simp⟩
  · simp only [Value.cells, List.cons.injEq, Value.slice.injEq, and_true] at hcs
    obtain ⟨rfl, rfl, rfl⟩ := hcs
    have hl : (zs.take l0).length = l0 := by rw [List.length_take, hz]; simp only [if_true]; omega
    refine ⟨some a, zs.take l0, c0, by rw [hl], ?_, fun x hx => hw x (List.mem_of_mem_take hx)⟩
    rw [hl]
    refine ⟨by unfold litVals; rw [List.length_map, hl, Nat.mul_one], fun hpos => ⟨a, rfl, ?_, fun j u hu => ?_⟩⟩
    · have := World.block_lt_of_cell? W _ (hcell 0 (by rw [hz]; simp only [if_true]; omega))
      rwa [block_of_add] at this
    · unfold litVals at hu
      rw [List.getElem?_map, List.getElem?_take] at hu
      split at hu
      · rename_i hjl
        have hjz : j < zs.length := by rw [hz]; simp only [if_true]; omega
        rw [List.getElem?_eq_getElem hjz] at hu
        simp only [Option.map_some, Option.some.injEq] at hu
        rw [← hu, hcell j hjz, List.getD_eq_getElem?_getD, List.getElem?_eq_getElem hjz]
        rfl
      · cases hu
end
end Go.Proofs.YtmbjhpgemphmmaaDoor
