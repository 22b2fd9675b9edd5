/-
  ROWS OF CLAUSES of the call's own.
-/
import Derived.Test.YtaedbnbeelkkcaaDoorRj
import Derived.Test.YtaedbnbeelkkcaaDoorRk
namespace Go.Proofs.YtaedbnbeelkkcaaDoor
open Go.RowKit
theorem clsr_of_own {w : World} {base : Nat} {Ac : Option Addr} {n cc : Nat} {cs : List (List Int)} (h : CsAt w base (.slice Ac n cc) cs) : ClsR w w.heap.size Ac cs := fun hn => by
  obtain ⟨rows, h1, h2⟩ := h
  obtain ⟨g, cap, hv, _, hlt⟩ := h1.form hn
  have hA : Ac = some ⟨g, 0, none⟩ := by simp only [Value.slice.injEq] at hv; exact hv.1
  subst hA
  refine ⟨_, rfl, hlt, fun i l hl => ?_⟩
  obtain ⟨u, h3, h4⟩ := h2 i l hl
  obtain ⟨Ai, ci, rfl⟩ := own_form h4
  exact ⟨Ai, ci, h1.cells (g := g) rfl i _ h3, Reads.of_own h4⟩
end Go.Proofs.YtaedbnbeelkkcaaDoor
