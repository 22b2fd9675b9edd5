/-
  CLOSED FACTS on the program's tables; how a map's key of two literals reads.
-/
import Derived.Test.YtmbjhpgemphmmaaDoorProg
import Derived.Test.YtmbjhpgemphmmaaDoorBa
namespace Go.Proofs.YtmbjhpgemphmmaaDoor
open Go.RowKit

/-- how a map's key of two literals reads -/
def kl (x y : Int) : Lit := .string (keyBytes [.int .i64 x, .int .i64 y])
theorem laidOut : laidOutB Tryd.prog = true := by kernel_rfl
theorem rowKey : (164 : TypeId) < Tryd.prog.types.size := of_decide_eq_true (by kernel_rfl)
theorem wideKey : (match Tryd.prog.underlying 164 with | some (.array _ _) | some (.struct _) => true | _ => false) = true := by rw [Tryd.underlying164]
set_option maxRecDepth 100000 in
theorem lawKey : Maps.Keyed Tryd.prog 164 := .of_law (deep_law_laid laidOut (m := 2) (by omega) rowKey (by kernel_rfl) wideKey)
theorem keyType : Tryd.prog.keyType 164 = true := by kernel_rfl
theorem cellsKey : Tryd.prog.cellsOf 164 = 2 := by kernel_rfl
theorem cellsLit : Tryd.prog.cellsOf 29 = 1 := by kernel_rfl
theorem ex_pred {n k : Nat} (h : k < n) : ∃ m, n = m + 1 := ⟨n - 1, by omega⟩
theorem typesSize : ∃ m, Tryd.prog.types.size = m + 1 := ex_pred rowKey
theorem keyOf_two (x y : Int) (hx : (Lit.int .i64 x).wf = true) (hy : (Lit.int .i64 y).wf = true) : keyOf Tryd.prog 164 (.agg #[.int .i64 x, .int .i64 y]) = some (kl x y) := by
  have hf : Value.formed Tryd.prog 164 (.agg #[.int .i64 x, .int .i64 y]) = true := by
    unfold Value.formed; simp only [Tryd.underlying164, cellsKey]; rfl
  obtain ⟨m, hm⟩ := typesSize
  unfold keyOf
  rw [Tryd.underlying164]
  simp only [keyType, hf, Bool.and_self, if_true]
  rw [hm]
  simp [Program.keyLits, Tryd.underlying164, Tryd.underlying29, cellsKey, cellsLit, Value.cells, hx, hy, List.range_succ, kl]
theorem kl_inj {x y x' y' : Int} (hx : (Lit.int .i64 x).wf = true) (hy : (Lit.int .i64 y).wf = true) (hx' : (Lit.int .i64 x').wf = true) (hy' : (Lit.int .i64 y').wf = true) (h : kl x y = kl x' y') : x = x' ∧ y = y' := by
  have h1 := keyOf_two x y hx hy
  have h2 := keyOf_two x' y' hx' hy'
  rw [← h] at h2
  have := lawKey.inj h1 h2
  simpa using this

theorem zeroInt (w : World) : (zeroValue 3).run Tryd.prog w = .ok (.int .i64 0) w := by kernel_rfl
end Go.Proofs.YtmbjhpgemphmmaaDoor
