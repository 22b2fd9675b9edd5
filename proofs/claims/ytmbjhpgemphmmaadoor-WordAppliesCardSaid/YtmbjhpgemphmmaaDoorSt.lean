/-
  STEPS of a still walk (Derived/Still.lean): an operation whose guard is decided.
-/
import Derived.Test.YtmbjhpgemphmmaaDoorBa
import Derived.StillTailTactics
import Derived.IntWalk
namespace Go.Proofs.YtmbjhpgemphmmaaDoor
section
variable {P : Program} {ops : Array Oper} {w : World} {Q : Act → Prop} {a : Act} {o : Oper} {rest : List Oper}
theorem still_want (hw : Region.wanted o (yielded ops a.tmps) = true) (h : ∀ K : Act → Prop, (∀ a, wpStill P ops w Q rest a → K a) → o.still P a w K) : wpStill P ops w Q (o :: rest) a :=
  wpStill_step fun K hK => by rw [if_pos hw]; exact h K hK
theorem still_skip (hw : Region.wanted o (yielded ops a.tmps) = false) (h : wpStill P ops w Q rest (a.put o.dst undef)) : wpStill P ops w Q (o :: rest) a :=
  wpStill_step fun K hK => by rw [if_neg (by rw [hw]; exact Bool.false_ne_true)]; exact hK _ h
end
theorem wrap_in {x : Int} (h1 : -1000000000000000 ≤ x) (h2 : x ≤ 1000000000000000) : IntKind.i64.wrap x = x := by rw [IntKind.wrap_i64]; omega
end Go.Proofs.YtmbjhpgemphmmaaDoor
