/-
  WORDS: a list of what a graph is made of (lustrumlaw3.Make), as it lies in memory.
-/
import Derived.Test.YtmbjhpgemphmmaaDoorLp
namespace Go.Proofs.YtmbjhpgemphmmaaDoor
open Go.RowKit
theorem add_field (a : Addr) (i j : Nat) : a.add (i + (j + 1)) = ⟨(a.add i).block, (a.add i).off + (j + 1), none⟩ := by
  unfold Addr.add
  by_cases hi : i = 0
  · subst hi; simp
  · rw [if_neg (by omega), if_neg hi]; simp; omega
/-- what a law's list names: a kind and three literals -/
structure Mk where
  k : Int
  a : Int
  b : Int
  c : Int
def Mk.fits (m : Mk) : Prop := (Lit.int .i64 m.k).wf = true ∧ (Lit.int .i64 m.a).wf = true ∧ (Lit.int .i64 m.b).wf = true ∧ (Lit.int .i64 m.c).wf = true
def mkVals : List Mk → List Value
  | [] => []
  | m :: r => .int .i64 m.k :: .int .i64 m.a :: .int .i64 m.b :: .int .i64 m.c :: mkVals r
theorem mkVals_length (l : List Mk) : (mkVals l).length = l.length * 4 := by
  induction l with
  | nil => rfl
  | cons g r ih => simp only [mkVals, List.length_cons, ih]; omega
theorem mkVals_at (l : List Mk) (i : Nat) (m : Mk) (h : l[i]? = some m) :
    (mkVals l)[i * 4]? = some (.int .i64 m.k) ∧ (mkVals l)[i * 4 + 1]? = some (.int .i64 m.a) ∧ (mkVals l)[i * 4 + 2]? = some (.int .i64 m.b) ∧ (mkVals l)[i * 4 + 3]? = some (.int .i64 m.c) := by
  induction l generalizing i with
  | nil => simp at h
  | cons x l ih =>
    cases i with
    | zero =>
      simp only [List.getElem?_cons_zero, Option.some.injEq] at h
      subst h
      simp [mkVals]
    | succ i =>
      have := ih i (by simpa using h)
      have e : (i + 1) * 4 = i * 4 + 1 + 1 + 1 + 1 := by omega
      simpa only [e, mkVals, List.getElem?_cons_succ] using this
end Go.Proofs.YtmbjhpgemphmmaaDoor
