/-
  PLAIN FACTS about values and their bits: there and back.
-/
import Derived.Test.YtlolfcmnebjpkaaDoorWl
namespace Go.Proofs.YtlolfcmnebjpkaaDoor
open Go.RowKit

theorem signed_back : ∀ i : Fin 256, signed (num (bitsB ((i.val : Int) - 128) 8)) = (i.val : Int) - 128 := by decide +kernel
theorem signed_there : ∀ a b c d e f g h : Bool, bitsB (signed (num [a, b, c, d, e, f, g, h])) 8 = [a, b, c, d, e, f, g, h] := by decide +kernel
theorem signed_in : ∀ a b c d e f g h : Bool, -128 ≤ signed (num [a, b, c, d, e, f, g, h]) ∧ signed (num [a, b, c, d, e, f, g, h]) ≤ 127 := by decide +kernel
theorem len_one {l : List Bool} (h : l.length = 1) : ∃ a, l = [a] := List.length_eq_one_iff.1 h
theorem len_eight {l : List Bool} (hl : l.length = 8) : ∃ a b c d e f g h, l = [a, b, c, d, e, f, g, h] := by
  match l, hl with
  | [a, b, c, d, e, f, g, h], _ => exact ⟨a, b, c, d, e, f, g, h, rfl⟩
theorem valOf_bits {a b : Int} {m : Nat} (h : right a b = true) (hm : m = if a = 1 then 1 else 8) : valOf (bitsB b m) = (a, b) := by
  unfold right at h
  simp only [Bool.or_eq_true, Bool.and_eq_true, beq_iff_eq, decide_eq_true_eq] at h
  rcases h with ⟨rfl, h⟩ | ⟨rfl, h1, h2⟩
  · rw [if_pos rfl] at hm
    subst hm
    rcases h with rfl | rfl <;> rfl
  · rw [if_neg (by decide)] at hm
    subst hm
    have h3 := signed_back ⟨(b + 128).toNat, by omega⟩
    rw [show (((b + 128).toNat : Nat) : Int) - 128 = b from by omega] at h3
    unfold valOf
    rw [if_neg (by rw [bitsB_len]; decide), if_pos (bitsB_len _ _), h3]
theorem valOf_8 {l : List Bool} (h : l.length = 8) : valOf l = (2, signed (num l)) := by
  unfold valOf
  rw [if_neg (by rw [h]; decide), if_pos h]
theorem right_2 {x : Int} (h1 : -128 ≤ x) (h2 : x ≤ 127) : right 2 x = true := by unfold right; simp [h1, h2]
theorem right_of {l : List Bool} (h : l.length = 1 ∨ l.length = 8) : right (valOf l).1 (valOf l).2 = true := by
  rcases h with h | h
  · obtain ⟨a, rfl⟩ := len_one h
    cases a <;> rfl
  · rw [valOf_8 h]; dsimp only
    obtain ⟨a, b, c, d, e, f, g, k, rfl⟩ := len_eight h
    obtain ⟨h1, h2⟩ := signed_in a b c d e f g k
    exact right_2 h1 h2
theorem bits_of {l : List Bool} (h : l.length = 1 ∨ l.length = 8) : bitsB (valOf l).2 l.length = l := by
  rcases h with h | h
  · obtain ⟨a, rfl⟩ := len_one h
    cases a <;> rfl
  · rw [valOf_8 h, h]; dsimp only
    obtain ⟨a, b, c, d, e, f, g, k, rfl⟩ := len_eight h
    exact signed_there a b c d e f g k
theorem kind_of {l : List Bool} (h : l.length = 1 ∨ l.length = 8) : l.length = if (valOf l).1 = 1 then 1 else 8 := by
  rcases h with h | h
  · obtain ⟨a, rfl⟩ := len_one h
    rfl
  · rw [valOf_8 h, h]; rfl
theorem boolVals_len (l : List Bool) : (boolVals l).length = l.length := by simp [boolVals]
theorem boolVals_get {l : List Bool} {j : Nat} {u : Value} (h : (boolVals l)[j]? = some u) : ∃ hj : j < l.length, u = .bool (l[j]'hj) := by
  have hj : j < l.length := by
    have := (List.getElem?_eq_some_iff.1 h).1
    rwa [boolVals_len] at this
  refine ⟨hj, ?_⟩
  rw [show (boolVals l)[j]? = some (.bool (l[j]'hj)) from by simp [boolVals, List.getElem?_eq_getElem hj]] at h
  exact (Option.some.inj h).symm
end Go.Proofs.YtlolfcmnebjpkaaDoor
