/-
  PLAIN: values as words of inputs.
-/
import Derived.Test.YtmbjhpgemphmmaaDoorVq
namespace Go.Proofs.YtmbjhpgemphmmaaDoor
open Go.RowKit
theorem inps_addV (n m : Nat) : inps (n + m) = inps n ++ inps m := by unfold inps; rw [List.replicate_append_replicate]
theorem ev_inpsV (inp : List Bool) {j n : Nat} (h : j < n) : Gm.ev inp (inps n) (2 * j + 2) = inp.getD j false := by
  have h1 := Gm.ev_new_inp inp (inps j)
  rw [inps_succ, inps_ins] at h1
  have h2 : ∃ hs, inps n = inps (j + 1) ++ hs := ⟨inps (n - (j + 1)), by rw [← inps_addV]; congr 1; omega⟩
  rw [Gm.ev_pre h2 (by unfold Gm.has; rw [inps_length]; omega)]
  exact h1
/-- a word of inputs -/
def litsFrom (q n : Nat) : List Nat := (List.range n).map fun j => 2 * (q + j) + 2
theorem litsFrom_succ (q k : Nat) : litsFrom q (k + 1) = litsFrom q k ++ [2 * (q + k) + 2] := by unfold litsFrom; rw [List.range_succ, List.map_append]; rfl
theorem litsFrom_len (q k : Nat) : (litsFrom q k).length = k := by unfold litsFrom; simp
theorem litsFrom_has {q k n : Nat} (h : q + k ≤ n) : AllHas (inps n) (litsFrom q k) := fun x hx => by
  unfold litsFrom at hx
  obtain ⟨j, hj, rfl⟩ := List.mem_map.1 hx
  have := List.mem_range.1 hj
  unfold Gm.has; rw [inps_length]; omega
def pws : Nat → List (Int × Int) → List (List Nat)
  | _, [] => []
  | q, p :: r => litsFrom q (lenK p.1) :: pws (q + lenK p.1) r
def bitsAll (l : List (Int × Int)) : List Bool := l.flatMap vb
theorem vb_len (p : Int × Int) : (vb p).length = lenK p.1 := bitsB_len _ _
theorem bitsAll_snoc (l : List (Int × Int)) (p : Int × Int) : bitsAll (l ++ [p]) = bitsAll l ++ vb p := by unfold bitsAll; rw [List.flatMap_append]; simp
theorem bitsAll_cons (p : Int × Int) (l : List (Int × Int)) : bitsAll (p :: l) = vb p ++ bitsAll l := by unfold bitsAll; rw [List.flatMap_cons]
theorem lenK_le (k : Int) : 1 ≤ lenK k ∧ lenK k ≤ 8 := by unfold lenK; split <;> omega
theorem bitsAll_len (l : List (Int × Int)) : (bitsAll l).length ≤ 8 * l.length := by
  induction l with
  | nil => simp [bitsAll]
  | cons p r ih => rw [bitsAll_cons, List.length_append, vb_len, List.length_cons]; have := (lenK_le p.1).2; omega
theorem pws_snoc : ∀ (q : Nat) (l : List (Int × Int)) (p : Int × Int), pws q (l ++ [p]) = pws q l ++ [litsFrom (q + (bitsAll l).length) (lenK p.1)]
  | q, [], p => by simp [pws, bitsAll]
  | q, x :: l, p => by
    have h := pws_snoc (q + lenK x.1) l p
    simp only [List.cons_append, pws, h, bitsAll_cons, List.length_append, vb_len, Nat.add_assoc]
theorem pws_lens : ∀ (q : Nat) (l : List (Int × Int)), (pws q l).map List.length = l.map fun p => lenK p.1
  | _, [] => rfl
  | q, p :: r => by simp only [pws, List.map_cons, litsFrom_len, pws_lens (q + lenK p.1) r]
theorem pws_length (q : Nat) (l : List (Int × Int)) : (pws q l).length = l.length := by
  have h := congrArg List.length (pws_lens q l)
  simpa using h
theorem pws_has : ∀ {q n : Nat} {l : List (Int × Int)}, q + (bitsAll l).length ≤ n → ∀ zs ∈ pws q l, AllHas (inps n) zs
  | _, _, [], _, zs, hz => by cases hz
  | q, n, p :: r, h, zs, hz => by
    rw [bitsAll_cons, List.length_append, vb_len] at h
    rcases List.mem_cons.1 hz with rfl | hz
    · exact litsFrom_has (by omega)
    · exact pws_has (q := q + lenK p.1) (by omega) zs hz
theorem range_getD (l : List Bool) : (List.range l.length).map (fun j => l.getD j false) = l := by
  apply List.ext_getElem
  · simp
  · intro i h1 h2
    simp [List.getD, h2]
theorem pws_evs : ∀ (l : List (Int × Int)) (pre : List Bool) (q n : Nat), pre.length = q → q + (bitsAll l).length ≤ n → (pws q l).map (evs (pre ++ bitsAll l) (inps n)) = l.map vb
  | [], _, _, _, _, _ => rfl
  | p :: r, pre, q, n, hq, hn => by
    rw [bitsAll_cons, List.length_append, vb_len] at hn
    have ih := pws_evs r (pre ++ vb p) (q + lenK p.1) n (by rw [List.length_append, vb_len, hq]) (by omega)
    rw [List.append_assoc] at ih
    simp only [pws, List.map_cons, bitsAll_cons, ih]
    congr 1
    have h : evs (pre ++ (vb p ++ bitsAll r)) (inps n) (litsFrom q (lenK p.1)) = (List.range (vb p).length).map fun j => (vb p).getD j false := by
      unfold evs litsFrom
      rw [List.map_map, vb_len]
      refine List.map_congr_left fun j hj => ?_
      have hj := List.mem_range.1 hj
      simp only [Function.comp]
      rw [ev_inpsV _ (by omega)]
      have hv : j < (vb p).length := by rw [vb_len]; exact hj
      simp only [List.getD]
      rw [List.getElem?_append_right (by omega), List.getElem?_append_left (by omega)]
      congr 2; omega
    rw [h, range_getD]
end Go.Proofs.YtmbjhpgemphmmaaDoor
