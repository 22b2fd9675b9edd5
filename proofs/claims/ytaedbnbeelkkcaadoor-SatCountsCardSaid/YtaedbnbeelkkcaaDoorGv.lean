/-
  PLAIN: what literals come to, gate by gate, as a row that is filled from the front. No program in sight.
-/
import Derived.Test.YtaedbnbeelkkcaaDoorGm
namespace Go.Proofs.YtaedbnbeelkkcaaDoor
namespace Gm
/-- what a gate comes to, those ahead of it being so -/
def gateV (inp : List Bool) (vs : List Bool) (n : Nat) (g : Gate) : Bool := if g.inp then inp.getD n false else litV vs g.a && litV vs g.b
theorem take_one {α : Type} {l : List α} {k : Nat} {x : α} (hk : l[k]? = some x) : l.take (k + 1) = l.take k ++ [x] := by
  rw [List.take_add_one, hk]; rfl
theorem vals_step (inp : List Bool) {gs : List Gate} {k : Nat} {g : Gate} (hk : gs[k]? = some g) :
    vals inp (gs.take (k + 1)) = vals inp (gs.take k) ++ [gateV inp (vals inp (gs.take k)) (ins (gs.take k)) g] := by
  rw [take_one hk]
  unfold vals
  rw [run_snoc, ← run_snd inp]
  unfold gateV
  cases hg : g.inp with
  | true => rw [step_inp hg]; simp
  | false => rw [step_and hg]; simp
def rowAt (inp : List Bool) (gs : List Gate) (k : Nat) : List Bool := vals inp (gs.take k) ++ List.replicate (gs.length - k) false
theorem rowAt_length {inp : List Bool} {gs : List Gate} {k : Nat} (hk : k ≤ gs.length) : (rowAt inp gs k).length = gs.length + 1 := by
  unfold rowAt
  rw [List.length_append, vals_length, List.length_take, List.length_replicate]
  omega
theorem rowAt_zero (inp : List Bool) (gs : List Gate) : rowAt inp gs 0 = List.replicate (gs.length + 1) false := by
  unfold rowAt
  rw [List.take_zero, List.replicate_succ]
  rfl
theorem rowAt_all (inp : List Bool) (gs : List Gate) : rowAt inp gs gs.length = vals inp gs := by
  unfold rowAt
  rw [List.take_length, Nat.sub_self]
  simp
theorem rowAt_set (inp : List Bool) {gs : List Gate} {k : Nat} {g : Gate} (hk : gs[k]? = some g) :
    (rowAt inp gs k).set (k + 1) (gateV inp (vals inp (gs.take k)) (ins (gs.take k)) g) = rowAt inp gs (k + 1) := by
  have hl := (List.getElem?_eq_some_iff.1 hk).1
  have hv : (vals inp (gs.take k)).length = k + 1 := by rw [vals_length, List.length_take]; omega
  unfold rowAt
  rw [vals_step inp hk]
  obtain ⟨m, hm⟩ : ∃ m, gs.length - k = m + 1 := ⟨gs.length - k - 1, by omega⟩
  have hm2 : gs.length - (k + 1) = m := by omega
  rw [hm, hm2, List.replicate_succ, List.set_append, if_neg (by omega), hv]
  simp
theorem rowAt_get {inp : List Bool} {gs : List Gate} {k i : Nat} (hk : k ≤ gs.length) (hi : i ≤ k) : (rowAt inp gs k)[i]? = some ((vals inp (gs.take k)).getD i false) := by
  have hv : (vals inp (gs.take k)).length = k + 1 := by rw [vals_length, List.length_take]; omega
  unfold rowAt
  rw [List.getElem?_append_left (by omega), List.getD_eq_getElem?_getD, List.getElem?_eq_getElem (by omega)]
  rfl
theorem rowAt_any {inp : List Bool} {gs : List Gate} {k i : Nat} (hk : k ≤ gs.length) (hi : i ≤ gs.length) : ∃ b, (rowAt inp gs k)[i]? = some b :=
  ⟨_, List.getElem?_eq_getElem (by rw [rowAt_length hk]; omega)⟩
/-- a literal ahead of gate k, read off the row -/
theorem lit_row {inp : List Bool} {gs : List Gate} {k a : Nat} (hk : k ≤ gs.length) (ha : a < 2 * k + 2) :
    ∃ b, (rowAt inp gs k)[a / 2]? = some b ∧ litV (vals inp (gs.take k)) a = (b != (((a : Int) % 2) == 1)) := by
  refine ⟨_, rowAt_get hk (i := a / 2) (by omega), ?_⟩
  unfold litV
  congr 1
  rw [Bool.eq_iff_iff]
  simp
  omega
/-- a literal of the graph, read off the whole row -/
theorem lit_all {inp : List Bool} {gs : List Gate} {a : Nat} (ha : has gs a) : ∃ b, (vals inp gs)[a / 2]? = some b ∧ ev inp gs a = (b != (((a : Int) % 2) == 1)) := by
  have h := lit_row (inp := inp) (gs := gs) (k := gs.length) (a := a) (Nat.le_refl _) ha
  rw [rowAt_all, List.take_length] at h
  exact h
theorem ins_take_lt {gs : List Gate} {k : Nat} {g : Gate} (hk : gs[k]? = some g) (hg : g.inp = true) : ins (gs.take k) < ins gs := by
  have e : gs = gs.take (k + 1) ++ gs.drop (k + 1) := (List.take_append_drop _ _).symm
  have h : ins gs = ins (gs.take (k + 1)) + ins (gs.drop (k + 1)) := by rw [← ins_append, ← e]
  rw [take_one hk, ins_append] at h
  simp only [ins, hg, if_true] at h
  omega
theorem ins_take_succ {gs : List Gate} {k : Nat} {g : Gate} (hk : gs[k]? = some g) : ins (gs.take (k + 1)) = ins (gs.take k) + (if g.inp then 1 else 0) := by
  rw [take_one hk, ins_append]; simp [ins]
end Gm
end Go.Proofs.YtaedbnbeelkkcaaDoor
