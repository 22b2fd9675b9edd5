/-
  PLAIN: compact of a sorted list: the same numbers, each once. No program in sight.
-/
import Derived.WalkKit
import Derived.Lib.SlicesCompact
namespace Go.Proofs.YtaedbnbeelkkcaaDoor
/-! ### plain: compact of a sorted list -/
theorem getD_arr (zs : List Int) (j : Nat) : zs.toArray[j]! = zs.getD j 0 := by simp [List.getD_eq_getElem?_getD]
theorem compact_mem (zs : List Int) (n : Int) : n ∈ Lib.compact zs ↔ n ∈ zs := by
  unfold Lib.compact Lib.compactUpTo
  constructor
  · intro h
    obtain ⟨j, hj, e⟩ := List.mem_map.1 h
    have hj := (List.mem_filter.1 hj).1
    have hj := List.mem_range.1 hj
    rw [getD_arr, List.getD_eq_getElem?_getD, List.getElem?_eq_getElem hj] at e
    rw [← e]; exact List.getElem_mem hj
  · intro h
    have key : ∀ j : Nat, zs[j]? = some n → ∃ i, i ≤ j ∧ zs[i]? = some n ∧ Lib.keeps zs.toArray i = true := by
      intro j
      induction j with
      | zero => intro hj; exact ⟨0, Nat.le_refl _, hj, Lib.keeps_lt_one _ 0 (by omega)⟩
      | succ j ih =>
        intro hj
        by_cases e : zs[j]? = some n
        · obtain ⟨i, h1, h2, h3⟩ := ih e
          exact ⟨i, by omega, h2, h3⟩
        · refine ⟨j + 1, Nat.le_refl _, hj, Lib.keeps_pos ?_⟩
          rw [getD_arr, getD_arr, List.getD_eq_getElem?_getD, List.getD_eq_getElem?_getD, hj, Nat.add_sub_cancel]
          have hlt : j < zs.length := by have := (List.getElem?_eq_some_iff.1 hj).1; omega
          rw [List.getElem?_eq_getElem hlt] at e ⊢
          intro e2
          exact e (by simp at e2; rw [← e2])
    obtain ⟨j, hj, e⟩ := List.getElem_of_mem h
    obtain ⟨i, h1, h2, h3⟩ := key j (by rw [List.getElem?_eq_getElem hj, e])
    refine List.mem_map.2 ⟨i, List.mem_filter.2 ⟨List.mem_range.2 (by omega), h3⟩, ?_⟩
    rw [getD_arr, List.getD_eq_getElem?_getD, h2]; rfl
theorem compact_nodup {zs : List Int} (hs : zs.Pairwise (fun x y => x ≤ y)) : (Lib.compact zs).Nodup := by
  unfold Lib.compact Lib.compactUpTo
  have hle : ∀ i j : Nat, i ≤ j → j < zs.length → zs.getD i 0 ≤ zs.getD j 0 := fun i j hij hj => by
    rw [List.getD_eq_getElem?_getD, List.getD_eq_getElem?_getD, List.getElem?_eq_getElem hj, List.getElem?_eq_getElem (by omega)]
    show zs[i] ≤ zs[j]
    rcases Nat.lt_or_eq_of_le hij with h | h
    · exact List.pairwise_iff_getElem.1 hs i j _ hj h
    · subst h; exact Int.le_refl _
  have hp : ((List.range zs.length).filter (Lib.keeps zs.toArray)).Pairwise (fun i j => i < j ∧ j < zs.length ∧ Lib.keeps zs.toArray j = true) := by
    have h1 : (List.range zs.length).Pairwise (fun i j => i < j ∧ j < zs.length) := by
      rw [List.pairwise_iff_getElem]
      intro i j hi hj hij
      simp only [List.length_range] at hi hj
      simp only [List.getElem_range]
      exact ⟨hij, hj⟩
    have h2 := h1.filter (Lib.keeps zs.toArray)
    refine List.Pairwise.imp_of_mem ?_ h2
    intro a b _ hb h
    exact ⟨h.1, h.2, (List.mem_filter.1 hb).2⟩
  unfold List.Nodup
  rw [List.pairwise_map]
  refine hp.imp ?_
  rintro i j ⟨hij, hj, hk⟩ e
  rw [getD_arr, getD_arr] at e
  unfold Lib.keeps at hk
  rw [decide_eq_true_eq] at hk
  rcases hk with hk | hk
  · omega
  · rw [getD_arr, getD_arr] at hk
    have h1 := hle i (j - 1) (by omega) (by omega)
    have h2 := hle (j - 1) j (by omega) hj
    omega
theorem sort_sorted (zs : List Int) : (zs.mergeSort fun x y => decide (x ≤ y)).Pairwise (fun x y => x ≤ y) := by
  have := List.pairwise_mergeSort (le := fun x y : Int => decide (x ≤ y)) (fun a b c h1 h2 => by simp at *; omega) (fun a b => by simp; omega) zs
  exact this.imp fun h => by simpa using h
theorem sort_mem (zs : List Int) (n : Int) : n ∈ (zs.mergeSort fun x y => decide (x ≤ y)) ↔ n ∈ zs := (List.mergeSort_perm zs _).mem_iff
theorem sort_len (zs : List Int) : (zs.mergeSort fun x y => decide (x ≤ y)).length = zs.length := (List.mergeSort_perm zs _).length_eq
end Go.Proofs.YtaedbnbeelkkcaaDoor
