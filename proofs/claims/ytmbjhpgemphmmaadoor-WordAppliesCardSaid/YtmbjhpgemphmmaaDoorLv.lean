/-
  WHAT THE ROWS' LISTS GIVE: the variable tree.levels, as the walks want it (Lvls).
-/
import Derived.Test.YtmbjhpgemphmmaaDoorYn
import Derived.Test.YtmbjhpgemphmmaaDoorLa
import Derived.SliceStrings
namespace Go.Proofs.YtmbjhpgemphmmaaDoor
open Go.ChangeShapes Go.WideShapes Go.ChangeAt Go.RowKit
theorem strs_inj {a b : List ByteArray} (h : (strs a : List (DataW Unit)) = strs b) : a = b := by
  unfold strs at h
  refine (List.map_inj_right fun x y hh => ?_).1 h
  have : x.data.toList = y.data.toList := by simpa using hh
  obtain ⟨⟨x⟩⟩ := x
  obtain ⟨⟨y⟩⟩ := y
  simp at this
  rw [this]
theorem lvl_one {W : World} {fuel : Nat} {cs : List Value} {q : List MemPlace} {ls : List ByteArray} (h : DataW.trod (fun _ => ()) Tryd.prog W 0 (fun _ => true) false fuel 136 cs = some (.slice (strs ls) [], q)) (hl : 0 < ls.length) :
    ∃ A c, cs = [.slice A ls.length c] ∧ Reads W W.heap.size 1 A ls.length (strVals ls) := by
  rcases open_strings Tryd.underlying136 Tryd.underlying9 (by kernel_rfl) h with ⟨_, hx⟩ | ⟨a, len, cap, ss, hcs, _, hlc, _, hz, hx, hcell, _⟩
  · cases hx
  · have h1 : (strs ls : List (DataW Unit)) = strs (ss.take len) := by
      have := congrArg Prod.fst hx
      simp only [DataW.slice.injEq] at this
      exact this.1
    have h2 := strs_inj h1
    have hzl : ss.length = cap := by rw [hz]; simp
    have hlen : ls.length = len := by rw [h2, List.length_take]; omega
    refine ⟨some a, cap, by rw [hcs, hlen], by rw [strVals_length, Nat.mul_one], fun _ => ⟨a, rfl, ?_, fun j u hu => ?_⟩⟩
    · have := World.block_lt_of_cell? W _ (hcell 0 (by omega))
      rwa [block_of_add] at this
    · have hj : j < ls.length := by have := (List.getElem?_eq_some_iff.1 hu).1; rwa [strVals_length] at this
      have hs : ls[j]? = some (ss.getD j ByteArray.empty) := by
        rw [h2, List.getElem?_take, if_pos (by omega), List.getD_eq_getElem?_getD, List.getElem?_eq_getElem (by omega)]; rfl
      rw [strVals_at hs] at hu
      injection hu with hu
      rw [← hu]
      exact hcell j (by omega)
theorem lv_g : Tryd.prog.globalNamed "lustrum/tree.levels" = some 4 := by kernel_rfl
theorem lv_t : (Tryd.prog.globals[4]?).map (·.type) = some 137 := by kernel_rfl
theorem lv_c : Tryd.prog.cellsOf 136 = 1 := by kernel_rfl
theorem lv_c5 : Tryd.prog.cellsOf 137 = 5 := by kernel_rfl
theorem lv_none : (Rows.laid_lustrum_tree_levels (H := Unit)).handleName?.isNone = true := by unfold Rows.laid_lustrum_tree_levels DataW.handleName?; simp
/-- WHAT THE LIST GIVES A WALK. -/
theorem lvls_of_laid {W : World} {l : List (String × DataW Unit)} (h : laidMetH Tryd.prog l W) (hm : ("lustrum/tree.levels", Rows.laid_lustrum_tree_levels) ∈ l) : Lvls W W.heap.size := by
  obtain ⟨ps, hl, _, _⟩ := (laidMetH_iff.1 h).1
  have hmf : (("lustrum/tree.levels", Rows.laid_lustrum_tree_levels) : String × DataW Unit) ∈ l.filter fun x => x.2.handleName?.isNone := List.mem_filter.2 ⟨hm, lv_none⟩
  obtain ⟨g', t', cs, fuel, p, k1, k2, k3, k4, _⟩ := laidVars_mem hl hmf
  obtain rfl := Option.some.inj (lv_g.symm.trans k1)
  obtain rfl := Option.some.inj (lv_t.symm.trans k2)
  have hc := fun i => World.var?_cell lv_g k3 i
  obtain ⟨xs, m, _, hx, hlen, hn, hel⟩ := DataW.trod_array Tryd.underlying137 k4
  rw [lv_c] at hel
  rw [lv_c5] at hlen
  have hx1 : (Rows.laid_lustrum_tree_levels (H := Unit)) = .agg (xs.map (·.1)) := congrArg Prod.fst hx
  have hx2 : xs.map (·.1) = [.slice (strs (lvl 0)) [], .slice (strs (lvl 1)) [], .slice (strs (lvl 2)) [], .slice (strs (lvl 3)) [], .slice (strs (lvl 4)) []] := by
    have : (Rows.laid_lustrum_tree_levels (H := Unit)) = .agg [.slice (strs (lvl 0)) [], .slice (strs (lvl 1)) [], .slice (strs (lvl 2)) [], .slice (strs (lvl 3)) [], .slice (strs (lvl 4)) []] := rfl
    rw [this] at hx1
    injection hx1 with hx1
    exact hx1.symm
  obtain ⟨cl⟩ := cs
  have one : ∀ i, i < 5 → ∃ A c, cl[i]? = some (.slice A (lvl i).length c) ∧ Reads W W.heap.size 1 A (lvl i).length (strVals (lvl i)) := fun i hi => by
    have h1 := hel i hi
    have h2 : (xs.map (·.1))[i]? = some (.slice (strs (lvl i)) []) := by
      rw [hx2]
      match i, hi with
      | 0, _ => rfl
      | 1, _ => rfl
      | 2, _ => rfl
      | 3, _ => rfl
      | 4, _ => rfl
    rw [List.getElem?_map] at h2
    obtain ⟨y, hy, hy1⟩ := Option.map_eq_some_iff.1 h2
    rw [hy] at h1
    obtain ⟨d, q⟩ := y
    simp only at hy1
    subst hy1
    obtain ⟨A, c, e1, e2⟩ := lvl_one h1 (by
      match i, hi with
      | 0, _ => decide
      | 1, _ => decide
      | 2, _ => decide
      | 3, _ => decide
      | 4, _ => decide)
    refine ⟨A, c, ?_, e2⟩
    have := congrArg (·[0]?) e1
    simpa [List.getElem?_take, List.getElem?_drop] using this
  have cell : ∀ i v, cl[i]? = some v → W.cell? ⟨4, i, none⟩ = some v := fun i v hv => by
    have := hc i
    rw [this]; simpa using hv
  obtain ⟨A0, c0, q0, r0⟩ := one 0 (by omega)
  obtain ⟨A1, c1, q1, r1⟩ := one 1 (by omega)
  obtain ⟨A2, c2, q2, r2⟩ := one 2 (by omega)
  obtain ⟨A3, c3, q3, r3⟩ := one 3 (by omega)
  obtain ⟨A4, c4, q4, r4⟩ := one 4 (by omega)
  exact ⟨⟨A0, A1, A2, A3, A4, c0, c1, c2, c3, c4, cell 0 _ q0, cell 1 _ q1, cell 2 _ q2, cell 3 _ q3, cell 4 _ q4, r0, r1, r2, r3, r4⟩, World.block_lt_of_cell? _ _ (cell 0 _ q0)⟩
end Go.Proofs.YtmbjhpgemphmmaaDoor
