/-
  THE LAW WordApplies, called with whatever can be read.
-/
import Derived.Test.YtmbjhpgemphmmaaDoorLv
import Derived.Test.YtmbjhpgemphmmaaDoorLo
import Derived.Test.YtmbjhpgemphmmaaDoorSp
import Derived.ChangeMaps5
namespace Go.Proofs.YtmbjhpgemphmmaaDoor
open Go.ChangeShapes Go.WideShapes Go.ChangeAt Go.RowKit Go.Deep
section
variable {H : Type} {enc : TypeId × Value → H} {P : Program}
theorem open_vals {W : World} {base : Nat} {t e : TypeId} {r : Reach} {v : Value} {d : DataW H} {p : List MemPlace} {fs : Array Field} (ht : P.underlying t = some (.slice e)) (he : P.underlying e = some (.struct fs)) (hone : oneCellFields P fs = true) (h2 : fs.size = 2) (hC : P.cellsOf e = fs.size)
    (hint : ∀ (j : Nat) (f : Field), fs[j]? = some f → P.underlying f.type = some (.int .i64)) (hval : Value.okWide P W r base t v) (h : DataW.Trod enc P W 0 (fun _ => true) true t v d p) :
    ∃ (A : Option Addr) (l : List (Int × Int)) (c : Nat), v = .slice A l.length c ∧ Reads W W.heap.size 2 A l.length (pvVals l) := by
  obtain ⟨a0, l0, c0, rfl⟩ := okWide_slice ht hval
  obtain ⟨fuel, hf⟩ := h
  rcases open_slice_fields ht he hone hC hf with ⟨hcs, _⟩ | ⟨a, len, cap, m, D, Pl, hcs, _, hlen, hmax, hm, _, hel⟩
  · simp only [Value.cells, List.cons.injEq, Value.slice.injEq, and_true] at hcs
    obtain ⟨rfl, rfl, rfl⟩ := hcs
    exact ⟨none, [], 0, rfl, .none_⟩
  · simp only [Value.cells, List.cons.injEq, Value.slice.injEq, and_true] at hcs
    obtain ⟨rfl, rfl, rfl⟩ := hcs
    have hlm : l0 ≤ m := by rw [hm]; split <;> omega
    have cell : ∀ i, i < l0 → ∀ j, j < 2 → ∃ n : Int, W.cell? (a.add (i * 2 + j)) = some (.int .i64 n) := by
      intro i hi j hj
      obtain ⟨ys, n, _, _, _, hq⟩ := hel i (by omega)
      have hjs : j < fs.size := by omega
      obtain ⟨v, y, hcell, _, htr⟩ := hq j fs[j] (Array.getElem?_eq_getElem hjs)
      rw [h2] at hcell
      obtain ⟨x, hx, _, hw⟩ := DataW.trod_int (hint j _ (Array.getElem?_eq_getElem hjs)) htr
      simp only [List.cons.injEq, and_true] at hx
      exact ⟨x, by rw [hcell, hx]⟩
    have all : ∀ i, ∃ q : Int × Int, i < l0 → W.cell? (a.add (i * 2 + 0)) = some (.int .i64 q.1) ∧ W.cell? (a.add (i * 2 + 1)) = some (.int .i64 q.2) := by
      intro i
      by_cases hi : i < l0
      · obtain ⟨n0, e0⟩ := cell i hi 0 (by omega)
        obtain ⟨n1, e1⟩ := cell i hi 1 (by omega)
        exact ⟨(n0, n1), fun _ => ⟨e0, e1⟩⟩
      · exact ⟨(0, 0), fun h => absurd h hi⟩
    obtain ⟨M, hM⟩ := Classical.axiomOfChoice all
    have hl : ((List.range l0).map M).length = l0 := by simp
    refine ⟨some a, (List.range l0).map M, c0, by rw [hl], ?_⟩
    rw [hl]
    refine ⟨by rw [pvVals_length, hl], fun hpos => ⟨a, rfl, ?_, fun j u hu => ?_⟩⟩
    · have := World.block_lt_of_cell? W _ (hM 0 (by omega)).1
      rwa [block_of_add] at this
    · have hj : j < l0 * 2 := by
        have := (List.getElem?_eq_some_iff.1 hu).1
        rwa [pvVals_length, hl] at this
      obtain ⟨i, hi⟩ : ∃ i, i = j / 2 := ⟨_, rfl⟩
      have hil : i < l0 := by omega
      have hg : ((List.range l0).map M)[i]? = some (M i) := by simp [List.getElem?_range hil]
      obtain ⟨q0, q1⟩ := pvVals_at _ i _ hg
      obtain ⟨g0, g1⟩ := hM i hil
      have h2' : j = i * 2 + 0 ∨ j = i * 2 + 1 := by omega
      rcases h2' with e | e <;> subst e
      · rw [Nat.add_zero, q0] at hu; injection hu with hu; rw [← hu]; exact g0
      · rw [q1] at hu; injection hu with hu; rw [← hu]; exact g1
end
end Go.Proofs.YtmbjhpgemphmmaaDoor
namespace Go.Proofs.YtmbjhpgemphmmaaDoor.wordApplies
open Go.ChangeShapes Go.WideShapes Go.ChangeAt Go.RowKit
set_option maxRecDepth 100000 in
theorem calls (H : Type) (enc : TypeId × Value → H) (W : World) (base : Nat) (args : Array Value) (ds gs : List (DataW H)) (before : List MemPlace)
    (hval : ∀ (j : Nat) t v, Tryd.f6.params[j]? = some t → args[j]? = some v → Value.okWide Tryd.prog W .any base t v)
    (hW : DataW.Whole enc Tryd.prog Tryd.f6.params.toList Rows.wordAppliesSpec.vars false W args.toList ds gs before) (hL : laidMetH Tryd.prog Rows.wordAppliesRow.laid W) :
    Calls Tryd.prog 6 args W (LPost W) := by
  obtain ⟨p, q, hA0, hV, rfl, hfz, hnd⟩ := hW
  have hA : DataW.TrodAll enc Tryd.prog W 0 (fun _ => true) true Tryd.f6.params.toList args.toList ds p := hA0
  rw [Tryd.params6] at hA hval
  obtain ⟨v0, vs0, d0, ds0, p0, q0, hargs, rfl, rfl, h0, r0⟩ := trodAll_cons hA
  obtain ⟨v1, vs1, d1, ds1, p1, q1, rfl, rfl, rfl, h1, r1⟩ := trodAll_cons r0
  obtain ⟨rfl, rfl, rfl⟩ := trodAll_nil r1
  obtain rfl : args = #[v0, v1] := by cases args; simp_all
  obtain ⟨s, rfl, rfl, rfl, hs⟩ := ChangeMaps.open_string Tryd.underlying9 (hval 0 9 v0 rfl rfl) h0
  obtain ⟨A3, l, c3, rfl, hr3⟩ := open_vals Tryd.underlying48 Tryd.underlying45 (by kernel_rfl) rfl (by kernel_rfl) (fun j f hj => by
    match j, hj with
    | 0, hj => injection hj with hj; subst hj; exact Tryd.underlying3
    | 1, hj => injection hj with hj; subst hj; exact Tryd.underlying3
    | j + 2, hj => exact absurd (Array.getElem?_eq_some_iff.1 hj).1 (by simp)) (hval 1 48 v1 rfl rfl) h1
  obtain ⟨ea, he⟩ := errs_of_laid hL (fun x hx => show x ∈ errList ++ [("lustrum/tree.levels", Rows.laid_lustrum_tree_levels)] from List.mem_append_left _ hx)
  by_cases hlen : l.length ≤ 5
  · exact applies_short he (Nat.le_refl _) (lvls_of_laid hL (List.mem_of_getElem? (i := 10) rfl)) (Nat.le_refl _) rfl hlen hr3
  · exact applies_long (by omega)
end Go.Proofs.YtmbjhpgemphmmaaDoor.wordApplies
