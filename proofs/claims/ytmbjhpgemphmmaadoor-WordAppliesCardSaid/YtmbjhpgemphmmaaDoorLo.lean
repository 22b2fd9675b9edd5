/-
  OPENERS of the laws' arguments: a []Make, an []int. (open_slice_fields is a lemma that the kit lays out to be copied.)
-/
import Derived.Test.YtmbjhpgemphmmaaDoorLs
import Derived.Test.YtmbjhpgemphmmaaDoorMk
import Derived.Deep.Slices
import Derived.Deep.Fields
namespace Go.Proofs.YtmbjhpgemphmmaaDoor
open Go.ChangeShapes Go.WideShapes Go.ChangeAt Go.RowKit Go.Deep

section
variable {H : Type} {enc : TypeId × Value → H} {P : Program} {w : World} {base : Nat} {spare : Nat → Bool} {held : Bool}
theorem open_slice_fields {t e : TypeId} {fs : Array Field} {fuel : Nat} {cs : List Value} {x : DataW H × List MemPlace} (ht : P.underlying t = some (.slice e)) (he : P.underlying e = some (.struct fs))
    (hone : oneCellFields P fs = true) (hC : P.cellsOf e = fs.size) (h : DataW.trod enc P w base spare held fuel t cs = some x) :
    (cs = [.slice none 0 0] ∧ x = (.nil, [])) ∨
    ∃ (a : Addr) (len cap m : Nat) (D : Nat → DataW H) (Pl : Nat → List MemPlace), cs = [.slice (some a) len cap] ∧ base ≤ a.block ∧ len ≤ cap ∧ cap ≤ maxLen ∧ m = (if spare a.block then cap else len) ∧
      x = (.slice ((List.range len).map D) ((List.range (m - len)).map fun j => D (len + j)), MemPlace.row a (m * fs.size) ++ (List.range m).flatMap Pl) ∧
      ∀ i, i < m → ∃ (ys : List (DataW H × List MemPlace)) (n : Nat), D i = .agg (ys.map (·.1)) ∧ Pl i = ys.flatMap (·.2) ∧ ys.length = fs.size ∧
        ∀ (j : Nat) (f : Field), fs[j]? = some f → ∃ (v : Value) (y : DataW H × List MemPlace), w.cell? (a.add (i * fs.size + j)) = some v ∧ ys[j]? = some y ∧ DataW.trod enc P w base spare held n f.type [v] = some y := by
  rcases open_slice ht h with h0 | ⟨a, len, cap, m, n, D, Pl, hcs, hb, hl, hm, hmm, hx, hi⟩
  · exact .inl h0
  · refine .inr ⟨a, len, cap, m, D, Pl, hcs, hb, hl, hm, hmm, by rw [hC] at hx; exact hx, fun i him => ?_⟩
    obtain ⟨cs', hc, ht'⟩ := hi i him
    rw [hC] at hc
    obtain ⟨ys, n', hn', hy, hlen, hyl, hf⟩ := DataW.trod_struct he ht'
    obtain ⟨_, hcl, hat⟩ := World.cells?_some hc
    simp only [Prod.mk.injEq] at hy
    refine ⟨ys, n', hy.1, hy.2, hyl, fun j f hj => ?_⟩
    obtain ⟨ho, hk⟩ := hone_of hone j f hj
    have hjl : j < fs.size := (Array.getElem?_eq_some_iff.1 hj).1
    have hcell := hat j hjl
    have hv : cs'[j]? = some (cs'[j]'(by omega)) := List.getElem?_eq_getElem (by omega)
    have h1 := hf j f hj
    rw [ho, hk] at h1
    have hone' : (cs'.drop j).take 1 = [cs'[j]'(by omega)] := by
      rw [List.drop_eq_getElem_cons (by omega)]
      rfl
    rw [hone'] at h1
    have hys : ys[j]? = some (ys[j]'(by omega)) := List.getElem?_eq_getElem (by omega)
    refine ⟨_, _, ?_, hys, h1.trans hys⟩
    rw [← Go.Deep.add_add, hcell, hv]
end

section
variable {H : Type} {enc : TypeId × Value → H} {P : Program}
theorem open_makes {W : World} {base : Nat} {t e : TypeId} {r : Reach} {v : Value} {d : DataW H} {p : List MemPlace} {fs : Array Field} (ht : P.underlying t = some (.slice e)) (he : P.underlying e = some (.struct fs)) (hone : oneCellFields P fs = true) (h4 : fs.size = 4) (hC : P.cellsOf e = fs.size)
    (hint : ∀ (j : Nat) (f : Field), fs[j]? = some f → P.underlying f.type = some (.int .i64)) (hval : Value.okWide P W r base t v) (h : DataW.Trod enc P W 0 (fun _ => true) true t v d p) :
    ∃ (A : Option Addr) (ms : List Mk) (c : Nat), v = .slice A ms.length c ∧ Reads W W.heap.size 4 A ms.length (mkVals ms) ∧ ∀ m ∈ ms, m.fits := by
  obtain ⟨a0, l0, c0, rfl⟩ := okWide_slice ht hval
  obtain ⟨fuel, hf⟩ := h
  rcases open_slice_fields ht he hone hC hf with ⟨hcs, _⟩ | ⟨a, len, cap, m, D, Pl, hcs, _, hlen, hmax, hm, _, hel⟩
  · simp only [Value.cells, List.cons.injEq, Value.slice.injEq, and_true] at hcs
    obtain ⟨rfl, rfl, rfl⟩ := hcs
    exact ⟨none, [], 0, rfl, .none_, by simp⟩
  · simp only [Value.cells, List.cons.injEq, Value.slice.injEq, and_true] at hcs
    obtain ⟨rfl, rfl, rfl⟩ := hcs
    have hlm : l0 ≤ m := by rw [hm]; split <;> omega
    have cell : ∀ i, i < l0 → ∀ j, j < 4 → ∃ n : Int, W.cell? (a.add (i * 4 + j)) = some (.int .i64 n) ∧ (Lit.int .i64 n).wf = true := by
      intro i hi j hj
      obtain ⟨ys, n, _, _, _, hq⟩ := hel i (by omega)
      have hjs : j < fs.size := by omega
      obtain ⟨v, y, hcell, _, htr⟩ := hq j fs[j] (Array.getElem?_eq_getElem hjs)
      rw [h4] at hcell
      obtain ⟨x, hx, _, hw⟩ := DataW.trod_int (hint j _ (Array.getElem?_eq_getElem hjs)) htr
      simp only [List.cons.injEq, and_true] at hx
      exact ⟨x, by rw [hcell, hx], hw⟩
    have all : ∀ i, ∃ q : Mk, i < l0 → W.cell? (a.add (i * 4 + 0)) = some (.int .i64 q.k) ∧ W.cell? (a.add (i * 4 + 1)) = some (.int .i64 q.a) ∧ W.cell? (a.add (i * 4 + 2)) = some (.int .i64 q.b) ∧ W.cell? (a.add (i * 4 + 3)) = some (.int .i64 q.c) ∧ q.fits := by
      intro i
      by_cases hi : i < l0
      · obtain ⟨n0, e0, w0⟩ := cell i hi 0 (by omega)
        obtain ⟨n1, e1, w1⟩ := cell i hi 1 (by omega)
        obtain ⟨n2, e2, w2⟩ := cell i hi 2 (by omega)
        obtain ⟨n3, e3, w3⟩ := cell i hi 3 (by omega)
        exact ⟨⟨n0, n1, n2, n3⟩, fun _ => ⟨e0, e1, e2, e3, w0, w1, w2, w3⟩⟩
      · exact ⟨⟨0, 0, 0, 0⟩, fun h => absurd h hi⟩
    obtain ⟨M, hM⟩ := Classical.axiomOfChoice all
    have hl : ((List.range l0).map M).length = l0 := by simp
    refine ⟨some a, (List.range l0).map M, c0, by rw [hl], ?_, fun q hq => ?_⟩
    · rw [hl]
      refine ⟨by rw [mkVals_length, hl], fun hpos => ⟨a, rfl, ?_, fun j u hu => ?_⟩⟩
      · have := World.block_lt_of_cell? W _ (hM 0 (by omega)).1
        rwa [block_of_add] at this
      · have hj : j < l0 * 4 := by
          have := (List.getElem?_eq_some_iff.1 hu).1
          rwa [mkVals_length, hl] at this
        obtain ⟨i, hi⟩ : ∃ i, i = j / 4 := ⟨_, rfl⟩
        have hil : i < l0 := by omega
        have hg : ((List.range l0).map M)[i]? = some (M i) := by simp [List.getElem?_range hil]
        obtain ⟨q0, q1, q2, q3⟩ := mkVals_at _ i _ hg
        obtain ⟨g0, g1, g2, g3, _⟩ := hM i hil
        have h4' : j = i * 4 + 0 ∨ j = i * 4 + 1 ∨ j = i * 4 + 2 ∨ j = i * 4 + 3 := by omega
        rcases h4' with e | e | e | e <;> subst e
        · rw [Nat.add_zero, q0] at hu; injection hu with hu; rw [← hu]; exact g0
        · rw [q1] at hu; injection hu with hu; rw [← hu]; exact g1
        · rw [q2] at hu; injection hu with hu; rw [← hu]; exact g2
        · rw [q3] at hu; injection hu with hu; rw [← hu]; exact g3
    · obtain ⟨i, hi, rfl⟩ := List.mem_map.1 hq
      exact (hM i (by simpa using hi)).2.2.2.2
end
end Go.Proofs.YtmbjhpgemphmmaaDoor
