/-
  A ROW OF INTS WRITTEN AS A WHOLE (a sort's, a compaction's world); compact of a sorted list; a checker with one clause more, with one clause written anew.
-/
import Derived.Test.YtgchepkcjkhmmaaDoorUh
import Derived.Test.YtgchepkcjkhmmaaDoorUg
import Derived.Test.YtgchepkcjkhmmaaDoorUx
import Derived.Test.YtgchepkcjkhmmaaDoorUk
namespace Go.Proofs.YtgchepkcjkhmmaaDoor
open Go.RowKit Go.Sort
section
variable {w w' : World} {tag tag' : Nat → Tag} {t : Tag} {base g c : Nat} {e : TypeId} {zs zs' : List Int}
theorem put_heap (enc : Int → Value) (w : World) (g off k : Nat) (d : Array Int) : (putRow enc w g off d).heap[k]? = if g = k then (w.heap[k]?).map (onCells (putCells enc off d)) else w.heap[k]? := by
  unfold putRow mapBlock
  simp only [Array.getElem?_modify]
theorem cg_put (d : Array Int) (ht : tag g = t) : Cg tag (fun s => s = t) w (putRow (Value.int .i64) w g 0 d) :=
  ⟨rfl, rfl, rfl, by simp, fun k o ho hn => by
    rw [put_heap, if_neg]
    · exact ho
    · rintro rfl; exact hn ht⟩
theorem below_grow (w : World) (os : Array Obj) : Below w.heap.size w (grow w os) :=
  ⟨rfl, rfl, rfl, by simp, fun k hk => by show (w.heap ++ os)[k]? = _; rw [Array.getElem?_append_left hk]⟩
theorem Row.holds (h : Row w tag t base e (.slice (some ⟨g, 0, none⟩) zs.length c) (litVals zs)) : Holds (Value.int .i64) w g 0 zs.toArray := fun j hj => by
  have h' : Row w tag t base e (.slice (some ⟨g, 0, none⟩) (litVals zs).length c) (litVals zs) := by rw [litVals_len]; exact h
  have hj : j < zs.length := by simpa using hj
  rw [Nat.zero_add]
  refine ⟨?_, Row.frozen h' j⟩
  rw [Row.cell h' (lit_at (x := zs[j]) (List.getElem?_eq_getElem hj))]
  simp [hj]
theorem Row.put_ (h : Row w tag t base e (.slice (some ⟨g, 0, none⟩) zs.length c) (litVals zs)) (hl : zs'.length = zs.length) :
    Row (putRow (Value.int .i64) w g 0 zs'.toArray) tag t base e (.slice (some ⟨g, 0, none⟩) zs.length c) (litVals zs') ∧ Cg tag (fun s => s = t) w (putRow (Value.int .i64) w g 0 zs'.toArray) := by
  have hg : tag g = t := h.tg g rfl
  refine ⟨⟨⟨by rw [Nat.mul_one], ?_⟩, h.tg⟩, cg_put _ hg⟩
  rw [litVals_len, hl]
  have ho := h.own.2
  rw [litVals_len] at ho
  rcases ho with ⟨e0, _⟩ | ⟨g', c', cur, hv, hb, hh, hle, hm, hs, ht⟩
  · injection e0 with e0; cases e0
  · injection hv with e1 _ e3
    injection e1 with e1
    injection e1 with e1 _
    subst e1; subst e3
    refine .inr ⟨g, c, putCells (Value.int .i64) 0 zs'.toArray cur, rfl, hb, ?_, hle, hm, by unfold putCells; simpa using hs, ?_⟩
    · rw [put_heap, if_pos rfl, hh]; rfl
    · apply List.ext_getElem?
      intro j
      rw [List.getElem?_take]
      unfold putCells
      simp only [Nat.mul_one, Array.getElem?_toList, Array.getElem?_mapIdx]
      by_cases hj : j < zs.length
      · rw [if_pos hj]
        have hj' : j < zs'.length := by omega
        have hc : j < cur.size := by omega
        rw [Array.getElem?_eq_getElem hc, Option.map_some, if_pos ⟨Nat.zero_le _, by simpa using hj'⟩]
        rw [lit_at (List.getElem?_eq_getElem hj')]
        simp [hj']
      · rw [if_neg hj, List.getElem?_eq_none (by rw [litVals_len]; omega)]
/-- behind a sort, a compaction -/
theorem Row.anew {w' : World} {m : Nat} {os : Array Obj} (h : Row w tag t base e (.slice (some ⟨g, 0, none⟩) zs.length c) (litVals zs)) (hl : zs'.length = zs.length) (hw : w' = grow (putRow (Value.int .i64) (Sort.ahead w m) g 0 zs'.toArray) os) :
    Row w' tag t base e (.slice (some ⟨g, 0, none⟩) zs.length c) (litVals zs') ∧ Cg tag (fun s => s = t) w w' := by
  subst hw
  have h1 : Row (Sort.ahead w m) tag t base e (.slice (some ⟨g, 0, none⟩) zs.length c) (litVals zs) := h.chg (S := fun _ => False) (cg_new (below_drewN (Below.refl _ _) m)) id
  obtain ⟨h2, h3⟩ := h1.put_ hl
  have c1 : Cg tag (fun s => s = t) w (Sort.ahead w m) := cg_new (below_drewN (Below.refl _ _) m)
  have c2 : Cg tag (fun s => s = t) (putRow (Value.int .i64) (Sort.ahead w m) g 0 zs'.toArray) (grow (putRow (Value.int .i64) (Sort.ahead w m) g 0 zs'.toArray) os) := cg_new (below_grow _ _)
  exact ⟨h2.chg (S := fun _ => False) (cg_new (below_grow _ _)) id, (Chg.trans c1 h3).trans c2⟩
theorem rowW_eq (w : World) (g : Nat) (d : List Int) (m : Nat) : srt.rowW w g d m = grow (putRow (Value.int .i64) (Sort.ahead w m) g 0 d.toArray) #[] := by
  rw [grow_empty]; rfl
end
/-! ### plain: compact of a sorted list -/
theorem getD_arr (zs : List Int) (j : Nat) : zs.toArray[j]! = zs.getD j 0 := by simp [List.getD_eq_getElem?_getD]
theorem compact_mem (zs : List Int) (n : Int) : n ∈ Lib.compact zs ↔ n ∈ zs := by
  unfold Lib.compact Lib.compactUpTo
  constructor
  · intro h
    obtain ⟨j, hj, e⟩ := List.mem_map.1 h
    have hj := (List.mem_filter.1 hj).1
    have hj := List.mem_range.1 hj
    rw [getD_arr, List.getD_eq_getElem?_getD, List.getElem?_eq_getElem hj] at e
    rw [← e]; exact List.getElem_mem hj
  · intro h
    have key : ∀ j : Nat, zs[j]? = some n → ∃ i, i ≤ j ∧ zs[i]? = some n ∧ Lib.keeps zs.toArray i = true := by
      intro j
      induction j with
      | zero => intro hj; exact ⟨0, Nat.le_refl _, hj, Lib.keeps_lt_one _ 0 (by omega)⟩
      | succ j ih =>
        intro hj
        by_cases e : zs[j]? = some n
        · obtain ⟨i, h1, h2, h3⟩ := ih e
          exact ⟨i, by omega, h2, h3⟩
        · refine ⟨j + 1, Nat.le_refl _, hj, Lib.keeps_pos ?_⟩
          rw [getD_arr, getD_arr, List.getD_eq_getElem?_getD, List.getD_eq_getElem?_getD, hj, Nat.add_sub_cancel]
          have hlt : j < zs.length := by have := (List.getElem?_eq_some_iff.1 hj).1; omega
          rw [List.getElem?_eq_getElem hlt] at e ⊢
          intro e2
          exact e (by simp at e2; rw [← e2])
    obtain ⟨j, hj, e⟩ := List.getElem_of_mem h
    obtain ⟨i, h1, h2, h3⟩ := key j (by rw [List.getElem?_eq_getElem hj, e])
    refine List.mem_map.2 ⟨i, List.mem_filter.2 ⟨List.mem_range.2 (by omega), h3⟩, ?_⟩
    rw [getD_arr, List.getD_eq_getElem?_getD, h2]; rfl
theorem compact_nodup {zs : List Int} (hs : zs.Pairwise (fun x y => x ≤ y)) : (Lib.compact zs).Nodup := by
  unfold Lib.compact Lib.compactUpTo
  have hle : ∀ i j : Nat, i ≤ j → j < zs.length → zs.getD i 0 ≤ zs.getD j 0 := fun i j hij hj => by
    rw [List.getD_eq_getElem?_getD, List.getD_eq_getElem?_getD, List.getElem?_eq_getElem hj, List.getElem?_eq_getElem (by omega)]
    show zs[i] ≤ zs[j]
    rcases Nat.lt_or_eq_of_le hij with h | h
    · exact List.pairwise_iff_getElem.1 hs i j _ hj h
    · subst h; exact Int.le_refl _
  have hp : ((List.range zs.length).filter (Lib.keeps zs.toArray)).Pairwise (fun i j => i < j ∧ j < zs.length ∧ Lib.keeps zs.toArray j = true) := by
    have h1 : (List.range zs.length).Pairwise (fun i j => i < j ∧ j < zs.length) := by
      rw [List.pairwise_iff_getElem]
      intro i j hi hj hij
      simp only [List.length_range] at hi hj
      simp only [List.getElem_range]
      exact ⟨hij, hj⟩
    have h2 := h1.filter (Lib.keeps zs.toArray)
    refine List.Pairwise.imp_of_mem ?_ h2
    intro a b _ hb h
    exact ⟨h.1, h.2, (List.mem_filter.1 hb).2⟩
  unfold List.Nodup
  rw [List.pairwise_map]
  refine hp.imp ?_
  rintro i j ⟨hij, hj, hk⟩ e
  rw [getD_arr, getD_arr] at e
  unfold Lib.keeps at hk
  rw [decide_eq_true_eq] at hk
  rcases hk with hk | hk
  · omega
  · rw [getD_arr, getD_arr] at hk
    have h1 := hle i (j - 1) (by omega) (by omega)
    have h2 := hle (j - 1) j (by omega) hj
    omega
theorem sort_sorted (zs : List Int) : (zs.mergeSort fun x y => decide (x ≤ y)).Pairwise (fun x y => x ≤ y) := by
  have := List.pairwise_mergeSort (le := fun x y : Int => decide (x ≤ y)) (fun a b c h1 h2 => by simp at *; omega) (fun a b => by simp; omega) zs
  exact this.imp fun h => by simpa using h
theorem sort_mem (zs : List Int) (n : Int) : n ∈ (zs.mergeSort fun x y => decide (x ≤ y)) ↔ n ∈ zs := (List.mergeSort_perm zs _).mem_iff
theorem sort_len (zs : List Int) : (zs.mergeSort fun x y => decide (x ≤ y)).length = zs.length := (List.mergeSort_perm zs _).length_eq
section
variable {w w' : World} {tag tag' : Nat → Tag} {p V : Nat} {y : Lay} {xs : List (List Int)} {wt : Int → List Nat} {vs tr us : List Int} {fx dd : Int}
/-- a clause more -/
theorem Chk.addX {A : Option Addr} {n c : Nat} {x : List Int} {u : Value} (h : Chk w tag p V y xs wt vs tr us fx dd) (hu : Row w tag (3, (xs.length : Int)) 0 3 u (litVals x)) (ho : w'.ownsRow 0 27 1 (.slice A n c) n (y.rows ++ [u])) (hl : xs.length + 1 = n) (hg : w.grownBy w' y.vC.ownBlock)
    (hloc : (Value.slice A n c).ownBlock = y.vC.ownBlock ∨ (Value.slice A n c).ownBlock = some w.heap.size) :
    ∃ tag', Re w tag tag' ∧ Cg tag (Fr 8) w (w'.setCell ⟨p, 0, none⟩ (.slice A n c)) ∧ Chk (w'.setCell ⟨p, 0, none⟩ (.slice A n c)) tag' p V { y with vC := .slice A n c, rows := y.rows ++ [u] } (xs ++ [x]) wt vs tr us fx dd := by
  obtain ⟨tag', hr, hrow, hc⟩ := h.hdr.grown ho (by rw [List.length_append, h.rlen]; exact hl) hg hloc
  have hp' : tag' p = (1, 0) := (hr _ h.blk.lt).trans h.tp
  have hc' := hc.re_ hr
  have h' := h.re hr
  have hu' := hu.re hr
  have hk : Cg tag' (fun s => s = (1, 0)) w' (w'.setCell ⟨p, 0, none⟩ (.slice A n c)) := cg_store (by show tag' p = _; exact hp') _
  refine ⟨tag', hr, (hc.mono_ (S' := Fr 8) fun t e => by subst e; exact ⟨by decide, by decide⟩).trans_ (hk.mono_ (S' := Fr 8) fun t e => by subst e; exact ⟨by decide, by decide⟩) hr, ?_⟩
  refine ⟨(h'.blk.tchg h'.tp hc' (by decide)).set_ 0 _, hp', hrow.chg hk (by decide), by simp [h.rlen], fun k x' u' hx hu2 => ?_, (h'.val.chg hc' (by decide)).chg hk (by decide),
    (h'.usd.chg hc' (by decide)).chg hk (by decide), h.ul, (h'.trl.chg hc' (by decide)).chg hk (by decide), h'.tm, (h'.map.chg hc' fun o => (by show ¬ tag' y.bm = _; rw [h'.tm]; decide)).chg hk fun o => (by show ¬ tag' y.bm = _; rw [h'.tm]; decide),
    fun n hn => ((h'.wts n hn).chg hc' (by simp)).chg hk (by simp)⟩
  have hu2 : (y.rows ++ [u])[k]? = some u' := hu2
  rcases Nat.lt_or_ge k xs.length with h1 | h1
  · rw [List.getElem?_append_left h1] at hx
    rw [List.getElem?_append_left (by rw [h.rlen]; exact h1)] at hu2
    exact ((h'.cls k x' u' hx hu2).chg hc' (by simp)).chg hk (by simp)
  · have hk2 : k = xs.length := by have := (List.getElem?_eq_some_iff.1 hx).1; simp at this; omega
    subst hk2
    rw [List.getElem?_concat_length] at hx
    have e2 : y.rows.length = xs.length := h.rlen
    rw [← e2, List.getElem?_concat_length] at hu2
    injection hx with hx; injection hu2 with hu2
    subst hx; subst hu2
    exact (hu'.chg hc' (by simp)).chg hk (by simp)
/-- a clause is written anew -/
theorem Chk.anewX {k : Nat} {x X : List Int} {u : Value} (h : Chk w tag p V y xs wt vs tr us fx dd) (hx : xs[k]? = some x) (hu : y.rows[k]? = some u) (hc : Cg tag (fun s => s = (3, (k : Int))) w w') (hr : Row w' tag (3, (k : Int)) 0 3 u (litVals X)) :
    Chk w' tag p V y (xs.set k X) wt vs tr us fx dd := by
  refine ⟨h.blk.tchg h.tp hc (by simp), h.tp, h.hdr.chg hc (by simp), by rw [List.length_set]; exact h.rlen, fun k' x' u' hx' hu' => ?_, h.val.chg hc (by simp), h.usd.chg hc (by simp), h.ul, h.trl.chg hc (by simp), h.tm,
    h.map.chg hc fun o => (by show ¬ tag y.bm = _; rw [h.tm]; simp), fun n hn => (h.wts n hn).chg hc (by simp)⟩
  rw [List.getElem?_set] at hx'
  by_cases e : k = k'
  · subst e
    rw [if_pos rfl, if_pos (List.getElem?_eq_some_iff.1 hx).1] at hx'
    injection hx' with hx'
    rw [hu] at hu'
    injection hu' with hu'
    subst hx'; subst hu'
    exact hr
  · rw [if_neg e] at hx'
    exact (h.cls k' x' u' hx' hu').chg hc (by simp; omega)
end
end Go.Proofs.YtgchepkcjkhmmaaDoor
