/-
  A ROW OF INTS WRITTEN AS A WHOLE (a sort's, a compaction's world).
-/
import Derived.Test.YtaedbnbeelkkcaaDoorUs
import Derived.Test.YtaedbnbeelkkcaaDoorSh
namespace Go.Proofs.YtaedbnbeelkkcaaDoor
open Go.RowKit Go.Sort
section
variable {w w' : World} {tag tag' : Nat → Tag} {t : Tag} {base g c : Nat} {e : TypeId} {zs zs' : List Int}
theorem put_heap (enc : Int → Value) (w : World) (g off k : Nat) (d : Array Int) : (putRow enc w g off d).heap[k]? = if g = k then (w.heap[k]?).map (onCells (putCells enc off d)) else w.heap[k]? := by
  unfold putRow mapBlock
  simp only [Array.getElem?_modify]
theorem cg_put (d : Array Int) (ht : tag g = t) : Cg tag (fun s => s = t) w (putRow (Value.int .i64) w g 0 d) :=
  ⟨rfl, rfl, rfl, by simp, fun k o ho hn => by
    rw [put_heap, if_neg]
    · exact ho
    · rintro rfl; exact hn ht⟩
theorem below_grow (w : World) (os : Array Obj) : Below w.heap.size w (grow w os) :=
  ⟨rfl, rfl, rfl, by simp, fun k hk => by show (w.heap ++ os)[k]? = _; rw [Array.getElem?_append_left hk]⟩
theorem Row.holds (h : Row w tag t base e (.slice (some ⟨g, 0, none⟩) zs.length c) (litVals zs)) : Holds (Value.int .i64) w g 0 zs.toArray := fun j hj => by
  have h' : Row w tag t base e (.slice (some ⟨g, 0, none⟩) (litVals zs).length c) (litVals zs) := by rw [litVals_len]; exact h
  have hj : j < zs.length := by simpa using hj
  rw [Nat.zero_add]
  refine ⟨?_, Row.frozen h' j⟩
  rw [Row.cell h' (lit_at (x := zs[j]) (List.getElem?_eq_getElem hj))]
  simp [hj]
theorem Row.put_ (h : Row w tag t base e (.slice (some ⟨g, 0, none⟩) zs.length c) (litVals zs)) (hl : zs'.length = zs.length) :
    Row (putRow (Value.int .i64) w g 0 zs'.toArray) tag t base e (.slice (some ⟨g, 0, none⟩) zs.length c) (litVals zs') ∧ Cg tag (fun s => s = t) w (putRow (Value.int .i64) w g 0 zs'.toArray) := by
  have hg : tag g = t := h.tg g rfl
  refine ⟨⟨⟨by rw [Nat.mul_one], ?_⟩, h.tg⟩, cg_put _ hg⟩
  rw [litVals_len, hl]
  have ho := h.own.2
  rw [litVals_len] at ho
  rcases ho with ⟨e0, _⟩ | ⟨g', c', cur, hv, hb, hh, hle, hm, hs, ht⟩
  · injection e0 with e0; cases e0
  · injection hv with e1 _ e3
    injection e1 with e1
    injection e1 with e1 _
    subst e1; subst e3
    refine .inr ⟨g, c, putCells (Value.int .i64) 0 zs'.toArray cur, rfl, hb, ?_, hle, hm, by unfold putCells; simpa using hs, ?_⟩
    · rw [put_heap, if_pos rfl, hh]; rfl
    · apply List.ext_getElem?
      intro j
      rw [List.getElem?_take]
      unfold putCells
      simp only [Nat.mul_one, Array.getElem?_toList, Array.getElem?_mapIdx]
      by_cases hj : j < zs.length
      · rw [if_pos hj]
        have hj' : j < zs'.length := by omega
        have hc : j < cur.size := by omega
        rw [Array.getElem?_eq_getElem hc, Option.map_some, if_pos ⟨Nat.zero_le _, by simpa using hj'⟩]
        rw [lit_at (List.getElem?_eq_getElem hj')]
        simp [hj']
      · rw [if_neg hj, List.getElem?_eq_none (by rw [litVals_len]; omega)]
/-- behind a sort, a compaction -/
theorem Row.anew {w' : World} {m : Nat} {os : Array Obj} (h : Row w tag t base e (.slice (some ⟨g, 0, none⟩) zs.length c) (litVals zs)) (hl : zs'.length = zs.length) (hw : w' = grow (putRow (Value.int .i64) (Sort.ahead w m) g 0 zs'.toArray) os) :
    Row w' tag t base e (.slice (some ⟨g, 0, none⟩) zs.length c) (litVals zs') ∧ Cg tag (fun s => s = t) w w' := by
  subst hw
  have h1 : Row (Sort.ahead w m) tag t base e (.slice (some ⟨g, 0, none⟩) zs.length c) (litVals zs) := h.chg (S := fun _ => False) (cg_new (below_drewN (Below.refl _ _) m)) id
  obtain ⟨h2, h3⟩ := h1.put_ hl
  have c1 : Cg tag (fun s => s = t) w (Sort.ahead w m) := cg_new (below_drewN (Below.refl _ _) m)
  have c2 : Cg tag (fun s => s = t) (putRow (Value.int .i64) (Sort.ahead w m) g 0 zs'.toArray) (grow (putRow (Value.int .i64) (Sort.ahead w m) g 0 zs'.toArray) os) := cg_new (below_grow _ _)
  exact ⟨h2.chg (S := fun _ => False) (cg_new (below_grow _ _)) id, (Chg.trans c1 h3).trans c2⟩
end
end Go.Proofs.YtaedbnbeelkkcaaDoor
