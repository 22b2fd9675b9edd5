/-
  ROWS OF CLAUSES of the call's own: what reads nothing.
-/
import Derived.Test.YtaedbnbeelkkcaaDoorProg
import Derived.Test.YtaedbnbeelkkcaaDoorLp
import Derived.Test.YtaedbnbeelkkcaaDoorGv
namespace Go.Proofs.YtaedbnbeelkkcaaDoor
open Go.RowKit
theorem own_full0 {w : World} {base e n : Nat} {xs : List Value} (hb : base ≤ w.heap.size) (hl : xs.length = n) (hn : n ≤ 1000000) :
    (w.alloc (.cells xs.toArray e)).ownsRow base e 1 (.slice (some ⟨w.heap.size, 0, none⟩) n n) n xs :=
  ⟨by omega, .inr ⟨w.heap.size, n, xs.toArray, rfl, hb, heap_alloc_new w _, Nat.le_refl _, le_maxLen hn, by simp [hl], by rw [Nat.mul_one, ← hl]; simp⟩⟩
theorem own_grown_below0 {W wr w1 : World} {base n : Nat} {e : TypeId} {v : Value} {xs : List Value} {o : Obj} (hb : Below W.heap.size W wr) (ho : wr.ownsRow base e 1 v n xs) (hbs : W.heap.size ≤ base) (hg : (wr.alloc o).grownBy w1 v.ownBlock) : Below W.heap.size W w1 := by
  refine (hb.alloc hb.size o).trans ⟨hg.os, hg.tape, hg.output, hg.size, fun k hk => hg.block k (by have := hb.size; simp; omega) fun h => ?_⟩
  have := (ho.lt k h.symm).1
  omega
theorem infoIntR_ : (Tryd.prog.info? 3).map (fun i => (i.zero, i.size, i.bytes)) = some (some (.int .i64 0), 1, 8) := by kernel_rfl
theorem bal0 {w w' : World} (h : Below w.heap.size w w') (o : Obj) : Below w.heap.size w (w'.alloc o) := h.alloc h.size o
theorem own_far {w : World} {base e n g k : Nat} {v : Value} {xs : List Value} (h : w.ownsRow base e 1 v n xs) (u : Value) (hg : v.ownBlock ≠ some g) : (w.setCell ⟨g, k, none⟩ u).ownsRow base e 1 v n xs := by
  refine ⟨h.1, ?_⟩
  rcases h.2 with h0 | ⟨g', cap, cur, rfl, hb, hh, rest⟩
  · exact .inl h0
  · refine .inr ⟨g', cap, cur, rfl, hb, ?_, rest⟩
    exact (Below.heap_setCell _ _ _ _ (fun e => hg (by simp [Value.ownBlock]; exact e))).trans hh
theorem own_own_ne {w : World} {base base' e e' n n' : Nat} {v v' : Value} {xs ys : List Value} (h : w.ownsRow base e 1 v n xs) (h' : w.ownsRow base' e' 1 v' n' ys) (hne : e ≠ e') : v.ownBlock = none ∨ v.ownBlock ≠ v'.ownBlock := by
  rcases h'.2 with ⟨rfl, _⟩ | ⟨g', cap, cur, rfl, _, hh, _⟩
  · cases hv : v.ownBlock with
    | none => exact .inl rfl
    | some g => exact .inr (by simp [Value.ownBlock])
  · exact .inr (own_blk_ne h (t := e') hh hne)
theorem own_kept1 {w w1 : World} {base base' e e' n n' : Nat} {v v' : Value} {xs ys : List Value} {o : Obj} (h : w.ownsRow base e 1 v n xs) (h' : w.ownsRow base' e' 1 v' n' ys) (hne : e ≠ e') (hg : (w.alloc o).grownBy w1 v'.ownBlock) : w1.ownsRow base e 1 v n xs :=
  (h.alloc o).kept hg (own_own_ne h h' hne)
/-- clauses of the call's own -/
def CsAt (w : World) (base : Nat) (v : Value) (cs : List (List Int)) : Prop :=
  ∃ rows : List Value, w.ownsRow base 26 1 v cs.length rows ∧ ∀ (i : Nat) (l : List Int), cs[i]? = some l → ∃ u, rows[i]? = some u ∧ w.ownsRow base 3 1 u l.length (litVals l)
theorem CsAt.nil (w : World) (base : Nat) : CsAt w base (.slice none 0 0) [] := ⟨[], World.ownsRow_nil _ _ _ _, fun i l h => by simp at h⟩
theorem CsAt.chg {w w' : World} {base : Nat} {v : Value} {cs : List (List Int)} (h : CsAt w base v cs) (hb : Below w.heap.size w w') : CsAt w' base v cs := by
  obtain ⟨rows, h1, h2⟩ := h
  refine ⟨rows, own_chg (S := fun _ _ => False) h1 (Chg.of_new hb) (fun _ _ _ _ hs => hs), fun i l hi => ?_⟩
  obtain ⟨u, h3, h4⟩ := h2 i l hi
  exact ⟨u, h3, own_chg (S := fun _ _ => False) h4 (Chg.of_new hb) (fun _ _ _ _ hs => hs)⟩
theorem CsAt.more {w w' : World} {base : Nat} {v v' : Value} {cs new : List (List Int)} {rows news : List Value} {o : Obj} (hrow : w.ownsRow base 26 1 v cs.length rows)
    (hcl : ∀ (i : Nat) (l : List Int), cs[i]? = some l → ∃ u, rows[i]? = some u ∧ w.ownsRow base 3 1 u l.length (litVals l))
    (hnew : ∀ (i : Nat) (l : List Int), new[i]? = some l → ∃ u, news[i]? = some u ∧ w.ownsRow base 3 1 u l.length (litVals l))
    (hg : (w.alloc o).grownBy w' v.ownBlock) (hown : w'.ownsRow base 26 1 v' (cs.length + new.length) (rows ++ news)) : CsAt w' base v' (cs ++ new) := by
  refine ⟨rows ++ news, by rw [List.length_append]; exact hown, fun i l hi => ?_⟩
  have hrl : rows.length = cs.length := by have := hrow.1; omega
  rcases Nat.lt_or_ge i cs.length with h | h
  · rw [List.getElem?_append_left h] at hi
    obtain ⟨u, h1, h2⟩ := hcl i l hi
    exact ⟨u, by rw [List.getElem?_append_left (by omega)]; exact h1, own_kept1 h2 hrow (by decide) hg⟩
  · rw [List.getElem?_append_right h] at hi
    obtain ⟨u, h1, h2⟩ := hnew _ l hi
    exact ⟨u, by rw [List.getElem?_append_right (by omega), hrl]; exact h1, own_kept1 h2 hrow (by decide) hg⟩
theorem CsAt.far {w : World} {base g t : Nat} {v : Value} {cs : List (List Int)} {cells : Array Value} (h : CsAt w base v cs) (hb : Blk w g t cells) (h1 : 26 ≠ t) (h2 : 3 ≠ t) (i : Nat) (u : Value) : CsAt (w.setCell ⟨g, i, none⟩ u) base v cs := by
  obtain ⟨rows, h3, h4⟩ := h
  refine ⟨rows, own_far h3 _ (own_blk_ne h3 hb h1), fun i l hi => ?_⟩
  obtain ⟨x, h5, h6⟩ := h4 i l hi
  exact ⟨x, h5, own_far h6 _ (own_blk_ne h6 hb h2)⟩
theorem infoClause_ : (Tryd.prog.info? 26).map (fun i => (i.zero, i.size, i.bytes)) = some (some (.slice none 0 0), 1, 24) := by kernel_rfl
end Go.Proofs.YtaedbnbeelkkcaaDoor
