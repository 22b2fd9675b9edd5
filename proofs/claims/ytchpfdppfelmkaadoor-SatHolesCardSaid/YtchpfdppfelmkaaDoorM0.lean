/-
  A formula that a law builds up, clause by clause, in memory.
-/
import Derived.Test.YtchpfdppfelmkaaDoorN4
namespace Go.Proofs.YtchpfdppfelmkaaDoor.slv
open Go.RowKit
/-- a formula under way: its cell, its clauses as rows of one's own -/
def FmA (w0 : World) (g V base : Nat) (cs : List (List Int)) (wr : World) : Prop :=
  ∃ (A : Option Addr) (c : Nat), Below w0.heap.size w0 wr ∧ Blk wr g 29 #[.int .i64 (V : Nat), .slice A cs.length c] ∧ CsAt wr base (.slice A cs.length c) cs ∧ base ≤ wr.heap.size ∧ w0.heap.size ≤ base
theorem FmA.chg {w0 wr wr' : World} {g V base : Nat} {cs : List (List Int)} (h : FmA w0 g V base cs wr) (hb : Below wr.heap.size wr wr') : FmA w0 g V base cs wr' := by
  obtain ⟨A, c, h1, h2, h3, h4, h5⟩ := h
  exact ⟨A, c, h1.trans (hb.mono h1.size), h2.below hb h2.lt, h3.chg hb, Nat.le_trans h4 hb.size, h5⟩
theorem FmA.drewN {w0 wr : World} {g V base : Nat} {cs : List (List Int)} (h : FmA w0 g V base cs wr) (q : Nat) : FmA w0 g V base cs (wr.drewN q) := h.chg (below_drewN (Below.refl _ _) q)
theorem FmA.below {w0 wr : World} {g V base : Nat} {cs : List (List Int)} (h : FmA w0 g V base cs wr) : Below w0.heap.size w0 wr := by
  obtain ⟨_, _, h1, _⟩ := h
  exact h1
theorem FmA.new (w0 : World) (V : Nat) : FmA w0 w0.heap.size V (w0.heap.size + 1) [] (w0.alloc (.cells #[.int .i64 (V : Nat), .slice none 0 0] 29)) :=
  ⟨none, 0, (Below.refl _ _).alloc (Nat.le_refl _) _, Blk.new w0 _ _, CsAt.nil _ _, by simp, by omega⟩
/-- one clause more, behind a built row of it -/
theorem FmA.push {w0 W w' : World} {g V base n c c' : Nat} {A A' : Option Addr} {cs : List (List Int)} {l : List Int} {rows : List Value} {u : Value} {o : Obj} (hn : cs.length = n) (hb0 : Below w0.heap.size w0 W) (hk : Blk W g 29 #[.int .i64 (V : Nat), .slice A n c])
    (hrow : W.ownsRow base 26 1 (.slice A n c) n rows) (hcl : ∀ (i : Nat) (l : List Int), cs[i]? = some l → ∃ u, rows[i]? = some u ∧ W.ownsRow base 3 1 u l.length (litVals l))
    (hu : W.ownsRow base 3 1 u l.length (litVals l)) (hB : base ≤ W.heap.size) (hB0 : w0.heap.size ≤ base) (hg0 : w0.heap.size ≤ g)
    (hg : (W.alloc o).grownBy w' (Value.slice A n c).ownBlock) (hown : w'.ownsRow base 26 1 (.slice A' (n + 1) c') (n + 1) (rows ++ [u])) :
    FmA w0 g V base (cs ++ [l]) (w'.setCell ⟨g, 1, none⟩ (.slice A' (n + 1) c')) := by
  subst hn
  have hcs : CsAt w' base (.slice A' (cs.length + 1) c') (cs ++ [l]) := CsAt.more (new := [l]) (news := [u]) hrow hcl (fun i x hx => by
    match i, hx with
    | 0, hx =>
      obtain rfl : l = x := by simpa using hx
      exact ⟨u, rfl, hu⟩) hg hown
  have hk' : Blk w' g 29 #[.int .i64 (V : Nat), .slice A cs.length c] := blk_grown (hk.alloc _) (hrow.alloc _) (by decide) hg
  have hb' : Below w0.heap.size w0 w' := own_grown_below0 hb0 hrow hB0 hg
  have hlen : (cs ++ [l]).length = cs.length + 1 := by simp
  have hsz : W.heap.size ≤ w'.heap.size := by
    have := hg.size
    simp at this
    omega
  refine ⟨A', c', hb'.setCell (p := ⟨g, 1, none⟩) hg0 _, ?_, ?_, ?_, hB0⟩
  · rw [hlen]; exact hk'.set_ 1 _
  · rw [hlen]; exact hcs.far hk' (by decide) (by decide) 1 _
  · simp; omega
end Go.Proofs.YtchpfdppfelmkaaDoor.slv
