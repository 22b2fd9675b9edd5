/-
  A graph and its model, alike; Parts.
-/
import Derived.Test.YtmbjhpgemphmmaaDoorBu
namespace Go.Proofs.YtmbjhpgemphmmaaDoor
open Go.RowKit

theorem int_eq {a b : Int} (h : a = b) : Value.int .i64 a = .int .i64 b := by rw [h]
/-- a graph and its model, alike; what was there is as it was -/
structure Two (W : World) (B g m : Nat) (gs : List Gm.Gate) (w : World) : Prop where
  ga : GA w B g gs
  ma : ModelAt w B m gs
  bl : Below W.heap.size W w
theorem Two.new {W w w' : World} {B g m : Nat} {gs : List Gm.Gate} (h : Two W B g m gs w) (hb : Below w.heap.size w w') : Two W B g m gs w' := ⟨h.ga.new hb, h.ma.new hb, h.bl.trans (hb.mono h.bl.size)⟩
theorem Two.drewN {W w : World} {B g m : Nat} {gs : List Gm.Gate} (h : Two W B g m gs w) (n : Nat) : Two W B g m gs (w.drewN n) := ⟨h.ga.drewN n, h.ma.drewN n, below_drewN h.bl n⟩
def MRel (W : World) (B g m : Nat) (gs : List Gm.Gate) (iv : Value) (wr : World) : Prop :=
  ∃ k : Nat, k ≤ gs.length ∧ iv = .int .i64 ((k : Int) + 1) ∧ Two W B g m gs wr
/-- the model's row of gates, all that is read -/
theorem ModelAt.row {w : World} {B b : Nat} {gs : List Gm.Gate} (h : ModelAt w B b gs) :
    ∃ A c, w.cell? ⟨b, 0, none⟩ = some (.slice A gs.length c) ∧ w.cell? ⟨b, 1, none⟩ = some (.int .i64 (Gm.ins gs : Int)) ∧
      ∀ (k : Nat) (g : Gm.Gate), gs[k]? = some g → ∃ blk, A = some ⟨blk, 0, none⟩ ∧ blk < w.heap.size ∧ w.cell? ⟨blk, k * 3, none⟩ = some (.int .i64 g.a) ∧ w.cell? ⟨blk, k * 3 + 1, none⟩ = some (.int .i64 g.b) ∧ w.cell? ⟨blk, k * 3 + 2, none⟩ = some (.bool g.inp) := by
  obtain ⟨sv, hblk, hrow⟩ := h.ex
  obtain ⟨A, c, rfl⟩ := own_form hrow
  refine ⟨A, c, hblk.cell 0, hblk.cell 1, fun k g hg => ?_⟩
  have hl := (List.getElem?_eq_some_iff.1 hg).1
  obtain ⟨blk, c', hv, hcell⟩ := row_cells hrow (by omega)
  obtain ⟨q0, q1, q2⟩ := mCells_at gs k _ hg
  have hA : A = some ⟨blk, 0, none⟩ := by simp only [Value.slice.injEq] at hv; exact hv.1
  exact ⟨blk, hA, World.block_lt_of_cell? w _ (hcell _ _ q0), hcell _ _ q0, hcell _ _ q1, hcell _ _ q2⟩
theorem Errs.at9 {w : World} {ea : Nat → Addr} {BE : Nat} (h : Errs w ea BE) : w.cell? ⟨3, 0, none⟩ = some (.iface 220 (.pointer (some (ea 9)))) := h.var 9 (by omega) (by omega)
def PB (w : World) (ea : Nat → Addr) (e : Ending) (w' : World) : Prop := e = .returned (.tuple #[.int .i64 0, .int .i64 0, .bool false, errV ea 9]) ∧ ∃ n, w' = w.drewN n
theorem parts_nb {w : World} {ea : Nat → Addr} {BE B b : Nat} {gs : List Gm.Gate} (hE : Errs w ea BE) (hg : GA w B b gs) {n : Int} (hn : n < 1 ∨ 1 + (gs.length : Int) ≤ n) :
    Calls Tryd.prog 35 #[.pointer (some ⟨b, 0, none⟩), .int .i64 n] w (PB w ea) := by
  obtain ⟨mb, hg⟩ := hg
  rcases hn with hn | hn
  · exact (parts_low hE.at9 hn).mono fun _ _ x => x
  · exact (parts_high hg hE.at9 hn).mono fun _ _ x => x
theorem parts_ga {w : World} {B b : Nat} {gs : List Gm.Gate} {i : Nat} {g : Gm.Gate} (hg : GA w B b gs) (hi : gs[i]? = some g) :
    Calls Tryd.prog 35 #[.pointer (some ⟨b, 0, none⟩), .int .i64 ((i : Int) + 1)] w (PPost w g) := by
  obtain ⟨mb, hg⟩ := hg
  exact parts_at hg hi
end Go.Proofs.YtmbjhpgemphmmaaDoor
