/-
  WALKS of package graph (chapter 9): Parts.
-/
import Derived.Test.YtmbjhpgemphmmaaDoorGp
namespace Go.Proofs.YtmbjhpgemphmmaaDoor
open Go.RowKit

def PBad (w : World) (p : Addr) (e : Ending) (w' : World) : Prop :=
  e = .returned (.tuple #[.int .i64 0, .int .i64 0, .bool false, .iface 220 (.pointer (some p))]) ∧ ∃ n, w' = w.drewN n
theorem parts_low {w : World} {b : Nat} {p : Addr} (he : w.cell? ⟨3, 0, none⟩ = some (.iface 220 (.pointer (some p)))) {n : Int} (hn : n < 1) :
    Calls Tryd.prog 35 #[.pointer (some ⟨b, 0, none⟩), .int .i64 n] w (PBad w p) := by
  have e0 : decide (n < 1) = true := by simpa using hn
  go_enter Tryd.func35, Tryd.ntmps35
  go_wp2_with fail
  go_quiet (fail)
  go_wp2
  refine bodyPost_ret (results_tmp4 rfl _ _ _) rfl ?_
  exact ⟨rfl, _, rfl⟩
theorem parts_high {w : World} {base b : Nat} {mb : Option Nat} {gs : List Gm.Gate} {p : Addr} (hg : GraphAt w base b mb gs) (he : w.cell? ⟨3, 0, none⟩ = some (.iface 220 (.pointer (some p)))) {n : Int} (hn : 1 + (gs.length : Int) ≤ n) :
    Calls Tryd.prog 35 #[.pointer (some ⟨b, 0, none⟩), .int .i64 n] w (PBad w p) := by
  obtain ⟨sv, hblk, hrow⟩ := hg.ex
  obtain ⟨A, c, rfl⟩ := own_form hrow
  have e0 : decide (n < 1) = false := by simp; omega
  have e1 : decide (1 + (gs.length : Int) ≤ n) = true := by simpa using hn
  have C1 := Lib.hid (gates_at hg.len hblk)
  clear hn hg hblk hrow
  go_enter Tryd.func35, Tryd.ntmps35
  go_wp2_with fail
  refine C1.out.mono ?_
  rintro e w' ⟨rfl, rfl⟩
  go_wp2_with fail
  go_quiet (fail)
  go_wp2
  refine bodyPost_ret (results_tmp4 rfl _ _ _) rfl ?_
  exact ⟨rfl, _, rfl⟩
def PPost (w : World) (g : Gm.Gate) (e : Ending) (w' : World) : Prop :=
  e = .returned (.tuple #[.int .i64 (g.a : Nat), .int .i64 (g.b : Nat), .bool g.inp, .nilIface]) ∧ Below w.heap.size w w'
theorem parts_at {w : World} {base b : Nat} {mb : Option Nat} {gs : List Gm.Gate} {i : Nat} {g : Gm.Gate} (hg : GraphAt w base b mb gs) (hi : gs[i]? = some g) :
    Calls Tryd.prog 35 #[.pointer (some ⟨b, 0, none⟩), .int .i64 ((i : Int) + 1)] w (PPost w g) := by
  obtain ⟨sv, hblk, hrow⟩ := hg.ex
  have hlt := (List.getElem?_eq_some_iff.1 hi).1
  have hlen := hg.len
  obtain ⟨A, c, rfl⟩ := own_form hrow
  have C1 := Lib.hid (gates_at hg.len hblk)
  obtain ⟨gb, cap, cur, hv, hgb, hcur, hle, hcm, hcs, hcl⟩ : ∃ gb cap cur, Value.slice A gs.length c = .slice (some ⟨gb, 0, none⟩) gs.length cap ∧ base ≤ gb ∧ w.heap[gb]? = some (.cells cur 89 (0, 0)) ∧ gs.length ≤ cap ∧ cap ≤ maxLen ∧ cur.size = cap * 3 ∧ cur.toList.take (gs.length * 3) = gateCells 0 gs := by
    rcases hrow.2 with ⟨h, h0⟩ | h
    · omega
    · exact h
  simp only [Value.slice.injEq] at hv
  obtain ⟨rfl, _, rfl⟩ := hv
  have hcell : ∀ j u, (gateCells 0 gs)[j]? = some u → w.cell? ⟨gb, j, none⟩ = some u := fun j u hu => by
    rw [cell_of_row w gb j cur _ (0, 0) hcur]
    rw [← hcl, List.getElem?_take] at hu
    split at hu
    · simpa using hu
    · cases hu
  obtain ⟨g0, g1, g2⟩ := gateCells_at 0 gs i g hi
  have c0 := hcell _ _ g0
  have c1 := hcell _ _ g1
  have c2 := hcell _ _ g2
  have cb : w.cell? ⟨b, 0, none⟩ = some (.slice (some ⟨gb, 0, none⟩) gs.length c) := hblk.cell 0
  obtain ⟨inp, hinp⟩ : ∃ inp, inp = (if g.inp then 0 + Gm.ins (gs.take i) + 1 else 0) := ⟨_, rfl⟩
  rw [← hinp] at c2
  have hd : decide (0 < inp) = g.inp := by
    rw [hinp]; cases g.inp <;> simp
  have HD := Lib.hid hd
  have e0 : decide ((i : Int) + 1 < 1) = false := decide_eq_false (by omega)
  have e1 : decide (1 + (gs.length : Int) ≤ (i : Int) + 1) = false := decide_eq_false (by omega)
  have e2 : (i : Int) < (gs.length : Int) := by omega
  have e3 : (i : Int) ≤ 100000 := by omega
  clear hg hblk hrow hi hlen hcell g0 g1 g2 hinp hd hcur hle hcm hcs hcl hgb hlt
  go_enter Tryd.func35, Tryd.ntmps35
  go_wp2_with fail
  refine C1.out.mono ?_
  rintro e w' ⟨rfl, rfl⟩
  go_wp2_with fail
  go_quiet (fail)
  go_wp2
  refine bodyPost_ret (results_tmp4 rfl _ _ _) rfl ?_
  refine ⟨?_, below_drewN ((Below.refl _ _).alloc (Nat.le_refl _) _) _⟩
  rw [← HD.out]; rfl
end Go.Proofs.YtmbjhpgemphmmaaDoor
