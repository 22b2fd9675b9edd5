/-
  WALKS of package graph (chapter 9): what is none of a graph's; Parts.
  WALKS of package graph (chapter 9): Parts.
-/
import Derived.Test.YtmbjhpgemphmmaaDoorGo
namespace Go.Proofs.YtmbjhpgemphmmaaDoor
open Go.RowKit

def GBad (w : World) (p : Addr) (e : Ending) (w' : World) : Prop :=
  e = .returned (.tuple #[.int .i64 0, .iface 220 (.pointer (some p))]) ∧ ∃ n, w' = w.drewN n
theorem has_int {w : World} {base b : Nat} {mb : Option Nat} {gs : List Gm.Gate} (hg : GraphAt w base b mb gs) {a : Int} (hw : (Lit.int .i64 a).wf = true) :
    Calls Tryd.prog 34 #[.pointer (some ⟨b, 0, none⟩), .int .i64 a] w fun e w' => e = .returned (.bool (hasB gs.length a)) ∧ w = w' := by
  obtain ⟨sv, hblk, hrow⟩ := hg.ex
  obtain ⟨A, c, rfl⟩ := own_form hrow
  exact has_at a hw hg.len hblk

set_option maxHeartbeats 400000 in
theorem and_bad0 {w : World} {base b : Nat} {mb : Option Nat} {gs : List Gm.Gate} {p : Addr} (hg : GraphAt w base b mb gs) (he : w.cell? ⟨0, 0, none⟩ = some (.iface 220 (.pointer (some p)))) {x y : Int} (wx : (Lit.int .i64 x).wf = true)  (hx : hasB gs.length x = false) :
    Calls Tryd.prog 56 #[.pointer (some ⟨b, 0, none⟩), .int .i64 x, .int .i64 y] w (GBad w p) := by
  have c0 := has_int hg wx
  rw [hx] at c0
  have C0 := Lib.hid c0
  clear hg c0 wx hx
  go_enter Tryd.func56, Tryd.ntmps56
  go_wp2_with fail
  refine C0.out.mono ?_
  rintro e w' ⟨rfl, rfl⟩
  go_wp2_with fail
  go_quiet (fail)
  go_wp2
  go_ret2
  exact ⟨rfl, _, rfl⟩
set_option maxHeartbeats 400000 in
theorem and_bad1 {w : World} {base b : Nat} {mb : Option Nat} {gs : List Gm.Gate} {p : Addr} (hg : GraphAt w base b mb gs) (he : w.cell? ⟨0, 0, none⟩ = some (.iface 220 (.pointer (some p)))) {x y : Int} (wx : (Lit.int .i64 x).wf = true) (wy : (Lit.int .i64 y).wf = true) (hx : hasB gs.length x = true) (hy : hasB gs.length y = false) :
    Calls Tryd.prog 56 #[.pointer (some ⟨b, 0, none⟩), .int .i64 x, .int .i64 y] w (GBad w p) := by
  have c0 := has_int hg wx
  rw [hx] at c0
  have C0 := Lib.hid c0
  have c1 := has_int hg wy
  rw [hy] at c1
  have C1 := Lib.hid c1
  clear hg c0 wx hx c1 wy hy
  go_enter Tryd.func56, Tryd.ntmps56
  go_wp2_with fail
  refine C0.out.mono ?_
  rintro e w' ⟨rfl, rfl⟩
  go_wp2_with fail
  refine C1.out.mono ?_
  rintro e w' ⟨rfl, rfl⟩
  go_wp2_with fail
  go_quiet (fail)
  go_wp2
  go_ret2
  exact ⟨rfl, _, rfl⟩
theorem and_bad {w : World} {base b : Nat} {mb : Option Nat} {gs : List Gm.Gate} {p : Addr} (hg : GraphAt w base b mb gs) (he : w.cell? ⟨0, 0, none⟩ = some (.iface 220 (.pointer (some p)))) {x y : Int} (wx : (Lit.int .i64 x).wf = true) (wy : (Lit.int .i64 y).wf = true) (h : (hasB gs.length x && hasB gs.length y) = false) :
    Calls Tryd.prog 56 #[.pointer (some ⟨b, 0, none⟩), .int .i64 x, .int .i64 y] w (GBad w p) := by
  cases h0 : hasB gs.length x with
  | false => exact and_bad0 hg he wx h0
  | true =>
    cases h1 : hasB gs.length y with
    | false => exact and_bad1 hg he wx wy h0 h1
    | true =>
      simp [h0, h1] at h
set_option maxHeartbeats 400000 in
theorem or_bad0 {w : World} {base b : Nat} {mb : Option Nat} {gs : List Gm.Gate} {p : Addr} (hg : GraphAt w base b mb gs) (he : w.cell? ⟨0, 0, none⟩ = some (.iface 220 (.pointer (some p)))) {x y : Int} (wx : (Lit.int .i64 x).wf = true)  (hx : hasB gs.length x = false) :
    Calls Tryd.prog 58 #[.pointer (some ⟨b, 0, none⟩), .int .i64 x, .int .i64 y] w (GBad w p) := by
  have c0 := has_int hg wx
  rw [hx] at c0
  have C0 := Lib.hid c0
  clear hg c0 wx hx
  go_enter Tryd.func58, Tryd.ntmps58
  go_wp2_with fail
  refine C0.out.mono ?_
  rintro e w' ⟨rfl, rfl⟩
  go_wp2_with fail
  go_quiet (fail)
  go_wp2
  go_ret2
  exact ⟨rfl, _, rfl⟩
set_option maxHeartbeats 400000 in
theorem or_bad1 {w : World} {base b : Nat} {mb : Option Nat} {gs : List Gm.Gate} {p : Addr} (hg : GraphAt w base b mb gs) (he : w.cell? ⟨0, 0, none⟩ = some (.iface 220 (.pointer (some p)))) {x y : Int} (wx : (Lit.int .i64 x).wf = true) (wy : (Lit.int .i64 y).wf = true) (hx : hasB gs.length x = true) (hy : hasB gs.length y = false) :
    Calls Tryd.prog 58 #[.pointer (some ⟨b, 0, none⟩), .int .i64 x, .int .i64 y] w (GBad w p) := by
  have c0 := has_int hg wx
  rw [hx] at c0
  have C0 := Lib.hid c0
  have c1 := has_int hg wy
  rw [hy] at c1
  have C1 := Lib.hid c1
  clear hg c0 wx hx c1 wy hy
  go_enter Tryd.func58, Tryd.ntmps58
  go_wp2_with fail
  refine C0.out.mono ?_
  rintro e w' ⟨rfl, rfl⟩
  go_wp2_with fail
  refine C1.out.mono ?_
  rintro e w' ⟨rfl, rfl⟩
  go_wp2_with fail
  go_quiet (fail)
  go_wp2
  go_ret2
  exact ⟨rfl, _, rfl⟩
theorem or_bad {w : World} {base b : Nat} {mb : Option Nat} {gs : List Gm.Gate} {p : Addr} (hg : GraphAt w base b mb gs) (he : w.cell? ⟨0, 0, none⟩ = some (.iface 220 (.pointer (some p)))) {x y : Int} (wx : (Lit.int .i64 x).wf = true) (wy : (Lit.int .i64 y).wf = true) (h : (hasB gs.length x && hasB gs.length y) = false) :
    Calls Tryd.prog 58 #[.pointer (some ⟨b, 0, none⟩), .int .i64 x, .int .i64 y] w (GBad w p) := by
  cases h0 : hasB gs.length x with
  | false => exact or_bad0 hg he wx h0
  | true =>
    cases h1 : hasB gs.length y with
    | false => exact or_bad1 hg he wx wy h0 h1
    | true =>
      simp [h0, h1] at h
set_option maxHeartbeats 400000 in
theorem xor_bad0 {w : World} {base b : Nat} {mb : Option Nat} {gs : List Gm.Gate} {p : Addr} (hg : GraphAt w base b mb gs) (he : w.cell? ⟨0, 0, none⟩ = some (.iface 220 (.pointer (some p)))) {x y : Int} (wx : (Lit.int .i64 x).wf = true)  (hx : hasB gs.length x = false) :
    Calls Tryd.prog 60 #[.pointer (some ⟨b, 0, none⟩), .int .i64 x, .int .i64 y] w (GBad w p) := by
  have c0 := has_int hg wx
  rw [hx] at c0
  have C0 := Lib.hid c0
  clear hg c0 wx hx
  go_enter Tryd.func60, Tryd.ntmps60
  go_wp2_with fail
  refine C0.out.mono ?_
  rintro e w' ⟨rfl, rfl⟩
  go_wp2_with fail
  go_quiet (fail)
  go_wp2
  go_ret2
  exact ⟨rfl, _, rfl⟩
set_option maxHeartbeats 400000 in
theorem xor_bad1 {w : World} {base b : Nat} {mb : Option Nat} {gs : List Gm.Gate} {p : Addr} (hg : GraphAt w base b mb gs) (he : w.cell? ⟨0, 0, none⟩ = some (.iface 220 (.pointer (some p)))) {x y : Int} (wx : (Lit.int .i64 x).wf = true) (wy : (Lit.int .i64 y).wf = true) (hx : hasB gs.length x = true) (hy : hasB gs.length y = false) :
    Calls Tryd.prog 60 #[.pointer (some ⟨b, 0, none⟩), .int .i64 x, .int .i64 y] w (GBad w p) := by
  have c0 := has_int hg wx
  rw [hx] at c0
  have C0 := Lib.hid c0
  have c1 := has_int hg wy
  rw [hy] at c1
  have C1 := Lib.hid c1
  clear hg c0 wx hx c1 wy hy
  go_enter Tryd.func60, Tryd.ntmps60
  go_wp2_with fail
  refine C0.out.mono ?_
  rintro e w' ⟨rfl, rfl⟩
  go_wp2_with fail
  refine C1.out.mono ?_
  rintro e w' ⟨rfl, rfl⟩
  go_wp2_with fail
  go_quiet (fail)
  go_wp2
  go_ret2
  exact ⟨rfl, _, rfl⟩
theorem xor_bad {w : World} {base b : Nat} {mb : Option Nat} {gs : List Gm.Gate} {p : Addr} (hg : GraphAt w base b mb gs) (he : w.cell? ⟨0, 0, none⟩ = some (.iface 220 (.pointer (some p)))) {x y : Int} (wx : (Lit.int .i64 x).wf = true) (wy : (Lit.int .i64 y).wf = true) (h : (hasB gs.length x && hasB gs.length y) = false) :
    Calls Tryd.prog 60 #[.pointer (some ⟨b, 0, none⟩), .int .i64 x, .int .i64 y] w (GBad w p) := by
  cases h0 : hasB gs.length x with
  | false => exact xor_bad0 hg he wx h0
  | true =>
    cases h1 : hasB gs.length y with
    | false => exact xor_bad1 hg he wx wy h0 h1
    | true =>
      simp [h0, h1] at h
set_option maxHeartbeats 400000 in
theorem if_bad0 {w : World} {base b : Nat} {mb : Option Nat} {gs : List Gm.Gate} {p : Addr} (hg : GraphAt w base b mb gs) (he : w.cell? ⟨0, 0, none⟩ = some (.iface 220 (.pointer (some p)))) {z x y : Int} (wz : (Lit.int .i64 z).wf = true)  (hz : hasB gs.length z = false) :
    Calls Tryd.prog 62 #[.pointer (some ⟨b, 0, none⟩), .int .i64 z, .int .i64 x, .int .i64 y] w (GBad w p) := by
  have c0 := has_int hg wz
  rw [hz] at c0
  have C0 := Lib.hid c0
  clear hg c0 wz hz
  go_enter Tryd.func62, Tryd.ntmps62
  go_wp2_with fail
  refine C0.out.mono ?_
  rintro e w' ⟨rfl, rfl⟩
  go_wp2_with fail
  go_quiet (fail)
  go_wp2
  go_ret2
  exact ⟨rfl, _, rfl⟩
set_option maxHeartbeats 400000 in
theorem if_bad1 {w : World} {base b : Nat} {mb : Option Nat} {gs : List Gm.Gate} {p : Addr} (hg : GraphAt w base b mb gs) (he : w.cell? ⟨0, 0, none⟩ = some (.iface 220 (.pointer (some p)))) {z x y : Int} (wz : (Lit.int .i64 z).wf = true) (wx : (Lit.int .i64 x).wf = true) (hz : hasB gs.length z = true) (hx : hasB gs.length x = false) :
    Calls Tryd.prog 62 #[.pointer (some ⟨b, 0, none⟩), .int .i64 z, .int .i64 x, .int .i64 y] w (GBad w p) := by
  have c0 := has_int hg wz
  rw [hz] at c0
  have C0 := Lib.hid c0
  have c1 := has_int hg wx
  rw [hx] at c1
  have C1 := Lib.hid c1
  clear hg c0 wz hz c1 wx hx
  go_enter Tryd.func62, Tryd.ntmps62
  go_wp2_with fail
  refine C0.out.mono ?_
  rintro e w' ⟨rfl, rfl⟩
  go_wp2_with fail
  refine C1.out.mono ?_
  rintro e w' ⟨rfl, rfl⟩
  go_wp2_with fail
  go_quiet (fail)
  go_wp2
  go_ret2
  exact ⟨rfl, _, rfl⟩
set_option maxHeartbeats 400000 in
theorem if_bad2 {w : World} {base b : Nat} {mb : Option Nat} {gs : List Gm.Gate} {p : Addr} (hg : GraphAt w base b mb gs) (he : w.cell? ⟨0, 0, none⟩ = some (.iface 220 (.pointer (some p)))) {z x y : Int} (wz : (Lit.int .i64 z).wf = true) (wx : (Lit.int .i64 x).wf = true) (wy : (Lit.int .i64 y).wf = true) (hz : hasB gs.length z = true) (hx : hasB gs.length x = true) (hy : hasB gs.length y = false) :
    Calls Tryd.prog 62 #[.pointer (some ⟨b, 0, none⟩), .int .i64 z, .int .i64 x, .int .i64 y] w (GBad w p) := by
  have c0 := has_int hg wz
  rw [hz] at c0
  have C0 := Lib.hid c0
  have c1 := has_int hg wx
  rw [hx] at c1
  have C1 := Lib.hid c1
  have c2 := has_int hg wy
  rw [hy] at c2
  have C2 := Lib.hid c2
  clear hg c0 wz hz c1 wx hx c2 wy hy
  go_enter Tryd.func62, Tryd.ntmps62
  go_wp2_with fail
  refine C0.out.mono ?_
  rintro e w' ⟨rfl, rfl⟩
  go_wp2_with fail
  refine C1.out.mono ?_
  rintro e w' ⟨rfl, rfl⟩
  go_wp2_with fail
  refine C2.out.mono ?_
  rintro e w' ⟨rfl, rfl⟩
  go_wp2_with fail
  go_quiet (fail)
  go_wp2
  go_ret2
  exact ⟨rfl, _, rfl⟩
theorem if_bad {w : World} {base b : Nat} {mb : Option Nat} {gs : List Gm.Gate} {p : Addr} (hg : GraphAt w base b mb gs) (he : w.cell? ⟨0, 0, none⟩ = some (.iface 220 (.pointer (some p)))) {z x y : Int} (wz : (Lit.int .i64 z).wf = true) (wx : (Lit.int .i64 x).wf = true) (wy : (Lit.int .i64 y).wf = true) (h : (hasB gs.length z && hasB gs.length x && hasB gs.length y) = false) :
    Calls Tryd.prog 62 #[.pointer (some ⟨b, 0, none⟩), .int .i64 z, .int .i64 x, .int .i64 y] w (GBad w p) := by
  cases h0 : hasB gs.length z with
  | false => exact if_bad0 hg he wz h0
  | true =>
    cases h1 : hasB gs.length x with
    | false => exact if_bad1 hg he wz wx h0 h1
    | true =>
      cases h2 : hasB gs.length y with
      | false => exact if_bad2 hg he wz wx wy h0 h1 h2
      | true =>
        simp [h0, h1, h2] at h
end Go.Proofs.YtmbjhpgemphmmaaDoor
namespace Go.Proofs.YtmbjhpgemphmmaaDoor
open Go.RowKit

def PBad (w : World) (p : Addr) (e : Ending) (w' : World) : Prop :=
  e = .returned (.tuple #[.int .i64 0, .int .i64 0, .bool false, .iface 220 (.pointer (some p))]) ∧ ∃ n, w' = w.drewN n
theorem parts_low {w : World} {b : Nat} {p : Addr} (he : w.cell? ⟨3, 0, none⟩ = some (.iface 220 (.pointer (some p)))) {n : Int} (hn : n < 1) :
    Calls Tryd.prog 35 #[.pointer (some ⟨b, 0, none⟩), .int .i64 n] w (PBad w p) := by
  have e0 : decide (n < 1) = true := by simpa using hn
  go_enter Tryd.func35, Tryd.ntmps35
  go_wp2_with fail
  go_quiet (fail)
  go_wp2
  refine bodyPost_ret (results_tmp4 rfl _ _ _) rfl ?_
  exact ⟨rfl, _, rfl⟩
theorem parts_high {w : World} {base b : Nat} {mb : Option Nat} {gs : List Gm.Gate} {p : Addr} (hg : GraphAt w base b mb gs) (he : w.cell? ⟨3, 0, none⟩ = some (.iface 220 (.pointer (some p)))) {n : Int} (hn : 1 + (gs.length : Int) ≤ n) :
    Calls Tryd.prog 35 #[.pointer (some ⟨b, 0, none⟩), .int .i64 n] w (PBad w p) := by
  obtain ⟨sv, hblk, hrow⟩ := hg.ex
  obtain ⟨A, c, rfl⟩ := own_form hrow
  have e0 : decide (n < 1) = false := by simp; omega
  have e1 : decide (1 + (gs.length : Int) ≤ n) = true := by simpa using hn
  have C1 := Lib.hid (gates_at hg.len hblk)
  clear hn hg hblk hrow
  go_enter Tryd.func35, Tryd.ntmps35
  go_wp2_with fail
  refine C1.out.mono ?_
  rintro e w' ⟨rfl, rfl⟩
  go_wp2_with fail
  go_quiet (fail)
  go_wp2
  refine bodyPost_ret (results_tmp4 rfl _ _ _) rfl ?_
  exact ⟨rfl, _, rfl⟩
def PPost (w : World) (g : Gm.Gate) (e : Ending) (w' : World) : Prop :=
  e = .returned (.tuple #[.int .i64 (g.a : Nat), .int .i64 (g.b : Nat), .bool g.inp, .nilIface]) ∧ Below w.heap.size w w'
theorem parts_at {w : World} {base b : Nat} {mb : Option Nat} {gs : List Gm.Gate} {i : Nat} {g : Gm.Gate} (hg : GraphAt w base b mb gs) (hi : gs[i]? = some g) :
    Calls Tryd.prog 35 #[.pointer (some ⟨b, 0, none⟩), .int .i64 ((i : Int) + 1)] w (PPost w g) := by
  obtain ⟨sv, hblk, hrow⟩ := hg.ex
  have hlt := (List.getElem?_eq_some_iff.1 hi).1
  have hlen := hg.len
  obtain ⟨A, c, rfl⟩ := own_form hrow
  have C1 := Lib.hid (gates_at hg.len hblk)
  obtain ⟨gb, cap, cur, hv, hgb, hcur, hle, hcm, hcs, hcl⟩ : ∃ gb cap cur, Value.slice A gs.length c = .slice (some ⟨gb, 0, none⟩) gs.length cap ∧ base ≤ gb ∧ w.heap[gb]? = some (.cells cur 89 (0, 0)) ∧ gs.length ≤ cap ∧ cap ≤ maxLen ∧ cur.size = cap * 3 ∧ cur.toList.take (gs.length * 3) = gateCells 0 gs := by
    rcases hrow.2 with ⟨h, h0⟩ | h
    · omega
    · exact h
  simp only [Value.slice.injEq] at hv
  obtain ⟨rfl, _, rfl⟩ := hv
  have hcell : ∀ j u, (gateCells 0 gs)[j]? = some u → w.cell? ⟨gb, j, none⟩ = some u := fun j u hu => by
    rw [cell_of_row w gb j cur _ (0, 0) hcur]
    rw [← hcl, List.getElem?_take] at hu
    split at hu
    · simpa using hu
    · cases hu
  obtain ⟨g0, g1, g2⟩ := gateCells_at 0 gs i g hi
  have c0 := hcell _ _ g0
  have c1 := hcell _ _ g1
  have c2 := hcell _ _ g2
  have cb : w.cell? ⟨b, 0, none⟩ = some (.slice (some ⟨gb, 0, none⟩) gs.length c) := hblk.cell 0
  obtain ⟨inp, hinp⟩ : ∃ inp, inp = (if g.inp then 0 + Gm.ins (gs.take i) + 1 else 0) := ⟨_, rfl⟩
  rw [← hinp] at c2
  have hd : decide (0 < inp) = g.inp := by
    rw [hinp]; cases g.inp <;> simp
  have HD := Lib.hid hd
  have e0 : decide ((i : Int) + 1 < 1) = false := decide_eq_false (by omega)
  have e1 : decide (1 + (gs.length : Int) ≤ (i : Int) + 1) = false := decide_eq_false (by omega)
  have e2 : (i : Int) < (gs.length : Int) := by omega
  have e3 : (i : Int) ≤ 100000 := by omega
  clear hg hblk hrow hi hlen hcell g0 g1 g2 hinp hd hcur hle hcm hcs hcl hgb hlt
  go_enter Tryd.func35, Tryd.ntmps35
  go_wp2_with fail
  refine C1.out.mono ?_
  rintro e w' ⟨rfl, rfl⟩
  go_wp2_with fail
  go_quiet (fail)
  go_wp2
  refine bodyPost_ret (results_tmp4 rfl _ _ _) rfl ?_
  refine ⟨?_, below_drewN ((Below.refl _ _).alloc (Nat.le_refl _) _) _⟩
  rw [← HD.out]; rfl
end Go.Proofs.YtmbjhpgemphmmaaDoor
