/-
  WALKS of package graph (chapter 9): what is none of a graph's; Parts.
-/
import Derived.Test.YtmbjhpgemphmmaaDoorGo
namespace Go.Proofs.YtmbjhpgemphmmaaDoor
open Go.RowKit

def GBad (w : World) (p : Addr) (e : Ending) (w' : World) : Prop :=
  e = .returned (.tuple #[.int .i64 0, .iface 220 (.pointer (some p))]) ∧ ∃ n, w' = w.drewN n
theorem has_int {w : World} {base b : Nat} {mb : Option Nat} {gs : List Gm.Gate} (hg : GraphAt w base b mb gs) {a : Int} (hw : (Lit.int .i64 a).wf = true) :
    Calls Tryd.prog 34 #[.pointer (some ⟨b, 0, none⟩), .int .i64 a] w fun e w' => e = .returned (.bool (hasB gs.length a)) ∧ w = w' := by
  obtain ⟨sv, hblk, hrow⟩ := hg.ex
  obtain ⟨A, c, rfl⟩ := own_form hrow
  exact has_at a hw hg.len hblk

set_option maxHeartbeats 400000 in
theorem and_bad0 {w : World} {base b : Nat} {mb : Option Nat} {gs : List Gm.Gate} {p : Addr} (hg : GraphAt w base b mb gs) (he : w.cell? ⟨0, 0, none⟩ = some (.iface 220 (.pointer (some p)))) {x y : Int} (wx : (Lit.int .i64 x).wf = true)  (hx : hasB gs.length x = false) :
    Calls Tryd.prog 56 #[.pointer (some ⟨b, 0, none⟩), .int .i64 x, .int .i64 y] w (GBad w p) := by
  have c0 := has_int hg wx
  rw [hx] at c0
  have C0 := Lib.hid c0
  clear hg c0 wx hx
  go_enter Tryd.func56, Tryd.ntmps56
  go_wp2_with fail
  refine C0.out.mono ?_
  rintro e w' ⟨rfl, rfl⟩
  go_wp2_with fail
  go_quiet (fail)
  go_wp2
  go_ret2
  exact ⟨rfl, _, rfl⟩
set_option maxHeartbeats 400000 in
theorem and_bad1 {w : World} {base b : Nat} {mb : Option Nat} {gs : List Gm.Gate} {p : Addr} (hg : GraphAt w base b mb gs) (he : w.cell? ⟨0, 0, none⟩ = some (.iface 220 (.pointer (some p)))) {x y : Int} (wx : (Lit.int .i64 x).wf = true) (wy : (Lit.int .i64 y).wf = true) (hx : hasB gs.length x = true) (hy : hasB gs.length y = false) :
    Calls Tryd.prog 56 #[.pointer (some ⟨b, 0, none⟩), .int .i64 x, .int .i64 y] w (GBad w p) := by
  have c0 := has_int hg wx
  rw [hx] at c0
  have C0 := Lib.hid c0
  have c1 := has_int hg wy
  rw [hy] at c1
  have C1 := Lib.hid c1
  clear hg c0 wx hx c1 wy hy
  go_enter Tryd.func56, Tryd.ntmps56
  go_wp2_with fail
  refine C0.out.mono ?_
  rintro e w' ⟨rfl, rfl⟩
  go_wp2_with fail
  refine C1.out.mono ?_
  rintro e w' ⟨rfl, rfl⟩
  go_wp2_with fail
  go_quiet (fail)
  go_wp2
  go_ret2
  exact ⟨rfl, _, rfl⟩
theorem and_bad {w : World} {base b : Nat} {mb : Option Nat} {gs : List Gm.Gate} {p : Addr} (hg : GraphAt w base b mb gs) (he : w.cell? ⟨0, 0, none⟩ = some (.iface 220 (.pointer (some p)))) {x y : Int} (wx : (Lit.int .i64 x).wf = true) (wy : (Lit.int .i64 y).wf = true) (h : (hasB gs.length x && hasB gs.length y) = false) :
    Calls Tryd.prog 56 #[.pointer (some ⟨b, 0, none⟩), .int .i64 x, .int .i64 y] w (GBad w p) := by
  cases h0 : hasB gs.length x with
  | false => exact and_bad0 hg he wx h0
  | true =>
    cases h1 : hasB gs.length y with
    | false => exact and_bad1 hg he wx wy h0 h1
    | true =>
      simp [h0, h1] at h
set_option maxHeartbeats 400000 in
theorem or_bad0 {w : World} {base b : Nat} {mb : Option Nat} {gs : List Gm.Gate} {p : Addr} (hg : GraphAt w base b mb gs) (he : w.cell? ⟨0, 0, none⟩ = some (.iface 220 (.pointer (some p)))) {x y : Int} (wx : (Lit.int .i64 x).wf = true)  (hx : hasB gs.length x = false) :
    Calls Tryd.prog 58 #[.pointer (some ⟨b, 0, none⟩), .int .i64 x, .int .i64 y] w (GBad w p) := by
  have c0 := has_int hg wx
  rw [hx] at c0
  have C0 := Lib.hid c0
  clear hg c0 wx hx
  go_enter Tryd.func58, Tryd.ntmps58
  go_wp2_with fail
  refine C0.out.mono ?_
  rintro e w' ⟨rfl, rfl⟩
  go_wp2_with fail
  go_quiet (fail)
  go_wp2
  go_ret2
  exact ⟨rfl, _, rfl⟩
set_option maxHeartbeats 400000 in
theorem or_bad1 {w : World} {base b : Nat} {mb : Option Nat} {gs : List Gm.Gate} {p : Addr} (hg : GraphAt w base b mb gs) (he : w.cell? ⟨0, 0, none⟩ = some (.iface 220 (.pointer (some p)))) {x y : Int} (wx : (Lit.int .i64 x).wf = true) (wy : (Lit.int .i64 y).wf = true) (hx : hasB gs.length x = true) (hy : hasB gs.length y = false) :
    Calls Tryd.prog 58 #[.pointer (some ⟨b, 0, none⟩), .int .i64 x, .int .i64 y] w (GBad w p) := by
  have c0 := has_int hg wx
  rw [hx] at c0
  have C0 := Lib.hid c0
  have c1 := has_int hg wy
  rw [hy] at c1
  have C1 := Lib.hid c1
  clear hg c0 wx hx c1 wy hy
  go_enter Tryd.func58, Tryd.ntmps58
  go_wp2_with fail
  refine C0.out.mono ?_
  rintro e w' ⟨rfl, rfl⟩
  go_wp2_with fail
  refine C1.out.mono ?_
  rintro e w' ⟨rfl, rfl⟩
  go_wp2_with fail
  go_quiet (fail)
  go_wp2
  go_ret2
  exact ⟨rfl, _, rfl⟩
theorem or_bad {w : World} {base b : Nat} {mb : Option Nat} {gs : List Gm.Gate} {p : Addr} (hg : GraphAt w base b mb gs) (he : w.cell? ⟨0, 0, none⟩ = some (.iface 220 (.pointer (some p)))) {x y : Int} (wx : (Lit.int .i64 x).wf = true) (wy : (Lit.int .i64 y).wf = true) (h : (hasB gs.length x && hasB gs.length y) = false) :
    Calls Tryd.prog 58 #[.pointer (some ⟨b, 0, none⟩), .int .i64 x, .int .i64 y] w (GBad w p) := by
  cases h0 : hasB gs.length x with
  | false => exact or_bad0 hg he wx h0
  | true =>
    cases h1 : hasB gs.length y with
    | false => exact or_bad1 hg he wx wy h0 h1
    | true =>
      simp [h0, h1] at h
set_option maxHeartbeats 400000 in
theorem xor_bad0 {w : World} {base b : Nat} {mb : Option Nat} {gs : List Gm.Gate} {p : Addr} (hg : GraphAt w base b mb gs) (he : w.cell? ⟨0, 0, none⟩ = some (.iface 220 (.pointer (some p)))) {x y : Int} (wx : (Lit.int .i64 x).wf = true)  (hx : hasB gs.length x = false) :
    Calls Tryd.prog 60 #[.pointer (some ⟨b, 0, none⟩), .int .i64 x, .int .i64 y] w (GBad w p) := by
  have c0 := has_int hg wx
  rw [hx] at c0
  have C0 := Lib.hid c0
  clear hg c0 wx hx
  go_enter Tryd.func60, Tryd.ntmps60
  go_wp2_with fail
  refine C0.out.mono ?_
  rintro e w' ⟨rfl, rfl⟩
  go_wp2_with fail
  go_quiet (fail)
  go_wp2
  go_ret2
  exact ⟨rfl, _, rfl⟩
set_option maxHeartbeats 400000 in
theorem xor_bad1 {w : World} {base b : Nat} {mb : Option Nat} {gs : List Gm.Gate} {p : Addr} (hg : GraphAt w base b mb gs) (he : w.cell? ⟨0, 0, none⟩ = some (.iface 220 (.pointer (some p)))) {x y : Int} (wx : (Lit.int .i64 x).wf = true) (wy : (Lit.int .i64 y).wf = true) (hx : hasB gs.length x = true) (hy : hasB gs.length y = false) :
    Calls Tryd.prog 60 #[.pointer (some ⟨b, 0, none⟩), .int .i64 x, .int .i64 y] w (GBad w p) := by
  have c0 := has_int hg wx
  rw [hx] at c0
  have C0 := Lib.hid c0
  have c1 := has_int hg wy
  rw [hy] at c1
  have C1 := Lib.hid c1
  clear hg c0 wx hx c1 wy hy
  go_enter Tryd.func60, Tryd.ntmps60
  go_wp2_with fail
  refine C0.out.mono ?_
  rintro e w' ⟨rfl, rfl⟩
  go_wp2_with fail
  refine C1.out.mono ?_
  rintro e w' ⟨rfl, rfl⟩
  go_wp2_with fail
  go_quiet (fail)
  go_wp2
  go_ret2
  exact ⟨rfl, _, rfl⟩
theorem xor_bad {w : World} {base b : Nat} {mb : Option Nat} {gs : List Gm.Gate} {p : Addr} (hg : GraphAt w base b mb gs) (he : w.cell? ⟨0, 0, none⟩ = some (.iface 220 (.pointer (some p)))) {x y : Int} (wx : (Lit.int .i64 x).wf = true) (wy : (Lit.int .i64 y).wf = true) (h : (hasB gs.length x && hasB gs.length y) = false) :
    Calls Tryd.prog 60 #[.pointer (some ⟨b, 0, none⟩), .int .i64 x, .int .i64 y] w (GBad w p) := by
  cases h0 : hasB gs.length x with
  | false => exact xor_bad0 hg he wx h0
  | true =>
    cases h1 : hasB gs.length y with
    | false => exact xor_bad1 hg he wx wy h0 h1
    | true =>
      simp [h0, h1] at h
set_option maxHeartbeats 400000 in
theorem if_bad0 {w : World} {base b : Nat} {mb : Option Nat} {gs : List Gm.Gate} {p : Addr} (hg : GraphAt w base b mb gs) (he : w.cell? ⟨0, 0, none⟩ = some (.iface 220 (.pointer (some p)))) {z x y : Int} (wz : (Lit.int .i64 z).wf = true)  (hz : hasB gs.length z = false) :
    Calls Tryd.prog 62 #[.pointer (some ⟨b, 0, none⟩), .int .i64 z, .int .i64 x, .int .i64 y] w (GBad w p) := by
  have c0 := has_int hg wz
  rw [hz] at c0
  have C0 := Lib.hid c0
  clear hg c0 wz hz
  go_enter Tryd.func62, Tryd.ntmps62
  go_wp2_with fail
  refine C0.out.mono ?_
  rintro e w' ⟨rfl, rfl⟩
  go_wp2_with fail
  go_quiet (fail)
  go_wp2
  go_ret2
  exact ⟨rfl, _, rfl⟩
set_option maxHeartbeats 400000 in
theorem if_bad1 {w : World} {base b : Nat} {mb : Option Nat} {gs : List Gm.Gate} {p : Addr} (hg : GraphAt w base b mb gs) (he : w.cell? ⟨0, 0, none⟩ = some (.iface 220 (.pointer (some p)))) {z x y : Int} (wz : (Lit.int .i64 z).wf = true) (wx : (Lit.int .i64 x).wf = true) (hz : hasB gs.length z = true) (hx : hasB gs.length x = false) :
    Calls Tryd.prog 62 #[.pointer (some ⟨b, 0, none⟩), .int .i64 z, .int .i64 x, .int .i64 y] w (GBad w p) := by
  have c0 := has_int hg wz
  rw [hz] at c0
  have C0 := Lib.hid c0
  have c1 := has_int hg wx
  rw [hx] at c1
  have C1 := Lib.hid c1
  clear hg c0 wz hz c1 wx hx
  go_enter Tryd.func62, Tryd.ntmps62
  go_wp2_with fail
  refine C0.out.mono ?_
  rintro e w' ⟨rfl, rfl⟩
  go_wp2_with fail
  refine C1.out.mono ?_
  rintro e w' ⟨rfl, rfl⟩
  go_wp2_with fail
  go_quiet (fail)
  go_wp2
  go_ret2
  exact ⟨rfl, _, rfl⟩
set_option maxHeartbeats 400000 in
theorem if_bad2 {w : World} {base b : Nat} {mb : Option Nat} {gs : List Gm.Gate} {p : Addr} (hg : GraphAt w base b mb gs) (he : w.cell? ⟨0, 0, none⟩ = some (.iface 220 (.pointer (some p)))) {z x y : Int} (wz : (Lit.int .i64 z).wf = true) (wx : (Lit.int .i64 x).wf = true) (wy : (Lit.int .i64 y).wf = true) (hz : hasB gs.length z = true) (hx : hasB gs.length x = true) (hy : hasB gs.length y = false) :
    Calls Tryd.prog 62 #[.pointer (some ⟨b, 0, none⟩), .int .i64 z, .int .i64 x, .int .i64 y] w (GBad w p) := by
  have c0 := has_int hg wz
  rw [hz] at c0
  have C0 := Lib.hid c0
  have c1 := has_int hg wx
  rw [hx] at c1
  have C1 := Lib.hid c1
  have c2 := has_int hg wy
  rw [hy] at c2
  have C2 := Lib.hid c2
  clear hg c0 wz hz c1 wx hx c2 wy hy
  go_enter Tryd.func62, Tryd.ntmps62
  go_wp2_with fail
  refine C0.out.mono ?_
  rintro e w' ⟨rfl, rfl⟩
  go_wp2_with fail
  refine C1.out.mono ?_
  rintro e w' ⟨rfl, rfl⟩
  go_wp2_with fail
  refine C2.out.mono ?_
  rintro e w' ⟨rfl, rfl⟩
  go_wp2_with fail
  go_quiet (fail)
  go_wp2
  go_ret2
  exact ⟨rfl, _, rfl⟩
theorem if_bad {w : World} {base b : Nat} {mb : Option Nat} {gs : List Gm.Gate} {p : Addr} (hg : GraphAt w base b mb gs) (he : w.cell? ⟨0, 0, none⟩ = some (.iface 220 (.pointer (some p)))) {z x y : Int} (wz : (Lit.int .i64 z).wf = true) (wx : (Lit.int .i64 x).wf = true) (wy : (Lit.int .i64 y).wf = true) (h : (hasB gs.length z && hasB gs.length x && hasB gs.length y) = false) :
    Calls Tryd.prog 62 #[.pointer (some ⟨b, 0, none⟩), .int .i64 z, .int .i64 x, .int .i64 y] w (GBad w p) := by
  cases h0 : hasB gs.length z with
  | false => exact if_bad0 hg he wz h0
  | true =>
    cases h1 : hasB gs.length x with
    | false => exact if_bad1 hg he wz wx h0 h1
    | true =>
      cases h2 : hasB gs.length y with
      | false => exact if_bad2 hg he wz wx wy h0 h1 h2
      | true =>
        simp [h0, h1, h2] at h
end Go.Proofs.YtmbjhpgemphmmaaDoor
