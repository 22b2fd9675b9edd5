/-
  WALKS of package word: the maker's gates (and, or, xor, pick), must.
  WORDS of literals in memory; turned, zero.
  THE WALK of package word: sum.
-/
import Derived.Test.YtmbjhpgemphmmaaDoorBs
import Derived.Test.YtmbjhpgemphmmaaDoorOm
import Derived.Test.YtmbjhpgemphmmaaDoorLp
import Derived.Test.YtmbjhpgemphmmaaDoorGv
import Derived.Test.YtmbjhpgemphmmaaDoorYp
import Derived.Test.YtmbjhpgemphmmaaDoorSt
import Derived.Test.YtmbjhpgemphmmaaDoorHs
namespace Go.Proofs.YtmbjhpgemphmmaaDoor
open Go.RowKit

/-- what a maker's gate leaves -/
def RP (w : World) (B b : Nat) (r : List Gm.Gate × Nat) (e : Ending) (w' : World) : Prop :=
  e = .returned (.int .i64 (r.2 : Nat)) ∧ GA w' B b r.1 ∧ Chg (GT B) w w'
theorem must_nil (x : Int) (w : World) : Calls Tryd.prog 110 #[.int .i64 x, .nilIface] w fun e w' => e = .returned (.int .i64 x) ∧ w = w' := by
  go_enter Tryd.func110, Tryd.ntmps110
  go_wp2
  go_ret
  exact ⟨rfl, rfl⟩
set_option maxHeartbeats 400000 in
theorem mkr_and {w : World} {B b : Nat} {gs : List Gm.Gate} (h : GA w B b gs) (hn : gs.length < 99999) {x y : Nat} (hx : Gm.has gs x) (hy : Gm.has gs y) :
    Calls Tryd.prog 81 #[.agg #[.pointer (some ⟨b, 0, none⟩)], .int .i64 x, .int .i64 y] w (RP w B b (Gm.andG gs x y)) := by
  obtain ⟨W1, hW1⟩ : ∃ W1, W1 = w.alloc (.cells #[.pointer (some ⟨b, 0, none⟩)] 106) := ⟨_, rfl⟩
  have hb : Below w.heap.size w W1 := by rw [hW1]; exact (Below.refl _ _).alloc (Nat.le_refl _) _
  have hc : Chg (GT B) w W1 := by rw [hW1]; exact (Chg.refl _ _).alloc _
  have C1 := Lib.hid (and_ga (h.new hb) hn hx hy)
  have HC := Lib.hid hc
  have HW := Lib.hid hW1
  clear h hb hc hW1 hn hx hy
  go_enter Tryd.func81, Tryd.ntmps81
  go_wp2_with fail
  rw [← HW.out]
  refine C1.out.mono ?_
  rintro e w1 ⟨rfl, h1, h2⟩
  have H1 := Lib.hid h1
  have H2 := Lib.hid (HC.out.trans h2)
  clear h1 h2
  go_wp2_with fail
  refine (must_nil _ _).mono ?_
  rintro e w' ⟨rfl, rfl⟩
  go_wp2
  go_ret
  exact ⟨rfl, H1.out, H2.out⟩
set_option maxHeartbeats 400000 in
theorem mkr_or {w : World} {B b : Nat} {gs : List Gm.Gate} (h : GA w B b gs) (hn : gs.length < 99999) {x y : Nat} (hx : Gm.has gs x) (hy : Gm.has gs y) :
    Calls Tryd.prog 83 #[.agg #[.pointer (some ⟨b, 0, none⟩)], .int .i64 x, .int .i64 y] w (RP w B b (Gm.orG gs x y)) := by
  obtain ⟨W1, hW1⟩ : ∃ W1, W1 = w.alloc (.cells #[.pointer (some ⟨b, 0, none⟩)] 106) := ⟨_, rfl⟩
  have hb : Below w.heap.size w W1 := by rw [hW1]; exact (Below.refl _ _).alloc (Nat.le_refl _) _
  have hc : Chg (GT B) w W1 := by rw [hW1]; exact (Chg.refl _ _).alloc _
  have C1 := Lib.hid (or_ga (h.new hb) hn hx hy)
  have HC := Lib.hid hc
  have HW := Lib.hid hW1
  clear h hb hc hW1 hn hx hy
  go_enter Tryd.func83, Tryd.ntmps83
  go_wp2_with fail
  rw [← HW.out]
  refine C1.out.mono ?_
  rintro e w1 ⟨rfl, h1, h2⟩
  have H1 := Lib.hid h1
  have H2 := Lib.hid (HC.out.trans h2)
  clear h1 h2
  go_wp2_with fail
  refine (must_nil _ _).mono ?_
  rintro e w' ⟨rfl, rfl⟩
  go_wp2
  go_ret
  exact ⟨rfl, H1.out, H2.out⟩
set_option maxHeartbeats 400000 in
theorem mkr_xor {w : World} {B b : Nat} {gs : List Gm.Gate} (h : GA w B b gs) (hn : gs.length < 99997) {x y : Nat} (hx : Gm.has gs x) (hy : Gm.has gs y) :
    Calls Tryd.prog 82 #[.agg #[.pointer (some ⟨b, 0, none⟩)], .int .i64 x, .int .i64 y] w (RP w B b (Gm.xorG gs x y)) := by
  obtain ⟨W1, hW1⟩ : ∃ W1, W1 = w.alloc (.cells #[.pointer (some ⟨b, 0, none⟩)] 106) := ⟨_, rfl⟩
  have hb : Below w.heap.size w W1 := by rw [hW1]; exact (Below.refl _ _).alloc (Nat.le_refl _) _
  have hc : Chg (GT B) w W1 := by rw [hW1]; exact (Chg.refl _ _).alloc _
  have C1 := Lib.hid (xor_ga (h.new hb) hn hx hy)
  have HC := Lib.hid hc
  have HW := Lib.hid hW1
  clear h hb hc hW1 hn hx hy
  go_enter Tryd.func82, Tryd.ntmps82
  go_wp2_with fail
  rw [← HW.out]
  refine C1.out.mono ?_
  rintro e w1 ⟨rfl, h1, h2⟩
  have H1 := Lib.hid h1
  have H2 := Lib.hid (HC.out.trans h2)
  clear h1 h2
  go_wp2_with fail
  refine (must_nil _ _).mono ?_
  rintro e w' ⟨rfl, rfl⟩
  go_wp2
  go_ret
  exact ⟨rfl, H1.out, H2.out⟩
set_option maxHeartbeats 400000 in
theorem mkr_pick {w : World} {B b : Nat} {gs : List Gm.Gate} (h : GA w B b gs) (hn : gs.length < 99997) {z x y : Nat} (hz : Gm.has gs z) (hx : Gm.has gs x) (hy : Gm.has gs y) :
    Calls Tryd.prog 80 #[.agg #[.pointer (some ⟨b, 0, none⟩)], .int .i64 z, .int .i64 x, .int .i64 y] w (RP w B b (Gm.ifG gs z x y)) := by
  obtain ⟨W1, hW1⟩ : ∃ W1, W1 = w.alloc (.cells #[.pointer (some ⟨b, 0, none⟩)] 106) := ⟨_, rfl⟩
  have hb : Below w.heap.size w W1 := by rw [hW1]; exact (Below.refl _ _).alloc (Nat.le_refl _) _
  have hc : Chg (GT B) w W1 := by rw [hW1]; exact (Chg.refl _ _).alloc _
  have C1 := Lib.hid (if_ga (h.new hb) hn hz hx hy)
  have HC := Lib.hid hc
  have HW := Lib.hid hW1
  clear h hb hc hW1 hn hz hx hy
  go_enter Tryd.func80, Tryd.ntmps80
  go_wp2_with fail
  rw [← HW.out]
  refine C1.out.mono ?_
  rintro e w1 ⟨rfl, h1, h2⟩
  have H1 := Lib.hid h1
  have H2 := Lib.hid (HC.out.trans h2)
  clear h1 h2
  go_wp2_with fail
  refine (must_nil _ _).mono ?_
  rintro e w' ⟨rfl, rfl⟩
  go_wp2
  go_ret
  exact ⟨rfl, H1.out, H2.out⟩
end Go.Proofs.YtmbjhpgemphmmaaDoor
namespace Go.Proofs.YtmbjhpgemphmmaaDoor
open Go.RowKit

/-- a word that is read: its block is none of a graph's -/
def Held (w : World) (B : Nat) (A : Option Addr) (n : Nat) (xs : List Nat) : Prop :=
  xs.length = n ∧ (0 < n → ∃ ad o, A = some ad ∧ w.heap[ad.block]? = some o ∧ (ad.block < B ∨ elemOf o = some 29) ∧ ∀ (j x : Nat), xs[j]? = some x → w.cell? (ad.add j) = some (.int .i64 (x : Int)))
section
variable {w w' : World} {B n : Nat} {A : Option Addr} {xs : List Nat}
theorem Held.chg {S : Nat → Obj → Prop} (h : Held w B A n xs) (hc : Chg S w w') (hS : ∀ k o, S k o → B ≤ k ∧ elemOf o ≠ some 29) : Held w' B A n xs := by
  refine ⟨h.1, fun hn => ?_⟩
  obtain ⟨ad, o, rfl, ho, hb, hcell⟩ := h.2 hn
  have hk := hc.keep _ _ ho fun hs => by
    obtain ⟨h1, h2⟩ := hS _ _ hs
    rcases hb with hb | hb
    · omega
    · exact h2 hb
  exact ⟨ad, o, rfl, hk, hb, fun j x hx => (World.cell?_of_block (a := ad.add j) (by rw [block_of_add]; exact hk.trans ho.symm)).trans (hcell j x hx)⟩
theorem Held.gt (h : Held w B A n xs) (hc : Chg (GT B) w w') : Held w' B A n xs :=
  h.chg hc fun k o hs => ⟨hs.1, by rcases hs.2 with e | e | e <;> rw [e] <;> simp⟩
theorem Held.new (h : Held w B A n xs) (hb : Below w.heap.size w w') : Held w' B A n xs := h.chg (S := fun _ _ => False) (.of_new hb) (by simp)
theorem Held.drewN (h : Held w B A n xs) (k : Nat) : Held (w.drewN k) B A n xs := h
theorem Held.of_own {base c : Nat} (h : w.ownsRow base 29 1 (.slice A n c) n (natVals xs)) : Held w B A n xs := by
  have hl : xs.length = n := by have := h.1; rw [natVals_length] at this; omega
  refine ⟨hl, fun hn => ?_⟩
  obtain ⟨g, cap, hv, _, _⟩ := h.form hn
  have hA : A = some ⟨g, 0, none⟩ := by injection hv
  subst hA
  have hc := h.cells (g := g) rfl
  rcases h.2 with ⟨h0, _⟩ | ⟨g', cap', cur, hv', _, hh, _⟩
  · cases h0
  · have hg : g = g' := by simp only [Value.slice.injEq, Option.some.injEq, Addr.mk.injEq, and_true] at hv'; exact hv'.1
    subst hg
    exact ⟨_, _, rfl, hh, .inr rfl, fun j x hx => hc j _ (natVals_at hx)⟩
end
/-- a word that was made -/
def WPost (w : World) (n : Nat) (ys : List Nat) (e : Ending) (w' : World) : Prop :=
  ∃ A c, e = .returned (.slice A n c) ∧ w'.ownsRow w.heap.size 29 1 (.slice A n c) n (natVals ys) ∧ Below w.heap.size w w'
def TuR (W : World) (xs : List Nat) (ov iv : Value) (wr : World) : Prop :=
  ∃ k : Nat, k ≤ xs.length ∧ iv = .int .i64 k ∧ (∃ A c, ov = .slice A k c) ∧ wr.ownsRow W.heap.size 29 1 ov k (natVals ((xs.take k).map Gm.notL)) ∧ Below W.heap.size W wr
set_option maxHeartbeats 1000000 in
theorem turned_any {w : World} {B n : Nat} {A : Option Addr} {xs : List Nat} {c : Nat} (h : Held w B A n xs) (hs : ∀ x ∈ xs, x ≤ 1000000) (hn : n ≤ 1000) :
    Calls Tryd.prog 43 #[.slice A n c] w (WPost w n (xs.map Gm.notL)) := by
  obtain ⟨i0, hi0, hz0, hz1, hz2⟩ := info_parts infoLit_
  have HIN := Lib.hid (show _ ∧ _ ∧ _ ∧ _ from ⟨hi0, hz0, hz1, hz2⟩)
  obtain rfl := h.1
  have HH := Lib.hid h
  have HS := Lib.hid hs
  clear h hs hi0 hz0 hz1 hz2
  go_enter Tryd.func43, Tryd.ntmps43
  go_wp2_with fail
  go_loopw [3, 8] (fun ov iv wr => TuR w xs ov iv wr) (fun _ iv _ => xs.length - (intOf iv).toNat)
  case atStart => exact ⟨0, Nat.zero_le _, rfl, ⟨none, 0, rfl⟩, World.ownsRow_nil _ _ _ _, Below.refl _ _⟩
  case round =>
    obtain ⟨k, hk, rfl, ⟨Ao, co, rfl⟩, hown, hb⟩ := hrel
    have HO := Lib.hid hown
    have HB := Lib.hid hb
    have hsz := hb.size
    clear hown hb
    by_cases hkl : k < xs.length
    · obtain ⟨x, hx⟩ : ∃ x, xs[k]? = some x := ⟨_, List.getElem?_eq_getElem hkl⟩
      obtain ⟨ad, o, hA, ho, _, hcell⟩ := HH.out.2 (by omega)
      subst hA
      have hlt := lt_of_heap ho
      have cx := (HB.out.cell (p := ad.add k) (by rw [block_of_add]; exact hlt)).trans (hcell k x hx)
      have CN := Lib.hid (not_any x wr (HS.out x (List.mem_of_getElem? hx)))
      have HX := Lib.hid hx
      clear hcell ho hx hlt
      go_wp2_with fail
      refine CN.out.mono ?_
      rintro e w' ⟨rfl, rfl⟩
      go_wp2_with (at_builtin; refine wpList_append_sl _ rfl (.tmp 12) (.tmp 15) _ rfl w.heap.size 29 i0 _ 1 8 Tryd.underlying28 HIN.out.1 HIN.out.2.1 HIN.out.2.2.1 HIN.out.2.2.2 rfl (by omega) _ k _ rfl (HO.out.alloc _) (wr.heap.size + 1) (some ⟨wr.heap.size, 0, none⟩) 1 1 [.int .i64 (Gm.notL x : Nat)] rfl (reads_new rfl (by omega) rfl) (ints_one (by simp)) (le_maxLen (by omega)) (le_bytes (by omega) (by omega)) (by simp; omega) ?_; intro A1 c1 w5 hown1 hg1)
      have hg2 : (wr.alloc (.cells #[.int .i64 (Gm.notL x : Nat)] 29)).grownBy w5 (Value.slice Ao k co).ownBlock := hg1
      have HB5 := Lib.hid (own_grown_below HB.out HO.out (Nat.le_refl _) hg2)
      have ho5 : w5.ownsRow w.heap.size 29 1 (.slice A1 (k + 1) c1) (k + 1) (natVals ((xs.take (k + 1)).map Gm.notL)) := by
        rw [Gm.take_one HX.out, List.map_append, natVals_append]; exact hown1
      have HO5 := Lib.hid ho5
      clear hown1 hg1 hg2 ho5
      go_wp2_with fail
      go_roundw
      case rel => exact ⟨k + 1, by omega, by go_num, ⟨_, _, rfl⟩, HO5.out, HB5.out⟩
      case measure => simp [intOf]; omega
    · obtain rfl : k = xs.length := by omega
      have ho := HO.out
      rw [List.take_length] at ho
      have HO4 := Lib.hid ho
      clear ho
      go_wp2
      go_ret
      exact ⟨Ao, co, rfl, HO4.out, HB.out⟩
end Go.Proofs.YtmbjhpgemphmmaaDoor
namespace Go.Proofs.YtmbjhpgemphmmaaDoor
open Go.RowKit

/-- what words come to -/
def evs (inp : List Bool) (gs : List Gm.Gate) (l : List Nat) : List Bool := l.map (Gm.ev inp gs)
def AllHas (gs : List Gm.Gate) (l : List Nat) : Prop := ∀ x ∈ l, Gm.has gs x
theorem AllHas.ext {gs gs' : List Gm.Gate} {l : List Nat} (h : AllHas gs l) (he : Gm.Ext gs gs') : AllHas gs' l := fun x hx => he.has (h x hx)
theorem evs_ext {inp : List Bool} {gs gs' : List Gm.Gate} {l : List Nat} (h : AllHas gs l) (he : Gm.Ext gs gs') : evs inp gs' l = evs inp gs l :=
  List.map_congr_left fun x hx => Gm.ev_ext he (h x hx)
theorem evs_length (inp : List Bool) (gs : List Gm.Gate) (l : List Nat) : (evs inp gs l).length = l.length := by unfold evs; simp
theorem box_gt {w w' : World} {B g : Nat} {cs : Array Value} (h : Blk w g 106 cs) (hc : Chg (GT B) w w') : Blk w' g 106 cs :=
  h.chg hc fun hs => by rcases hs.2 with e | e | e <;> simp [elemOf] at e
/-- what a sum of words leaves -/
structure SumOf (gs gs' : List Gm.Gate) (xs ys outs : List Nat) (c last : Nat) : Prop where
  ext : Gm.Ext gs gs'
  outs_ : AllHas gs' outs
  last_ : Gm.has gs' last
  len : gs'.length ≤ gs.length + 9 * xs.length
  eq : ∀ inp, evs inp gs' outs = Wp.sums (evs inp gs xs) (evs inp gs ys) (Gm.ev inp gs c) ∧ Gm.ev inp gs' last = Wp.carry (evs inp gs xs) (evs inp gs ys) (Gm.ev inp gs c)
def SPost (w : World) (B b : Nat) (gs : List Gm.Gate) (xs ys : List Nat) (c : Nat) (e : Ending) (w' : World) : Prop :=
  ∃ A k gs' outs last, e = .returned (.tuple #[.slice A xs.length k, .int .i64 (last : Nat)]) ∧ GA w' B b gs' ∧ Chg (GT B) w w' ∧ w'.ownsRow w.heap.size 29 1 (.slice A xs.length k) xs.length (natVals outs) ∧ SumOf gs gs' xs ys outs c last
def SRel (W : World) (B b : Nat) (gs : List Gm.Gate) (xs ys : List Nat) (c : Nat) (cv ov iv : Value) (wr : World) : Prop :=
  ∃ k gs' outs last, k ≤ xs.length ∧ iv = .int .i64 (k : Nat) ∧ cv = .int .i64 (last : Nat) ∧ (∃ A cp, ov = .slice A k cp) ∧ GA wr B b gs' ∧ Chg (GT B) W wr ∧ wr.ownsRow W.heap.size 29 1 ov k (natVals outs) ∧
    Blk wr W.heap.size 106 #[.pointer (some ⟨b, 0, none⟩)] ∧ SumOf gs gs' (xs.take k) (ys.take k) outs c last
theorem sumOf_start (gs : List Gm.Gate) {c : Nat} (hc : Gm.has gs c) : SumOf gs gs [] [] [] c c :=
  ⟨.refl _, (fun x hx => by cases hx), hc, by simp, fun inp => ⟨rfl, rfl⟩⟩
/-- one place of a sum: which literals are there when they are wanted -/
structure SumStep (gs gs1 : List Gm.Gate) (xs ys outs : List Nat) (c last k x y : Nat) (r1 r2 r3 r4 r5 : List Gm.Gate × Nat) : Prop where
  hx : Gm.has gs1 x
  hy : Gm.has gs1 y
  h1 : Gm.has r1.1 r1.2
  h1l : Gm.has r1.1 last
  h2x : Gm.has r2.1 x
  h2y : Gm.has r2.1 y
  h31 : Gm.has r3.1 r1.2
  h3l : Gm.has r3.1 last
  h43 : Gm.has r4.1 r3.2
  h4 : Gm.has r4.1 r4.2
  l1 : r1.1.length ≤ gs1.length + 3
  l2 : r2.1.length ≤ gs1.length + 6
  l3 : r3.1.length ≤ gs1.length + 7
  l4 : r4.1.length ≤ gs1.length + 8
  next : SumOf gs r5.1 (xs.take (k + 1)) (ys.take (k + 1)) (outs ++ [r2.2]) c r5.2
theorem sum_step {gs gs1 : List Gm.Gate} {xs ys outs : List Nat} {c last k x y : Nat} (hw : Gm.Wf gs1) (hs : SumOf gs gs1 (xs.take k) (ys.take k) outs c last) (gx : AllHas gs xs) (gy : AllHas gs ys) (_hc : Gm.has gs c) (hx : xs[k]? = some x) (hy : ys[k]? = some y)
    {r1 r2 r3 r4 r5 : List Gm.Gate × Nat} (e1 : r1 = Gm.xorG gs1 x y) (e2 : r2 = Gm.xorG r1.1 r1.2 last) (e3 : r3 = Gm.andG r2.1 x y) (e4 : r4 = Gm.andG r3.1 r1.2 last) (e5 : r5 = Gm.orG r4.1 r3.2 r4.2) : SumStep gs gs1 xs ys outs c last k x y r1 r2 r3 r4 r5 := by
  have kx := (List.getElem?_eq_some_iff.1 hx).1
  have ky := (List.getElem?_eq_some_iff.1 hy).1
  have hx0 := gx x (List.mem_of_getElem? hx)
  have hy0 := gy y (List.mem_of_getElem? hy)
  have hx1 := hs.ext.has hx0
  have hy1 := hs.ext.has hy0
  have w1 := fun inp => Gm.comes_xor (inp := inp) hw hx1 hy1
  rw [← e1] at w1
  have hl1 := (w1 []).ext.has hs.last_
  have w2 := fun inp => Gm.comes_xor (inp := inp) (w1 []).wf (w1 []).has hl1
  rw [← e2] at w2
  have x12 := (w1 []).ext.trans (w2 []).ext
  have w3 := fun inp => Gm.comes_and (inp := inp) (w2 []).wf (x12.has hx1) (x12.has hy1)
  rw [← e3] at w3
  have x13 := (w2 []).ext.trans (w3 []).ext
  have w4 := fun inp => Gm.comes_and (inp := inp) (w3 []).wf (x13.has (w1 []).has) (x13.has hl1)
  rw [← e4] at w4
  have w5 := fun inp => Gm.comes_or (inp := inp) (w4 []).wf ((w4 []).ext.has (w3 []).has) (w4 []).has
  rw [← e5] at w5
  have x25 : Gm.Ext r2.1 r5.1 := ((w3 []).ext.trans (w4 []).ext).trans (w5 []).ext
  have x15 : Gm.Ext gs1 r5.1 := x12.trans x25
  have l1 : r1.1.length ≤ gs1.length + 3 := by rw [e1]; exact Gm.orOf_len ..
  have l2 : r2.1.length ≤ r1.1.length + 3 := by rw [e2]; exact Gm.orOf_len ..
  have l3 : r3.1.length ≤ r2.1.length + 1 := by rw [e3]; exact Gm.andG_len ..
  have l4 : r4.1.length ≤ r3.1.length + 1 := by rw [e4]; exact Gm.andG_len ..
  have l5 : r5.1.length ≤ r4.1.length + 1 := by rw [e5]; exact Gm.orG_len ..
  have hlen := hs.len
  refine ⟨hx1, hy1, (w1 []).has, hl1, x12.has hx1, x12.has hy1, x13.has (w1 []).has, x13.has hl1, (w4 []).ext.has (w3 []).has, (w4 []).has, l1, by omega, by omega, by omega, ?_⟩
  refine ⟨hs.ext.trans x15, fun z hz => ?_, (w5 []).has, ?_, fun inp => ?_⟩
  · rcases List.mem_append.1 hz with hz | hz
    · exact x15.has (hs.outs_ z hz)
    · rw [List.mem_singleton.1 hz]; exact x25.has (w2 []).has
  · rw [List.length_take] at hlen ⊢
    omega
  · obtain ⟨q1, q2⟩ := hs.eq inp
    have tx : evs inp gs (xs.take (k + 1)) = evs inp gs (xs.take k) ++ [Gm.ev inp gs x] := by rw [Gm.take_one hx]; unfold evs; simp
    have ty : evs inp gs (ys.take (k + 1)) = evs inp gs (ys.take k) ++ [Gm.ev inp gs y] := by rw [Gm.take_one hy]; unfold evs; simp
    have hll : (evs inp gs (xs.take k)).length = (evs inp gs (ys.take k)).length := by rw [evs_length, evs_length, List.length_take, List.length_take]; omega
    have vx : Gm.ev inp gs1 x = Gm.ev inp gs x := Gm.ev_ext hs.ext hx0
    have vy : Gm.ev inp gs1 y = Gm.ev inp gs y := Gm.ev_ext hs.ext hy0
    have vx2 : Gm.ev inp r2.1 x = Gm.ev inp gs x := by rw [Gm.ev_ext x12 hx1, vx]
    have vy2 : Gm.ev inp r2.1 y = Gm.ev inp gs y := by rw [Gm.ev_ext x12 hy1, vy]
    have vl : Gm.ev inp r1.1 last = Gm.ev inp gs1 last := Gm.ev_ext (w1 []).ext hs.last_
    have vl3 : Gm.ev inp r3.1 last = Gm.ev inp gs1 last := by rw [Gm.ev_ext x13 hl1, vl]
    have v1 := (w1 inp).ev
    have v13 : Gm.ev inp r3.1 r1.2 = (Gm.ev inp gs x != Gm.ev inp gs y) := by rw [Gm.ev_ext x13 (w1 []).has, v1, vx, vy]
    have v34 : Gm.ev inp r4.1 r3.2 = (Gm.ev inp gs x && Gm.ev inp gs y) := by rw [Gm.ev_ext (w4 []).ext (w3 []).has, (w3 inp).ev, vx2, vy2]
    rw [tx, ty, Wp.sums_snoc hll, Wp.carry_snoc hll, ← q1, ← q2]
    constructor
    · have o1 : evs inp r5.1 outs = evs inp gs1 outs := evs_ext hs.outs_ x15
      have o2 : Gm.ev inp r5.1 r2.2 = Wp.sumBit (Gm.ev inp gs x) (Gm.ev inp gs y) (Gm.ev inp gs1 last) := by
        rw [Gm.ev_ext x25 (w2 []).has, (w2 inp).ev, v1, vx, vy, vl]; rfl
      unfold evs at o1 ⊢
      rw [List.map_append, o1]
      simp [o2]
    · rw [(w5 inp).ev, v34, (w4 inp).ev, v13, vl3]; rfl
attribute [local irreducible] wpStill wpSeq
set_option maxRecDepth 100000 in
set_option maxHeartbeats 2000000 in
theorem sum_any {w : World} {B b : Nat} {gs : List Gm.Gate} (h : GA w B b gs) {A A2 : Option Addr} {c1 c2 : Nat} {xs ys : List Nat} (hx : Held w B A xs.length xs) (hy : Held w B A2 xs.length ys) (gx : AllHas gs xs) (gy : AllHas gs ys) {c : Nat} (hc : Gm.has gs c)
    (hn : gs.length + 9 * xs.length ≤ 99000) (hl : xs.length ≤ 1000) :
    Calls Tryd.prog 78 #[.agg #[.pointer (some ⟨b, 0, none⟩)], .slice A xs.length c1, .slice A2 xs.length c2, .int .i64 (c : Nat)] w (SPost w B b gs xs ys c) := by
  obtain ⟨i0, hi0, hz0, hz1, hz2⟩ := info_parts infoLit_
  have HIN := Lib.hid (show _ ∧ _ ∧ _ ∧ _ from ⟨hi0, hz0, hz1, hz2⟩)
  have HG := Lib.hid h
  have HX := Lib.hid hx
  have HY := Lib.hid hy
  have GX := Lib.hid gx
  have GY := Lib.hid gy
  have HC := Lib.hid hc
  have HN := Lib.hid hn
  clear h hx hy gx gy hc hn hi0 hz0 hz1 hz2
  go_enter Tryd.func78, Tryd.ntmps78
  go_wp2_with fail
  go_loopw [3, 8, 14] (fun cv ov iv wr => SRel w B b gs xs ys c cv ov iv wr) (fun _ _ iv _ => xs.length - (intOf iv).toNat)
  case atStart =>
    refine ⟨0, gs, [], c, Nat.zero_le _, rfl, rfl, ⟨none, 0, rfl⟩, HG.out.new ((Below.refl _ _).alloc (Nat.le_refl _) _), (Chg.refl _ _).alloc _, World.ownsRow_nil _ _ _ _, Blk.new w _ _, ?_⟩
    simpa using sumOf_start gs HC.out
  case round =>
    obtain ⟨k, gs1, outs, last, hk, rfl, rfl, ⟨Ao, co, rfl⟩, hg, hch, hown, hbox, hso⟩ := hrel
    have HG1 := Lib.hid hg
    have HCH := Lib.hid hch
    have HO := Lib.hid hown
    have HBX := Lib.hid hbox
    have HSO := Lib.hid hso
    by_cases hkl : k < xs.length
    · obtain ⟨x, hxk⟩ : ∃ x, xs[k]? = some x := ⟨_, List.getElem?_eq_getElem hkl⟩
      obtain ⟨y, hyk⟩ : ∃ y, ys[k]? = some y := ⟨_, List.getElem?_eq_getElem (by have := HY.out.1; omega)⟩
      obtain ⟨ad, o, hA, _, _, hcell⟩ := (HX.out.gt hch).2 (by omega)
      subst hA
      obtain ⟨ad2, o2, hA2, _, _, hcell2⟩ := (HY.out.gt hch).2 (by omega)
      subst hA2
      have cx := hcell k x hxk
      have cy := hcell2 k y hyk
      have cb : wr.cell? ⟨w.heap.size, 0, none⟩ = some (.pointer (some ⟨b, 0, none⟩)) := hbox.cell 0
      have hl1 : gs1.length ≤ gs.length + 9 * k := by have := hso.len; rw [List.length_take, Nat.min_eq_left hk] at this; exact this
      obtain ⟨r1, e1⟩ : ∃ r, r = Gm.xorG gs1 x y := ⟨_, rfl⟩
      obtain ⟨r2, e2⟩ : ∃ r, r = Gm.xorG r1.1 r1.2 last := ⟨_, rfl⟩
      obtain ⟨r3, e3⟩ : ∃ r, r = Gm.andG r2.1 x y := ⟨_, rfl⟩
      obtain ⟨r4, e4⟩ : ∃ r, r = Gm.andG r3.1 r1.2 last := ⟨_, rfl⟩
      obtain ⟨r5, e5⟩ : ∃ r, r = Gm.orG r4.1 r3.2 r4.2 := ⟨_, rfl⟩
      have HST := Lib.hid (sum_step hg.wf hso GX.out GY.out HC.out hxk hyk e1 e2 e3 e4 e5)
      obtain ⟨W2, hW2⟩ : ∃ W2, W2 = wr.drew := ⟨_, rfl⟩
      have HG2 := Lib.hid (show GA W2 B b gs1 by rw [hW2]; exact hg.drewN 1)
      have HCH2 := Lib.hid (show Chg (GT B) w W2 by rw [hW2]; exact hch.drew)
      have HO2 := Lib.hid (show W2.ownsRow w.heap.size 29 1 (.slice Ao k co) k (natVals outs) by rw [hW2]; exact hown)
      have HBX2 := Lib.hid (show Blk W2 w.heap.size 106 #[.pointer (some ⟨b, 0, none⟩)] by rw [hW2]; exact hbox)
      have HW2 := Lib.hid hW2
      have E1 := Lib.hid e1
      have E2 := Lib.hid e2
      have E3 := Lib.hid e3
      have E4 := Lib.hid e4
      have E5 := Lib.hid e5
      have HL1 := Lib.hid hl1
      have HXK := Lib.hid hxk
      have HYK := Lib.hid hyk
      have hsw : w.heap.size ≤ wr.heap.size := hch.size
      have C1 := mkr_xor HG2.out (by have := HN.out; omega) HST.out.hx HST.out.hy
      rw [← e1] at C1
      have C1 := Lib.hid C1
      clear hg hch hown hbox hso hcell hcell2 hl1 e1 e2 e3 e4 e5 hW2 hxk hyk
      go_wp2_with fail
      refine wp_region_still_tail 9 (by kernel_rfl) (by kernel_rfl) ?_
      simp only [List.take_succ_cons, List.take_zero, List.drop_succ_cons, List.drop_zero]
      iterate 9 (refine still_want rfl (fun K hK => ?_); go_simp; refine hK _ ?_; clear hK K)
      refine wpStill_nil ?_
      change wpList _ _ _ _ _ wr.drew
      rw [← HW2.out]
      clear cx cy cb
      go_wp2_with fail
      refine C1.out.mono ?_
      rintro e w3 ⟨rfl, h1, h2⟩
      have HG3 := Lib.hid h1
      have HCH3 := Lib.hid (HCH2.out.trans h2)
      have HO3 := Lib.hid (own_gt HO2.out h2)
      have hb3 := box_gt HBX2.out h2
      have HBX3 := Lib.hid hb3
      have cb3 : w3.cell? ⟨w.heap.size, 0, none⟩ = some (.pointer (some ⟨b, 0, none⟩)) := hb3.cell 0
      have C2 := mkr_xor h1 (by have := HN.out; have := HST.out.l1; have := HL1.out; omega) HST.out.h1 HST.out.h1l
      rw [← E2.out] at C2
      have C2 := Lib.hid C2
      clear h1 h2 hb3
      go_wp2_with fail
      refine C2.out.mono ?_
      rintro e w4 ⟨rfl, h1, h2⟩
      have HG4 := Lib.hid h1
      have HCH4 := Lib.hid (HCH3.out.trans h2)
      have HO4 := Lib.hid (own_gt HO3.out h2)
      have HBX4 := Lib.hid (box_gt HBX3.out h2)
      have hs4 := HCH4.out.size
      clear h1 h2 cb3
      go_wp2_with (at_builtin; refine wpList_append_sl _ rfl (.tmp 27) (.tmp 32) _ rfl w.heap.size 29 i0 _ 1 8 Tryd.underlying28 HIN.out.1 HIN.out.2.1 HIN.out.2.2.1 HIN.out.2.2.2 rfl (by omega) _ k _ rfl (HO4.out.alloc _) (w4.heap.size + 1) (some ⟨w4.heap.size, 0, none⟩) 1 1 [.int .i64 (r2.2 : Nat)] rfl (reads_new rfl (by omega) rfl) (ints_one (by simp)) (le_maxLen (by omega)) (le_bytes (by omega) (by omega)) (by simp; omega) ?_; intro A5 c5 w5 hown5 hg5)
      have hg6 : (w4.alloc (.cells #[.int .i64 (r2.2 : Nat)] 29)).grownBy w5 (Value.slice Ao k co).ownBlock := hg5
      have HG5 := Lib.hid (HG4.out.row (row_chg HO4.out hg6))
      have hch5 := gt_grown HCH4.out HO4.out (Nat.le_refl _) hg6
      have HCH5 := Lib.hid hch5
      have hb5 := (HBX4.out.alloc _).grown hg6 (own_blk_ne HO4.out HBX4.out (by decide)).symm
      have HBX5 := Lib.hid hb5
      have ho5 : w5.ownsRow w.heap.size 29 1 (.slice A5 (k + 1) c5) (k + 1) (natVals (outs ++ [r2.2])) := by rw [natVals_append]; exact hown5
      have HO5 := Lib.hid ho5
      obtain ⟨ad', o', hA', _, _, hcell⟩ := (HX.out.gt hch5).2 (by omega)
      obtain rfl : ad' = ad := by injection hA' with h; exact h.symm
      obtain ⟨ad2', o2', hA2', _, _, hcell2⟩ := (HY.out.gt hch5).2 (by omega)
      obtain rfl : ad2' = ad2 := by injection hA2' with h; exact h.symm
      have cx := hcell k x HXK.out
      have cy := hcell2 k y HYK.out
      have cb : w5.cell? ⟨w.heap.size, 0, none⟩ = some (.pointer (some ⟨b, 0, none⟩)) := hb5.cell 0
      have HS := Lib.hid (show ∀ w', Chg (GT B) w5 w' → w'.cell? ⟨w.heap.size, 0, none⟩ = some (.pointer (some ⟨b, 0, none⟩)) ∧ w'.cell? (ad'.add k) = some (.int .i64 (x : Nat)) ∧ w'.cell? (ad2'.add k) = some (.int .i64 (y : Nat)) from fun w' hc => by
        obtain ⟨ad3, o3, hA3, _, _, hc3⟩ := (HX.out.gt (hch5.trans hc)).2 (by omega)
        obtain rfl : ad3 = ad' := by injection hA3 with h; exact h.symm
        obtain ⟨ad4, o4, hA4, _, _, hc4⟩ := (HY.out.gt (hch5.trans hc)).2 (by omega)
        obtain rfl : ad4 = ad2' := by injection hA4 with h; exact h.symm
        exact ⟨(box_gt hb5 hc).cell 0, hc3 k x HXK.out, hc4 k y HYK.out⟩)
      obtain ⟨W6, hW6⟩ : ∃ W6, W6 = w5.drew := ⟨_, rfl⟩
      have hg6' : GA W6 B b r2.1 := by rw [hW6]; exact HG5.out.drewN 1
      have HC6 := Lib.hid (show Chg (GT B) w5 W6 by rw [hW6]; exact (Chg.refl _ _).drew)
      have C3 := mkr_and hg6' (by have := HN.out; have := HST.out.l2; have := HL1.out; omega) HST.out.h2x HST.out.h2y
      rw [← E3.out] at C3
      have C3 := Lib.hid C3
      have HW6 := Lib.hid hW6
      have HCS := Lib.hid (And.intro cb (And.intro cx cy))
      clear hown5 hg5 hg6 hch5 hb5 ho5 hcell hcell2 hA' hA2' hg6' hW6 cx cy cb
      go_wp2_with fail
      refine wp_region_seq (S := fun w' => w'.cell? ⟨w.heap.size, 0, none⟩ = some (.pointer (some ⟨b, 0, none⟩)) ∧ w'.cell? (ad'.add k) = some (.int .i64 (x : Nat)) ∧ w'.cell? (ad2'.add k) = some (.int .i64 (y : Nat)))
        [(0, false), (1, false), (2, false), (3, false), (4, false), (5, false), (6, false), (7, false), (8, false), (9, false), (11, false), (12, false), (13, false), (10, true), (14, true), (15, true), (16, false)] (by kernel_rfl) (by kernel_rfl) (by kernel_rfl) HCS.out ?_
      rw [← HW6.out]
      iterate 13 (refine seq_take _ _ rfl (by kernel_rfl) (fun wv hv => by obtain ⟨hv1, hv2, hv3⟩ := hv; go_simp; try with_reducible rfl) ?_; simp only [Act.put, List.getElem_toArray, List.getElem_cons_zero, List.getElem_cons_succ, List.setIfInBounds_toArray, List.set_cons_zero, List.set_cons_succ])
      refine seq_act _ rfl (fun K hK => ?_)
      go_simp
      refine C3.out.mono ?_
      rintro e w7 ⟨rfl, h1, h2⟩
      have HC7 := Lib.hid (HC6.out.trans h2)
      have C4 := mkr_and h1 (by have := HN.out; have := HST.out.l3; have := HL1.out; omega) HST.out.h31 HST.out.h3l
      rw [← E4.out] at C4
      have C4 := Lib.hid C4
      clear h1 h2
      go_simp
      refine hK _ _ (HS.out _ HC7.out) ?_
      clear hK K
      refine seq_act _ rfl (fun K hK => ?_)
      go_simp
      refine C4.out.mono ?_
      rintro e w8 ⟨rfl, h1, h2⟩
      have HC8 := Lib.hid (HC7.out.trans h2)
      have C5 := mkr_or h1 (by have := HN.out; have := HST.out.l4; have := HL1.out; omega) HST.out.h43 HST.out.h4
      rw [← E5.out] at C5
      have C5 := Lib.hid C5
      clear h1 h2
      go_simp
      refine hK _ _ (HS.out _ HC8.out) ?_
      clear hK K
      refine seq_act _ rfl (fun K hK => ?_)
      go_simp
      refine C5.out.mono ?_
      rintro e w9 ⟨rfl, h1, h2⟩
      have HC9 := Lib.hid (HC8.out.trans h2)
      have HG9 := Lib.hid h1
      clear h1 h2
      go_simp
      refine hK _ _ (HS.out _ HC9.out) ?_
      clear hK K
      iterate 1 (refine seq_take _ _ rfl (by kernel_rfl) (fun wv hv => by go_simp; try with_reducible rfl) ?_; simp only [Act.put, List.getElem_toArray, List.getElem_cons_zero, List.getElem_cons_succ, List.setIfInBounds_toArray, List.set_cons_zero, List.set_cons_succ])
      refine seq_nil ?_
      go_wp2_with fail
      go_roundw
      case rel => exact ⟨k + 1, _, _, _, by omega, by go_num, rfl, ⟨_, _, rfl⟩, HG9.out, HCH5.out.trans HC9.out, own_gt HO5.out HC9.out, box_gt HBX5.out HC9.out, HST.out.next⟩
      case measure => simp [intOf]; omega
    · obtain rfl : k = xs.length := by omega
      go_wp2
      go_ret2
      have hs := HSO.out
      rw [List.take_length] at hs
      have hyl : ys.take xs.length = ys := List.take_of_length_le (by have := HY.out.1; omega)
      rw [hyl] at hs
      exact ⟨Ao, co, gs1, outs, last, rfl, HG1.out, HCH.out, HO.out, hs⟩
end Go.Proofs.YtmbjhpgemphmmaaDoor
