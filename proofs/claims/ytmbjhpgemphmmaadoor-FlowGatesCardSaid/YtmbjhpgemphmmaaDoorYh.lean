/-
  WALKS of package word: less.
-/
import Derived.Test.YtmbjhpgemphmmaaDoorYf
namespace Go.Proofs.YtmbjhpgemphmmaaDoor
open Go.RowKit
namespace Wp
def flipB (a : List Bool) : List Bool := a.set (a.length - 1) (!topB a)
def lessB (a b : List Bool) : Bool := !(geB (flipB a) (flipB b))
end Wp
theorem Held.reads {w : World} {B n : Nat} {A : Option Addr} {xs : List Nat} (h : Held w B A n xs) : Reads w w.heap.size 1 A n (natVals xs) := by
  refine ⟨by rw [natVals_length, h.1, Nat.mul_one], fun hn => ?_⟩
  obtain ⟨ad, o, hA, ho, _, hc⟩ := h.2 hn
  refine ⟨ad, hA, lt_of_heap ho, fun j u hu => ?_⟩
  have hj : j < xs.length := by have := (List.getElem?_eq_some_iff.1 hu).1; rwa [natVals_length] at this
  have h2 := natVals_at (List.getElem?_eq_getElem hj)
  rw [h2] at hu
  injection hu with hu
  rw [← hu]
  exact hc j _ (List.getElem?_eq_getElem hj)
theorem evs_flip {inp : List Bool} {gs : List Gm.Gate} {xs : List Nat} {m x : Nat} (hl : xs.length = m + 1) (hx : xs[m]? = some x) : evs inp gs (xs.set m (Gm.notL x)) = Wp.flipB (evs inp gs xs) := by
  rw [evs_set, Gm.ev_not]
  unfold Wp.flipB Wp.topB
  rw [evs_length, hl]
  have : (evs inp gs xs)[m]? = some (Gm.ev inp gs x) := by unfold evs; simp [hx]
  simp [List.getD, this]
theorem natVals_ones {l : List Nat} : ∀ u ∈ natVals l, u.oneCell' = true := ints_one fun u hu => by
  unfold natVals litVals at hu
  simp only [List.map_map, List.mem_map] at hu
  obtain ⟨x, _, rfl⟩ := hu
  exact ⟨_, rfl⟩
theorem below_row {w w1 : World} (h : w.grownBy w1 none) : Below w.heap.size w w1 :=
  ⟨h.os, h.tape, h.output, h.size, fun k hk => h.block k hk (by simp)⟩
attribute [local irreducible] wpSeq wpStill
set_option maxRecDepth 100000 in
set_option maxHeartbeats 2000000 in
theorem less_any {w : World} {B b : Nat} {gs : List Gm.Gate} (h : GA w B b gs) {A A2 : Option Addr} {c1 c2 m : Nat} {xs ys : List Nat} (hx : Held w B A (m + 1) xs) (hy : Held w B A2 (m + 1) ys) (gx : AllHas gs xs) (gy : AllHas gs ys)
    (hn : gs.length + 9 * (m + 1) ≤ 99000) (hl : m + 1 ≤ 1000) :
    Calls Tryd.prog 88 #[.agg #[.pointer (some ⟨b, 0, none⟩)], .slice A (m + 1) c1, .slice A2 (m + 1) c2] w (LG w B b gs (9 * (m + 1)) (fun inp => Wp.lessB (evs inp gs xs) (evs inp gs ys))) := by
  obtain ⟨i0, hi0, hz0, hz1, hz2⟩ := info_parts infoLit_
  have HIN := Lib.hid (show _ ∧ _ ∧ _ ∧ _ from ⟨hi0, hz0, hz1, hz2⟩)
  obtain ⟨x, hxm⟩ : ∃ x, xs[m]? = some x := ⟨_, List.getElem?_eq_getElem (by have := hx.1; omega)⟩
  obtain ⟨y, hym⟩ : ∃ y, ys[m]? = some y := ⟨_, List.getElem?_eq_getElem (by have := hy.1; omega)⟩
  have HXM := Lib.hid hxm
  have HYM := Lib.hid hym
  have HG := Lib.hid h
  have HX := Lib.hid hx
  have HY := Lib.hid hy
  have GX := Lib.hid gx
  have GY := Lib.hid gy
  have HN := Lib.hid hn
  obtain ⟨W1, hW1⟩ : ∃ W1, W1 = w.alloc (.cells #[.pointer (some ⟨b, 0, none⟩)] 106) := ⟨_, rfl⟩
  have hb1 : Below w.heap.size w W1 := by rw [hW1]; exact (Below.refl _ _).alloc (Nat.le_refl _) _
  have HBX1 := Lib.hid (show Blk W1 w.heap.size 106 #[.pointer (some ⟨b, 0, none⟩)] by rw [hW1]; exact Blk.new w _ _)
  have HR1 := Lib.hid ((hx.new hb1).reads)
  have HB1 := Lib.hid hb1
  have HW1 := Lib.hid hW1
  clear h hx hy gx gy hn hxm hym hi0 hz0 hz1 hz2 hW1 hb1
  go_enter Tryd.func88, Tryd.ntmps88
  go_wp2_with (first | (at_builtin; rw [← HW1.out]; refine wpList_append_sl _ rfl (.const (.slice none 0 0)) (.tmp 15) _ rfl W1.heap.size 29 i0 _ 1 8 Tryd.underlying28 HIN.out.1 HIN.out.2.1 HIN.out.2.2.1 HIN.out.2.2.2 rfl (by omega) _ 0 [] rfl (World.ownsRow_nil _ _ _ _) W1.heap.size A (m + 1) c1 (natVals xs) rfl HR1.out natVals_ones (le_maxLen (by omega)) (le_bytes (by omega) (by omega)) (Nat.le_refl _) ?_; rw [Nat.zero_add, List.nil_append]; intro A3 c3 w3 hown3 hg3; have hb3 : Below W1.heap.size W1 w3 := below_row hg3; have HR3 := Lib.hid (((HY.out.new HB1.out).new (hb3)).reads); have HB3 := Lib.hid hb3; have HO3 := Lib.hid hown3; have HBX3 := Lib.hid (HBX1.out.below hb3 HBX1.out.lt); clear hown3 hg3 hb3) | (at_builtin; refine wpList_append_sl _ rfl (.const (.slice none 0 0)) (.tmp 17) _ rfl w3.heap.size 29 i0 _ 1 8 Tryd.underlying28 HIN.out.1 HIN.out.2.1 HIN.out.2.2.1 HIN.out.2.2.2 rfl (by omega) _ 0 [] rfl (World.ownsRow_nil _ _ _ _) w3.heap.size A2 (m + 1) c2 (natVals ys) rfl HR3.out natVals_ones (le_maxLen (by omega)) (le_bytes (by omega) (by omega)) (Nat.le_refl _) ?_; rw [Nat.zero_add, List.nil_append]; intro A4 c4 w4 hown4 hg4; have HO4 := Lib.hid hown4; have HGR4 := Lib.hid hg4; clear hown4 hg4))
  have hown4 := HO4.out
  have hb4 : Below w3.heap.size w3 w4 := below_row HGR4.out
  have ho3 : w4.ownsRow W1.heap.size 29 1 (.slice A3 (m + 1) c3) (m + 1) (natVals xs) := own_chg (S := fun _ _ => False) HO3.out (Chg.of_new hb4) (fun _ _ _ _ hs => hs)
  obtain ⟨gx, hA3, hgx1, hgx2⟩ := own_some ho3 (by omega)
  obtain ⟨gy, hA4, hgy1, hgy2⟩ := own_some hown4 (by omega)
  subst hA3
  subst hA4
  have HNE := Lib.hid (show gx ≠ gy from fun e => by
    have := (HO3.out.lt gx (by simp [Value.ownBlock])).2
    omega)
  obtain ⟨W5, hW5⟩ : ∃ W5, W5 = w4.drew := ⟨_, rfl⟩
  have ox5 : W5.ownsRow W1.heap.size 29 1 (.slice (some ⟨gx, 0, none⟩) (m + 1) c3) (m + 1) (natVals xs) := by rw [hW5]; exact ho3
  have oy5 : W5.ownsRow w3.heap.size 29 1 (.slice (some ⟨gy, 0, none⟩) (m + 1) c4) (m + 1) (natVals ys) := by rw [hW5]; exact hown4
  have hb5 : Below w.heap.size w W5 := (HB1.out.trans (HB3.out.mono HB1.out.size)).trans ((show Below w3.heap.size w3 W5 by rw [hW5]; exact below_drewN hb4 1).mono (Nat.le_trans HB1.out.size HB3.out.size))
  have HBX5 := Lib.hid (show Blk W5 w.heap.size 106 #[.pointer (some ⟨b, 0, none⟩)] by rw [hW5]; exact (HBX3.out.below hb4 HBX3.out.lt).drew)
  obtain ⟨u, hu, cx⟩ := own_cell (k := m) ox5 (by omega)
  obtain rfl : Value.int .i64 (x : Nat) = u := by rw [natVals_at HXM.out] at hu; injection hu
  obtain ⟨u, hu2, cy⟩ := own_cell (k := m) oy5 (by omega)
  obtain rfl : Value.int .i64 (y : Nat) = u := by rw [natVals_at HYM.out] at hu2; injection hu2
  have fx := own_unfrozen (k := m) ox5
  have fy := own_unfrozen (k := m) oy5
  have cx4 : w4.cell? ⟨gx, m, none⟩ = some (.int .i64 (x : Nat)) := by rw [hW5] at cx; exact cx
  have cy4 : w4.cell? ⟨gy, m, none⟩ = some (.int .i64 (y : Nat)) := by rw [hW5] at cy; exact cy
  have hxs : x ≤ 1000000 := allHas_small GX.out (by have := HN.out; omega) x (List.mem_of_getElem? HXM.out)
  have hys : y ≤ 1000000 := allHas_small GY.out (by have := HN.out; omega) y (List.mem_of_getElem? HYM.out)
  have cx' : Calls Tryd.prog 12 #[.int .i64 x] W5 (fun e w'' => e = .returned (.int .i64 (Gm.notL x : Nat)) ∧ w'' = W5) := (not_any x W5 hxs).mono fun e w'' h => ⟨h.1, h.2.symm⟩
  have CX := Lib.hid cx'
  have cy' : Calls Tryd.prog 12 #[.int .i64 y] W5 (fun e w'' => e = .returned (.int .i64 (Gm.notL y : Nat)) ∧ w'' = W5) := (not_any y W5 hys).mono fun e w'' h => ⟨h.1, h.2.symm⟩
  have CY := Lib.hid cy'
  have HW5 := Lib.hid hW5
  have OX5 := Lib.hid ox5
  have OY5 := Lib.hid oy5
  have HB5 := Lib.hid hb5
  have HCX := Lib.hid (And.intro cx (And.intro cy (And.intro fx fy)))
  clear cx' cy' hu hu2 hW5 ox5 oy5 hb5 hown4 hb4 ho3 cx cy fx fy
  go_wp2_with fail
  have ox4 : w4.ownsRow W1.heap.size 29 1 (.slice (some ⟨gx, 0, none⟩) (m + 1) c3) (m + 1) (natVals xs) := by have h := OX5.out; rw [HW5.out] at h; exact h
  have oy4 : w4.ownsRow w3.heap.size 29 1 (.slice (some ⟨gy, 0, none⟩) (m + 1) c4) (m + 1) (natVals ys) := HO4.out
  have ox6 : (w4.setCell ⟨gx, m, none⟩ (.int .i64 (Gm.notL x : Nat))).ownsRow W1.heap.size 29 1 (.slice (some ⟨gx, 0, none⟩) (m + 1) c3) (m + 1) (natVals (xs.set m (Gm.notL x))) := by
    rw [natVals_set]; exact own_set ox4 _
  have oy6 : (w4.setCell ⟨gx, m, none⟩ (.int .i64 (Gm.notL x : Nat))).ownsRow w3.heap.size 29 1 (.slice (some ⟨gy, 0, none⟩) (m + 1) c4) (m + 1) (natVals ys) := own_far oy4 _ (by simpa [Value.ownBlock] using HNE.out.symm)
  obtain ⟨u, hu2, cy6⟩ := own_cell (k := m) oy6 (by omega)
  obtain rfl : Value.int .i64 (y : Nat) = u := by rw [natVals_at HYM.out] at hu2; injection hu2
  have fy6 := own_unfrozen (k := m) oy6
  have ox7 : ((w4.setCell ⟨gx, m, none⟩ (.int .i64 (Gm.notL x : Nat))).setCell ⟨gy, m, none⟩ (.int .i64 (Gm.notL y : Nat))).ownsRow W1.heap.size 29 1 (.slice (some ⟨gx, 0, none⟩) (m + 1) c3) (m + 1) (natVals (xs.set m (Gm.notL x))) := own_far ox6 _ (by simpa [Value.ownBlock] using HNE.out)
  have oy7 : ((w4.setCell ⟨gx, m, none⟩ (.int .i64 (Gm.notL x : Nat))).setCell ⟨gy, m, none⟩ (.int .i64 (Gm.notL y : Nat))).ownsRow w3.heap.size 29 1 (.slice (some ⟨gy, 0, none⟩) (m + 1) c4) (m + 1) (natVals (ys.set m (Gm.notL y))) := by
    rw [natVals_set]; exact own_set oy6 _
  obtain ⟨W7, hW7⟩ : ∃ W7, W7 = ((w4.setCell ⟨gx, m, none⟩ (.int .i64 (Gm.notL x : Nat))).setCell ⟨gy, m, none⟩ (.int .i64 (Gm.notL y : Nat))).drew := ⟨_, rfl⟩
  have hb4 : Below w.heap.size w w4 := (HB1.out.trans (HB3.out.mono HB1.out.size)).trans ((below_row HGR4.out).mono (Nat.le_trans HB1.out.size HB3.out.size))
  have hb7 : Below w.heap.size w W7 := by
    rw [hW7]
    exact below_drewN ((hb4.setCell (by show w.heap.size ≤ gx; have := HB1.out.size; omega) _).setCell (by show w.heap.size ≤ gy; have := HB1.out.size; have := HB3.out.size; omega) _) 1
  have bx4 : Blk w4 w.heap.size 106 #[.pointer (some ⟨b, 0, none⟩)] := HBX3.out.below (below_row HGR4.out) HBX3.out.lt
  have bx7 : Blk W7 w.heap.size 106 #[.pointer (some ⟨b, 0, none⟩)] := by
    rw [hW7]
    exact ((bx4.far (p := ⟨gx, m, none⟩) (by show w.heap.size ≠ gx; have := HBX1.out.lt; omega) _).far (p := ⟨gy, m, none⟩) (by show w.heap.size ≠ gy; have := HB3.out.size; have := HBX1.out.lt; omega) _).drew
  have ox7' : W7.ownsRow W1.heap.size 29 1 (.slice (some ⟨gx, 0, none⟩) (m + 1) c3) (m + 1) (natVals (xs.set m (Gm.notL x))) := by rw [hW7]; exact ox7
  have oy7' : W7.ownsRow w3.heap.size 29 1 (.slice (some ⟨gy, 0, none⟩) (m + 1) c4) (m + 1) (natVals (ys.set m (Gm.notL y))) := by rw [hW7]; exact oy7
  have CM := Lib.hid (minus_any (c := c3) (c2 := c4) (HG.out.new hb7) (Held.of_own (B := B) ox7') (Held.of_own (B := B) oy7') (fun z hz => by
    rcases List.mem_or_eq_of_mem_set hz with hz | rfl
    · exact GX.out z hz
    · exact Gm.has_not (GX.out x (List.mem_of_getElem? HXM.out))) (fun z hz => by
    rcases List.mem_or_eq_of_mem_set hz with hz | rfl
    · exact GY.out z hz
    · exact Gm.has_not (GY.out y (List.mem_of_getElem? HYM.out))) HN.out hl)
  have HW7 := Lib.hid hW7
  have HB7 := Lib.hid hb7
  have CB7 := Lib.hid (bx7.cell 0)
  obtain ⟨_, _, fx, fy⟩ := HCX.out
  rw [HW5.out] at fx fy
  have hm1 : (m : Int) < (m : Int) + 1 := by omega
  clear ox4 oy4 ox6 oy6 ox7 oy7 ox7' oy7' hu2 hW7 hb7 bx4 bx7 hb4
  go_region_with (go_at_call 12; first | (refine (not_any x _ hxs).mono ?_; rintro e w' ⟨rfl, rfl⟩) | (refine (not_any y _ hys).mono ?_; rintro e w' ⟨rfl, rfl⟩))
  all_goals
    rw [← HW7.out]
    have cb7 := CB7.out
    clear fx fy cy6 fy6 cx4 cy4 hm1
    go_wp2_with fail
    refine CM.out.mono ?_
    rintro e w8 ⟨A8, c8, gs', outs, last, rfl, h1, h2, h3, h4, h5⟩
    have HG8 := Lib.hid h1
    have HC8 := Lib.hid h2
    have HM8 := Lib.hid h5
    have HLS := Lib.hid (show last ≤ 1000000 by have := h5.has; have := h5.len; have := HN.out; unfold Gm.has at *; omega)
    clear h1 h2 h3 h4 h5 cb7
    go_wp2_with fail
    refine (not_any last _ HLS.out).mono ?_
    rintro e w9 ⟨rfl, rfl⟩
    go_wp2
    go_ret
    refine ⟨gs', Gm.notL last, rfl, HG8.out, (Chg.of_new HB7.out).trans HC8.out, HM8.out.ext, Gm.has_not HM8.out.has, HM8.out.len, fun inp => ?_⟩
    rw [Gm.ev_not, HM8.out.eq, evs_flip HX.out.1 HXM.out, evs_flip HY.out.1 HYM.out]
    rfl
end Go.Proofs.YtmbjhpgemphmmaaDoor
