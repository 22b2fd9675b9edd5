/-
  THE WALKS of package word: ints, an operator each.
-/
import Derived.Test.YtmbjhpgemphmmaaDoorYk
namespace Go.Proofs.YtmbjhpgemphmmaaDoor
open Go.RowKit
theorem one_any (x : Nat) (w : World) : Calls Tryd.prog 84 #[.int .i64 (x : Nat)] w (fun e w' => e = .returned (.slice (some ⟨w.heap.size, 0, none⟩) 1 1) ∧ w' = w.alloc (.cells #[.int .i64 (x : Nat)] 29)) := by
  go_enter Tryd.func84, Tryd.ntmps84
  go_wp2
  go_ret
  exact ⟨rfl, rfl⟩
theorem own_one (w : World) (x : Nat) : (w.alloc (.cells #[.int .i64 (x : Nat)] 29)).ownsRow w.heap.size 29 1 (.slice (some ⟨w.heap.size, 0, none⟩) 1 1) 1 (natVals [x]) :=
  own_full (xs := natVals [x]) (Nat.le_refl _) rfl (by omega)
theorem madeL_zero {gs gs' : List Gm.Gate} {k : Nat} (he : Gm.Ext gs gs') (hl : gs'.length ≤ gs.length + k) : MadeL gs gs' k 0 (fun _ => false) := ⟨he, has_zero gs', hl, fun inp => Gm.ev_zero inp gs'⟩
theorem GA.alloc1 {w : World} {B b : Nat} {gs : List Gm.Gate} (h : GA w B b gs) (o : Obj) : GA (w.alloc o) B b gs := h.new ((Below.refl _ _).alloc (Nat.le_refl _) _)
attribute [local irreducible] wpSeq wpStill
set_option maxRecDepth 100000 in
set_option maxHeartbeats 2000000 in
theorem ints_plus {w : World} {B b : Nat} {gs : List Gm.Gate} (h : GA w B b gs) {A A2 : Option Addr} {c1 c2 m : Nat} {xs ys : List Nat} (hx : Held w B A (m + 1) xs) (hy : Held w B A2 (m + 1) ys) (gx : AllHas gs xs) (gy : AllHas gs ys)
    (hn : gs.length + (sgK (m + 1) + 10 * (m + 1) * (m + 1)) ≤ 88000) (hl : m + 1 ≤ 80) :
    Calls Tryd.prog 48 #[.agg #[.pointer (some ⟨b, 0, none⟩)], .string ⟨#[43]⟩, .slice A (m + 1) c1, .slice A2 (m + 1) c2] w
      (WL w B b gs (sgK (m + 1) + 10 * (m + 1) * (m + 1)) (m + 1) (fun inp => Wp.sums (evs inp gs xs) (evs inp gs ys) false) (fun _ => false)) := by
  have HK : Hid (gs.length + (36 * (m + 1) + 12 * (m + 1 + 1) * (m + 1) + 3 + 10 * (m + 1) * (m + 1)) ≤ 88000) := Lib.hid hn
  obtain ⟨W2, hW2⟩ : ∃ W2, W2 = (w.alloc (.cells #[.pointer (some ⟨b, 0, none⟩)] 106)) := ⟨_, rfl⟩
  have hb2 : Below w.heap.size w W2 := by rw [hW2]; exact (Below.refl _ _).alloc (Nat.le_refl _) _
  have HC2 := Lib.hid (Chg.of_new (S := GT B) hb2)
  have C1 := Lib.hid (sum_wl (c1 := c1) (c2 := c2) (c := 0) (h.new hb2) (hx.gt HC2.out) (hy.gt HC2.out) gx gy (has_zero gs) (by omega) (by omega))
  have HW2 := Lib.hid hW2
  clear h hx hy gx gy hn hW2 hb2
  go_enter Tryd.func48, Tryd.ntmps48
  go_wp2_with fail
  rw [← HW2.out]
  refine C1.out.mono ?_
  rintro e w3 ⟨A3, c3, gs3, l3, last, rfl, h1, h2, h3, h4, h5⟩
  have HG3 := Lib.hid h1
  have HC3 := Lib.hid (HC2.out.trans h2)
  have HO3 := Lib.hid h3
  have HM3 := Lib.hid h4
  clear h1 h2 h3 h4 h5
  go_wp2
  go_ret2
  exact ⟨A3, c3, gs3, l3, 0, rfl, HG3.out, HC3.out, own_base HO3.out HC2.out.size, HM3.out.to (by unfold sgK; omega) fun inp => by rw [Gm.ev_zero], madeL_zero HM3.out.ext (by have := HM3.out.len; unfold sgK; omega)⟩
set_option maxRecDepth 100000 in
set_option maxHeartbeats 2000000 in
theorem ints_minus {w : World} {B b : Nat} {gs : List Gm.Gate} (h : GA w B b gs) {A A2 : Option Addr} {c1 c2 m : Nat} {xs ys : List Nat} (hx : Held w B A (m + 1) xs) (hy : Held w B A2 (m + 1) ys) (gx : AllHas gs xs) (gy : AllHas gs ys)
    (hn : gs.length + (sgK (m + 1) + 10 * (m + 1) * (m + 1)) ≤ 88000) (hl : m + 1 ≤ 80) :
    Calls Tryd.prog 48 #[.agg #[.pointer (some ⟨b, 0, none⟩)], .string ⟨#[45]⟩, .slice A (m + 1) c1, .slice A2 (m + 1) c2] w
      (WL w B b gs (sgK (m + 1) + 10 * (m + 1) * (m + 1)) (m + 1) (fun inp => Wp.minusB (evs inp gs xs) (evs inp gs ys)) (fun _ => false)) := by
  have HK : Hid (gs.length + (36 * (m + 1) + 12 * (m + 1 + 1) * (m + 1) + 3 + 10 * (m + 1) * (m + 1)) ≤ 88000) := Lib.hid hn
  obtain ⟨W2, hW2⟩ : ∃ W2, W2 = (w.alloc (.cells #[.pointer (some ⟨b, 0, none⟩)] 106)) := ⟨_, rfl⟩
  have hb2 : Below w.heap.size w W2 := by rw [hW2]; exact (Below.refl _ _).alloc (Nat.le_refl _) _
  have HC2 := Lib.hid (Chg.of_new (S := GT B) hb2)
  have C1 := Lib.hid (minus_any (c := c1) (c2 := c2) (h.new hb2) (hx.gt HC2.out) (hy.gt HC2.out) gx gy (by omega) (by omega))
  have HW2 := Lib.hid hW2
  clear h hx hy gx gy hn hW2 hb2
  go_enter Tryd.func48, Tryd.ntmps48
  go_wp2_with fail
  rw [← HW2.out]
  refine C1.out.mono ?_
  rintro e w3 ⟨A3, c3, gs3, l3, last, rfl, h1, h2, h3, h4, h5⟩
  have HG3 := Lib.hid h1
  have HC3 := Lib.hid (HC2.out.trans h2)
  have HO3 := Lib.hid h3
  have HM3 := Lib.hid h4
  clear h1 h2 h3 h4 h5
  go_wp2
  go_ret2
  exact ⟨A3, c3, gs3, l3, 0, rfl, HG3.out, HC3.out, own_base HO3.out HC2.out.size, HM3.out.to (by unfold sgK; omega) fun inp => rfl, madeL_zero HM3.out.ext (by have := HM3.out.len; unfold sgK; omega)⟩
set_option maxRecDepth 100000 in
set_option maxHeartbeats 2000000 in
theorem ints_times {w : World} {B b : Nat} {gs : List Gm.Gate} (h : GA w B b gs) {A A2 : Option Addr} {c1 c2 m : Nat} {xs ys : List Nat} (hx : Held w B A (m + 1) xs) (hy : Held w B A2 (m + 1) ys) (gx : AllHas gs xs) (gy : AllHas gs ys)
    (hn : gs.length + (sgK (m + 1) + 10 * (m + 1) * (m + 1)) ≤ 88000) (hl : m + 1 ≤ 80) :
    Calls Tryd.prog 48 #[.agg #[.pointer (some ⟨b, 0, none⟩)], .string ⟨#[42]⟩, .slice A (m + 1) c1, .slice A2 (m + 1) c2] w
      (WL w B b gs (sgK (m + 1) + 10 * (m + 1) * (m + 1)) (m + 1) (fun inp => Wp.timesB (evs inp gs xs) (evs inp gs ys)) (fun _ => false)) := by
  have HK : Hid (gs.length + (36 * (m + 1) + 12 * (m + 1 + 1) * (m + 1) + 3 + 10 * (m + 1) * (m + 1)) ≤ 88000) := Lib.hid hn
  obtain ⟨W2, hW2⟩ : ∃ W2, W2 = (w.alloc (.cells #[.pointer (some ⟨b, 0, none⟩)] 106)) := ⟨_, rfl⟩
  have hb2 : Below w.heap.size w W2 := by rw [hW2]; exact (Below.refl _ _).alloc (Nat.le_refl _) _
  have HC2 := Lib.hid (Chg.of_new (S := GT B) hb2)
  have C1 := Lib.hid (times_any (c1 := c1) (c2 := c2) (h.new hb2) (hx.gt HC2.out) (hy.gt HC2.out) gx gy (by omega) (by omega))
  have HW2 := Lib.hid hW2
  clear h hx hy gx gy hn hW2 hb2
  go_enter Tryd.func48, Tryd.ntmps48
  go_wp2_with fail
  rw [← HW2.out]
  refine C1.out.mono ?_
  rintro e w3 ⟨A3, c3, gs3, l3, rfl, h1, h2, h3, h4⟩
  have HG3 := Lib.hid h1
  have HC3 := Lib.hid (HC2.out.trans h2)
  have HO3 := Lib.hid h3
  have HM3 := Lib.hid h4
  clear h1 h2 h3 h4
  go_wp2
  go_ret2
  exact ⟨A3, c3, gs3, l3, 0, rfl, HG3.out, HC3.out, own_base HO3.out HC2.out.size, HM3.out.to (by omega) fun inp => rfl, madeL_zero HM3.out.ext (by have := HM3.out.len; omega)⟩
set_option maxRecDepth 100000 in
set_option maxHeartbeats 2000000 in
theorem ints_quo {w : World} {B b : Nat} {gs : List Gm.Gate} (h : GA w B b gs) {A A2 : Option Addr} {c1 c2 m : Nat} {xs ys : List Nat} (hx : Held w B A (m + 1) xs) (hy : Held w B A2 (m + 1) ys) (gx : AllHas gs xs) (gy : AllHas gs ys)
    (hn : gs.length + (sgK (m + 1) + 10 * (m + 1) * (m + 1)) ≤ 88000) (hl : m + 1 ≤ 80) :
    Calls Tryd.prog 48 #[.agg #[.pointer (some ⟨b, 0, none⟩)], .string ⟨#[47]⟩, .slice A (m + 1) c1, .slice A2 (m + 1) c2] w
      (WL w B b gs (sgK (m + 1) + 4 * (m + 1)) (m + 1) (fun inp => Wp.sQuo (evs inp gs xs) (evs inp gs ys)) (fun inp => Wp.sameB (evs inp gs ys) (List.replicate (m + 1) false))) := by
  have HK : Hid (gs.length + (36 * (m + 1) + 12 * (m + 1 + 1) * (m + 1) + 3 + 10 * (m + 1) * (m + 1)) ≤ 88000) := Lib.hid hn
  obtain ⟨W2, hW2⟩ : ∃ W2, W2 = (w.alloc (.cells #[.pointer (some ⟨b, 0, none⟩)] 106)).drew := ⟨_, rfl⟩
  have hb2 : Below w.heap.size w W2 := by rw [hW2]; exact below_drewN ((Below.refl _ _).alloc (Nat.le_refl _) _) 1
  have HC2 := Lib.hid (Chg.of_new (S := GT B) hb2)
  have bx2 : Blk W2 w.heap.size 106 #[.pointer (some ⟨b, 0, none⟩)] := by rw [hW2]; exact Blk.new w _ _
  have C1 := Lib.hid (signed_any (c1 := c1) (c2 := c2) (h.new hb2) (hx.gt HC2.out) (hy.gt HC2.out) gx gy (by omega) hl false)
  have HBX2 := Lib.hid bx2
  have HS2 := Lib.hid (bx2.cell 0)
  have HY := Lib.hid hy
  have GY := Lib.hid gy
  have HW2 := Lib.hid hW2
  clear bx2
  clear h hx hy gx gy hn hW2 hb2
  go_enter Tryd.func48, Tryd.ntmps48
  go_wp2_with fail
  refine wp_region_seq (S := fun w' => w'.cell? ⟨w.heap.size, 0, none⟩ = some (.pointer (some ⟨b, 0, none⟩))) [(0, false), (1, false), (2, false), (3, false), (4, false), (6, false), (7, false), (8, false), (9, false), (5, true), (10, true), (11, true), (12, false), (13, false)] (by kernel_rfl) (by kernel_rfl) (by kernel_rfl) (by rw [← HW2.out]; exact HS2.out) ?_
  rw [← HW2.out]
  iterate 9 (refine seq_take _ _ rfl (by kernel_rfl) (fun wv hv => by have hv1 := hv; clear hv; go_simp; try with_reducible rfl) ?_; simp only [Act.put, List.getElem_toArray, List.getElem_cons_zero, List.getElem_cons_succ, List.setIfInBounds_toArray, List.set_cons_zero, List.set_cons_succ])
  refine seq_act _ rfl (fun K hK => ?_)
  go_simp
  refine C1.out.mono ?_
  rintro e w3 ⟨A3, c3, gs3, l3, rfl, h1, h2, h3, h4⟩
  have HC3 := Lib.hid (HC2.out.trans h2)
  have HBX3 := Lib.hid (box_gt HBX2.out h2)
  have HO3 := Lib.hid h3
  have HM3 := Lib.hid h4
  have HG3 := Lib.hid h1
  clear h1 h2 h3 h4
  go_simp
  refine hK _ _ (HBX3.out.cell 0) ?_
  clear hK K
  refine seq_act _ rfl (fun K hK => ?_)
  go_simp
  refine (zero_any1 m (by omega) _).mono ?_
  rintro e w4 ⟨A4, c4, rfl, ho, hb⟩
  have HC4 := Lib.hid (HC3.out.trans (Chg.of_new (S := GT B) hb))
  have HBX4 := Lib.hid (HBX3.out.below hb HBX3.out.lt)
  have HO4 := Lib.hid (own_chg (S := fun _ _ => False) HO3.out (Chg.of_new hb) (fun _ _ _ _ hs => hs))
  have C3 := Lib.hid (same_any (c1 := c2) (c2 := c4) (HG3.out.new hb) (HY.out.gt HC4.out) (Held.of_own (B := B) ho) (GY.out.ext HM3.out.ext) (allHas_zeros gs3 _) (by have h1 := HM3.out.len; have h2 := HK.out; unfold sgK at h1; omega) (by omega))
  clear ho hb
  go_simp
  refine hK _ _ (HBX4.out.cell 0) ?_
  clear hK K
  refine seq_act _ rfl (fun K hK => ?_)
  go_simp
  refine C3.out.mono ?_
  rintro e w5 ⟨gs5, o5, rfl, h1, h2, h3⟩
  have HG5 := Lib.hid h1
  have HC5 := Lib.hid (HC4.out.trans h2)
  have HBX5 := Lib.hid (box_gt HBX4.out h2)
  have HO5 := Lib.hid (own_gt HO4.out h2)
  have HM5 := Lib.hid h3
  clear h1 h2 h3
  go_simp
  refine hK _ _ (HBX5.out.cell 0) ?_
  clear hK K
  iterate 2 (refine seq_take _ _ rfl (by kernel_rfl) (fun wv hv => by go_simp; try with_reducible rfl) ?_; simp only [Act.put, List.getElem_toArray, List.getElem_cons_zero, List.getElem_cons_succ, List.setIfInBounds_toArray, List.set_cons_zero, List.set_cons_succ])
  refine seq_nil ?_
  go_wp2
  go_ret2
  refine ⟨A3, c3, gs5, l3, o5, rfl, HG5.out, HC5.out, own_base HO5.out HC2.out.size, HM3.out.step HM5.out.ext HM5.out.len, HM3.out.ext.trans HM5.out.ext, HM5.out.has, by have := HM3.out.len; have := HM5.out.len; omega, fun inp => ?_⟩
  rw [HM5.out.eq, evs_ext GY.out HM3.out.ext, evs_zeros]
set_option maxRecDepth 100000 in
set_option maxHeartbeats 2000000 in
theorem ints_rest {w : World} {B b : Nat} {gs : List Gm.Gate} (h : GA w B b gs) {A A2 : Option Addr} {c1 c2 m : Nat} {xs ys : List Nat} (hx : Held w B A (m + 1) xs) (hy : Held w B A2 (m + 1) ys) (gx : AllHas gs xs) (gy : AllHas gs ys)
    (hn : gs.length + (sgK (m + 1) + 10 * (m + 1) * (m + 1)) ≤ 88000) (hl : m + 1 ≤ 80) :
    Calls Tryd.prog 48 #[.agg #[.pointer (some ⟨b, 0, none⟩)], .string ⟨#[109, 111, 100]⟩, .slice A (m + 1) c1, .slice A2 (m + 1) c2] w
      (WL w B b gs (sgK (m + 1) + 4 * (m + 1)) (m + 1) (fun inp => Wp.sRem (evs inp gs xs) (evs inp gs ys)) (fun inp => Wp.sameB (evs inp gs ys) (List.replicate (m + 1) false))) := by
  have HK : Hid (gs.length + (36 * (m + 1) + 12 * (m + 1 + 1) * (m + 1) + 3 + 10 * (m + 1) * (m + 1)) ≤ 88000) := Lib.hid hn
  obtain ⟨W2, hW2⟩ : ∃ W2, W2 = (w.alloc (.cells #[.pointer (some ⟨b, 0, none⟩)] 106)).drew := ⟨_, rfl⟩
  have hb2 : Below w.heap.size w W2 := by rw [hW2]; exact below_drewN ((Below.refl _ _).alloc (Nat.le_refl _) _) 1
  have HC2 := Lib.hid (Chg.of_new (S := GT B) hb2)
  have bx2 : Blk W2 w.heap.size 106 #[.pointer (some ⟨b, 0, none⟩)] := by rw [hW2]; exact Blk.new w _ _
  have C1 := Lib.hid (signed_any (c1 := c1) (c2 := c2) (h.new hb2) (hx.gt HC2.out) (hy.gt HC2.out) gx gy (by omega) hl true)
  have HBX2 := Lib.hid bx2
  have HS2 := Lib.hid (bx2.cell 0)
  have HY := Lib.hid hy
  have GY := Lib.hid gy
  have HW2 := Lib.hid hW2
  clear bx2
  clear h hx hy gx gy hn hW2 hb2
  go_enter Tryd.func48, Tryd.ntmps48
  go_wp2_with fail
  refine wp_region_seq (S := fun w' => w'.cell? ⟨w.heap.size, 0, none⟩ = some (.pointer (some ⟨b, 0, none⟩))) [(0, false), (1, false), (2, false), (3, false), (4, false), (6, false), (7, false), (8, false), (9, false), (5, true), (10, true), (11, true), (12, false), (13, false)] (by kernel_rfl) (by kernel_rfl) (by kernel_rfl) (by rw [← HW2.out]; exact HS2.out) ?_
  rw [← HW2.out]
  iterate 9 (refine seq_take _ _ rfl (by kernel_rfl) (fun wv hv => by have hv1 := hv; clear hv; go_simp; try with_reducible rfl) ?_; simp only [Act.put, List.getElem_toArray, List.getElem_cons_zero, List.getElem_cons_succ, List.setIfInBounds_toArray, List.set_cons_zero, List.set_cons_succ])
  refine seq_act _ rfl (fun K hK => ?_)
  go_simp
  refine C1.out.mono ?_
  rintro e w3 ⟨A3, c3, gs3, l3, rfl, h1, h2, h3, h4⟩
  have HC3 := Lib.hid (HC2.out.trans h2)
  have HBX3 := Lib.hid (box_gt HBX2.out h2)
  have HO3 := Lib.hid h3
  have HM3 := Lib.hid h4
  have HG3 := Lib.hid h1
  clear h1 h2 h3 h4
  go_simp
  refine hK _ _ (HBX3.out.cell 0) ?_
  clear hK K
  refine seq_act _ rfl (fun K hK => ?_)
  go_simp
  refine (zero_any1 m (by omega) _).mono ?_
  rintro e w4 ⟨A4, c4, rfl, ho, hb⟩
  have HC4 := Lib.hid (HC3.out.trans (Chg.of_new (S := GT B) hb))
  have HBX4 := Lib.hid (HBX3.out.below hb HBX3.out.lt)
  have HO4 := Lib.hid (own_chg (S := fun _ _ => False) HO3.out (Chg.of_new hb) (fun _ _ _ _ hs => hs))
  have C3 := Lib.hid (same_any (c1 := c2) (c2 := c4) (HG3.out.new hb) (HY.out.gt HC4.out) (Held.of_own (B := B) ho) (GY.out.ext HM3.out.ext) (allHas_zeros gs3 _) (by have h1 := HM3.out.len; have h2 := HK.out; unfold sgK at h1; omega) (by omega))
  clear ho hb
  go_simp
  refine hK _ _ (HBX4.out.cell 0) ?_
  clear hK K
  refine seq_act _ rfl (fun K hK => ?_)
  go_simp
  refine C3.out.mono ?_
  rintro e w5 ⟨gs5, o5, rfl, h1, h2, h3⟩
  have HG5 := Lib.hid h1
  have HC5 := Lib.hid (HC4.out.trans h2)
  have HBX5 := Lib.hid (box_gt HBX4.out h2)
  have HO5 := Lib.hid (own_gt HO4.out h2)
  have HM5 := Lib.hid h3
  clear h1 h2 h3
  go_simp
  refine hK _ _ (HBX5.out.cell 0) ?_
  clear hK K
  iterate 2 (refine seq_take _ _ rfl (by kernel_rfl) (fun wv hv => by go_simp; try with_reducible rfl) ?_; simp only [Act.put, List.getElem_toArray, List.getElem_cons_zero, List.getElem_cons_succ, List.setIfInBounds_toArray, List.set_cons_zero, List.set_cons_succ])
  refine seq_nil ?_
  go_wp2
  go_ret2
  refine ⟨A3, c3, gs5, l3, o5, rfl, HG5.out, HC5.out, own_base HO5.out HC2.out.size, HM3.out.step HM5.out.ext HM5.out.len, HM3.out.ext.trans HM5.out.ext, HM5.out.has, by have := HM3.out.len; have := HM5.out.len; omega, fun inp => ?_⟩
  rw [HM5.out.eq, evs_ext GY.out HM3.out.ext, evs_zeros]
set_option maxRecDepth 100000 in
set_option maxHeartbeats 2000000 in
theorem ints_lss {w : World} {B b : Nat} {gs : List Gm.Gate} (h : GA w B b gs) {A A2 : Option Addr} {c1 c2 m : Nat} {xs ys : List Nat} (hx : Held w B A (m + 1) xs) (hy : Held w B A2 (m + 1) ys) (gx : AllHas gs xs) (gy : AllHas gs ys)
    (hn : gs.length + (sgK (m + 1) + 10 * (m + 1) * (m + 1)) ≤ 88000) (hl : m + 1 ≤ 80) :
    Calls Tryd.prog 48 #[.agg #[.pointer (some ⟨b, 0, none⟩)], .string ⟨#[60]⟩, .slice A (m + 1) c1, .slice A2 (m + 1) c2] w
      (WL w B b gs (9 * (m + 1)) 1 (fun inp => [Wp.lessB (evs inp gs xs) (evs inp gs ys)]) (fun _ => false)) := by
  have HK : Hid (gs.length + (36 * (m + 1) + 12 * (m + 1 + 1) * (m + 1) + 3 + 10 * (m + 1) * (m + 1)) ≤ 88000) := Lib.hid hn
  obtain ⟨W2, hW2⟩ : ∃ W2, W2 = (w.alloc (.cells #[.pointer (some ⟨b, 0, none⟩)] 106)) := ⟨_, rfl⟩
  have hb2 : Below w.heap.size w W2 := by rw [hW2]; exact (Below.refl _ _).alloc (Nat.le_refl _) _
  have HC2 := Lib.hid (Chg.of_new (S := GT B) hb2)
  have HS2 := Lib.hid ((show Blk W2 w.heap.size 106 #[.pointer (some ⟨b, 0, none⟩)] by rw [hW2]; exact Blk.new w _ _).cell 0)
  have C1 := Lib.hid (less_any (c1 := c1) (c2 := c2) (h.new hb2) (hx.gt HC2.out) (hy.gt HC2.out) gx gy (by omega) (by omega))
  have HW2 := Lib.hid hW2
  clear h hx hy gx gy hn hW2 hb2
  go_enter Tryd.func48, Tryd.ntmps48
  go_wp2_with fail
  rw [← HW2.out]
  refine C1.out.mono ?_
  rintro e w3 ⟨gs3, o3, rfl, h1, h2, h3⟩
  have HG3 := Lib.hid h1
  have HC3 := Lib.hid (HC2.out.trans h2)
  have HM3 := Lib.hid h3
  have HSM := Lib.hid (show o3 ≤ 1000000 by have := h3.has; have := h3.len; have := HK.out; unfold Gm.has at *; omega)
  clear h1 h2 h3
  go_wp2_with fail
  refine (one_any (o3) _).mono ?_
  rintro e w5 ⟨rfl, rfl⟩
  go_wp2
  go_ret2
  refine ⟨_, 1, gs3, [o3], 0, rfl, HG3.out.alloc1 _, HC3.out.alloc _, own_base (own_one _ _) HC3.out.size, ⟨HM3.out.ext, fun z hz => ?_, HM3.out.len, fun inp => ?_⟩, madeL_zero HM3.out.ext HM3.out.len⟩
  · rw [List.mem_singleton.1 hz]; exact HM3.out.has
  · show [Gm.ev inp gs3 (o3)] = _
    rw [HM3.out.eq]
set_option maxRecDepth 100000 in
set_option maxHeartbeats 2000000 in
theorem ints_gtr {w : World} {B b : Nat} {gs : List Gm.Gate} (h : GA w B b gs) {A A2 : Option Addr} {c1 c2 m : Nat} {xs ys : List Nat} (hx : Held w B A (m + 1) xs) (hy : Held w B A2 (m + 1) ys) (gx : AllHas gs xs) (gy : AllHas gs ys)
    (hn : gs.length + (sgK (m + 1) + 10 * (m + 1) * (m + 1)) ≤ 88000) (hl : m + 1 ≤ 80) :
    Calls Tryd.prog 48 #[.agg #[.pointer (some ⟨b, 0, none⟩)], .string ⟨#[62]⟩, .slice A (m + 1) c1, .slice A2 (m + 1) c2] w
      (WL w B b gs (9 * (m + 1)) 1 (fun inp => [Wp.lessB (evs inp gs ys) (evs inp gs xs)]) (fun _ => false)) := by
  have HK : Hid (gs.length + (36 * (m + 1) + 12 * (m + 1 + 1) * (m + 1) + 3 + 10 * (m + 1) * (m + 1)) ≤ 88000) := Lib.hid hn
  obtain ⟨W2, hW2⟩ : ∃ W2, W2 = (w.alloc (.cells #[.pointer (some ⟨b, 0, none⟩)] 106)) := ⟨_, rfl⟩
  have hb2 : Below w.heap.size w W2 := by rw [hW2]; exact (Below.refl _ _).alloc (Nat.le_refl _) _
  have HC2 := Lib.hid (Chg.of_new (S := GT B) hb2)
  have HS2 := Lib.hid ((show Blk W2 w.heap.size 106 #[.pointer (some ⟨b, 0, none⟩)] by rw [hW2]; exact Blk.new w _ _).cell 0)
  have C1 := Lib.hid (less_any (c1 := c2) (c2 := c1) (h.new hb2) (hy.gt HC2.out) (hx.gt HC2.out) gy gx (by omega) (by omega))
  have HW2 := Lib.hid hW2
  clear h hx hy gx gy hn hW2 hb2
  go_enter Tryd.func48, Tryd.ntmps48
  go_wp2_with fail
  rw [← HW2.out]
  refine C1.out.mono ?_
  rintro e w3 ⟨gs3, o3, rfl, h1, h2, h3⟩
  have HG3 := Lib.hid h1
  have HC3 := Lib.hid (HC2.out.trans h2)
  have HM3 := Lib.hid h3
  have HSM := Lib.hid (show o3 ≤ 1000000 by have := h3.has; have := h3.len; have := HK.out; unfold Gm.has at *; omega)
  clear h1 h2 h3
  go_wp2_with fail
  refine (one_any (o3) _).mono ?_
  rintro e w5 ⟨rfl, rfl⟩
  go_wp2
  go_ret2
  refine ⟨_, 1, gs3, [o3], 0, rfl, HG3.out.alloc1 _, HC3.out.alloc _, own_base (own_one _ _) HC3.out.size, ⟨HM3.out.ext, fun z hz => ?_, HM3.out.len, fun inp => ?_⟩, madeL_zero HM3.out.ext HM3.out.len⟩
  · rw [List.mem_singleton.1 hz]; exact HM3.out.has
  · show [Gm.ev inp gs3 (o3)] = _
    rw [HM3.out.eq]
set_option maxRecDepth 100000 in
set_option maxHeartbeats 2000000 in
theorem ints_leq {w : World} {B b : Nat} {gs : List Gm.Gate} (h : GA w B b gs) {A A2 : Option Addr} {c1 c2 m : Nat} {xs ys : List Nat} (hx : Held w B A (m + 1) xs) (hy : Held w B A2 (m + 1) ys) (gx : AllHas gs xs) (gy : AllHas gs ys)
    (hn : gs.length + (sgK (m + 1) + 10 * (m + 1) * (m + 1)) ≤ 88000) (hl : m + 1 ≤ 80) :
    Calls Tryd.prog 48 #[.agg #[.pointer (some ⟨b, 0, none⟩)], .string ⟨#[60, 61]⟩, .slice A (m + 1) c1, .slice A2 (m + 1) c2] w
      (WL w B b gs (9 * (m + 1)) 1 (fun inp => [!Wp.lessB (evs inp gs ys) (evs inp gs xs)]) (fun _ => false)) := by
  have HK : Hid (gs.length + (36 * (m + 1) + 12 * (m + 1 + 1) * (m + 1) + 3 + 10 * (m + 1) * (m + 1)) ≤ 88000) := Lib.hid hn
  obtain ⟨W2, hW2⟩ : ∃ W2, W2 = (w.alloc (.cells #[.pointer (some ⟨b, 0, none⟩)] 106)) := ⟨_, rfl⟩
  have hb2 : Below w.heap.size w W2 := by rw [hW2]; exact (Below.refl _ _).alloc (Nat.le_refl _) _
  have HC2 := Lib.hid (Chg.of_new (S := GT B) hb2)
  have HS2 := Lib.hid ((show Blk W2 w.heap.size 106 #[.pointer (some ⟨b, 0, none⟩)] by rw [hW2]; exact Blk.new w _ _).cell 0)
  have C1 := Lib.hid (less_any (c1 := c2) (c2 := c1) (h.new hb2) (hy.gt HC2.out) (hx.gt HC2.out) gy gx (by omega) (by omega))
  have HW2 := Lib.hid hW2
  clear h hx hy gx gy hn hW2 hb2
  go_enter Tryd.func48, Tryd.ntmps48
  go_wp2_with fail
  rw [← HW2.out]
  refine C1.out.mono ?_
  rintro e w3 ⟨gs3, o3, rfl, h1, h2, h3⟩
  have HG3 := Lib.hid h1
  have HC3 := Lib.hid (HC2.out.trans h2)
  have HM3 := Lib.hid h3
  have HSM := Lib.hid (show o3 ≤ 1000000 by have := h3.has; have := h3.len; have := HK.out; unfold Gm.has at *; omega)
  clear h1 h2 h3
  go_wp2_with fail
  refine (not_any o3 _ HSM.out).mono ?_
  rintro e w4 ⟨rfl, rfl⟩
  go_wp2_with fail
  refine (one_any (Gm.notL o3) _).mono ?_
  rintro e w5 ⟨rfl, rfl⟩
  go_wp2
  go_ret2
  refine ⟨_, 1, gs3, [Gm.notL o3], 0, rfl, HG3.out.alloc1 _, HC3.out.alloc _, own_base (own_one _ _) HC3.out.size, ⟨HM3.out.ext, fun z hz => ?_, HM3.out.len, fun inp => ?_⟩, madeL_zero HM3.out.ext HM3.out.len⟩
  · rw [List.mem_singleton.1 hz]; exact Gm.has_not HM3.out.has
  · show [Gm.ev inp gs3 (Gm.notL o3)] = _
    rw [Gm.ev_not, HM3.out.eq]
set_option maxRecDepth 100000 in
set_option maxHeartbeats 2000000 in
theorem ints_geq {w : World} {B b : Nat} {gs : List Gm.Gate} (h : GA w B b gs) {A A2 : Option Addr} {c1 c2 m : Nat} {xs ys : List Nat} (hx : Held w B A (m + 1) xs) (hy : Held w B A2 (m + 1) ys) (gx : AllHas gs xs) (gy : AllHas gs ys)
    (hn : gs.length + (sgK (m + 1) + 10 * (m + 1) * (m + 1)) ≤ 88000) (hl : m + 1 ≤ 80) :
    Calls Tryd.prog 48 #[.agg #[.pointer (some ⟨b, 0, none⟩)], .string ⟨#[62, 61]⟩, .slice A (m + 1) c1, .slice A2 (m + 1) c2] w
      (WL w B b gs (9 * (m + 1)) 1 (fun inp => [!Wp.lessB (evs inp gs xs) (evs inp gs ys)]) (fun _ => false)) := by
  have HK : Hid (gs.length + (36 * (m + 1) + 12 * (m + 1 + 1) * (m + 1) + 3 + 10 * (m + 1) * (m + 1)) ≤ 88000) := Lib.hid hn
  obtain ⟨W2, hW2⟩ : ∃ W2, W2 = (w.alloc (.cells #[.pointer (some ⟨b, 0, none⟩)] 106)) := ⟨_, rfl⟩
  have hb2 : Below w.heap.size w W2 := by rw [hW2]; exact (Below.refl _ _).alloc (Nat.le_refl _) _
  have HC2 := Lib.hid (Chg.of_new (S := GT B) hb2)
  have HS2 := Lib.hid ((show Blk W2 w.heap.size 106 #[.pointer (some ⟨b, 0, none⟩)] by rw [hW2]; exact Blk.new w _ _).cell 0)
  have C1 := Lib.hid (less_any (c1 := c1) (c2 := c2) (h.new hb2) (hx.gt HC2.out) (hy.gt HC2.out) gx gy (by omega) (by omega))
  have HW2 := Lib.hid hW2
  clear h hx hy gx gy hn hW2 hb2
  go_enter Tryd.func48, Tryd.ntmps48
  go_wp2_with fail
  rw [← HW2.out]
  refine C1.out.mono ?_
  rintro e w3 ⟨gs3, o3, rfl, h1, h2, h3⟩
  have HG3 := Lib.hid h1
  have HC3 := Lib.hid (HC2.out.trans h2)
  have HM3 := Lib.hid h3
  have HSM := Lib.hid (show o3 ≤ 1000000 by have := h3.has; have := h3.len; have := HK.out; unfold Gm.has at *; omega)
  clear h1 h2 h3
  go_wp2_with fail
  refine (not_any o3 _ HSM.out).mono ?_
  rintro e w4 ⟨rfl, rfl⟩
  go_wp2_with fail
  refine (one_any (Gm.notL o3) _).mono ?_
  rintro e w5 ⟨rfl, rfl⟩
  go_wp2
  go_ret2
  refine ⟨_, 1, gs3, [Gm.notL o3], 0, rfl, HG3.out.alloc1 _, HC3.out.alloc _, own_base (own_one _ _) HC3.out.size, ⟨HM3.out.ext, fun z hz => ?_, HM3.out.len, fun inp => ?_⟩, madeL_zero HM3.out.ext HM3.out.len⟩
  · rw [List.mem_singleton.1 hz]; exact Gm.has_not HM3.out.has
  · show [Gm.ev inp gs3 (Gm.notL o3)] = _
    rw [Gm.ev_not, HM3.out.eq]
end Go.Proofs.YtmbjhpgemphmmaaDoor
