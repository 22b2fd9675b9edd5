/-
  THE WALK of package word: signed.
-/
import Derived.Test.YtmbjhpgemphmmaaDoorYi
namespace Go.Proofs.YtmbjhpgemphmmaaDoor
open Go.RowKit
def sgK (n : Nat) : Nat := 36 * n + 12 * (n + 1) * n + 3
theorem ev_top {inp : List Bool} {gs : List Gm.Gate} {xs : List Nat} {m x : Nat} (hl : xs.length = m + 1) (hx : xs[m]? = some x) : Wp.topB (evs inp gs xs) = Gm.ev inp gs x := by
  unfold Wp.topB
  rw [evs_length, hl]
  have : (evs inp gs xs)[m]? = some (Gm.ev inp gs x) := by unfold evs; simp [hx]
  simp [List.getD, this]
/-- 'word' of a sign, what is turned around, and what is not -/
theorem made_abs {gs gs1 gs2 : List Gm.Gate} {n k x : Nat} {xs nl ol : List Nat} {c : List Bool → Bool} {f : List Bool → List Bool} (_hx : Gm.has gs1 x) (hxs : AllHas gs xs) (hf : ∀ inp, evs inp gs xs = f inp) (hc : ∀ inp, Gm.ev inp gs1 x = c inp)
    (h1 : MadeW gs gs1 k nl (fun inp => Wp.negB (evs inp gs xs))) (h2 : MadeW gs1 gs2 (3 * n) ol (fun inp => Wp.pickB (Gm.ev inp gs1 x) (evs inp gs1 nl) (evs inp gs1 xs))) :
    MadeW gs gs2 (k + 3 * n) ol (fun inp => Wp.pickB (c inp) (Wp.negB (f inp)) (f inp)) :=
  ⟨h1.ext.trans h2.ext, h2.all, by have := h1.len; have := h2.len; omega, fun inp => by rw [h2.eq, hc, h1.eq, evs_ext hxs h1.ext, hf]⟩
attribute [local irreducible] wpSeq wpStill
set_option maxRecDepth 100000 in
set_option maxHeartbeats 4000000 in
theorem signed_any {w : World} {B b : Nat} {gs : List Gm.Gate} (h : GA w B b gs) {A A2 : Option Addr} {c1 c2 m : Nat} {xs ys : List Nat} (hx : Held w B A (m + 1) xs) (hy : Held w B A2 (m + 1) ys) (gx : AllHas gs xs) (gy : AllHas gs ys)
    (hn : gs.length + sgK (m + 1) ≤ 89000) (hl : m + 1 ≤ 80) (rest : Bool) :
    Calls Tryd.prog 87 #[.agg #[.pointer (some ⟨b, 0, none⟩)], .slice A (m + 1) c1, .slice A2 (m + 1) c2, .bool rest] w
      (WG w B b gs (sgK (m + 1)) (m + 1) (fun inp => if rest then Wp.sRem (evs inp gs xs) (evs inp gs ys) else Wp.sQuo (evs inp gs xs) (evs inp gs ys))) := by
  obtain ⟨x, hxm⟩ : ∃ x, xs[m]? = some x := ⟨_, List.getElem?_eq_getElem (by have := hx.1; omega)⟩
  obtain ⟨y, hym⟩ : ∃ y, ys[m]? = some y := ⟨_, List.getElem?_eq_getElem (by have := hy.1; omega)⟩
  obtain ⟨ad, rfl⟩ := hx.form (by omega)
  obtain ⟨ad2, rfl⟩ := hy.form (by omega)
  have HXM := Lib.hid hxm
  have HYM := Lib.hid hym
  have HG := Lib.hid h
  have HX := Lib.hid hx
  have HY := Lib.hid hy
  have GX := Lib.hid gx
  have GY := Lib.hid gy
  have HK : Hid (gs.length + (36 * (m + 1) + 12 * (m + 1 + 1) * (m + 1) + 3) ≤ 89000) := Lib.hid hn
  have HS := Lib.hid (show ∀ w', Chg (GT B) w w' → Blk w' w.heap.size 106 #[.pointer (some ⟨b, 0, none⟩)] → w'.cell? ⟨w.heap.size, 0, none⟩ = some (.pointer (some ⟨b, 0, none⟩)) ∧ w'.cell? (ad.add m) = some (.int .i64 (x : Nat)) ∧ w'.cell? (ad2.add m) = some (.int .i64 (y : Nat)) from
    fun w' hc hb => ⟨hb.cell 0, (hx.gt hc).at_ hxm, (hy.gt hc).at_ hym⟩)
  obtain ⟨W2, hW2⟩ : ∃ W2, W2 = (w.alloc (.cells #[.pointer (some ⟨b, 0, none⟩)] 106)).drew := ⟨_, rfl⟩
  have hb2 : Below w.heap.size w W2 := by rw [hW2]; exact below_drewN ((Below.refl _ _).alloc (Nat.le_refl _) _) 1
  have bx2 : Blk W2 w.heap.size 106 #[.pointer (some ⟨b, 0, none⟩)] := by rw [hW2]; exact Blk.new w _ _
  have HB2 := Lib.hid hb2
  have HBX2 := Lib.hid bx2
  have HC2 := Lib.hid (Chg.of_new (S := GT B) hb2)
  have HS2 := Lib.hid (HS.out _ HC2.out bx2)
  have HW2 := Lib.hid hW2
  have hm1 : (m : Int) < (m : Int) + 1 := by omega
  have hxh := gx x (List.mem_of_getElem? hxm)
  have hyh := gy y (List.mem_of_getElem? hym)
  have HXH := Lib.hid hxh
  have HYH := Lib.hid hyh
  have C1 := Lib.hid (neg_any (c := c1) (h.new hb2) (hx.gt HC2.out) gx (by omega) (by omega))
  clear h hx hy gx gy hn hxm hym hW2 hb2 bx2 hxh hyh
  go_enter Tryd.func87, Tryd.ntmps87
  go_wp2_with fail
  refine wp_region_seq (S := fun w' => w'.cell? ⟨w.heap.size, 0, none⟩ = some (.pointer (some ⟨b, 0, none⟩)) ∧ w'.cell? (ad.add m) = some (.int .i64 (x : Nat)) ∧ w'.cell? (ad2.add m) = some (.int .i64 (y : Nat))) [(0, false), (1, false), (2, false), (3, false), (4, false), (5, false), (6, false), (8, false), (10, false), (11, false), (12, false), (13, false), (14, false), (15, false), (16, false), (18, false), (7, true), (9, true), (17, true), (19, true), (20, false), (21, false)] (by kernel_rfl) (by kernel_rfl) (by kernel_rfl) (by rw [← HW2.out]; exact HS2.out) ?_
  rw [← HW2.out]
  iterate 16 (refine seq_take _ _ rfl (by kernel_rfl) (fun wv hv => by obtain ⟨hv1, hv2, hv3⟩ := hv; go_simp; try with_reducible rfl) ?_; simp only [Act.put, List.getElem_toArray, List.getElem_cons_zero, List.getElem_cons_succ, List.setIfInBounds_toArray, List.set_cons_zero, List.set_cons_succ])
  refine seq_act _ rfl (fun K hK => ?_)
  go_simp
  refine C1.out.mono ?_
  rintro e w3 ⟨A3, c3, gs3, l3, rfl, h1, h2, h3, h4⟩
  have HC3 := Lib.hid (HC2.out.trans h2)
  have HBX3 := Lib.hid (box_gt HBX2.out h2)
  have HM3 := Lib.hid h4
  have C2 := Lib.hid (word_any (c := x) (c1 := c3) (c2 := c1) h1 (h4.ext.has HXH.out) (Held.of_own (B := B) h3) (HX.out.gt HC3.out) h4.all (GX.out.ext h4.ext) (by have := h4.len; have := HK.out; omega) (by omega))
  clear h1 h2 h3 h4
  go_simp
  refine hK _ _ (HS.out _ HC3.out HBX3.out) ?_
  clear hK K
  refine seq_act _ rfl (fun K hK => ?_)
  go_simp
  refine C2.out.mono ?_
  rintro e w4 ⟨A4, c4, gs4, l4, rfl, h1, h2, h3, h4⟩
  have HC4 := Lib.hid (HC3.out.trans h2)
  have HBX4 := Lib.hid (box_gt HBX3.out h2)
  have m4 := made_abs (HM3.out.ext.has HXH.out) GX.out (fun inp => rfl) (fun inp => by rw [Gm.ev_ext HM3.out.ext HXH.out, ← ev_top HX.out.1 HXM.out]) HM3.out h4
  have HM4 := Lib.hid (show MadeW gs gs4 (9 * (m + 1) + 3 * (m + 1)) l4 (fun inp => Wp.absB (evs inp gs xs)) from m4)
  have HO4 := Lib.hid h3
  have C3 := Lib.hid (neg_any (c := c2) h1 (HY.out.gt HC4.out) (GY.out.ext m4.ext) (by have := m4.len; have := HK.out; omega) (by omega))
  clear h1 h2 h3 h4 m4
  go_simp
  refine hK _ _ (HS.out _ HC4.out HBX4.out) ?_
  clear hK K
  refine seq_act _ rfl (fun K hK => ?_)
  go_simp
  refine C3.out.mono ?_
  rintro e w5 ⟨A5, c5, gs5, l5, rfl, h1, h2, h3, h4⟩
  have HC5 := Lib.hid (HC4.out.trans h2)
  have HBX5 := Lib.hid (box_gt HBX4.out h2)
  have HM5 := Lib.hid h4
  have HO5 := Lib.hid (own_gt HO4.out h2)
  have C4 := Lib.hid (word_any (c := y) (c1 := c5) (c2 := c2) h1 ((HM4.out.ext.trans h4.ext).has HYH.out) (Held.of_own (B := B) h3) (HY.out.gt HC5.out) h4.all ((GY.out.ext HM4.out.ext).ext h4.ext) (by have := h4.len; have := HM4.out.len; have := HK.out; omega) (by omega))
  clear h1 h2 h3 h4
  go_simp
  refine hK _ _ (HS.out _ HC5.out HBX5.out) ?_
  clear hK K
  refine seq_act _ rfl (fun K hK => ?_)
  go_simp
  refine C4.out.mono ?_
  rintro e w6 ⟨A6, c6, gs6, l6, rfl, h1, h2, h3, h4⟩
  have HC6 := Lib.hid (HC5.out.trans h2)
  have bx6 := box_gt HBX5.out h2
  have cb6 := bx6.cell 0
  have HBX6 := Lib.hid bx6
  have m6 := made_abs (f := fun inp => evs inp gs ys) (c := fun inp => Wp.topB (evs inp gs ys)) (HM5.out.ext.has (HM4.out.ext.has HYH.out)) (GY.out.ext HM4.out.ext) (fun inp => evs_ext GY.out HM4.out.ext) (fun inp => by rw [Gm.ev_ext HM5.out.ext (HM4.out.ext.has HYH.out), Gm.ev_ext HM4.out.ext HYH.out, ← ev_top HY.out.1 HYM.out]) HM5.out h4
  have HM6 := Lib.hid (show MadeW gs4 gs6 (9 * (m + 1) + 3 * (m + 1)) l6 (fun inp => Wp.absB (evs inp gs ys)) from m6)
  have HO6 := Lib.hid (own_gt HO5.out h2)
  have C5 := Lib.hid (divide_any (c1 := c4) (c2 := c6) h1 (Held.of_own (B := B) (own_gt HO5.out h2)) (Held.of_own (B := B) h3) (HM4.out.all.ext HM6.out.ext) h4.all (by have := HM4.out.len; have := HM6.out.len; have := HK.out; omega) (by omega) (by omega))
  clear h1 h2 h3 h4 m6 bx6
  go_simp
  refine hK _ _ (HS.out _ HC6.out HBX6.out) ?_
  clear hK K
  iterate 2 (refine seq_take _ _ rfl (by kernel_rfl) (fun wv hv => by go_simp; try with_reducible rfl) ?_; simp only [Act.put, List.getElem_toArray, List.getElem_cons_zero, List.getElem_cons_succ, List.setIfInBounds_toArray, List.set_cons_zero, List.set_cons_succ])
  refine seq_nil ?_
  go_wp2_with fail
  refine C5.out.mono ?_
  rintro e w7 ⟨A7, c7, A8, c8, gs7, ql, rl, rfl, h1, h2, h3, h3', h4, h5⟩
  have HG7 := Lib.hid h1
  have HC7 := Lib.hid (HC6.out.trans h2)
  have HBX7 := Lib.hid (box_gt HBX6.out h2)
  have HOQ := Lib.hid h3
  have HOR := Lib.hid h3'
  have HMQ := Lib.hid h4
  have HMR := Lib.hid h5
  clear h1 h2 h3 h3' h4 h5 cb6
  have HE := Lib.hid (show Gm.Ext gs gs7 from (HM4.out.ext.trans HM6.out.ext).trans HMQ.out.ext)
  have HL7 := Lib.hid (show gs7.length ≤ gs.length + (24 * (m + 1) + 12 * (m + 1 + 1) * (m + 1)) by have := HM4.out.len; have := HM6.out.len; have := HMQ.out.len; omega)
  have HVX := Lib.hid (show ∀ inp, evs inp gs6 l4 = Wp.absB (evs inp gs xs) from fun inp => by rw [evs_ext HM4.out.all HM6.out.ext, HM4.out.eq])
  have HVY := Lib.hid (show ∀ inp, evs inp gs6 l6 = Wp.absB (evs inp gs ys) from fun inp => HM6.out.eq inp)
  obtain ⟨W8, hW8⟩ : ∃ W8, W8 = w7.drew := ⟨_, rfl⟩
  have hc8 : Chg (GT B) w W8 := by rw [hW8]; exact HC7.out.drew
  have HC8 := Lib.hid hc8
  have HBX8 := Lib.hid (show Blk W8 w.heap.size 106 #[.pointer (some ⟨b, 0, none⟩)] by rw [hW8]; exact HBX7.out.drew)
  have HG8 := Lib.hid (show GA W8 B b gs7 by rw [hW8]; exact HG7.out.drewN 1)
  have HS8 := Lib.hid (HS.out _ hc8 HBX8.out)
  have HOQ8 := Lib.hid (show W8.ownsRow w6.heap.size 29 1 (.slice A7 (m + 1) c7) (m + 1) (natVals ql) by rw [hW8]; exact HOQ.out)
  have HOR8 := Lib.hid (show W8.ownsRow w6.heap.size 29 1 (.slice A8 (m + 1) c8) (m + 1) (natVals rl) by rw [hW8]; exact HOR.out)
  have HW8 := Lib.hid hW8
  clear hW8 hc8
  cases rest with
  | true =>
    go_wp2_with fail
    refine wp_region_seq (S := fun w' => w'.cell? ⟨w.heap.size, 0, none⟩ = some (.pointer (some ⟨b, 0, none⟩)) ∧ w'.cell? (ad.add m) = some (.int .i64 (x : Nat)) ∧ w'.cell? (ad2.add m) = some (.int .i64 (y : Nat))) [(0, false), (1, false), (2, false), (3, false), (4, false), (5, false), (6, false), (8, false), (7, true), (9, true), (10, false)] (by kernel_rfl) (by kernel_rfl) (by kernel_rfl) (by rw [← HW8.out]; exact HS8.out) ?_
    rw [← HW8.out]
    iterate 8 (refine seq_take _ _ rfl (by kernel_rfl) (fun wv hv => by obtain ⟨hv1, hv2, hv3⟩ := hv; go_simp; try with_reducible rfl) ?_; simp only [Act.put, List.getElem_toArray, List.getElem_cons_zero, List.getElem_cons_succ, List.setIfInBounds_toArray, List.set_cons_zero, List.set_cons_succ])
    refine seq_act _ rfl (fun K hK => ?_)
    go_simp
    refine (neg_any HG8.out (Held.of_own (B := B) HOR8.out) HMR.out.all (by have := HL7.out; have := HK.out; omega) (by omega)).mono ?_
    rintro e w9 ⟨A9, c9, gs9, l9, rfl, h1, h2, h3, h4⟩
    have HC9 := Lib.hid (HC8.out.trans h2)
    have HBX9 := Lib.hid (box_gt HBX8.out h2)
    have HM9 := Lib.hid h4
    have C6 := Lib.hid (word_any (c := x) (c1 := c9) (c2 := c8) h1 ((HE.out.trans h4.ext).has HXH.out) (Held.of_own (B := B) h3) (Held.of_own (B := B) (own_gt HOR8.out h2)) h4.all (HMR.out.all.ext h4.ext) (by have := h4.len; have := HL7.out; have := HK.out; omega) (by omega))
    clear h1 h2 h3 h4
    go_simp
    refine hK _ _ (HS.out _ HC9.out HBX9.out) ?_
    clear hK K
    refine seq_act _ rfl (fun K hK => ?_)
    go_simp
    refine C6.out.mono ?_
    rintro e w10 ⟨A10, c10, gs10, l10, rfl, h1, h2, h3, h4⟩
    have HG10 := Lib.hid h1
    have HC10 := Lib.hid (HC9.out.trans h2)
    have HBX10 := Lib.hid (box_gt HBX9.out h2)
    have HO10 := Lib.hid h3
    have m10 := made_abs (f := fun inp => Wp.remB (Wp.absB (evs inp gs xs)) (Wp.absB (evs inp gs ys))) (c := fun inp => Wp.topB (evs inp gs xs)) (HM9.out.ext.has (HE.out.has HXH.out)) HMR.out.all (fun inp => by rw [HMR.out.eq, HVX.out, HVY.out]) (fun inp => by rw [Gm.ev_ext HM9.out.ext (HE.out.has HXH.out), Gm.ev_ext HE.out HXH.out, ← ev_top HX.out.1 HXM.out]) HM9.out h4
    have HM10 := Lib.hid m10
    clear h1 h2 h3 h4 m10
    go_simp
    refine hK _ _ (HS.out _ HC10.out HBX10.out) ?_
    clear hK K
    iterate 1 (refine seq_take _ _ rfl (by kernel_rfl) (fun wv hv => by go_simp; try with_reducible rfl) ?_; simp only [Act.put, List.getElem_toArray, List.getElem_cons_zero, List.getElem_cons_succ, List.setIfInBounds_toArray, List.set_cons_zero, List.set_cons_succ])
    refine seq_nil ?_
    go_wp2
    go_ret
    exact ⟨A10, c10, gs10, l10, rfl, HG10.out, HC10.out, own_base HO10.out HC9.out.size, HE.out.trans HM10.out.ext, HM10.out.all, by have := HM10.out.len; have := HL7.out; unfold sgK; omega, fun inp => HM10.out.eq inp⟩
  | false =>
    go_wp2_with fail
    refine wp_region_seq (S := fun w' => w'.cell? ⟨w.heap.size, 0, none⟩ = some (.pointer (some ⟨b, 0, none⟩)) ∧ w'.cell? (ad.add m) = some (.int .i64 (x : Nat)) ∧ w'.cell? (ad2.add m) = some (.int .i64 (y : Nat))) [(0, false), (1, false), (2, false), (3, false), (4, false), (5, false), (6, false), (7, false), (8, false), (9, false), (11, false), (12, false), (14, false), (10, true), (13, true), (15, true), (16, false)] (by kernel_rfl) (by kernel_rfl) (by kernel_rfl) (by rw [← HW8.out]; exact HS8.out) ?_
    rw [← HW8.out]
    iterate 13 (refine seq_take _ _ rfl (by kernel_rfl) (fun wv hv => by obtain ⟨hv1, hv2, hv3⟩ := hv; go_simp; try with_reducible rfl) ?_; simp only [Act.put, List.getElem_toArray, List.getElem_cons_zero, List.getElem_cons_succ, List.setIfInBounds_toArray, List.set_cons_zero, List.set_cons_succ])
    obtain ⟨r, er⟩ : ∃ r, r = Gm.xorG gs7 x y := ⟨_, rfl⟩
    have hr := fun inp => Gm.comes_xor (inp := inp) HG8.out.wf (HE.out.has HXH.out) (HE.out.has HYH.out)
    have hrl : r.1.length ≤ gs7.length + 3 := by rw [er]; exact Gm.orOf_len ..
    rw [← er] at hr
    have HR := Lib.hid hr
    have HRL := Lib.hid hrl
    have CX := mkr_xor HG8.out (by have := HL7.out; have := HK.out; omega) (HE.out.has HXH.out) (HE.out.has HYH.out)
    rw [← er] at CX
    have CX := Lib.hid CX
    clear er hr hrl
    refine seq_act _ rfl (fun K hK => ?_)
    go_simp
    refine CX.out.mono ?_
    rintro e w9 ⟨rfl, h1, h2⟩
    have HC9 := Lib.hid (HC8.out.trans h2)
    have HBX9 := Lib.hid (box_gt HBX8.out h2)
    have HOQ9 := Lib.hid (own_gt HOQ8.out h2)
    have C5 := Lib.hid (neg_any (c := c7) h1 (Held.of_own (B := B) HOQ9.out) (HMQ.out.all.ext (HR.out []).ext) (by have := HL7.out; have := HK.out; have := HRL.out; omega) (by omega))
    clear h1 h2
    go_simp
    refine hK _ _ (HS.out _ HC9.out HBX9.out) ?_
    clear hK K
    refine seq_act _ rfl (fun K hK => ?_)
    go_simp
    refine C5.out.mono ?_
    rintro e w10 ⟨A9, c9, gs9, l9, rfl, h1, h2, h3, h4⟩
    have HC10 := Lib.hid (HC9.out.trans h2)
    have HBX10 := Lib.hid (box_gt HBX9.out h2)
    have HM9 := Lib.hid h4
    have C6 := Lib.hid (word_any (c := r.2) (c1 := c9) (c2 := c7) h1 (h4.ext.has (HR.out []).has) (Held.of_own (B := B) h3) (Held.of_own (B := B) (own_gt HOQ9.out h2)) h4.all ((HMQ.out.all.ext (HR.out []).ext).ext h4.ext) (by have := h4.len; have := HL7.out; have := HK.out; have := HRL.out; omega) (by omega))
    clear h1 h2 h3 h4
    go_simp
    refine hK _ _ (HS.out _ HC10.out HBX10.out) ?_
    clear hK K
    refine seq_act _ rfl (fun K hK => ?_)
    go_simp
    refine C6.out.mono ?_
    rintro e w11 ⟨A10, c10, gs10, l10, rfl, h1, h2, h3, h4⟩
    have HG10 := Lib.hid h1
    have HC11 := Lib.hid (HC10.out.trans h2)
    have HBX11 := Lib.hid (box_gt HBX10.out h2)
    have HO10 := Lib.hid h3
    have m10 := made_abs (f := fun inp => Wp.quoB (Wp.absB (evs inp gs xs)) (Wp.absB (evs inp gs ys))) (c := fun inp => Wp.topB (evs inp gs xs) != Wp.topB (evs inp gs ys)) (HM9.out.ext.has (HR.out []).has) (HMQ.out.all.ext (HR.out []).ext) (fun inp => by rw [evs_ext HMQ.out.all (HR.out []).ext, HMQ.out.eq, HVX.out, HVY.out]) (fun inp => by rw [Gm.ev_ext HM9.out.ext (HR.out []).has, (HR.out inp).ev, Gm.ev_ext HE.out HXH.out, Gm.ev_ext HE.out HYH.out, ← ev_top HX.out.1 HXM.out, ← ev_top HY.out.1 HYM.out]) HM9.out h4
    have HM10 := Lib.hid m10
    clear h1 h2 h3 h4 m10
    go_simp
    refine hK _ _ (HS.out _ HC11.out HBX11.out) ?_
    clear hK K
    iterate 1 (refine seq_take _ _ rfl (by kernel_rfl) (fun wv hv => by go_simp; try with_reducible rfl) ?_; simp only [Act.put, List.getElem_toArray, List.getElem_cons_zero, List.getElem_cons_succ, List.setIfInBounds_toArray, List.set_cons_zero, List.set_cons_succ])
    refine seq_nil ?_
    go_wp2
    go_ret
    exact ⟨A10, c10, gs10, l10, rfl, HG10.out, HC11.out, own_base HO10.out HC10.out.size, (HE.out.trans (HR.out []).ext).trans HM10.out.ext, HM10.out.all, by have := HM10.out.len; have := HL7.out; have := HRL.out; unfold sgK; omega, fun inp => HM10.out.eq inp⟩
end Go.Proofs.YtmbjhpgemphmmaaDoor
