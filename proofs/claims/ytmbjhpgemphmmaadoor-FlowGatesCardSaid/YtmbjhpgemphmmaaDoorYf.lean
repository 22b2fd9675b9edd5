/-
  WALKS of package word: same, times.
  WALKS of package word: times.
-/
import Derived.Test.YtmbjhpgemphmmaaDoorYd
namespace Go.Proofs.YtmbjhpgemphmmaaDoor
open Go.RowKit

def SmR (W : World) (B b : Nat) (gs : List Gm.Gate) (xs ys : List Nat) (ov iv : Value) (wr : World) : Prop :=
  ∃ k gs' out, k ≤ xs.length ∧ iv = .int .i64 (k : Nat) ∧ ov = .int .i64 (out : Nat) ∧ GA wr B b gs' ∧ Chg (GT B) W wr ∧ Blk wr W.heap.size 106 #[.pointer (some ⟨b, 0, none⟩)] ∧
    MadeL gs gs' (4 * k) out (fun inp => Wp.sameB (evs inp gs (xs.take k)) (evs inp gs (ys.take k)))
/-- one place of an equality -/
structure SmStep (gs gs1 : List Gm.Gate) (xs ys : List Nat) (out k x y : Nat) (r1 r2 : List Gm.Gate × Nat) : Prop where
  hx : Gm.has gs1 x
  hy : Gm.has gs1 y
  h1 : Gm.has r1.1 (Gm.notL r1.2)
  small : r1.2 ≤ 1000000
  h1o : Gm.has r1.1 out
  l1 : r1.1.length ≤ gs1.length + 3
  next : MadeL gs r2.1 (4 * (k + 1)) r2.2 (fun inp => Wp.sameB (evs inp gs (xs.take (k + 1))) (evs inp gs (ys.take (k + 1))))
theorem sm_step {gs gs1 : List Gm.Gate} {xs ys : List Nat} {out k x y : Nat} (hw : Gm.Wf gs1) (hs : MadeL gs gs1 (4 * k) out (fun inp => Wp.sameB (evs inp gs (xs.take k)) (evs inp gs (ys.take k)))) (gx : AllHas gs xs) (gy : AllHas gs ys) (hx : xs[k]? = some x) (hy : ys[k]? = some y)
    (hl : gs1.length ≤ 99000) {r1 r2 : List Gm.Gate × Nat} (e1 : r1 = Gm.xorG gs1 x y) (e2 : r2 = Gm.andG r1.1 out (Gm.notL r1.2)) : SmStep gs gs1 xs ys out k x y r1 r2 := by
  have kx := (List.getElem?_eq_some_iff.1 hx).1
  have ky := (List.getElem?_eq_some_iff.1 hy).1
  have hx0 := gx x (List.mem_of_getElem? hx)
  have hy0 := gy y (List.mem_of_getElem? hy)
  have w1 := fun inp => Gm.comes_xor (inp := inp) hw (hs.ext.has hx0) (hs.ext.has hy0)
  rw [← e1] at w1
  have ho1 := (w1 []).ext.has hs.has
  have w2 := fun inp => Gm.comes_and (inp := inp) (w1 []).wf ho1 (Gm.has_not (w1 []).has)
  rw [← e2] at w2
  have l1 : r1.1.length ≤ gs1.length + 3 := by rw [e1]; exact Gm.orOf_len ..
  have l2 : r2.1.length ≤ r1.1.length + 1 := by rw [e2]; exact Gm.andG_len ..
  have hlen := hs.len
  refine ⟨hs.ext.has hx0, hs.ext.has hy0, Gm.has_not (w1 []).has, ?_, ho1, l1, (hs.ext.trans (w1 []).ext).trans (w2 []).ext, (w2 []).has, by omega, fun inp => ?_⟩
  · have := (w1 []).has; unfold Gm.has at this; omega
  · rw [(w2 inp).ev, Gm.ev_not, (w1 inp).ev, Gm.ev_ext (w1 []).ext hs.has, hs.eq, Gm.ev_ext hs.ext hx0, Gm.ev_ext hs.ext hy0, evs_snoc hx, evs_snoc hy, Wp.sameB_snoc (by rw [evs_length, evs_length, List.length_take, List.length_take]; omega)]
attribute [local irreducible] wpSeq
set_option maxRecDepth 100000 in
set_option maxHeartbeats 2000000 in
theorem same_any {w : World} {B b : Nat} {gs : List Gm.Gate} (h : GA w B b gs) {A A2 : Option Addr} {c1 c2 n : Nat} {xs ys : List Nat} (hx : Held w B A n xs) (hy : Held w B A2 n ys) (gx : AllHas gs xs) (gy : AllHas gs ys)
    (hn : gs.length + 4 * n ≤ 98000) (hl : n ≤ 1000) :
    Calls Tryd.prog 46 #[.agg #[.pointer (some ⟨b, 0, none⟩)], .slice A n c1, .slice A2 n c2] w (LG w B b gs (4 * n) (fun inp => Wp.sameB (evs inp gs xs) (evs inp gs ys))) := by
  obtain rfl := hx.1
  have HG := Lib.hid h
  have HX := Lib.hid hx
  have HY := Lib.hid hy
  have GX := Lib.hid gx
  have GY := Lib.hid gy
  have HN := Lib.hid hn
  clear h hx hy gx gy hn
  go_enter Tryd.func46, Tryd.ntmps46
  go_wp2_with fail
  go_loopw [7, 11] (fun ov iv wr => SmR w B b gs xs ys ov iv wr) (fun _ iv _ => xs.length - (intOf iv).toNat)
  case atStart =>
    refine ⟨0, gs, 1, Nat.zero_le _, rfl, rfl, HG.out.new ((Below.refl _ _).alloc (Nat.le_refl _) _), (Chg.refl _ _).alloc _, Blk.new w _ _, .refl _, has_one gs, by simp, fun inp => ?_⟩
    rw [Gm.ev_one]; rfl
  case round =>
    obtain ⟨k, gs1, out, hk, rfl, rfl, hg, hch, hbox, hso⟩ := hrel
    by_cases hkl : k < xs.length
    · obtain ⟨x, hxk⟩ : ∃ x, xs[k]? = some x := ⟨_, List.getElem?_eq_getElem hkl⟩
      obtain ⟨y, hyk⟩ : ∃ y, ys[k]? = some y := ⟨_, List.getElem?_eq_getElem (by have := HY.out.1; omega)⟩
      obtain ⟨ad, rfl⟩ := HX.out.form (by omega)
      obtain ⟨ad2, rfl⟩ := HY.out.form (by omega)
      have HS := Lib.hid (show ∀ w', Chg (GT B) w w' → Blk w' w.heap.size 106 #[.pointer (some ⟨b, 0, none⟩)] → w'.cell? ⟨w.heap.size, 0, none⟩ = some (.pointer (some ⟨b, 0, none⟩)) ∧ w'.cell? (ad.add k) = some (.int .i64 (x : Nat)) ∧ w'.cell? (ad2.add k) = some (.int .i64 (y : Nat)) from
        fun w' hc hb => ⟨hb.cell 0, (HX.out.gt hc).at_ hxk, (HY.out.gt hc).at_ hyk⟩)
      have hl1 : gs1.length ≤ gs.length + 4 * k := hso.len
      obtain ⟨r1, e1⟩ : ∃ r, r = Gm.xorG gs1 x y := ⟨_, rfl⟩
      obtain ⟨r2, e2⟩ : ∃ r, r = Gm.andG r1.1 out (Gm.notL r1.2) := ⟨_, rfl⟩
      have HST := Lib.hid (sm_step hg.wf hso GX.out GY.out hxk hyk (by have := HN.out; omega) e1 e2)
      obtain ⟨W2, hW2⟩ : ∃ W2, W2 = wr.drew := ⟨_, rfl⟩
      have hc2 : Chg (GT B) w W2 := by rw [hW2]; exact hch.drew
      have hbx2 : Blk W2 w.heap.size 106 #[.pointer (some ⟨b, 0, none⟩)] := by rw [hW2]; exact hbox
      have C1 := mkr_xor (show GA W2 B b gs1 by rw [hW2]; exact hg.drewN 1) (by have := HN.out; omega) HST.out.hx HST.out.hy
      rw [← e1] at C1
      have C1 := Lib.hid C1
      have E2 := Lib.hid e2
      have HL1 := Lib.hid hl1
      have HC2 := Lib.hid hc2
      have HBX2 := Lib.hid hbx2
      have HS2 := Lib.hid (HS.out _ hc2 hbx2)
      have HW2 := Lib.hid hW2
      clear hxk hyk hl1 e1 e2 hW2 hc2 hbx2 hg hch hbox hso
      go_wp2_with fail
      refine wp_region_seq (S := fun w' => w'.cell? ⟨w.heap.size, 0, none⟩ = some (.pointer (some ⟨b, 0, none⟩)) ∧ w'.cell? (ad.add k) = some (.int .i64 (x : Nat)) ∧ w'.cell? (ad2.add k) = some (.int .i64 (y : Nat))) [(0, false), (1, false), (2, false), (3, false), (4, false), (5, false), (6, false), (7, false), (8, false), (9, false), (10, false), (11, true), (12, true), (13, true), (14, false)] (by kernel_rfl) (by kernel_rfl) (by kernel_rfl) (by rw [← HW2.out]; exact HS2.out) ?_
      rw [← HW2.out]
      iterate 11 (refine seq_take _ _ rfl (by kernel_rfl) (fun wv hv => by obtain ⟨hv1, hv2, hv3⟩ := hv; go_simp; try with_reducible rfl) ?_; simp only [Act.put, List.getElem_toArray, List.getElem_cons_zero, List.getElem_cons_succ, List.setIfInBounds_toArray, List.set_cons_zero, List.set_cons_succ])
      refine seq_act _ rfl (fun K hK => ?_)
      go_simp
      refine C1.out.mono ?_
      rintro e w3 ⟨rfl, h1, h2⟩
      have HC3 := Lib.hid (HC2.out.trans h2)
      have HBX3 := Lib.hid (box_gt HBX2.out h2)
      have C2 := mkr_and h1 (by have := HN.out; have := HL1.out; have := HST.out.l1; omega) HST.out.h1o HST.out.h1
      rw [← E2.out] at C2
      have C2 := Lib.hid C2
      clear h1 h2
      go_simp
      refine hK _ _ (HS.out _ HC3.out HBX3.out) ?_
      clear hK K
      refine seq_act _ rfl (fun K hK => ?_)
      go_simp
      refine (not_any r1.2 _ HST.out.small).mono ?_
      rintro e w4 ⟨rfl, rfl⟩
      go_simp
      refine hK _ _ (HS.out _ HC3.out HBX3.out) ?_
      clear hK K
      refine seq_act _ rfl (fun K hK => ?_)
      go_simp
      refine C2.out.mono ?_
      rintro e w5 ⟨rfl, h1, h2⟩
      have HG5 := Lib.hid h1
      have HC5 := Lib.hid (HC3.out.trans h2)
      have HBX5 := Lib.hid (box_gt HBX3.out h2)
      clear h1 h2
      go_simp
      refine hK _ _ (HS.out _ HC5.out HBX5.out) ?_
      clear hK K
      iterate 1 (refine seq_take _ _ rfl (by kernel_rfl) (fun wv hv => by go_simp; try with_reducible rfl) ?_; simp only [Act.put, List.getElem_toArray, List.getElem_cons_zero, List.getElem_cons_succ, List.setIfInBounds_toArray, List.set_cons_zero, List.set_cons_succ])
      refine seq_nil ?_
      go_wp2_with fail
      go_roundw
      case rel => exact ⟨k + 1, _, _, by omega, by go_num, rfl, HG5.out, HC5.out, HBX5.out, HST.out.next⟩
      case measure => simp [intOf]; omega
    · obtain rfl : k = xs.length := by omega
      have HG1 := Lib.hid hg
      have HCH := Lib.hid hch
      have HSO := Lib.hid hso
      clear hg hch hbox hso
      go_wp2
      go_ret
      refine ⟨gs1, out, rfl, HG1.out, HCH.out, HSO.out.to (Nat.le_refl _) fun inp => ?_⟩
      rw [List.take_length, List.take_of_length_le (by have := HY.out.1; omega)]
/-- rows of a product so far -/
def TmR (W : World) (B b : Nat) (gs : List Gm.Gate) (xs ys : List Nat) (ov iv : Value) (wr : World) : Prop :=
  ∃ k gs' outs, k ≤ xs.length ∧ iv = .int .i64 (k : Nat) ∧ (∃ A cp, ov = .slice A xs.length cp) ∧ GA wr B b gs' ∧ Chg (GT B) W wr ∧ wr.ownsRow W.heap.size 29 1 ov xs.length (natVals outs) ∧
    Blk wr W.heap.size 106 #[.pointer (some ⟨b, 0, none⟩)] ∧ MadeW gs gs' (10 * xs.length * k) outs (fun inp => Wp.mulTo (evs inp gs xs) (evs inp gs ys) k)
/-- one row so far -/
def rowTo (a : List Bool) (c : Bool) (k d n : Nat) : List Bool := List.replicate k false ++ (a.take d).map (· && c) ++ List.replicate (n - k - d) false
def InR (W : World) (B b : Nat) (gs gs1 : List Gm.Gate) (xs : List Nat) (k : Nat) (outv : Value) (outs : List Nat) (base g cr : Nat) (y : Nat) (jv : Value) (wx : World) : Prop :=
  ∃ d j gs2 rl, j = k + d ∧ j ≤ xs.length ∧ jv = .int .i64 (j : Nat) ∧ GA wx B b gs2 ∧ Chg (GT B) W wx ∧ wx.ownsRow W.heap.size 29 1 outv xs.length (natVals outs) ∧ Blk wx W.heap.size 106 #[.pointer (some ⟨b, 0, none⟩)] ∧
    wx.ownsRow base 29 1 (.slice (some ⟨g, 0, none⟩) xs.length cr) xs.length (natVals rl) ∧ MadeW gs1 gs2 d rl (fun inp => rowTo (evs inp gs xs) (Gm.ev inp gs y) k d xs.length)
theorem rowTo_zero (a : List Bool) (c : Bool) {k n : Nat} (hk : k ≤ n) : rowTo a c k 0 n = List.replicate n false := by
  unfold rowTo; simp only [List.take_zero, List.map_nil, List.append_nil, List.replicate_append_replicate, Nat.sub_zero]; congr 1; omega
theorem rowTo_succ {a : List Bool} {c x : Bool} {k d n : Nat} (hx : a[d]? = some x) (hk : k + d < n) : rowTo a c k (d + 1) n = (rowTo a c k d n).set (k + d) (x && c) := by
  have hl : d < a.length := (List.getElem?_eq_some_iff.1 hx).1
  unfold rowTo
  obtain ⟨m, hm⟩ : ∃ m, n - k - d = m + 1 := ⟨n - k - d - 1, by omega⟩
  have hm2 : n - k - (d + 1) = m := by omega
  rw [hm, hm2, Gm.take_one hx, List.map_append, List.replicate_succ, List.set_append, if_neg (by simp; omega)]
  simp only [List.length_append, List.length_replicate, List.length_map, List.length_take, Nat.min_eq_left (Nat.le_of_lt hl), Nat.sub_self, List.set_cons_zero]
  simp
theorem rowTo_all {a : List Bool} {b : List Bool} {k n : Nat} (ha : a.length = n) : rowTo a (b.getD k false) k (n - k) n = Wp.rowB a b k := by
  unfold rowTo Wp.rowB; rw [ha]; simp
theorem evs_set (inp : List Bool) (gs : List Gm.Gate) (l : List Nat) (i y : Nat) : evs inp gs (l.set i y) = (evs inp gs l).set i (Gm.ev inp gs y) := by
  unfold evs; rw [List.map_set]
theorem natVals_inj {a b : List Nat} (h : natVals a = natVals b) : a = b := by
  unfold natVals litVals at h
  rw [List.map_map, List.map_map] at h
  exact List.map_inj_right (fun x y hh => by simp at hh; omega) |>.1 h
/-- one place of a row -/
structure InStep (gs gs1 gs2 : List Gm.Gate) (xs : List Nat) (rl : List Nat) (k d n x y : Nat) (r : List Gm.Gate × Nat) : Prop where
  hx : Gm.has gs2 x
  hy : Gm.has gs2 y
  next : MadeW gs1 r.1 (d + 1) (rl.set (k + d) r.2) (fun inp => rowTo (evs inp gs xs) (Gm.ev inp gs y) k (d + 1) n)
theorem in_step {gs gs1 gs2 : List Gm.Gate} {xs : List Nat} {rl : List Nat} {k d n x y : Nat} (hw : Gm.Wf gs2) (he : Gm.Ext gs gs1) (hs : MadeW gs1 gs2 d rl (fun inp => rowTo (evs inp gs xs) (Gm.ev inp gs y) k d n)) (gx : AllHas gs xs) (hy : Gm.has gs y) (hx : xs[d]? = some x) (hk : k + d < n)
    {r : List Gm.Gate × Nat} (er : r = Gm.andG gs2 x y) : InStep gs gs1 gs2 xs rl k d n x y r := by
  have hx0 := gx x (List.mem_of_getElem? hx)
  have e2 := he.trans hs.ext
  have w1 := fun inp => Gm.comes_and (inp := inp) hw (e2.has hx0) (e2.has hy)
  rw [← er] at w1
  have l1 : r.1.length ≤ gs2.length + 1 := by rw [er]; exact Gm.andG_len ..
  have h2 := hs.step (w1 []).ext l1
  refine ⟨e2.has hx0, e2.has hy, h2.ext, fun z hz => ?_, h2.len, fun inp => ?_⟩
  · rcases List.mem_or_eq_of_mem_set hz with hz | rfl
    · exact h2.all z hz
    · exact (w1 []).has
  · rw [evs_set, h2.eq, (w1 inp).ev, Gm.ev_ext e2 hx0, Gm.ev_ext e2 hy, rowTo_succ (x := Gm.ev inp gs x) (by unfold evs; simp [hx]) hk]
theorem GA.setLit {w : World} {B b g k n c base : Nat} {gs : List Gm.Gate} {xs : List Value} (h : GA w B b gs) (ho : w.ownsRow base 29 1 (.slice (some ⟨g, 0, none⟩) n c) n xs) (u : Value) : GA (w.setCell ⟨g, k, none⟩ u) B b gs := by
  refine h.row ⟨rfl, rfl, rfl, by simp [World.setCell], fun j o hj hn => ?_⟩
  refine (Below.heap_setCell _ _ _ _ (fun e => ?_)).trans hj
  subst e
  rcases ho.2 with ⟨h0, _⟩ | ⟨g', cap, cur, hv, _, hh, _⟩
  · cases h0
  · obtain ⟨rfl, rfl⟩ : _ = g' ∧ c = cap := by simpa using hv
    rw [hh] at hj
    injection hj with hj
    subst hj
    exact hn rfl
end Go.Proofs.YtmbjhpgemphmmaaDoor
namespace Go.Proofs.YtmbjhpgemphmmaaDoor
open Go.RowKit
/-- a store of a literal into a row of the call's own -/
theorem gt_setLit {W w : World} {B base n g c k : Nat} {xs : List Value} (h : Chg (GT B) W w) (ho : w.ownsRow base 29 1 (.slice (some ⟨g, 0, none⟩) n c) n xs) (hb : W.heap.size ≤ base) (u : Value) : Chg (GT B) W (w.setCell ⟨g, k, none⟩ u) := by
  rcases ho.2 with ⟨h0, _⟩ | ⟨g', cap, cur, hv, hbb, hh, _⟩
  · cases h0
  · obtain ⟨rfl, rfl⟩ : g = g' ∧ c = cap := by simpa using hv
    exact h.setCell (.inl (by show W.heap.size ≤ g; omega)) u
attribute [local irreducible] wpSeq
set_option maxRecDepth 100000 in
set_option maxHeartbeats 4000000 in
theorem times_any {w : World} {B b : Nat} {gs : List Gm.Gate} (h : GA w B b gs) {A A2 : Option Addr} {c1 c2 n : Nat} {xs ys : List Nat} (hx : Held w B A n xs) (hy : Held w B A2 n ys) (gx : AllHas gs xs) (gy : AllHas gs ys)
    (hn : gs.length + 10 * n * n ≤ 90000) (hl : n ≤ 90) :
    Calls Tryd.prog 86 #[.agg #[.pointer (some ⟨b, 0, none⟩)], .slice A n c1, .slice A2 n c2] w (WG w B b gs (10 * n * n) n (fun inp => Wp.timesB (evs inp gs xs) (evs inp gs ys))) := by
  obtain rfl := hx.1
  have HG := Lib.hid h
  have HX := Lib.hid hx
  have HY := Lib.hid hy
  have GX := Lib.hid gx
  have GY := Lib.hid gy
  have HN := Lib.hid hn
  clear h hx hy gx gy hn
  go_enter Tryd.func86, Tryd.ntmps86
  go_wp2_with fail
  refine (zero_any xs.length (by omega) _).mono ?_
  rintro e w1 ⟨Ao, co, rfl, ho, hb⟩
  have HO := Lib.hid ho
  have HB := Lib.hid hb
  clear ho hb
  go_wp2_with fail
  go_loopw [7, 16] (fun ov iv wr => TmR w B b gs xs ys ov iv wr) (fun _ iv _ => xs.length - (intOf iv).toNat)
  case atStart =>
    have hb1 : Below w.heap.size w w1 := ((Below.refl _ _).alloc (Nat.le_refl _) _).trans (HB.out.mono (by simp))
    refine ⟨0, gs, List.replicate xs.length 0, Nat.zero_le _, rfl, ⟨Ao, co, rfl⟩, HG.out.new hb1, Chg.of_new hb1, own_base HO.out (by simp), (Blk.new w _ _).below HB.out (by simp), .refl _, allHas_zeros gs _, by omega, fun inp => ?_⟩
    rw [evs_zeros]; unfold Wp.mulTo; rw [evs_length]
  case round =>
    obtain ⟨k, gs1, outs, hk, rfl, ⟨A1, co1, rfl⟩, hg, hch, hown, hbox, hso⟩ := hrel
    by_cases hkl : k < xs.length
    · obtain ⟨y, hyk⟩ : ∃ y, ys[k]? = some y := ⟨_, List.getElem?_eq_getElem (by have := HY.out.1; omega)⟩
      obtain ⟨ad, rfl⟩ := HX.out.form (by omega)
      obtain ⟨ad2, rfl⟩ := HY.out.form (by omega)
      have hyh := GY.out y (List.mem_of_getElem? hyk)
      have HYH := Lib.hid hyh
      have HYK := Lib.hid hyk
      have hl1 : gs1.length ≤ gs.length + 10 * xs.length * k := hso.len
      have hk10 : 10 * xs.length * k + 10 * xs.length ≤ 10 * xs.length * xs.length := by
        have := Nat.mul_le_mul_left (10 * xs.length) (show k + 1 ≤ xs.length by omega)
        rw [Nat.mul_add, Nat.mul_one] at this; exact this
      have HL1 := Lib.hid (And.intro hl1 hk10)
      obtain ⟨wo, rfl⟩ : ∃ wo : World, wo = wr := ⟨_, rfl⟩
      have HG1 := Lib.hid hg
      have HCH := Lib.hid hch
      have HO1 := Lib.hid hown
      have HBX := Lib.hid hbox
      have HSO := Lib.hid hso
      clear hyh hyk hl1 hk10 hg hch hown hbox hso
      go_wp2_with fail
      refine (zero_any xs.length (by omega) _).mono ?_
      rintro e w2 ⟨A2r, cr, rfl, ho, hb⟩
      obtain ⟨g, rfl, hgb, hgl⟩ := own_some ho (by omega)
      have HOR := Lib.hid ho
      have HB2 := Lib.hid hb
      clear ho hb
      go_wp2_with fail
      go_loopw [10] (fun jv wx => InR w B b gs gs1 xs k (.slice A1 xs.length co1) outs wo.heap.size g cr y jv wx) (fun jv _ => xs.length - (intOf jv).toNat)
      case atStart =>
        refine ⟨0, k, gs1, List.replicate xs.length 0, by omega, hk, rfl, HG1.out.new HB2.out, HCH.out.trans (.of_new HB2.out), own_chg (S := fun _ _ => False) HO1.out (Chg.of_new HB2.out) (fun _ _ _ _ hs => hs), HBX.out.below HB2.out HBX.out.lt, HOR.out, .refl _, allHas_zeros gs1 _, by omega, fun inp => ?_⟩
        rw [evs_zeros, rowTo_zero _ _ hk]
      case round =>
        obtain ⟨d, j, gs2, rl, hj, hjn, rfl, hg, hch, hown, hbox, hor, hso⟩ := hrel
        by_cases hjl : j < xs.length
        · obtain ⟨x, hxk⟩ : ∃ x, xs[d]? = some x := ⟨_, List.getElem?_eq_getElem (by omega)⟩
          obtain ⟨r, er⟩ : ∃ r, r = Gm.andG gs2 x y := ⟨_, rfl⟩
          have HST := Lib.hid (in_step hg.wf HSO.out.ext hso GX.out HYH.out hxk (by omega) er)
          have HS := Lib.hid (show ∀ w', Chg (GT B) w w' → Blk w' w.heap.size 106 #[.pointer (some ⟨b, 0, none⟩)] → w'.cell? ⟨w.heap.size, 0, none⟩ = some (.pointer (some ⟨b, 0, none⟩)) ∧ w'.cell? (ad.add d) = some (.int .i64 (x : Nat)) ∧ w'.cell? (ad2.add k) = some (.int .i64 (y : Nat)) from
            fun w' hc hb => ⟨hb.cell 0, (HX.out.gt hc).at_ hxk, (HY.out.gt hc).at_ HYK.out⟩)
          have hsub : (j : Int) - (k : Int) = (d : Int) := by omega
          have hsubw : IntKind.i64.wrap (j - k : Int) = (d : Int) := by rw [hsub]; exact wrap_in (by omega) (by omega)
          have hd0 : d < xs.length := by omega
          have hl2 : gs2.length ≤ gs1.length + d := hso.len
          have HL2 := Lib.hid (show gs2.length < 99999 by have := HN.out; have := HL1.out.1; have := HL1.out.2; omega)
          obtain ⟨W2, hW2⟩ : ∃ W2, W2 = wr.drew := ⟨_, rfl⟩
          have hc2 : Chg (GT B) w W2 := by rw [hW2]; exact hch.drew
          have hbx2 : Blk W2 w.heap.size 106 #[.pointer (some ⟨b, 0, none⟩)] := by rw [hW2]; exact hbox
          have C1 := mkr_and (show GA W2 B b gs2 by rw [hW2]; exact hg.drewN 1) HL2.out HST.out.hx HST.out.hy
          rw [← er] at C1
          have C1 := Lib.hid C1
          have HJ := Lib.hid hj
          have HC2 := Lib.hid hc2
          have HBX2 := Lib.hid hbx2
          have HO2 := Lib.hid (show W2.ownsRow w.heap.size 29 1 (.slice A1 xs.length co1) xs.length (natVals outs) by rw [hW2]; exact hown)
          have HR2 := Lib.hid (show W2.ownsRow wo.heap.size 29 1 (.slice (some ⟨g, 0, none⟩) xs.length cr) xs.length (natVals rl) by rw [hW2]; exact hor)
          have HS2 := Lib.hid (HS.out _ hc2 hbx2)
          have HW2 := Lib.hid hW2
          clear hxk er hW2 hc2 hbx2 hg hch hown hbox hso hor hl2 hj hsub
          go_wp2_with fail
          refine wp_region_seq (S := fun w' => w'.cell? ⟨w.heap.size, 0, none⟩ = some (.pointer (some ⟨b, 0, none⟩)) ∧ w'.cell? (ad.add d) = some (.int .i64 (x : Nat)) ∧ w'.cell? (ad2.add k) = some (.int .i64 (y : Nat))) [(0, false), (1, false), (2, false), (3, false), (4, false), (5, false), (6, false), (7, false), (8, false), (9, false), (10, false), (11, false), (12, false), (13, true), (14, false), (15, true)] (by kernel_rfl) (by kernel_rfl) (by kernel_rfl) (by rw [← HW2.out]; exact HS2.out) ?_
          rw [← HW2.out]
          iterate 13 (refine seq_take _ _ rfl (by kernel_rfl) (fun wv hv => by obtain ⟨hv1, hv2, hv3⟩ := hv; go_simp; try with_reducible rfl) ?_; simp only [Act.put, List.getElem_toArray, List.getElem_cons_zero, List.getElem_cons_succ, List.setIfInBounds_toArray, List.set_cons_zero, List.set_cons_succ])
          refine seq_act _ rfl (fun K hK => ?_)
          go_simp
          refine C1.out.mono ?_
          rintro e w3 ⟨rfl, h1, h2⟩
          have HG3 := Lib.hid h1
          have HC3 := Lib.hid (HC2.out.trans h2)
          have HBX3 := Lib.hid (box_gt HBX2.out h2)
          have HO3 := Lib.hid (own_gt HO2.out h2)
          have hr3 := own_gt HR2.out h2
          have HR3 := Lib.hid hr3
          obtain ⟨u, _, cg⟩ := own_cell (k := j) hr3 hjl
          have cf := own_unfrozen (k := j) hr3
          clear h1 h2 hr3
          go_simp
          refine hK _ _ (HS.out _ HC3.out HBX3.out) ?_
          clear hK K
          iterate 1 (refine seq_take _ _ rfl (by kernel_rfl) (fun wv hv => by go_simp; try with_reducible rfl) ?_; simp only [Act.put, List.getElem_toArray, List.getElem_cons_zero, List.getElem_cons_succ, List.setIfInBounds_toArray, List.set_cons_zero, List.set_cons_succ])
          have HC4 := Lib.hid (gt_setLit (k := j) HC3.out HR3.out HCH.out.size (.int .i64 (r.2 : Nat)))
          have HBX4 := Lib.hid (HBX3.out.far (p := ⟨g, j, none⟩) (by show w.heap.size ≠ g; exact fun e => own_blk_ne HR3.out HBX3.out (by decide) (by simp [Value.ownBlock, e])) (.int .i64 (r.2 : Nat)))
          refine seq_act _ rfl (fun K hK => ?_)
          go_simp
          refine hK _ _ (HS.out _ HC4.out HBX4.out) ?_
          clear hK K
          try simp only [Act.put, List.getElem_toArray, List.getElem_cons_zero, List.getElem_cons_succ, List.setIfInBounds_toArray, List.set_cons_zero, List.set_cons_succ]
          refine seq_nil ?_
          go_wp2_with fail
          go_roundw
          case rel =>
            refine ⟨d + 1, j + 1, r.1, rl.set (k + d) r.2, by have := HJ.out; omega, by omega, by go_num, HG3.out.setLit HR3.out _, HC4.out, ?_, HBX4.out, ?_, HST.out.next⟩
            · exact own_far HO3.out _ (own_ne HR3.out fun k' e => (HO1.out.lt k' e).2)
            · rw [← HJ.out, natVals_set]; exact own_set HR3.out _
          case measure => simp [intOf]; omega
        · obtain rfl : j = xs.length := by omega
          have hd : d = xs.length - k := by omega
          subst hd
          have HM := Lib.hid (show MadeW gs1 gs2 xs.length rl (fun inp => Wp.rowB (evs inp gs xs) (evs inp gs ys) k) from hso.to (by omega) fun inp => by
            rw [← rowTo_all (b := evs inp gs ys) (evs_length inp gs xs)]
            congr 1
            have : (evs inp gs ys)[k]? = some (Gm.ev inp gs y) := by unfold evs; simp [HYK.out]
            simp [List.getD, this])
          have hGX := HSO.out.ext.trans HM.out.ext
          have HLC := Lib.hid (show gs2.length + 9 * xs.length ≤ 99000 by have := HM.out.len; have := HN.out; have := HL1.out.1; have := HL1.out.2; omega)
          have HGX := Lib.hid hg
          have HCX := Lib.hid hch
          have HOX := Lib.hid hown
          have hbx := hbox.cell 0
          have HBXX := Lib.hid hbox
          have HRX := Lib.hid hor
          clear hg hch hown hbox hso hor hj hGX
          go_wp2_with fail
          refine (sum_wl HGX.out (Held.of_own (B := B) HOX.out) (Held.of_own (B := B) HRX.out) (HSO.out.all.ext HM.out.ext) HM.out.all (has_zero gs2) HLC.out (by omega)).mono ?_
          rintro e w5 ⟨A5, c5, gs3, outs3, last, rfl, h1, h2, h3, h4, h5⟩
          have HG5 := Lib.hid h1
          have HC5 := Lib.hid (HCX.out.trans h2)
          have HO5 := Lib.hid h3
          have HM5 := Lib.hid h4
          have HBX5 := Lib.hid (box_gt HBXX.out h2)
          have hs5 := HCX.out.size
          clear h1 h2 h3 h4 h5 hbx
          go_wp2_with fail
          go_roundw
          case rel =>
            refine ⟨k + 1, gs3, outs3, by omega, by go_num, ⟨A5, c5, rfl⟩, HG5.out, HC5.out, own_base HO5.out hs5, HBX5.out, (HSO.out.ext.trans HM.out.ext).trans HM5.out.ext, HM5.out.all, ?_, fun inp => ?_⟩
            · have h1 := HM5.out.len; have h2 := HM.out.len; have h3 := HSO.out.len
              rw [Nat.mul_add, Nat.mul_one]; omega
            · rw [HM5.out.eq, Gm.ev_zero, evs_ext HSO.out.all HM.out.ext, HSO.out.eq, HM.out.eq]; rfl
          case measure => simp [intOf]; omega
    · obtain rfl : k = xs.length := by omega
      have HG1 := Lib.hid hg
      have HCH := Lib.hid hch
      have HO1 := Lib.hid hown
      have HSO := Lib.hid hso
      clear hg hch hown hbox hso
      go_wp2
      go_ret
      refine ⟨A1, co1, gs1, outs, rfl, HG1.out, HCH.out, HO1.out, HSO.out.to (Nat.le_refl _) fun inp => ?_⟩
      unfold Wp.timesB; rw [evs_length]
end Go.Proofs.YtmbjhpgemphmmaaDoor
