/-
  WALKS of package word: zero, neg, minus.
  WALKS of package word: minus, word.
  WALKS of package word: same, times.
  WALKS of package word: times.
  WALKS of package word: less.
-/
import Derived.Test.YtmbjhpgemphmmaaDoorYc
import Derived.Test.YtmbjhpgemphmmaaDoorYp
namespace Go.Proofs.YtmbjhpgemphmmaaDoor
open Go.RowKit

/-- literals that were made: what they come to -/
structure MadeW (gs gs' : List Gm.Gate) (k : Nat) (outs : List Nat) (f : List Bool → List Bool) : Prop where
  ext : Gm.Ext gs gs'
  all : AllHas gs' outs
  len : gs'.length ≤ gs.length + k
  eq : ∀ inp, evs inp gs' outs = f inp
/-- one literal that was made -/
structure MadeL (gs gs' : List Gm.Gate) (k : Nat) (out : Nat) (f : List Bool → Bool) : Prop where
  ext : Gm.Ext gs gs'
  has : Gm.has gs' out
  len : gs'.length ≤ gs.length + k
  eq : ∀ inp, Gm.ev inp gs' out = f inp
/-- a word of a maker's -/
def WG (w : World) (B b : Nat) (gs : List Gm.Gate) (k n : Nat) (f : List Bool → List Bool) (e : Ending) (w' : World) : Prop :=
  ∃ A c gs' outs, e = .returned (.slice A n c) ∧ GA w' B b gs' ∧ Chg (GT B) w w' ∧ w'.ownsRow w.heap.size 29 1 (.slice A n c) n (natVals outs) ∧ MadeW gs gs' k outs f
/-- a word and a literal -/
def WL (w : World) (B b : Nat) (gs : List Gm.Gate) (k n : Nat) (f : List Bool → List Bool) (g : List Bool → Bool) (e : Ending) (w' : World) : Prop :=
  ∃ A c gs' outs last, e = .returned (.tuple #[.slice A n c, .int .i64 (last : Nat)]) ∧ GA w' B b gs' ∧ Chg (GT B) w w' ∧ w'.ownsRow w.heap.size 29 1 (.slice A n c) n (natVals outs) ∧ MadeW gs gs' k outs f ∧ MadeL gs gs' k last g
/-- a literal of a maker's -/
def LG (w : World) (B b : Nat) (gs : List Gm.Gate) (k : Nat) (f : List Bool → Bool) (e : Ending) (w' : World) : Prop :=
  ∃ gs' out, e = .returned (.int .i64 (out : Nat)) ∧ GA w' B b gs' ∧ Chg (GT B) w w' ∧ MadeL gs gs' k out f
theorem natVals_len_own {w : World} {base n : Nat} {v : Value} {outs : List Nat} (h : w.ownsRow base 29 1 v n (natVals outs)) : outs.length = n := by
  have := h.1; rw [natVals_length] at this; omega
theorem evs_not (inp : List Bool) (gs : List Gm.Gate) (l : List Nat) : evs inp gs (l.map Gm.notL) = (evs inp gs l).map (!·) := by
  unfold evs; rw [List.map_map, List.map_map]; exact List.map_congr_left fun x _ => Gm.ev_not inp gs x
theorem evs_zeros (inp : List Bool) (gs : List Gm.Gate) (n : Nat) : evs inp gs (List.replicate n 0) = List.replicate n false := by
  unfold evs; rw [List.map_replicate, Gm.ev_zero]
theorem allHas_not {gs : List Gm.Gate} {l : List Nat} (h : AllHas gs l) : AllHas gs (l.map Gm.notL) := fun x hx => by
  obtain ⟨y, hy, rfl⟩ := List.mem_map.1 hx; exact Gm.has_not (h y hy)
theorem has_zero (gs : List Gm.Gate) : Gm.has gs 0 := by unfold Gm.has; omega
theorem has_one (gs : List Gm.Gate) : Gm.has gs 1 := by unfold Gm.has; omega
theorem allHas_zeros (gs : List Gm.Gate) (n : Nat) : AllHas gs (List.replicate n 0) := fun x hx => by rw [List.eq_of_mem_replicate hx]; exact has_zero gs
theorem allHas_small {gs : List Gm.Gate} {l : List Nat} (h : AllHas gs l) (hn : gs.length ≤ 100000) : ∀ x ∈ l, x ≤ 1000000 := fun x hx => by
  have := h x hx; unfold Gm.has at this; omega
/-- a sum as a word and a literal -/
theorem sum_wl {w : World} {B b : Nat} {gs : List Gm.Gate} (h : GA w B b gs) {A A2 : Option Addr} {c1 c2 n : Nat} {xs ys : List Nat} (hx : Held w B A n xs) (hy : Held w B A2 n ys) (gx : AllHas gs xs) (gy : AllHas gs ys) {c : Nat} (hc : Gm.has gs c)
    (hn : gs.length + 9 * n ≤ 99000) (hl : n ≤ 1000) :
    Calls Tryd.prog 78 #[.agg #[.pointer (some ⟨b, 0, none⟩)], .slice A n c1, .slice A2 n c2, .int .i64 (c : Nat)] w
      (WL w B b gs (9 * n) n (fun inp => Wp.sums (evs inp gs xs) (evs inp gs ys) (Gm.ev inp gs c)) (fun inp => Wp.carry (evs inp gs xs) (evs inp gs ys) (Gm.ev inp gs c))) := by
  obtain rfl := hx.1
  refine (sum_any (c1 := c1) (c2 := c2) h hx hy gx gy hc hn hl).mono ?_
  rintro e w' ⟨A', k, gs', outs, last, rfl, h1, h2, h3, h4⟩
  exact ⟨A', k, gs', outs, last, rfl, h1, h2, h3, ⟨h4.ext, h4.outs_, h4.len, fun inp => (h4.eq inp).1⟩, ⟨h4.ext, h4.last_, h4.len, fun inp => (h4.eq inp).2⟩⟩
set_option maxRecDepth 100000 in
theorem run_make_lits (n : Nat) (hn : n ≤ 1000000) (w : World) : (Instr.makeSlice 28 (.int .i64 (n : Int)) (.int .i64 (n : Int))).run Tryd.prog w =
    .ok (.slice (some ⟨w.heap.size, 0, none⟩) n n) (w.alloc (.cells (natVals (List.replicate n 0)).toArray 29)) := by
  obtain ⟨i0, hi, hz0, hz1, hz2⟩ := info_parts infoLit_
  have h := run_make_rowN (P := Tryd.prog) 28 29 i0 (.int .i64 0) Tryd.underlying28 hi hz0 .i64 .i64 n n (Nat.le_refl _) (by rw [hz2]; omega) (by omega) w
  rw [h]
  congr 3
  rw [hz1, Nat.mul_one]
  have e := toList_madeCells_one (.int .i64 0) n
  have e2 : natVals (List.replicate n 0) = List.replicate n (Value.int .i64 0) := by unfold natVals litVals; simp
  rw [e2, ← e]; rfl
set_option maxHeartbeats 400000 in
theorem zero_any (n : Nat) (hn : n ≤ 1000) (w : World) : Calls Tryd.prog 79 #[.int .i64 (n : Int)] w (WPost w n (List.replicate n 0)) := by
  have hmk := run_make_lits n (by omega) w
  go_enter Tryd.func79, Tryd.ntmps79
  go_wp2
  go_ret
  exact ⟨_, _, rfl, own_full (Nat.le_refl _) (by rw [natVals_length]; simp) (by omega), (Below.refl _ _).alloc (Nat.le_refl _) _⟩
attribute [local irreducible] wpSeq
set_option maxRecDepth 100000 in
set_option maxHeartbeats 1000000 in
theorem neg_any {w : World} {B b : Nat} {gs : List Gm.Gate} (h : GA w B b gs) {A : Option Addr} {c n : Nat} {xs : List Nat} (hx : Held w B A n xs) (gx : AllHas gs xs) (hn : gs.length + 9 * n ≤ 99000) (hl : n ≤ 1000) :
    Calls Tryd.prog 44 #[.agg #[.pointer (some ⟨b, 0, none⟩)], .slice A n c] w (WG w B b gs (9 * n) n (fun inp => Wp.negB (evs inp gs xs))) := by
  obtain ⟨W2, hW2⟩ : ∃ W2, W2 = (w.alloc (.cells #[.pointer (some ⟨b, 0, none⟩)] 106)).drew := ⟨_, rfl⟩
  have hb2 : Below w.heap.size w W2 := by rw [hW2]; exact below_drewN ((Below.refl _ _).alloc (Nat.le_refl _) _) 1
  have bx2 : Blk W2 w.heap.size 106 #[.pointer (some ⟨b, 0, none⟩)] := by rw [hW2]; exact Blk.new w _ _
  have C1 := Lib.hid (turned_any (c := c) (hx.new hb2) (allHas_small gx (by omega)) hl)
  have HG := Lib.hid (h.new hb2)
  have HB2 := Lib.hid hb2
  have HBX := Lib.hid bx2
  have HXL := Lib.hid hx.1
  have HGX := Lib.hid gx
  have HN := Lib.hid hn
  have HW2 := Lib.hid hW2
  have HS := Lib.hid (bx2.cell 0)
  clear h hx gx hn hW2 hb2 bx2
  go_enter Tryd.func44, Tryd.ntmps44
  go_wp2_with fail
  refine wp_region_seq (S := fun w' => w'.cell? ⟨w.heap.size, 0, none⟩ = some (.pointer (some ⟨b, 0, none⟩))) [(0, false), (1, false), (3, false), (4, false), (2, true), (5, true), (6, true), (7, false), (8, false), (9, false), (10, false), (11, false)] (by kernel_rfl) (by kernel_rfl) (by kernel_rfl) (by rw [← HW2.out]; exact HS.out) ?_
  rw [← HW2.out]
  iterate 4 (refine seq_take _ _ rfl (by kernel_rfl) (fun wv hv => by have hv1 := hv; clear hv; go_simp; try with_reducible rfl) ?_; simp only [Act.put, List.getElem_toArray, List.getElem_cons_zero, List.getElem_cons_succ, List.setIfInBounds_toArray, List.set_cons_zero, List.set_cons_succ])
  refine seq_act _ rfl (fun K hK => ?_)
  go_simp
  refine C1.out.mono ?_
  rintro e w3 ⟨A3, c3, rfl, ho, hb⟩
  have HO3 := Lib.hid ho
  have HB3 := Lib.hid hb
  have hbx3 := HBX.out.below hb HBX.out.lt
  have HBX3 := Lib.hid hbx3
  clear ho hb hbx3
  go_simp
  refine hK _ _ (HBX3.out.cell 0) ?_
  clear hK K
  refine seq_act _ rfl (fun K hK => ?_)
  go_simp
  refine (zero_any n hl _).mono ?_
  rintro e w4 ⟨A4, c4, rfl, ho, hb⟩
  have HO4 := Lib.hid ho
  have hb4 : Below W2.heap.size W2 w4 := HB3.out.trans (hb.mono HB3.out.size)
  have HB4 := Lib.hid hb4
  have HBX4 := Lib.hid (HBX3.out.below hb HBX3.out.lt)
  have HH3 := Lib.hid ((Held.of_own (B := B) HO3.out).new hb)
  clear ho hb hb4
  go_simp
  refine hK _ _ (HBX4.out.cell 0) ?_
  clear hK K
  refine seq_act _ rfl (fun K hK => ?_)
  go_simp
  refine (sum_wl (HG.out.new HB4.out) HH3.out (Held.of_own (B := B) HO4.out) (allHas_not HGX.out) (allHas_zeros gs n) (has_one gs) HN.out hl).mono ?_
  rintro e w5 ⟨A5, c5, gs', outs, last, rfl, h1, h2, h3, h4, h5⟩
  have HG5 := Lib.hid h1
  have HC5 := Lib.hid h2
  have HO5 := Lib.hid h3
  have HM5 := Lib.hid h4
  clear h1 h2 h3 h4 h5
  go_simp
  refine hK _ _ ((box_gt HBX4.out HC5.out).cell 0) ?_
  clear hK K
  iterate 5 (refine seq_take _ _ rfl (by kernel_rfl) (fun wv hv => by go_simp; try with_reducible rfl) ?_; simp only [Act.put, List.getElem_toArray, List.getElem_cons_zero, List.getElem_cons_succ, List.setIfInBounds_toArray, List.set_cons_zero, List.set_cons_succ])
  refine seq_nil ?_
  go_wp2
  go_ret
  have hb4 : Below w.heap.size w w4 := HB2.out.trans (HB4.out.mono HB2.out.size)
  refine ⟨A5, c5, gs', outs, rfl, HG5.out, (Chg.of_new hb4).trans HC5.out, own_base HO5.out hb4.size, HM5.out.ext, HM5.out.all, HM5.out.len, fun inp => ?_⟩
  rw [HM5.out.eq inp, evs_not, evs_zeros, Gm.ev_one]
  unfold Wp.negB
  rw [evs_length, HXL.out]
end Go.Proofs.YtmbjhpgemphmmaaDoor
namespace Go.Proofs.YtmbjhpgemphmmaaDoor
open Go.RowKit

theorem Held.form {w : World} {B n : Nat} {A : Option Addr} {xs : List Nat} (h : Held w B A n xs) (hn : 0 < n) : ∃ ad, A = some ad := by
  obtain ⟨ad, _, hA, _⟩ := h.2 hn; exact ⟨ad, hA⟩
theorem Held.at_ {w : World} {B n k x : Nat} {ad : Addr} {xs : List Nat} (h : Held w B (some ad) n xs) (hx : xs[k]? = some x) : w.cell? (ad.add k) = some (.int .i64 (x : Nat)) := by
  have hk := (List.getElem?_eq_some_iff.1 hx).1
  obtain ⟨ad', _, hA, _, _, hc⟩ := h.2 (by have := h.1; omega)
  obtain rfl : ad = ad' := by injection hA
  exact hc k x hx
theorem MadeW.step {gs gs1 gs2 : List Gm.Gate} {k j : Nat} {outs : List Nat} {f : List Bool → List Bool} (h : MadeW gs gs1 k outs f) (he : Gm.Ext gs1 gs2) (hl : gs2.length ≤ gs1.length + j) : MadeW gs gs2 (k + j) outs f :=
  ⟨h.ext.trans he, h.all.ext he, by have := h.len; omega, fun inp => by rw [evs_ext h.all he, h.eq]⟩
theorem MadeW.snoc {gs gs1 gs2 : List Gm.Gate} {k j y : Nat} {outs : List Nat} {f : List Bool → List Bool} {g : List Bool → Bool} (h : MadeW gs gs1 k outs f) (he : Gm.Ext gs1 gs2) (hl : gs2.length ≤ gs1.length + j) (hy : Gm.has gs2 y) (hv : ∀ inp, Gm.ev inp gs2 y = g inp) :
    MadeW gs gs2 (k + j) (outs ++ [y]) (fun inp => f inp ++ [g inp]) := by
  have h2 := h.step he hl
  refine ⟨h2.ext, fun z hz => ?_, h2.len, fun inp => ?_⟩
  · rcases List.mem_append.1 hz with hz | hz
    · exact h2.all z hz
    · rw [List.mem_singleton.1 hz]; exact hy
  · have := h2.eq inp
    unfold evs at this ⊢
    rw [List.map_append, this]
    simp [hv]
theorem MadeW.to {gs gs1 : List Gm.Gate} {k k' : Nat} {outs : List Nat} {f f' : List Bool → List Bool} (h : MadeW gs gs1 k outs f) (hk : k ≤ k') (hf : ∀ inp, f inp = f' inp) : MadeW gs gs1 k' outs f' :=
  ⟨h.ext, h.all, by have := h.len; omega, fun inp => by rw [h.eq, hf]⟩
theorem MadeL.to {gs gs1 : List Gm.Gate} {k k' : Nat} {out : Nat} {f f' : List Bool → Bool} (h : MadeL gs gs1 k out f) (hk : k ≤ k') (hf : ∀ inp, f inp = f' inp) : MadeL gs gs1 k' out f' :=
  ⟨h.ext, h.has, by have := h.len; omega, fun inp => by rw [h.eq, hf]⟩
theorem MadeL.step {gs gs1 gs2 : List Gm.Gate} {k j : Nat} {out : Nat} {f : List Bool → Bool} (h : MadeL gs gs1 k out f) (he : Gm.Ext gs1 gs2) (hl : gs2.length ≤ gs1.length + j) : MadeL gs gs2 (k + j) out f :=
  ⟨h.ext.trans he, he.has h.has, by have := h.len; omega, fun inp => by rw [Gm.ev_ext he h.has, h.eq]⟩
theorem madeL_if {gs gs1 : List Gm.Gate} {c x y : Nat} (hw : Gm.Wf gs1) (he : Gm.Ext gs gs1) (hc : Gm.has gs c) (hx : Gm.has gs x) (hy : Gm.has gs y) :
    MadeL gs1 (Gm.ifG gs1 c x y).1 3 (Gm.ifG gs1 c x y).2 (fun inp => if Gm.ev inp gs c then Gm.ev inp gs x else Gm.ev inp gs y) := by
  have h := fun inp => Gm.comes_if (inp := inp) hw (he.has hc) (he.has hx) (he.has hy)
  refine ⟨(h []).ext, (h []).has, Gm.orOf_len .., fun inp => ?_⟩
  rw [(h inp).ev, Gm.ev_ext he hc, Gm.ev_ext he hx, Gm.ev_ext he hy]
theorem evs_snoc {inp : List Bool} {gs : List Gm.Gate} {xs : List Nat} {k x : Nat} (hx : xs[k]? = some x) : evs inp gs (xs.take (k + 1)) = evs inp gs (xs.take k) ++ [Gm.ev inp gs x] := by
  rw [Gm.take_one hx]; unfold evs; simp
theorem Wp.pickB_snoc (c : Bool) (a b : List Bool) (x y : Bool) : Wp.pickB c (a ++ [x]) (b ++ [y]) = Wp.pickB c a b ++ [if c then x else y] := by
  unfold Wp.pickB; cases c <;> rfl
attribute [local irreducible] wpSeq
set_option maxRecDepth 100000 in
set_option maxHeartbeats 1000000 in
theorem minus_any {w : World} {B b : Nat} {gs : List Gm.Gate} (h : GA w B b gs) {A A2 : Option Addr} {c c2 n : Nat} {xs ys : List Nat} (hx : Held w B A n xs) (hy : Held w B A2 n ys) (gx : AllHas gs xs) (gy : AllHas gs ys) (hn : gs.length + 9 * n ≤ 99000) (hl : n ≤ 1000) :
    Calls Tryd.prog 85 #[.agg #[.pointer (some ⟨b, 0, none⟩)], .slice A n c, .slice A2 n c2] w (WL w B b gs (9 * n) n (fun inp => Wp.minusB (evs inp gs xs) (evs inp gs ys)) (fun inp => Wp.geB (evs inp gs xs) (evs inp gs ys))) := by
  obtain ⟨W2, hW2⟩ : ∃ W2, W2 = (w.alloc (.cells #[.pointer (some ⟨b, 0, none⟩)] 106)).drew := ⟨_, rfl⟩
  have hb2 : Below w.heap.size w W2 := by rw [hW2]; exact below_drewN ((Below.refl _ _).alloc (Nat.le_refl _) _) 1
  have bx2 : Blk W2 w.heap.size 106 #[.pointer (some ⟨b, 0, none⟩)] := by rw [hW2]; exact Blk.new w _ _
  have C1 := Lib.hid (turned_any (c := c2) (hy.new hb2) (allHas_small gy (by omega)) hl)
  have HX := Lib.hid (hx.new hb2)
  have HG := Lib.hid (h.new hb2)
  have HB2 := Lib.hid hb2
  have HBX := Lib.hid bx2
  have HGX := Lib.hid gx
  have HGY := Lib.hid gy
  have HN := Lib.hid hn
  have HW2 := Lib.hid hW2
  have HS := Lib.hid (bx2.cell 0)
  clear h hx hy gx gy hn hW2 hb2 bx2
  go_enter Tryd.func85, Tryd.ntmps85
  go_wp2_with fail
  refine wp_region_seq (S := fun w' => w'.cell? ⟨w.heap.size, 0, none⟩ = some (.pointer (some ⟨b, 0, none⟩))) [(0, false), (1, false), (2, false), (3, true), (4, true), (5, false), (6, false), (7, false), (8, false)] (by kernel_rfl) (by kernel_rfl) (by kernel_rfl) (by rw [← HW2.out]; exact HS.out) ?_
  rw [← HW2.out]
  iterate 3 (refine seq_take _ _ rfl (by kernel_rfl) (fun wv hv => by have hv1 := hv; clear hv; go_simp; try with_reducible rfl) ?_; simp only [Act.put, List.getElem_toArray, List.getElem_cons_zero, List.getElem_cons_succ, List.setIfInBounds_toArray, List.set_cons_zero, List.set_cons_succ])
  refine seq_act _ rfl (fun K hK => ?_)
  go_simp
  refine C1.out.mono ?_
  rintro e w3 ⟨A3, c3, rfl, ho, hb⟩
  have HO3 := Lib.hid ho
  have HB3 := Lib.hid hb
  have HBX3 := Lib.hid (HBX.out.below hb HBX.out.lt)
  clear ho hb
  go_simp
  refine hK _ _ (HBX3.out.cell 0) ?_
  clear hK K
  refine seq_act _ rfl (fun K hK => ?_)
  go_simp
  refine (sum_wl (HG.out.new HB3.out) (HX.out.new HB3.out) (Held.of_own (B := B) HO3.out) HGX.out (allHas_not HGY.out) (has_one gs) HN.out hl).mono ?_
  rintro e w5 ⟨A5, c5, gs', outs, last, rfl, h1, h2, h3, h4, h5⟩
  have HG5 := Lib.hid h1
  have HC5 := Lib.hid h2
  have HO5 := Lib.hid h3
  have HM5 := Lib.hid h4
  have HM6 := Lib.hid h5
  clear h1 h2 h3 h4 h5
  go_simp
  refine hK _ _ ((box_gt HBX3.out HC5.out).cell 0) ?_
  clear hK K
  iterate 4 (refine seq_take _ _ rfl (by kernel_rfl) (fun wv hv => by go_simp; try with_reducible rfl) ?_; simp only [Act.put, List.getElem_toArray, List.getElem_cons_zero, List.getElem_cons_succ, List.setIfInBounds_toArray, List.set_cons_zero, List.set_cons_succ])
  refine seq_nil ?_
  go_wp2
  go_ret2
  have hb4 : Below w.heap.size w w3 := HB2.out.trans (HB3.out.mono HB2.out.size)
  have hf : ∀ inp, evs inp gs (ys.map Gm.notL) = (evs inp gs ys).map (!·) := fun inp => evs_not inp gs ys
  refine ⟨A5, c5, gs', outs, last, rfl, HG5.out, (Chg.of_new hb4).trans HC5.out, own_base HO5.out hb4.size, HM5.out.to (Nat.le_refl _) fun inp => ?_, HM6.out.to (Nat.le_refl _) fun inp => ?_⟩
  · rw [hf, Gm.ev_one]; rfl
  · rw [hf, Gm.ev_one]; rfl
def WRel (W : World) (B b : Nat) (gs : List Gm.Gate) (c : Nat) (xs ys : List Nat) (ov iv : Value) (wr : World) : Prop :=
  ∃ k gs' outs, k ≤ xs.length ∧ iv = .int .i64 (k : Nat) ∧ (∃ A cp, ov = .slice A k cp) ∧ GA wr B b gs' ∧ Chg (GT B) W wr ∧ wr.ownsRow W.heap.size 29 1 ov k (natVals outs) ∧
    Blk wr W.heap.size 106 #[.pointer (some ⟨b, 0, none⟩)] ∧ MadeW gs gs' (3 * k) outs (fun inp => Wp.pickB (Gm.ev inp gs c) (evs inp gs (xs.take k)) (evs inp gs (ys.take k)))
set_option maxRecDepth 100000 in
set_option maxHeartbeats 2000000 in
theorem word_any {w : World} {B b : Nat} {gs : List Gm.Gate} (h : GA w B b gs) {c : Nat} (hc : Gm.has gs c) {A A2 : Option Addr} {c1 c2 n : Nat} {xs ys : List Nat} (hx : Held w B A n xs) (hy : Held w B A2 n ys) (gx : AllHas gs xs) (gy : AllHas gs ys)
    (hn : gs.length + 3 * n ≤ 99000) (hl : n ≤ 1000) :
    Calls Tryd.prog 45 #[.agg #[.pointer (some ⟨b, 0, none⟩)], .int .i64 (c : Nat), .slice A n c1, .slice A2 n c2] w (WG w B b gs (3 * n) n (fun inp => Wp.pickB (Gm.ev inp gs c) (evs inp gs xs) (evs inp gs ys))) := by
  obtain ⟨i0, hi0, hz0, hz1, hz2⟩ := info_parts infoLit_
  have HIN := Lib.hid (show _ ∧ _ ∧ _ ∧ _ from ⟨hi0, hz0, hz1, hz2⟩)
  obtain rfl := hx.1
  have HG := Lib.hid h
  have HX := Lib.hid hx
  have HY := Lib.hid hy
  have GX := Lib.hid gx
  have GY := Lib.hid gy
  have HC := Lib.hid hc
  have HN := Lib.hid hn
  clear h hx hy gx gy hc hn hi0 hz0 hz1 hz2
  go_enter Tryd.func45, Tryd.ntmps45
  go_wp2_with fail
  go_loopw [9, 13] (fun ov iv wr => WRel w B b gs c xs ys ov iv wr) (fun _ iv _ => xs.length - (intOf iv).toNat)
  case atStart =>
    refine ⟨0, gs, [], Nat.zero_le _, rfl, ⟨none, 0, rfl⟩, HG.out.new ((Below.refl _ _).alloc (Nat.le_refl _) _), (Chg.refl _ _).alloc _, World.ownsRow_nil _ _ _ _, Blk.new w _ _, .refl _, (fun x hx => by cases hx), by simp, fun inp => ?_⟩
    unfold Wp.pickB evs; split <;> rfl
  case round =>
    obtain ⟨k, gs1, outs, hk, rfl, ⟨Ao, co, rfl⟩, hg, hch, hown, hbox, hso⟩ := hrel
    by_cases hkl : k < xs.length
    · obtain ⟨x, hxk⟩ : ∃ x, xs[k]? = some x := ⟨_, List.getElem?_eq_getElem hkl⟩
      obtain ⟨y, hyk⟩ : ∃ y, ys[k]? = some y := ⟨_, List.getElem?_eq_getElem (by have := HY.out.1; omega)⟩
      obtain ⟨ad, rfl⟩ := HX.out.form (by omega)
      obtain ⟨ad2, rfl⟩ := HY.out.form (by omega)
      have HS := Lib.hid (show ∀ w', Chg (GT B) w w' → Blk w' w.heap.size 106 #[.pointer (some ⟨b, 0, none⟩)] → w'.cell? ⟨w.heap.size, 0, none⟩ = some (.pointer (some ⟨b, 0, none⟩)) ∧ w'.cell? (ad.add k) = some (.int .i64 (x : Nat)) ∧ w'.cell? (ad2.add k) = some (.int .i64 (y : Nat)) from
        fun w' hc hb => ⟨hb.cell 0, (HX.out.gt hc).at_ hxk, (HY.out.gt hc).at_ hyk⟩)
      have hxh := GX.out x (List.mem_of_getElem? hxk)
      have hyh := GY.out y (List.mem_of_getElem? hyk)
      have hl1 : gs1.length ≤ gs.length + 3 * k := hso.len
      obtain ⟨r, er⟩ : ∃ r, r = Gm.ifG gs1 c x y := ⟨_, rfl⟩
      have hr := madeL_if hg.wf hso.ext HC.out hxh hyh
      rw [← er] at hr
      have HN1 := Lib.hid (show MadeW gs r.1 (3 * (k + 1)) (outs ++ [r.2]) (fun inp => Wp.pickB (Gm.ev inp gs c) (evs inp gs (xs.take (k + 1))) (evs inp gs (ys.take (k + 1)))) from
        (hso.snoc hr.ext hr.len hr.has hr.eq).to (by omega) fun inp => by rw [evs_snoc hxk, evs_snoc hyk, Wp.pickB_snoc])
      obtain ⟨W2, hW2⟩ : ∃ W2, W2 = wr.drew := ⟨_, rfl⟩
      have hc2 : Chg (GT B) w W2 := by rw [hW2]; exact hch.drew
      have hbx2 : Blk W2 w.heap.size 106 #[.pointer (some ⟨b, 0, none⟩)] := by rw [hW2]; exact hbox
      have ho2 : W2.ownsRow w.heap.size 29 1 (.slice Ao k co) k (natVals outs) := by rw [hW2]; exact hown
      have C1 := mkr_pick (show GA W2 B b gs1 by rw [hW2]; exact hg.drewN 1) (by have := HN.out; omega) (hso.ext.has HC.out) (hso.ext.has hxh) (hso.ext.has hyh)
      rw [← er] at C1
      have C1 := Lib.hid C1
      have HC2 := Lib.hid hc2
      have HBX2 := Lib.hid hbx2
      have HO2 := Lib.hid ho2
      have HS2 := Lib.hid (HS.out _ hc2 hbx2)
      have HW2 := Lib.hid hW2
      clear hxk hyk hxh hyh hl1 er hr hW2 hc2 hbx2 ho2 hg hch hown hbox hso
      go_wp2_with fail
      refine wp_region_seq (S := fun w' => w'.cell? ⟨w.heap.size, 0, none⟩ = some (.pointer (some ⟨b, 0, none⟩)) ∧ w'.cell? (ad.add k) = some (.int .i64 (x : Nat)) ∧ w'.cell? (ad2.add k) = some (.int .i64 (y : Nat))) [(0, false), (1, false), (2, false), (3, false), (4, false), (5, false), (6, false), (7, false), (8, false), (9, false), (10, false), (11, true), (12, true), (13, true), (14, false)] (by kernel_rfl) (by kernel_rfl) (by kernel_rfl) (by rw [← HW2.out]; exact HS2.out) ?_
      rw [← HW2.out]
      iterate 11 (refine seq_take _ _ rfl (by kernel_rfl) (fun wv hv => by obtain ⟨hv1, hv2, hv3⟩ := hv; go_simp; try with_reducible rfl) ?_; simp only [Act.put, List.getElem_toArray, List.getElem_cons_zero, List.getElem_cons_succ, List.setIfInBounds_toArray, List.set_cons_zero, List.set_cons_succ])
      refine seq_act _ rfl (fun K hK => ?_)
      go_simp
      refine C1.out.mono ?_
      rintro e w3 ⟨rfl, h1, h2⟩
      have HG3 := Lib.hid h1
      have HC3 := Lib.hid (HC2.out.trans h2)
      have HBX3 := Lib.hid (box_gt HBX2.out h2)
      have HO3 := Lib.hid (own_gt HO2.out h2)
      have hs3 := HC3.out.size
      clear h1 h2
      go_simp
      refine hK _ _ (HS.out _ HC3.out HBX3.out) ?_
      clear hK K
      refine seq_act _ rfl (fun K hK => ?_)
      go_simp
      go_simp
      refine hK _ _ (HS.out _ (HC3.out.alloc _) (HBX3.out.alloc _)) ?_
      clear hK K
      refine seq_act _ rfl (fun K hK => ?_)
      refine step_append_sl _ rfl (.tmp 16) (.tmp 28) _ rfl w.heap.size 29 i0 _ 1 8 Tryd.underlying28 HIN.out.1 HIN.out.2.1 HIN.out.2.2.1 HIN.out.2.2.2 rfl (by omega) _ k _ rfl (HO3.out.alloc _) (w3.heap.size + 1) (some ⟨w3.heap.size, 0, none⟩) 1 1 [.int .i64 (r.2 : Nat)] rfl (reads_new rfl (by omega) rfl) (ints_one (by simp)) (le_maxLen (by omega)) (le_bytes (by omega) (by omega)) (by simp; omega) ?_
      intro A5 c5 w5 hown5 hg5
      have hg6 : (w3.alloc (.cells #[.int .i64 (r.2 : Nat)] 29)).grownBy w5 (Value.slice Ao k co).ownBlock := hg5
      have HG5 := Lib.hid (HG3.out.row (row_chg HO3.out hg6))
      have HCH5 := Lib.hid (gt_grown HC3.out HO3.out (Nat.le_refl _) hg6)
      have HBX5 := Lib.hid ((HBX3.out.alloc _).grown hg6 (own_blk_ne HO3.out HBX3.out (by decide)).symm)
      have HO5 := Lib.hid (show w5.ownsRow w.heap.size 29 1 (.slice A5 (k + 1) c5) (k + 1) (natVals (outs ++ [r.2])) by rw [natVals_append]; exact hown5)
      clear hown5 hg5 hg6
      refine hK _ _ (HS.out _ HCH5.out HBX5.out) ?_
      clear hK K
      try simp only [Act.put, List.getElem_toArray, List.getElem_cons_zero, List.getElem_cons_succ, List.setIfInBounds_toArray, List.set_cons_zero, List.set_cons_succ]
      iterate 1 (refine seq_take _ _ rfl (by kernel_rfl) (fun wv hv => by go_simp; try with_reducible rfl) ?_; simp only [Act.put, List.getElem_toArray, List.getElem_cons_zero, List.getElem_cons_succ, List.setIfInBounds_toArray, List.set_cons_zero, List.set_cons_succ])
      refine seq_nil ?_
      go_wp2_with fail
      go_roundw
      case rel => exact ⟨k + 1, _, _, by omega, by go_num, ⟨_, _, rfl⟩, HG5.out, HCH5.out, HO5.out, HBX5.out, HN1.out⟩
      case measure => simp [intOf]; omega
    · obtain rfl : k = xs.length := by omega
      have HG1 := Lib.hid hg
      have HCH := Lib.hid hch
      have HO := Lib.hid hown
      have HSO := Lib.hid hso
      clear hg hch hown hbox hso
      go_wp2
      go_ret
      refine ⟨Ao, co, gs1, outs, rfl, HG1.out, HCH.out, HO.out, HSO.out.to (Nat.le_refl _) fun inp => ?_⟩
      rw [List.take_length, List.take_of_length_le (by have := HY.out.1; omega)]
end Go.Proofs.YtmbjhpgemphmmaaDoor
namespace Go.Proofs.YtmbjhpgemphmmaaDoor
open Go.RowKit

def SmR (W : World) (B b : Nat) (gs : List Gm.Gate) (xs ys : List Nat) (ov iv : Value) (wr : World) : Prop :=
  ∃ k gs' out, k ≤ xs.length ∧ iv = .int .i64 (k : Nat) ∧ ov = .int .i64 (out : Nat) ∧ GA wr B b gs' ∧ Chg (GT B) W wr ∧ Blk wr W.heap.size 106 #[.pointer (some ⟨b, 0, none⟩)] ∧
    MadeL gs gs' (4 * k) out (fun inp => Wp.sameB (evs inp gs (xs.take k)) (evs inp gs (ys.take k)))
/-- one place of an equality -/
structure SmStep (gs gs1 : List Gm.Gate) (xs ys : List Nat) (out k x y : Nat) (r1 r2 : List Gm.Gate × Nat) : Prop where
  hx : Gm.has gs1 x
  hy : Gm.has gs1 y
  h1 : Gm.has r1.1 (Gm.notL r1.2)
  small : r1.2 ≤ 1000000
  h1o : Gm.has r1.1 out
  l1 : r1.1.length ≤ gs1.length + 3
  next : MadeL gs r2.1 (4 * (k + 1)) r2.2 (fun inp => Wp.sameB (evs inp gs (xs.take (k + 1))) (evs inp gs (ys.take (k + 1))))
theorem sm_step {gs gs1 : List Gm.Gate} {xs ys : List Nat} {out k x y : Nat} (hw : Gm.Wf gs1) (hs : MadeL gs gs1 (4 * k) out (fun inp => Wp.sameB (evs inp gs (xs.take k)) (evs inp gs (ys.take k)))) (gx : AllHas gs xs) (gy : AllHas gs ys) (hx : xs[k]? = some x) (hy : ys[k]? = some y)
    (hl : gs1.length ≤ 99000) {r1 r2 : List Gm.Gate × Nat} (e1 : r1 = Gm.xorG gs1 x y) (e2 : r2 = Gm.andG r1.1 out (Gm.notL r1.2)) : SmStep gs gs1 xs ys out k x y r1 r2 := by
  have kx := (List.getElem?_eq_some_iff.1 hx).1
  have ky := (List.getElem?_eq_some_iff.1 hy).1
  have hx0 := gx x (List.mem_of_getElem? hx)
  have hy0 := gy y (List.mem_of_getElem? hy)
  have w1 := fun inp => Gm.comes_xor (inp := inp) hw (hs.ext.has hx0) (hs.ext.has hy0)
  rw [← e1] at w1
  have ho1 := (w1 []).ext.has hs.has
  have w2 := fun inp => Gm.comes_and (inp := inp) (w1 []).wf ho1 (Gm.has_not (w1 []).has)
  rw [← e2] at w2
  have l1 : r1.1.length ≤ gs1.length + 3 := by rw [e1]; exact Gm.orOf_len ..
  have l2 : r2.1.length ≤ r1.1.length + 1 := by rw [e2]; exact Gm.andG_len ..
  have hlen := hs.len
  refine ⟨hs.ext.has hx0, hs.ext.has hy0, Gm.has_not (w1 []).has, ?_, ho1, l1, (hs.ext.trans (w1 []).ext).trans (w2 []).ext, (w2 []).has, by omega, fun inp => ?_⟩
  · have := (w1 []).has; unfold Gm.has at this; omega
  · rw [(w2 inp).ev, Gm.ev_not, (w1 inp).ev, Gm.ev_ext (w1 []).ext hs.has, hs.eq, Gm.ev_ext hs.ext hx0, Gm.ev_ext hs.ext hy0, evs_snoc hx, evs_snoc hy, Wp.sameB_snoc (by rw [evs_length, evs_length, List.length_take, List.length_take]; omega)]
attribute [local irreducible] wpSeq
set_option maxRecDepth 100000 in
set_option maxHeartbeats 2000000 in
theorem same_any {w : World} {B b : Nat} {gs : List Gm.Gate} (h : GA w B b gs) {A A2 : Option Addr} {c1 c2 n : Nat} {xs ys : List Nat} (hx : Held w B A n xs) (hy : Held w B A2 n ys) (gx : AllHas gs xs) (gy : AllHas gs ys)
    (hn : gs.length + 4 * n ≤ 98000) (hl : n ≤ 1000) :
    Calls Tryd.prog 46 #[.agg #[.pointer (some ⟨b, 0, none⟩)], .slice A n c1, .slice A2 n c2] w (LG w B b gs (4 * n) (fun inp => Wp.sameB (evs inp gs xs) (evs inp gs ys))) := by
  obtain rfl := hx.1
  have HG := Lib.hid h
  have HX := Lib.hid hx
  have HY := Lib.hid hy
  have GX := Lib.hid gx
  have GY := Lib.hid gy
  have HN := Lib.hid hn
  clear h hx hy gx gy hn
  go_enter Tryd.func46, Tryd.ntmps46
  go_wp2_with fail
  go_loopw [7, 11] (fun ov iv wr => SmR w B b gs xs ys ov iv wr) (fun _ iv _ => xs.length - (intOf iv).toNat)
  case atStart =>
    refine ⟨0, gs, 1, Nat.zero_le _, rfl, rfl, HG.out.new ((Below.refl _ _).alloc (Nat.le_refl _) _), (Chg.refl _ _).alloc _, Blk.new w _ _, .refl _, has_one gs, by simp, fun inp => ?_⟩
    rw [Gm.ev_one]; rfl
  case round =>
    obtain ⟨k, gs1, out, hk, rfl, rfl, hg, hch, hbox, hso⟩ := hrel
    by_cases hkl : k < xs.length
    · obtain ⟨x, hxk⟩ : ∃ x, xs[k]? = some x := ⟨_, List.getElem?_eq_getElem hkl⟩
      obtain ⟨y, hyk⟩ : ∃ y, ys[k]? = some y := ⟨_, List.getElem?_eq_getElem (by have := HY.out.1; omega)⟩
      obtain ⟨ad, rfl⟩ := HX.out.form (by omega)
      obtain ⟨ad2, rfl⟩ := HY.out.form (by omega)
      have HS := Lib.hid (show ∀ w', Chg (GT B) w w' → Blk w' w.heap.size 106 #[.pointer (some ⟨b, 0, none⟩)] → w'.cell? ⟨w.heap.size, 0, none⟩ = some (.pointer (some ⟨b, 0, none⟩)) ∧ w'.cell? (ad.add k) = some (.int .i64 (x : Nat)) ∧ w'.cell? (ad2.add k) = some (.int .i64 (y : Nat)) from
        fun w' hc hb => ⟨hb.cell 0, (HX.out.gt hc).at_ hxk, (HY.out.gt hc).at_ hyk⟩)
      have hl1 : gs1.length ≤ gs.length + 4 * k := hso.len
      obtain ⟨r1, e1⟩ : ∃ r, r = Gm.xorG gs1 x y := ⟨_, rfl⟩
      obtain ⟨r2, e2⟩ : ∃ r, r = Gm.andG r1.1 out (Gm.notL r1.2) := ⟨_, rfl⟩
      have HST := Lib.hid (sm_step hg.wf hso GX.out GY.out hxk hyk (by have := HN.out; omega) e1 e2)
      obtain ⟨W2, hW2⟩ : ∃ W2, W2 = wr.drew := ⟨_, rfl⟩
      have hc2 : Chg (GT B) w W2 := by rw [hW2]; exact hch.drew
      have hbx2 : Blk W2 w.heap.size 106 #[.pointer (some ⟨b, 0, none⟩)] := by rw [hW2]; exact hbox
      have C1 := mkr_xor (show GA W2 B b gs1 by rw [hW2]; exact hg.drewN 1) (by have := HN.out; omega) HST.out.hx HST.out.hy
      rw [← e1] at C1
      have C1 := Lib.hid C1
      have E2 := Lib.hid e2
      have HL1 := Lib.hid hl1
      have HC2 := Lib.hid hc2
      have HBX2 := Lib.hid hbx2
      have HS2 := Lib.hid (HS.out _ hc2 hbx2)
      have HW2 := Lib.hid hW2
      clear hxk hyk hl1 e1 e2 hW2 hc2 hbx2 hg hch hbox hso
      go_wp2_with fail
      refine wp_region_seq (S := fun w' => w'.cell? ⟨w.heap.size, 0, none⟩ = some (.pointer (some ⟨b, 0, none⟩)) ∧ w'.cell? (ad.add k) = some (.int .i64 (x : Nat)) ∧ w'.cell? (ad2.add k) = some (.int .i64 (y : Nat))) [(0, false), (1, false), (2, false), (3, false), (4, false), (5, false), (6, false), (7, false), (8, false), (9, false), (10, false), (11, true), (12, true), (13, true), (14, false)] (by kernel_rfl) (by kernel_rfl) (by kernel_rfl) (by rw [← HW2.out]; exact HS2.out) ?_
      rw [← HW2.out]
      iterate 11 (refine seq_take _ _ rfl (by kernel_rfl) (fun wv hv => by obtain ⟨hv1, hv2, hv3⟩ := hv; go_simp; try with_reducible rfl) ?_; simp only [Act.put, List.getElem_toArray, List.getElem_cons_zero, List.getElem_cons_succ, List.setIfInBounds_toArray, List.set_cons_zero, List.set_cons_succ])
      refine seq_act _ rfl (fun K hK => ?_)
      go_simp
      refine C1.out.mono ?_
      rintro e w3 ⟨rfl, h1, h2⟩
      have HC3 := Lib.hid (HC2.out.trans h2)
      have HBX3 := Lib.hid (box_gt HBX2.out h2)
      have C2 := mkr_and h1 (by have := HN.out; have := HL1.out; have := HST.out.l1; omega) HST.out.h1o HST.out.h1
      rw [← E2.out] at C2
      have C2 := Lib.hid C2
      clear h1 h2
      go_simp
      refine hK _ _ (HS.out _ HC3.out HBX3.out) ?_
      clear hK K
      refine seq_act _ rfl (fun K hK => ?_)
      go_simp
      refine (not_any r1.2 _ HST.out.small).mono ?_
      rintro e w4 ⟨rfl, rfl⟩
      go_simp
      refine hK _ _ (HS.out _ HC3.out HBX3.out) ?_
      clear hK K
      refine seq_act _ rfl (fun K hK => ?_)
      go_simp
      refine C2.out.mono ?_
      rintro e w5 ⟨rfl, h1, h2⟩
      have HG5 := Lib.hid h1
      have HC5 := Lib.hid (HC3.out.trans h2)
      have HBX5 := Lib.hid (box_gt HBX3.out h2)
      clear h1 h2
      go_simp
      refine hK _ _ (HS.out _ HC5.out HBX5.out) ?_
      clear hK K
      iterate 1 (refine seq_take _ _ rfl (by kernel_rfl) (fun wv hv => by go_simp; try with_reducible rfl) ?_; simp only [Act.put, List.getElem_toArray, List.getElem_cons_zero, List.getElem_cons_succ, List.setIfInBounds_toArray, List.set_cons_zero, List.set_cons_succ])
      refine seq_nil ?_
      go_wp2_with fail
      go_roundw
      case rel => exact ⟨k + 1, _, _, by omega, by go_num, rfl, HG5.out, HC5.out, HBX5.out, HST.out.next⟩
      case measure => simp [intOf]; omega
    · obtain rfl : k = xs.length := by omega
      have HG1 := Lib.hid hg
      have HCH := Lib.hid hch
      have HSO := Lib.hid hso
      clear hg hch hbox hso
      go_wp2
      go_ret
      refine ⟨gs1, out, rfl, HG1.out, HCH.out, HSO.out.to (Nat.le_refl _) fun inp => ?_⟩
      rw [List.take_length, List.take_of_length_le (by have := HY.out.1; omega)]
/-- rows of a product so far -/
def TmR (W : World) (B b : Nat) (gs : List Gm.Gate) (xs ys : List Nat) (ov iv : Value) (wr : World) : Prop :=
  ∃ k gs' outs, k ≤ xs.length ∧ iv = .int .i64 (k : Nat) ∧ (∃ A cp, ov = .slice A xs.length cp) ∧ GA wr B b gs' ∧ Chg (GT B) W wr ∧ wr.ownsRow W.heap.size 29 1 ov xs.length (natVals outs) ∧
    Blk wr W.heap.size 106 #[.pointer (some ⟨b, 0, none⟩)] ∧ MadeW gs gs' (10 * xs.length * k) outs (fun inp => Wp.mulTo (evs inp gs xs) (evs inp gs ys) k)
/-- one row so far -/
def rowTo (a : List Bool) (c : Bool) (k d n : Nat) : List Bool := List.replicate k false ++ (a.take d).map (· && c) ++ List.replicate (n - k - d) false
def InR (W : World) (B b : Nat) (gs gs1 : List Gm.Gate) (xs : List Nat) (k : Nat) (outv : Value) (outs : List Nat) (base g cr : Nat) (y : Nat) (jv : Value) (wx : World) : Prop :=
  ∃ d j gs2 rl, j = k + d ∧ j ≤ xs.length ∧ jv = .int .i64 (j : Nat) ∧ GA wx B b gs2 ∧ Chg (GT B) W wx ∧ wx.ownsRow W.heap.size 29 1 outv xs.length (natVals outs) ∧ Blk wx W.heap.size 106 #[.pointer (some ⟨b, 0, none⟩)] ∧
    wx.ownsRow base 29 1 (.slice (some ⟨g, 0, none⟩) xs.length cr) xs.length (natVals rl) ∧ MadeW gs1 gs2 d rl (fun inp => rowTo (evs inp gs xs) (Gm.ev inp gs y) k d xs.length)
theorem rowTo_zero (a : List Bool) (c : Bool) {k n : Nat} (hk : k ≤ n) : rowTo a c k 0 n = List.replicate n false := by
  unfold rowTo; simp only [List.take_zero, List.map_nil, List.append_nil, List.replicate_append_replicate, Nat.sub_zero]; congr 1; omega
theorem rowTo_succ {a : List Bool} {c x : Bool} {k d n : Nat} (hx : a[d]? = some x) (hk : k + d < n) : rowTo a c k (d + 1) n = (rowTo a c k d n).set (k + d) (x && c) := by
  have hl : d < a.length := (List.getElem?_eq_some_iff.1 hx).1
  unfold rowTo
  obtain ⟨m, hm⟩ : ∃ m, n - k - d = m + 1 := ⟨n - k - d - 1, by omega⟩
  have hm2 : n - k - (d + 1) = m := by omega
  rw [hm, hm2, Gm.take_one hx, List.map_append, List.replicate_succ, List.set_append, if_neg (by simp; omega)]
  simp only [List.length_append, List.length_replicate, List.length_map, List.length_take, Nat.min_eq_left (Nat.le_of_lt hl), Nat.sub_self, List.set_cons_zero]
  simp
theorem rowTo_all {a : List Bool} {b : List Bool} {k n : Nat} (ha : a.length = n) : rowTo a (b.getD k false) k (n - k) n = Wp.rowB a b k := by
  unfold rowTo Wp.rowB; rw [ha]; simp
theorem evs_set (inp : List Bool) (gs : List Gm.Gate) (l : List Nat) (i y : Nat) : evs inp gs (l.set i y) = (evs inp gs l).set i (Gm.ev inp gs y) := by
  unfold evs; rw [List.map_set]
theorem natVals_inj {a b : List Nat} (h : natVals a = natVals b) : a = b := by
  unfold natVals litVals at h
  rw [List.map_map, List.map_map] at h
  exact List.map_inj_right (fun x y hh => by simp at hh; omega) |>.1 h
/-- one place of a row -/
structure InStep (gs gs1 gs2 : List Gm.Gate) (xs : List Nat) (rl : List Nat) (k d n x y : Nat) (r : List Gm.Gate × Nat) : Prop where
  hx : Gm.has gs2 x
  hy : Gm.has gs2 y
  next : MadeW gs1 r.1 (d + 1) (rl.set (k + d) r.2) (fun inp => rowTo (evs inp gs xs) (Gm.ev inp gs y) k (d + 1) n)
theorem in_step {gs gs1 gs2 : List Gm.Gate} {xs : List Nat} {rl : List Nat} {k d n x y : Nat} (hw : Gm.Wf gs2) (he : Gm.Ext gs gs1) (hs : MadeW gs1 gs2 d rl (fun inp => rowTo (evs inp gs xs) (Gm.ev inp gs y) k d n)) (gx : AllHas gs xs) (hy : Gm.has gs y) (hx : xs[d]? = some x) (hk : k + d < n)
    {r : List Gm.Gate × Nat} (er : r = Gm.andG gs2 x y) : InStep gs gs1 gs2 xs rl k d n x y r := by
  have hx0 := gx x (List.mem_of_getElem? hx)
  have e2 := he.trans hs.ext
  have w1 := fun inp => Gm.comes_and (inp := inp) hw (e2.has hx0) (e2.has hy)
  rw [← er] at w1
  have l1 : r.1.length ≤ gs2.length + 1 := by rw [er]; exact Gm.andG_len ..
  have h2 := hs.step (w1 []).ext l1
  refine ⟨e2.has hx0, e2.has hy, h2.ext, fun z hz => ?_, h2.len, fun inp => ?_⟩
  · rcases List.mem_or_eq_of_mem_set hz with hz | rfl
    · exact h2.all z hz
    · exact (w1 []).has
  · rw [evs_set, h2.eq, (w1 inp).ev, Gm.ev_ext e2 hx0, Gm.ev_ext e2 hy, rowTo_succ (x := Gm.ev inp gs x) (by unfold evs; simp [hx]) hk]
theorem GA.setLit {w : World} {B b g k n c base : Nat} {gs : List Gm.Gate} {xs : List Value} (h : GA w B b gs) (ho : w.ownsRow base 29 1 (.slice (some ⟨g, 0, none⟩) n c) n xs) (u : Value) : GA (w.setCell ⟨g, k, none⟩ u) B b gs := by
  refine h.row ⟨rfl, rfl, rfl, by simp [World.setCell], fun j o hj hn => ?_⟩
  refine (Below.heap_setCell _ _ _ _ (fun e => ?_)).trans hj
  subst e
  rcases ho.2 with ⟨h0, _⟩ | ⟨g', cap, cur, hv, _, hh, _⟩
  · cases h0
  · obtain ⟨rfl, rfl⟩ : _ = g' ∧ c = cap := by simpa using hv
    rw [hh] at hj
    injection hj with hj
    subst hj
    exact hn rfl
end Go.Proofs.YtmbjhpgemphmmaaDoor
namespace Go.Proofs.YtmbjhpgemphmmaaDoor
open Go.RowKit
/-- a store of a literal into a row of the call's own -/
theorem gt_setLit {W w : World} {B base n g c k : Nat} {xs : List Value} (h : Chg (GT B) W w) (ho : w.ownsRow base 29 1 (.slice (some ⟨g, 0, none⟩) n c) n xs) (hb : W.heap.size ≤ base) (u : Value) : Chg (GT B) W (w.setCell ⟨g, k, none⟩ u) := by
  rcases ho.2 with ⟨h0, _⟩ | ⟨g', cap, cur, hv, hbb, hh, _⟩
  · cases h0
  · obtain ⟨rfl, rfl⟩ : g = g' ∧ c = cap := by simpa using hv
    exact h.setCell (.inl (by show W.heap.size ≤ g; omega)) u
attribute [local irreducible] wpSeq
set_option maxRecDepth 100000 in
set_option maxHeartbeats 4000000 in
theorem times_any {w : World} {B b : Nat} {gs : List Gm.Gate} (h : GA w B b gs) {A A2 : Option Addr} {c1 c2 n : Nat} {xs ys : List Nat} (hx : Held w B A n xs) (hy : Held w B A2 n ys) (gx : AllHas gs xs) (gy : AllHas gs ys)
    (hn : gs.length + 10 * n * n ≤ 90000) (hl : n ≤ 90) :
    Calls Tryd.prog 86 #[.agg #[.pointer (some ⟨b, 0, none⟩)], .slice A n c1, .slice A2 n c2] w (WG w B b gs (10 * n * n) n (fun inp => Wp.timesB (evs inp gs xs) (evs inp gs ys))) := by
  obtain rfl := hx.1
  have HG := Lib.hid h
  have HX := Lib.hid hx
  have HY := Lib.hid hy
  have GX := Lib.hid gx
  have GY := Lib.hid gy
  have HN := Lib.hid hn
  clear h hx hy gx gy hn
  go_enter Tryd.func86, Tryd.ntmps86
  go_wp2_with fail
  refine (zero_any xs.length (by omega) _).mono ?_
  rintro e w1 ⟨Ao, co, rfl, ho, hb⟩
  have HO := Lib.hid ho
  have HB := Lib.hid hb
  clear ho hb
  go_wp2_with fail
  go_loopw [7, 16] (fun ov iv wr => TmR w B b gs xs ys ov iv wr) (fun _ iv _ => xs.length - (intOf iv).toNat)
  case atStart =>
    have hb1 : Below w.heap.size w w1 := ((Below.refl _ _).alloc (Nat.le_refl _) _).trans (HB.out.mono (by simp))
    refine ⟨0, gs, List.replicate xs.length 0, Nat.zero_le _, rfl, ⟨Ao, co, rfl⟩, HG.out.new hb1, Chg.of_new hb1, own_base HO.out (by simp), (Blk.new w _ _).below HB.out (by simp), .refl _, allHas_zeros gs _, by omega, fun inp => ?_⟩
    rw [evs_zeros]; unfold Wp.mulTo; rw [evs_length]
  case round =>
    obtain ⟨k, gs1, outs, hk, rfl, ⟨A1, co1, rfl⟩, hg, hch, hown, hbox, hso⟩ := hrel
    by_cases hkl : k < xs.length
    · obtain ⟨y, hyk⟩ : ∃ y, ys[k]? = some y := ⟨_, List.getElem?_eq_getElem (by have := HY.out.1; omega)⟩
      obtain ⟨ad, rfl⟩ := HX.out.form (by omega)
      obtain ⟨ad2, rfl⟩ := HY.out.form (by omega)
      have hyh := GY.out y (List.mem_of_getElem? hyk)
      have HYH := Lib.hid hyh
      have HYK := Lib.hid hyk
      have hl1 : gs1.length ≤ gs.length + 10 * xs.length * k := hso.len
      have hk10 : 10 * xs.length * k + 10 * xs.length ≤ 10 * xs.length * xs.length := by
        have := Nat.mul_le_mul_left (10 * xs.length) (show k + 1 ≤ xs.length by omega)
        rw [Nat.mul_add, Nat.mul_one] at this; exact this
      have HL1 := Lib.hid (And.intro hl1 hk10)
      obtain ⟨wo, rfl⟩ : ∃ wo : World, wo = wr := ⟨_, rfl⟩
      have HG1 := Lib.hid hg
      have HCH := Lib.hid hch
      have HO1 := Lib.hid hown
      have HBX := Lib.hid hbox
      have HSO := Lib.hid hso
      clear hyh hyk hl1 hk10 hg hch hown hbox hso
      go_wp2_with fail
      refine (zero_any xs.length (by omega) _).mono ?_
      rintro e w2 ⟨A2r, cr, rfl, ho, hb⟩
      obtain ⟨g, rfl, hgb, hgl⟩ := own_some ho (by omega)
      have HOR := Lib.hid ho
      have HB2 := Lib.hid hb
      clear ho hb
      go_wp2_with fail
      go_loopw [10] (fun jv wx => InR w B b gs gs1 xs k (.slice A1 xs.length co1) outs wo.heap.size g cr y jv wx) (fun jv _ => xs.length - (intOf jv).toNat)
      case atStart =>
        refine ⟨0, k, gs1, List.replicate xs.length 0, by omega, hk, rfl, HG1.out.new HB2.out, HCH.out.trans (.of_new HB2.out), own_chg (S := fun _ _ => False) HO1.out (Chg.of_new HB2.out) (fun _ _ _ _ hs => hs), HBX.out.below HB2.out HBX.out.lt, HOR.out, .refl _, allHas_zeros gs1 _, by omega, fun inp => ?_⟩
        rw [evs_zeros, rowTo_zero _ _ hk]
      case round =>
        obtain ⟨d, j, gs2, rl, hj, hjn, rfl, hg, hch, hown, hbox, hor, hso⟩ := hrel
        by_cases hjl : j < xs.length
        · obtain ⟨x, hxk⟩ : ∃ x, xs[d]? = some x := ⟨_, List.getElem?_eq_getElem (by omega)⟩
          obtain ⟨r, er⟩ : ∃ r, r = Gm.andG gs2 x y := ⟨_, rfl⟩
          have HST := Lib.hid (in_step hg.wf HSO.out.ext hso GX.out HYH.out hxk (by omega) er)
          have HS := Lib.hid (show ∀ w', Chg (GT B) w w' → Blk w' w.heap.size 106 #[.pointer (some ⟨b, 0, none⟩)] → w'.cell? ⟨w.heap.size, 0, none⟩ = some (.pointer (some ⟨b, 0, none⟩)) ∧ w'.cell? (ad.add d) = some (.int .i64 (x : Nat)) ∧ w'.cell? (ad2.add k) = some (.int .i64 (y : Nat)) from
            fun w' hc hb => ⟨hb.cell 0, (HX.out.gt hc).at_ hxk, (HY.out.gt hc).at_ HYK.out⟩)
          have hsub : (j : Int) - (k : Int) = (d : Int) := by omega
          have hsubw : IntKind.i64.wrap (j - k : Int) = (d : Int) := by rw [hsub]; exact wrap_in (by omega) (by omega)
          have hd0 : d < xs.length := by omega
          have hl2 : gs2.length ≤ gs1.length + d := hso.len
          have HL2 := Lib.hid (show gs2.length < 99999 by have := HN.out; have := HL1.out.1; have := HL1.out.2; omega)
          obtain ⟨W2, hW2⟩ : ∃ W2, W2 = wr.drew := ⟨_, rfl⟩
          have hc2 : Chg (GT B) w W2 := by rw [hW2]; exact hch.drew
          have hbx2 : Blk W2 w.heap.size 106 #[.pointer (some ⟨b, 0, none⟩)] := by rw [hW2]; exact hbox
          have C1 := mkr_and (show GA W2 B b gs2 by rw [hW2]; exact hg.drewN 1) HL2.out HST.out.hx HST.out.hy
          rw [← er] at C1
          have C1 := Lib.hid C1
          have HJ := Lib.hid hj
          have HC2 := Lib.hid hc2
          have HBX2 := Lib.hid hbx2
          have HO2 := Lib.hid (show W2.ownsRow w.heap.size 29 1 (.slice A1 xs.length co1) xs.length (natVals outs) by rw [hW2]; exact hown)
          have HR2 := Lib.hid (show W2.ownsRow wo.heap.size 29 1 (.slice (some ⟨g, 0, none⟩) xs.length cr) xs.length (natVals rl) by rw [hW2]; exact hor)
          have HS2 := Lib.hid (HS.out _ hc2 hbx2)
          have HW2 := Lib.hid hW2
          clear hxk er hW2 hc2 hbx2 hg hch hown hbox hso hor hl2 hj hsub
          go_wp2_with fail
          refine wp_region_seq (S := fun w' => w'.cell? ⟨w.heap.size, 0, none⟩ = some (.pointer (some ⟨b, 0, none⟩)) ∧ w'.cell? (ad.add d) = some (.int .i64 (x : Nat)) ∧ w'.cell? (ad2.add k) = some (.int .i64 (y : Nat))) [(0, false), (1, false), (2, false), (3, false), (4, false), (5, false), (6, false), (7, false), (8, false), (9, false), (10, false), (11, false), (12, false), (13, true), (14, false), (15, true)] (by kernel_rfl) (by kernel_rfl) (by kernel_rfl) (by rw [← HW2.out]; exact HS2.out) ?_
          rw [← HW2.out]
          iterate 13 (refine seq_take _ _ rfl (by kernel_rfl) (fun wv hv => by obtain ⟨hv1, hv2, hv3⟩ := hv; go_simp; try with_reducible rfl) ?_; simp only [Act.put, List.getElem_toArray, List.getElem_cons_zero, List.getElem_cons_succ, List.setIfInBounds_toArray, List.set_cons_zero, List.set_cons_succ])
          refine seq_act _ rfl (fun K hK => ?_)
          go_simp
          refine C1.out.mono ?_
          rintro e w3 ⟨rfl, h1, h2⟩
          have HG3 := Lib.hid h1
          have HC3 := Lib.hid (HC2.out.trans h2)
          have HBX3 := Lib.hid (box_gt HBX2.out h2)
          have HO3 := Lib.hid (own_gt HO2.out h2)
          have hr3 := own_gt HR2.out h2
          have HR3 := Lib.hid hr3
          obtain ⟨u, _, cg⟩ := own_cell (k := j) hr3 hjl
          have cf := own_unfrozen (k := j) hr3
          clear h1 h2 hr3
          go_simp
          refine hK _ _ (HS.out _ HC3.out HBX3.out) ?_
          clear hK K
          iterate 1 (refine seq_take _ _ rfl (by kernel_rfl) (fun wv hv => by go_simp; try with_reducible rfl) ?_; simp only [Act.put, List.getElem_toArray, List.getElem_cons_zero, List.getElem_cons_succ, List.setIfInBounds_toArray, List.set_cons_zero, List.set_cons_succ])
          have HC4 := Lib.hid (gt_setLit (k := j) HC3.out HR3.out HCH.out.size (.int .i64 (r.2 : Nat)))
          have HBX4 := Lib.hid (HBX3.out.far (p := ⟨g, j, none⟩) (by show w.heap.size ≠ g; exact fun e => own_blk_ne HR3.out HBX3.out (by decide) (by simp [Value.ownBlock, e])) (.int .i64 (r.2 : Nat)))
          refine seq_act _ rfl (fun K hK => ?_)
          go_simp
          refine hK _ _ (HS.out _ HC4.out HBX4.out) ?_
          clear hK K
          try simp only [Act.put, List.getElem_toArray, List.getElem_cons_zero, List.getElem_cons_succ, List.setIfInBounds_toArray, List.set_cons_zero, List.set_cons_succ]
          refine seq_nil ?_
          go_wp2_with fail
          go_roundw
          case rel =>
            refine ⟨d + 1, j + 1, r.1, rl.set (k + d) r.2, by have := HJ.out; omega, by omega, by go_num, HG3.out.setLit HR3.out _, HC4.out, ?_, HBX4.out, ?_, HST.out.next⟩
            · exact own_far HO3.out _ (own_ne HR3.out fun k' e => (HO1.out.lt k' e).2)
            · rw [← HJ.out, natVals_set]; exact own_set HR3.out _
          case measure => simp [intOf]; omega
        · obtain rfl : j = xs.length := by omega
          have hd : d = xs.length - k := by omega
          subst hd
          have HM := Lib.hid (show MadeW gs1 gs2 xs.length rl (fun inp => Wp.rowB (evs inp gs xs) (evs inp gs ys) k) from hso.to (by omega) fun inp => by
            rw [← rowTo_all (b := evs inp gs ys) (evs_length inp gs xs)]
            congr 1
            have : (evs inp gs ys)[k]? = some (Gm.ev inp gs y) := by unfold evs; simp [HYK.out]
            simp [List.getD, this])
          have hGX := HSO.out.ext.trans HM.out.ext
          have HLC := Lib.hid (show gs2.length + 9 * xs.length ≤ 99000 by have := HM.out.len; have := HN.out; have := HL1.out.1; have := HL1.out.2; omega)
          have HGX := Lib.hid hg
          have HCX := Lib.hid hch
          have HOX := Lib.hid hown
          have hbx := hbox.cell 0
          have HBXX := Lib.hid hbox
          have HRX := Lib.hid hor
          clear hg hch hown hbox hso hor hj hGX
          go_wp2_with fail
          refine (sum_wl HGX.out (Held.of_own (B := B) HOX.out) (Held.of_own (B := B) HRX.out) (HSO.out.all.ext HM.out.ext) HM.out.all (has_zero gs2) HLC.out (by omega)).mono ?_
          rintro e w5 ⟨A5, c5, gs3, outs3, last, rfl, h1, h2, h3, h4, h5⟩
          have HG5 := Lib.hid h1
          have HC5 := Lib.hid (HCX.out.trans h2)
          have HO5 := Lib.hid h3
          have HM5 := Lib.hid h4
          have HBX5 := Lib.hid (box_gt HBXX.out h2)
          have hs5 := HCX.out.size
          clear h1 h2 h3 h4 h5 hbx
          go_wp2_with fail
          go_roundw
          case rel =>
            refine ⟨k + 1, gs3, outs3, by omega, by go_num, ⟨A5, c5, rfl⟩, HG5.out, HC5.out, own_base HO5.out hs5, HBX5.out, (HSO.out.ext.trans HM.out.ext).trans HM5.out.ext, HM5.out.all, ?_, fun inp => ?_⟩
            · have h1 := HM5.out.len; have h2 := HM.out.len; have h3 := HSO.out.len
              rw [Nat.mul_add, Nat.mul_one]; omega
            · rw [HM5.out.eq, Gm.ev_zero, evs_ext HSO.out.all HM.out.ext, HSO.out.eq, HM.out.eq]; rfl
          case measure => simp [intOf]; omega
    · obtain rfl : k = xs.length := by omega
      have HG1 := Lib.hid hg
      have HCH := Lib.hid hch
      have HO1 := Lib.hid hown
      have HSO := Lib.hid hso
      clear hg hch hown hbox hso
      go_wp2
      go_ret
      refine ⟨A1, co1, gs1, outs, rfl, HG1.out, HCH.out, HO1.out, HSO.out.to (Nat.le_refl _) fun inp => ?_⟩
      unfold Wp.timesB; rw [evs_length]
end Go.Proofs.YtmbjhpgemphmmaaDoor
namespace Go.Proofs.YtmbjhpgemphmmaaDoor
open Go.RowKit
namespace Wp
def flipB (a : List Bool) : List Bool := a.set (a.length - 1) (!topB a)
def lessB (a b : List Bool) : Bool := !(geB (flipB a) (flipB b))
end Wp
theorem Held.reads {w : World} {B n : Nat} {A : Option Addr} {xs : List Nat} (h : Held w B A n xs) : Reads w w.heap.size 1 A n (natVals xs) := by
  refine ⟨by rw [natVals_length, h.1, Nat.mul_one], fun hn => ?_⟩
  obtain ⟨ad, o, hA, ho, _, hc⟩ := h.2 hn
  refine ⟨ad, hA, lt_of_heap ho, fun j u hu => ?_⟩
  have hj : j < xs.length := by have := (List.getElem?_eq_some_iff.1 hu).1; rwa [natVals_length] at this
  have h2 := natVals_at (List.getElem?_eq_getElem hj)
  rw [h2] at hu
  injection hu with hu
  rw [← hu]
  exact hc j _ (List.getElem?_eq_getElem hj)
theorem evs_flip {inp : List Bool} {gs : List Gm.Gate} {xs : List Nat} {m x : Nat} (hl : xs.length = m + 1) (hx : xs[m]? = some x) : evs inp gs (xs.set m (Gm.notL x)) = Wp.flipB (evs inp gs xs) := by
  rw [evs_set, Gm.ev_not]
  unfold Wp.flipB Wp.topB
  rw [evs_length, hl]
  have : (evs inp gs xs)[m]? = some (Gm.ev inp gs x) := by unfold evs; simp [hx]
  simp [List.getD, this]
theorem natVals_ones {l : List Nat} : ∀ u ∈ natVals l, u.oneCell' = true := ints_one fun u hu => by
  unfold natVals litVals at hu
  simp only [List.map_map, List.mem_map] at hu
  obtain ⟨x, _, rfl⟩ := hu
  exact ⟨_, rfl⟩
theorem below_row {w w1 : World} (h : w.grownBy w1 none) : Below w.heap.size w w1 :=
  ⟨h.os, h.tape, h.output, h.size, fun k hk => h.block k hk (by simp)⟩
attribute [local irreducible] wpSeq wpStill
set_option maxRecDepth 100000 in
set_option maxHeartbeats 2000000 in
theorem less_any {w : World} {B b : Nat} {gs : List Gm.Gate} (h : GA w B b gs) {A A2 : Option Addr} {c1 c2 m : Nat} {xs ys : List Nat} (hx : Held w B A (m + 1) xs) (hy : Held w B A2 (m + 1) ys) (gx : AllHas gs xs) (gy : AllHas gs ys)
    (hn : gs.length + 9 * (m + 1) ≤ 99000) (hl : m + 1 ≤ 1000) :
    Calls Tryd.prog 88 #[.agg #[.pointer (some ⟨b, 0, none⟩)], .slice A (m + 1) c1, .slice A2 (m + 1) c2] w (LG w B b gs (9 * (m + 1)) (fun inp => Wp.lessB (evs inp gs xs) (evs inp gs ys))) := by
  obtain ⟨i0, hi0, hz0, hz1, hz2⟩ := info_parts infoLit_
  have HIN := Lib.hid (show _ ∧ _ ∧ _ ∧ _ from ⟨hi0, hz0, hz1, hz2⟩)
  obtain ⟨x, hxm⟩ : ∃ x, xs[m]? = some x := ⟨_, List.getElem?_eq_getElem (by have := hx.1; omega)⟩
  obtain ⟨y, hym⟩ : ∃ y, ys[m]? = some y := ⟨_, List.getElem?_eq_getElem (by have := hy.1; omega)⟩
  have HXM := Lib.hid hxm
  have HYM := Lib.hid hym
  have HG := Lib.hid h
  have HX := Lib.hid hx
  have HY := Lib.hid hy
  have GX := Lib.hid gx
  have GY := Lib.hid gy
  have HN := Lib.hid hn
  obtain ⟨W1, hW1⟩ : ∃ W1, W1 = w.alloc (.cells #[.pointer (some ⟨b, 0, none⟩)] 106) := ⟨_, rfl⟩
  have hb1 : Below w.heap.size w W1 := by rw [hW1]; exact (Below.refl _ _).alloc (Nat.le_refl _) _
  have HBX1 := Lib.hid (show Blk W1 w.heap.size 106 #[.pointer (some ⟨b, 0, none⟩)] by rw [hW1]; exact Blk.new w _ _)
  have HR1 := Lib.hid ((hx.new hb1).reads)
  have HB1 := Lib.hid hb1
  have HW1 := Lib.hid hW1
  clear h hx hy gx gy hn hxm hym hi0 hz0 hz1 hz2 hW1 hb1
  go_enter Tryd.func88, Tryd.ntmps88
  go_wp2_with (first | (at_builtin; rw [← HW1.out]; refine wpList_append_sl _ rfl (.const (.slice none 0 0)) (.tmp 15) _ rfl W1.heap.size 29 i0 _ 1 8 Tryd.underlying28 HIN.out.1 HIN.out.2.1 HIN.out.2.2.1 HIN.out.2.2.2 rfl (by omega) _ 0 [] rfl (World.ownsRow_nil _ _ _ _) W1.heap.size A (m + 1) c1 (natVals xs) rfl HR1.out natVals_ones (le_maxLen (by omega)) (le_bytes (by omega) (by omega)) (Nat.le_refl _) ?_; rw [Nat.zero_add, List.nil_append]; intro A3 c3 w3 hown3 hg3; have hb3 : Below W1.heap.size W1 w3 := below_row hg3; have HR3 := Lib.hid (((HY.out.new HB1.out).new (hb3)).reads); have HB3 := Lib.hid hb3; have HO3 := Lib.hid hown3; have HBX3 := Lib.hid (HBX1.out.below hb3 HBX1.out.lt); clear hown3 hg3 hb3) | (at_builtin; refine wpList_append_sl _ rfl (.const (.slice none 0 0)) (.tmp 17) _ rfl w3.heap.size 29 i0 _ 1 8 Tryd.underlying28 HIN.out.1 HIN.out.2.1 HIN.out.2.2.1 HIN.out.2.2.2 rfl (by omega) _ 0 [] rfl (World.ownsRow_nil _ _ _ _) w3.heap.size A2 (m + 1) c2 (natVals ys) rfl HR3.out natVals_ones (le_maxLen (by omega)) (le_bytes (by omega) (by omega)) (Nat.le_refl _) ?_; rw [Nat.zero_add, List.nil_append]; intro A4 c4 w4 hown4 hg4; have HO4 := Lib.hid hown4; have HGR4 := Lib.hid hg4; clear hown4 hg4))
  have hown4 := HO4.out
  have hb4 : Below w3.heap.size w3 w4 := below_row HGR4.out
  have ho3 : w4.ownsRow W1.heap.size 29 1 (.slice A3 (m + 1) c3) (m + 1) (natVals xs) := own_chg (S := fun _ _ => False) HO3.out (Chg.of_new hb4) (fun _ _ _ _ hs => hs)
  obtain ⟨gx, hA3, hgx1, hgx2⟩ := own_some ho3 (by omega)
  obtain ⟨gy, hA4, hgy1, hgy2⟩ := own_some hown4 (by omega)
  subst hA3
  subst hA4
  have HNE := Lib.hid (show gx ≠ gy from fun e => by
    have := (HO3.out.lt gx (by simp [Value.ownBlock])).2
    omega)
  obtain ⟨W5, hW5⟩ : ∃ W5, W5 = w4.drew := ⟨_, rfl⟩
  have ox5 : W5.ownsRow W1.heap.size 29 1 (.slice (some ⟨gx, 0, none⟩) (m + 1) c3) (m + 1) (natVals xs) := by rw [hW5]; exact ho3
  have oy5 : W5.ownsRow w3.heap.size 29 1 (.slice (some ⟨gy, 0, none⟩) (m + 1) c4) (m + 1) (natVals ys) := by rw [hW5]; exact hown4
  have hb5 : Below w.heap.size w W5 := (HB1.out.trans (HB3.out.mono HB1.out.size)).trans ((show Below w3.heap.size w3 W5 by rw [hW5]; exact below_drewN hb4 1).mono (Nat.le_trans HB1.out.size HB3.out.size))
  have HBX5 := Lib.hid (show Blk W5 w.heap.size 106 #[.pointer (some ⟨b, 0, none⟩)] by rw [hW5]; exact (HBX3.out.below hb4 HBX3.out.lt).drew)
  obtain ⟨u, hu, cx⟩ := own_cell (k := m) ox5 (by omega)
  obtain rfl : Value.int .i64 (x : Nat) = u := by rw [natVals_at HXM.out] at hu; injection hu
  obtain ⟨u, hu2, cy⟩ := own_cell (k := m) oy5 (by omega)
  obtain rfl : Value.int .i64 (y : Nat) = u := by rw [natVals_at HYM.out] at hu2; injection hu2
  have fx := own_unfrozen (k := m) ox5
  have fy := own_unfrozen (k := m) oy5
  have cx4 : w4.cell? ⟨gx, m, none⟩ = some (.int .i64 (x : Nat)) := by rw [hW5] at cx; exact cx
  have cy4 : w4.cell? ⟨gy, m, none⟩ = some (.int .i64 (y : Nat)) := by rw [hW5] at cy; exact cy
  have hxs : x ≤ 1000000 := allHas_small GX.out (by have := HN.out; omega) x (List.mem_of_getElem? HXM.out)
  have hys : y ≤ 1000000 := allHas_small GY.out (by have := HN.out; omega) y (List.mem_of_getElem? HYM.out)
  have cx' : Calls Tryd.prog 12 #[.int .i64 x] W5 (fun e w'' => e = .returned (.int .i64 (Gm.notL x : Nat)) ∧ w'' = W5) := (not_any x W5 hxs).mono fun e w'' h => ⟨h.1, h.2.symm⟩
  have CX := Lib.hid cx'
  have cy' : Calls Tryd.prog 12 #[.int .i64 y] W5 (fun e w'' => e = .returned (.int .i64 (Gm.notL y : Nat)) ∧ w'' = W5) := (not_any y W5 hys).mono fun e w'' h => ⟨h.1, h.2.symm⟩
  have CY := Lib.hid cy'
  have HW5 := Lib.hid hW5
  have OX5 := Lib.hid ox5
  have OY5 := Lib.hid oy5
  have HB5 := Lib.hid hb5
  have HCX := Lib.hid (And.intro cx (And.intro cy (And.intro fx fy)))
  clear cx' cy' hu hu2 hW5 ox5 oy5 hb5 hown4 hb4 ho3 cx cy fx fy
  go_wp2_with fail
  have ox4 : w4.ownsRow W1.heap.size 29 1 (.slice (some ⟨gx, 0, none⟩) (m + 1) c3) (m + 1) (natVals xs) := by have h := OX5.out; rw [HW5.out] at h; exact h
  have oy4 : w4.ownsRow w3.heap.size 29 1 (.slice (some ⟨gy, 0, none⟩) (m + 1) c4) (m + 1) (natVals ys) := HO4.out
  have ox6 : (w4.setCell ⟨gx, m, none⟩ (.int .i64 (Gm.notL x : Nat))).ownsRow W1.heap.size 29 1 (.slice (some ⟨gx, 0, none⟩) (m + 1) c3) (m + 1) (natVals (xs.set m (Gm.notL x))) := by
    rw [natVals_set]; exact own_set ox4 _
  have oy6 : (w4.setCell ⟨gx, m, none⟩ (.int .i64 (Gm.notL x : Nat))).ownsRow w3.heap.size 29 1 (.slice (some ⟨gy, 0, none⟩) (m + 1) c4) (m + 1) (natVals ys) := own_far oy4 _ (by simpa [Value.ownBlock] using HNE.out.symm)
  obtain ⟨u, hu2, cy6⟩ := own_cell (k := m) oy6 (by omega)
  obtain rfl : Value.int .i64 (y : Nat) = u := by rw [natVals_at HYM.out] at hu2; injection hu2
  have fy6 := own_unfrozen (k := m) oy6
  have ox7 : ((w4.setCell ⟨gx, m, none⟩ (.int .i64 (Gm.notL x : Nat))).setCell ⟨gy, m, none⟩ (.int .i64 (Gm.notL y : Nat))).ownsRow W1.heap.size 29 1 (.slice (some ⟨gx, 0, none⟩) (m + 1) c3) (m + 1) (natVals (xs.set m (Gm.notL x))) := own_far ox6 _ (by simpa [Value.ownBlock] using HNE.out)
  have oy7 : ((w4.setCell ⟨gx, m, none⟩ (.int .i64 (Gm.notL x : Nat))).setCell ⟨gy, m, none⟩ (.int .i64 (Gm.notL y : Nat))).ownsRow w3.heap.size 29 1 (.slice (some ⟨gy, 0, none⟩) (m + 1) c4) (m + 1) (natVals (ys.set m (Gm.notL y))) := by
    rw [natVals_set]; exact own_set oy6 _
  obtain ⟨W7, hW7⟩ : ∃ W7, W7 = ((w4.setCell ⟨gx, m, none⟩ (.int .i64 (Gm.notL x : Nat))).setCell ⟨gy, m, none⟩ (.int .i64 (Gm.notL y : Nat))).drew := ⟨_, rfl⟩
  have hb4 : Below w.heap.size w w4 := (HB1.out.trans (HB3.out.mono HB1.out.size)).trans ((below_row HGR4.out).mono (Nat.le_trans HB1.out.size HB3.out.size))
  have hb7 : Below w.heap.size w W7 := by
    rw [hW7]
    exact below_drewN ((hb4.setCell (by show w.heap.size ≤ gx; have := HB1.out.size; omega) _).setCell (by show w.heap.size ≤ gy; have := HB1.out.size; have := HB3.out.size; omega) _) 1
  have bx4 : Blk w4 w.heap.size 106 #[.pointer (some ⟨b, 0, none⟩)] := HBX3.out.below (below_row HGR4.out) HBX3.out.lt
  have bx7 : Blk W7 w.heap.size 106 #[.pointer (some ⟨b, 0, none⟩)] := by
    rw [hW7]
    exact ((bx4.far (p := ⟨gx, m, none⟩) (by show w.heap.size ≠ gx; have := HBX1.out.lt; omega) _).far (p := ⟨gy, m, none⟩) (by show w.heap.size ≠ gy; have := HB3.out.size; have := HBX1.out.lt; omega) _).drew
  have ox7' : W7.ownsRow W1.heap.size 29 1 (.slice (some ⟨gx, 0, none⟩) (m + 1) c3) (m + 1) (natVals (xs.set m (Gm.notL x))) := by rw [hW7]; exact ox7
  have oy7' : W7.ownsRow w3.heap.size 29 1 (.slice (some ⟨gy, 0, none⟩) (m + 1) c4) (m + 1) (natVals (ys.set m (Gm.notL y))) := by rw [hW7]; exact oy7
  have CM := Lib.hid (minus_any (c := c3) (c2 := c4) (HG.out.new hb7) (Held.of_own (B := B) ox7') (Held.of_own (B := B) oy7') (fun z hz => by
    rcases List.mem_or_eq_of_mem_set hz with hz | rfl
    · exact GX.out z hz
    · exact Gm.has_not (GX.out x (List.mem_of_getElem? HXM.out))) (fun z hz => by
    rcases List.mem_or_eq_of_mem_set hz with hz | rfl
    · exact GY.out z hz
    · exact Gm.has_not (GY.out y (List.mem_of_getElem? HYM.out))) HN.out hl)
  have HW7 := Lib.hid hW7
  have HB7 := Lib.hid hb7
  have CB7 := Lib.hid (bx7.cell 0)
  obtain ⟨_, _, fx, fy⟩ := HCX.out
  rw [HW5.out] at fx fy
  have hm1 : (m : Int) < (m : Int) + 1 := by omega
  clear ox4 oy4 ox6 oy6 ox7 oy7 ox7' oy7' hu2 hW7 hb7 bx4 bx7 hb4
  go_region_with (go_at_call 12; first | (refine (not_any x _ hxs).mono ?_; rintro e w' ⟨rfl, rfl⟩) | (refine (not_any y _ hys).mono ?_; rintro e w' ⟨rfl, rfl⟩))
  all_goals
    rw [← HW7.out]
    have cb7 := CB7.out
    clear fx fy cy6 fy6 cx4 cy4 hm1
    go_wp2_with fail
    refine CM.out.mono ?_
    rintro e w8 ⟨A8, c8, gs', outs, last, rfl, h1, h2, h3, h4, h5⟩
    have HG8 := Lib.hid h1
    have HC8 := Lib.hid h2
    have HM8 := Lib.hid h5
    have HLS := Lib.hid (show last ≤ 1000000 by have := h5.has; have := h5.len; have := HN.out; unfold Gm.has at *; omega)
    clear h1 h2 h3 h4 h5 cb7
    go_wp2_with fail
    refine (not_any last _ HLS.out).mono ?_
    rintro e w9 ⟨rfl, rfl⟩
    go_wp2
    go_ret
    refine ⟨gs', Gm.notL last, rfl, HG8.out, (Chg.of_new HB7.out).trans HC8.out, HM8.out.ext, Gm.has_not HM8.out.has, HM8.out.len, fun inp => ?_⟩
    rw [Gm.ev_not, HM8.out.eq, evs_flip HX.out.1 HXM.out, evs_flip HY.out.1 HYM.out]
    rfl
end Go.Proofs.YtmbjhpgemphmmaaDoor
