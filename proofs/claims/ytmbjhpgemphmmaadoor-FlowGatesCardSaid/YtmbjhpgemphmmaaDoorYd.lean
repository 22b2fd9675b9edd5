/-
  WALKS of package word: zero, neg, minus.
  WALKS of package word: minus, word.
-/
import Derived.Test.YtmbjhpgemphmmaaDoorYc
import Derived.Test.YtmbjhpgemphmmaaDoorYp
namespace Go.Proofs.YtmbjhpgemphmmaaDoor
open Go.RowKit

/-- literals that were made: what they come to -/
structure MadeW (gs gs' : List Gm.Gate) (k : Nat) (outs : List Nat) (f : List Bool → List Bool) : Prop where
  ext : Gm.Ext gs gs'
  all : AllHas gs' outs
  len : gs'.length ≤ gs.length + k
  eq : ∀ inp, evs inp gs' outs = f inp
/-- one literal that was made -/
structure MadeL (gs gs' : List Gm.Gate) (k : Nat) (out : Nat) (f : List Bool → Bool) : Prop where
  ext : Gm.Ext gs gs'
  has : Gm.has gs' out
  len : gs'.length ≤ gs.length + k
  eq : ∀ inp, Gm.ev inp gs' out = f inp
/-- a word of a maker's -/
def WG (w : World) (B b : Nat) (gs : List Gm.Gate) (k n : Nat) (f : List Bool → List Bool) (e : Ending) (w' : World) : Prop :=
  ∃ A c gs' outs, e = .returned (.slice A n c) ∧ GA w' B b gs' ∧ Chg (GT B) w w' ∧ w'.ownsRow w.heap.size 29 1 (.slice A n c) n (natVals outs) ∧ MadeW gs gs' k outs f
/-- a word and a literal -/
def WL (w : World) (B b : Nat) (gs : List Gm.Gate) (k n : Nat) (f : List Bool → List Bool) (g : List Bool → Bool) (e : Ending) (w' : World) : Prop :=
  ∃ A c gs' outs last, e = .returned (.tuple #[.slice A n c, .int .i64 (last : Nat)]) ∧ GA w' B b gs' ∧ Chg (GT B) w w' ∧ w'.ownsRow w.heap.size 29 1 (.slice A n c) n (natVals outs) ∧ MadeW gs gs' k outs f ∧ MadeL gs gs' k last g
/-- a literal of a maker's -/
def LG (w : World) (B b : Nat) (gs : List Gm.Gate) (k : Nat) (f : List Bool → Bool) (e : Ending) (w' : World) : Prop :=
  ∃ gs' out, e = .returned (.int .i64 (out : Nat)) ∧ GA w' B b gs' ∧ Chg (GT B) w w' ∧ MadeL gs gs' k out f
theorem natVals_len_own {w : World} {base n : Nat} {v : Value} {outs : List Nat} (h : w.ownsRow base 29 1 v n (natVals outs)) : outs.length = n := by
  have := h.1; rw [natVals_length] at this; omega
theorem evs_not (inp : List Bool) (gs : List Gm.Gate) (l : List Nat) : evs inp gs (l.map Gm.notL) = (evs inp gs l).map (!·) := by
  unfold evs; rw [List.map_map, List.map_map]; exact List.map_congr_left fun x _ => Gm.ev_not inp gs x
theorem evs_zeros (inp : List Bool) (gs : List Gm.Gate) (n : Nat) : evs inp gs (List.replicate n 0) = List.replicate n false := by
  unfold evs; rw [List.map_replicate, Gm.ev_zero]
theorem allHas_not {gs : List Gm.Gate} {l : List Nat} (h : AllHas gs l) : AllHas gs (l.map Gm.notL) := fun x hx => by
  obtain ⟨y, hy, rfl⟩ := List.mem_map.1 hx; exact Gm.has_not (h y hy)
theorem has_zero (gs : List Gm.Gate) : Gm.has gs 0 := by unfold Gm.has; omega
theorem has_one (gs : List Gm.Gate) : Gm.has gs 1 := by unfold Gm.has; omega
theorem allHas_zeros (gs : List Gm.Gate) (n : Nat) : AllHas gs (List.replicate n 0) := fun x hx => by rw [List.eq_of_mem_replicate hx]; exact has_zero gs
theorem allHas_small {gs : List Gm.Gate} {l : List Nat} (h : AllHas gs l) (hn : gs.length ≤ 100000) : ∀ x ∈ l, x ≤ 1000000 := fun x hx => by
  have := h x hx; unfold Gm.has at this; omega
/-- a sum as a word and a literal -/
theorem sum_wl {w : World} {B b : Nat} {gs : List Gm.Gate} (h : GA w B b gs) {A A2 : Option Addr} {c1 c2 n : Nat} {xs ys : List Nat} (hx : Held w B A n xs) (hy : Held w B A2 n ys) (gx : AllHas gs xs) (gy : AllHas gs ys) {c : Nat} (hc : Gm.has gs c)
    (hn : gs.length + 9 * n ≤ 99000) (hl : n ≤ 1000) :
    Calls Tryd.prog 78 #[.agg #[.pointer (some ⟨b, 0, none⟩)], .slice A n c1, .slice A2 n c2, .int .i64 (c : Nat)] w
      (WL w B b gs (9 * n) n (fun inp => Wp.sums (evs inp gs xs) (evs inp gs ys) (Gm.ev inp gs c)) (fun inp => Wp.carry (evs inp gs xs) (evs inp gs ys) (Gm.ev inp gs c))) := by
  obtain rfl := hx.1
  refine (sum_any (c1 := c1) (c2 := c2) h hx hy gx gy hc hn hl).mono ?_
  rintro e w' ⟨A', k, gs', outs, last, rfl, h1, h2, h3, h4⟩
  exact ⟨A', k, gs', outs, last, rfl, h1, h2, h3, ⟨h4.ext, h4.outs_, h4.len, fun inp => (h4.eq inp).1⟩, ⟨h4.ext, h4.last_, h4.len, fun inp => (h4.eq inp).2⟩⟩
set_option maxRecDepth 100000 in
theorem run_make_lits (n : Nat) (hn : n ≤ 1000000) (w : World) : (Instr.makeSlice 28 (.int .i64 (n : Int)) (.int .i64 (n : Int))).run Tryd.prog w =
    .ok (.slice (some ⟨w.heap.size, 0, none⟩) n n) (w.alloc (.cells (natVals (List.replicate n 0)).toArray 29)) := by
  obtain ⟨i0, hi, hz0, hz1, hz2⟩ := info_parts infoLit_
  have h := run_make_rowN (P := Tryd.prog) 28 29 i0 (.int .i64 0) Tryd.underlying28 hi hz0 .i64 .i64 n n (Nat.le_refl _) (by rw [hz2]; omega) (by omega) w
  rw [h]
  congr 3
  rw [hz1, Nat.mul_one]
  have e := toList_madeCells_one (.int .i64 0) n
  have e2 : natVals (List.replicate n 0) = List.replicate n (Value.int .i64 0) := by unfold natVals litVals; simp
  rw [e2, ← e]; rfl
set_option maxHeartbeats 400000 in
theorem zero_any (n : Nat) (hn : n ≤ 1000) (w : World) : Calls Tryd.prog 79 #[.int .i64 (n : Int)] w (WPost w n (List.replicate n 0)) := by
  have hmk := run_make_lits n (by omega) w
  go_enter Tryd.func79, Tryd.ntmps79
  go_wp2
  go_ret
  exact ⟨_, _, rfl, own_full (Nat.le_refl _) (by rw [natVals_length]; simp) (by omega), (Below.refl _ _).alloc (Nat.le_refl _) _⟩
attribute [local irreducible] wpSeq
set_option maxRecDepth 100000 in
set_option maxHeartbeats 1000000 in
theorem neg_any {w : World} {B b : Nat} {gs : List Gm.Gate} (h : GA w B b gs) {A : Option Addr} {c n : Nat} {xs : List Nat} (hx : Held w B A n xs) (gx : AllHas gs xs) (hn : gs.length + 9 * n ≤ 99000) (hl : n ≤ 1000) :
    Calls Tryd.prog 44 #[.agg #[.pointer (some ⟨b, 0, none⟩)], .slice A n c] w (WG w B b gs (9 * n) n (fun inp => Wp.negB (evs inp gs xs))) := by
  obtain ⟨W2, hW2⟩ : ∃ W2, W2 = (w.alloc (.cells #[.pointer (some ⟨b, 0, none⟩)] 106)).drew := ⟨_, rfl⟩
  have hb2 : Below w.heap.size w W2 := by rw [hW2]; exact below_drewN ((Below.refl _ _).alloc (Nat.le_refl _) _) 1
  have bx2 : Blk W2 w.heap.size 106 #[.pointer (some ⟨b, 0, none⟩)] := by rw [hW2]; exact Blk.new w _ _
  have C1 := Lib.hid (turned_any (c := c) (hx.new hb2) (allHas_small gx (by omega)) hl)
  have HG := Lib.hid (h.new hb2)
  have HB2 := Lib.hid hb2
  have HBX := Lib.hid bx2
  have HXL := Lib.hid hx.1
  have HGX := Lib.hid gx
  have HN := Lib.hid hn
  have HW2 := Lib.hid hW2
  have HS := Lib.hid (bx2.cell 0)
  clear h hx gx hn hW2 hb2 bx2
  go_enter Tryd.func44, Tryd.ntmps44
  go_wp2_with fail
  refine wp_region_seq (S := fun w' => w'.cell? ⟨w.heap.size, 0, none⟩ = some (.pointer (some ⟨b, 0, none⟩))) [(0, false), (1, false), (3, false), (4, false), (2, true), (5, true), (6, true), (7, false), (8, false), (9, false), (10, false), (11, false)] (by kernel_rfl) (by kernel_rfl) (by kernel_rfl) (by rw [← HW2.out]; exact HS.out) ?_
  rw [← HW2.out]
  iterate 4 (refine seq_take _ _ rfl (by kernel_rfl) (fun wv hv => by have hv1 := hv; clear hv; go_simp; try with_reducible rfl) ?_; simp only [Act.put, List.getElem_toArray, List.getElem_cons_zero, List.getElem_cons_succ, List.setIfInBounds_toArray, List.set_cons_zero, List.set_cons_succ])
  refine seq_act _ rfl (fun K hK => ?_)
  go_simp
  refine C1.out.mono ?_
  rintro e w3 ⟨A3, c3, rfl, ho, hb⟩
  have HO3 := Lib.hid ho
  have HB3 := Lib.hid hb
  have hbx3 := HBX.out.below hb HBX.out.lt
  have HBX3 := Lib.hid hbx3
  clear ho hb hbx3
  go_simp
  refine hK _ _ (HBX3.out.cell 0) ?_
  clear hK K
  refine seq_act _ rfl (fun K hK => ?_)
  go_simp
  refine (zero_any n hl _).mono ?_
  rintro e w4 ⟨A4, c4, rfl, ho, hb⟩
  have HO4 := Lib.hid ho
  have hb4 : Below W2.heap.size W2 w4 := HB3.out.trans (hb.mono HB3.out.size)
  have HB4 := Lib.hid hb4
  have HBX4 := Lib.hid (HBX3.out.below hb HBX3.out.lt)
  have HH3 := Lib.hid ((Held.of_own (B := B) HO3.out).new hb)
  clear ho hb hb4
  go_simp
  refine hK _ _ (HBX4.out.cell 0) ?_
  clear hK K
  refine seq_act _ rfl (fun K hK => ?_)
  go_simp
  refine (sum_wl (HG.out.new HB4.out) HH3.out (Held.of_own (B := B) HO4.out) (allHas_not HGX.out) (allHas_zeros gs n) (has_one gs) HN.out hl).mono ?_
  rintro e w5 ⟨A5, c5, gs', outs, last, rfl, h1, h2, h3, h4, h5⟩
  have HG5 := Lib.hid h1
  have HC5 := Lib.hid h2
  have HO5 := Lib.hid h3
  have HM5 := Lib.hid h4
  clear h1 h2 h3 h4 h5
  go_simp
  refine hK _ _ ((box_gt HBX4.out HC5.out).cell 0) ?_
  clear hK K
  iterate 5 (refine seq_take _ _ rfl (by kernel_rfl) (fun wv hv => by go_simp; try with_reducible rfl) ?_; simp only [Act.put, List.getElem_toArray, List.getElem_cons_zero, List.getElem_cons_succ, List.setIfInBounds_toArray, List.set_cons_zero, List.set_cons_succ])
  refine seq_nil ?_
  go_wp2
  go_ret
  have hb4 : Below w.heap.size w w4 := HB2.out.trans (HB4.out.mono HB2.out.size)
  refine ⟨A5, c5, gs', outs, rfl, HG5.out, (Chg.of_new hb4).trans HC5.out, own_base HO5.out hb4.size, HM5.out.ext, HM5.out.all, HM5.out.len, fun inp => ?_⟩
  rw [HM5.out.eq inp, evs_not, evs_zeros, Gm.ev_one]
  unfold Wp.negB
  rw [evs_length, HXL.out]
end Go.Proofs.YtmbjhpgemphmmaaDoor
namespace Go.Proofs.YtmbjhpgemphmmaaDoor
open Go.RowKit

theorem Held.form {w : World} {B n : Nat} {A : Option Addr} {xs : List Nat} (h : Held w B A n xs) (hn : 0 < n) : ∃ ad, A = some ad := by
  obtain ⟨ad, _, hA, _⟩ := h.2 hn; exact ⟨ad, hA⟩
theorem Held.at_ {w : World} {B n k x : Nat} {ad : Addr} {xs : List Nat} (h : Held w B (some ad) n xs) (hx : xs[k]? = some x) : w.cell? (ad.add k) = some (.int .i64 (x : Nat)) := by
  have hk := (List.getElem?_eq_some_iff.1 hx).1
  obtain ⟨ad', _, hA, _, _, hc⟩ := h.2 (by have := h.1; omega)
  obtain rfl : ad = ad' := by injection hA
  exact hc k x hx
theorem MadeW.step {gs gs1 gs2 : List Gm.Gate} {k j : Nat} {outs : List Nat} {f : List Bool → List Bool} (h : MadeW gs gs1 k outs f) (he : Gm.Ext gs1 gs2) (hl : gs2.length ≤ gs1.length + j) : MadeW gs gs2 (k + j) outs f :=
  ⟨h.ext.trans he, h.all.ext he, by have := h.len; omega, fun inp => by rw [evs_ext h.all he, h.eq]⟩
theorem MadeW.snoc {gs gs1 gs2 : List Gm.Gate} {k j y : Nat} {outs : List Nat} {f : List Bool → List Bool} {g : List Bool → Bool} (h : MadeW gs gs1 k outs f) (he : Gm.Ext gs1 gs2) (hl : gs2.length ≤ gs1.length + j) (hy : Gm.has gs2 y) (hv : ∀ inp, Gm.ev inp gs2 y = g inp) :
    MadeW gs gs2 (k + j) (outs ++ [y]) (fun inp => f inp ++ [g inp]) := by
  have h2 := h.step he hl
  refine ⟨h2.ext, fun z hz => ?_, h2.len, fun inp => ?_⟩
  · rcases List.mem_append.1 hz with hz | hz
    · exact h2.all z hz
    · rw [List.mem_singleton.1 hz]; exact hy
  · have := h2.eq inp
    unfold evs at this ⊢
    rw [List.map_append, this]
    simp [hv]
theorem MadeW.to {gs gs1 : List Gm.Gate} {k k' : Nat} {outs : List Nat} {f f' : List Bool → List Bool} (h : MadeW gs gs1 k outs f) (hk : k ≤ k') (hf : ∀ inp, f inp = f' inp) : MadeW gs gs1 k' outs f' :=
  ⟨h.ext, h.all, by have := h.len; omega, fun inp => by rw [h.eq, hf]⟩
theorem MadeL.to {gs gs1 : List Gm.Gate} {k k' : Nat} {out : Nat} {f f' : List Bool → Bool} (h : MadeL gs gs1 k out f) (hk : k ≤ k') (hf : ∀ inp, f inp = f' inp) : MadeL gs gs1 k' out f' :=
  ⟨h.ext, h.has, by have := h.len; omega, fun inp => by rw [h.eq, hf]⟩
theorem MadeL.step {gs gs1 gs2 : List Gm.Gate} {k j : Nat} {out : Nat} {f : List Bool → Bool} (h : MadeL gs gs1 k out f) (he : Gm.Ext gs1 gs2) (hl : gs2.length ≤ gs1.length + j) : MadeL gs gs2 (k + j) out f :=
  ⟨h.ext.trans he, he.has h.has, by have := h.len; omega, fun inp => by rw [Gm.ev_ext he h.has, h.eq]⟩
theorem madeL_if {gs gs1 : List Gm.Gate} {c x y : Nat} (hw : Gm.Wf gs1) (he : Gm.Ext gs gs1) (hc : Gm.has gs c) (hx : Gm.has gs x) (hy : Gm.has gs y) :
    MadeL gs1 (Gm.ifG gs1 c x y).1 3 (Gm.ifG gs1 c x y).2 (fun inp => if Gm.ev inp gs c then Gm.ev inp gs x else Gm.ev inp gs y) := by
  have h := fun inp => Gm.comes_if (inp := inp) hw (he.has hc) (he.has hx) (he.has hy)
  refine ⟨(h []).ext, (h []).has, Gm.orOf_len .., fun inp => ?_⟩
  rw [(h inp).ev, Gm.ev_ext he hc, Gm.ev_ext he hx, Gm.ev_ext he hy]
theorem evs_snoc {inp : List Bool} {gs : List Gm.Gate} {xs : List Nat} {k x : Nat} (hx : xs[k]? = some x) : evs inp gs (xs.take (k + 1)) = evs inp gs (xs.take k) ++ [Gm.ev inp gs x] := by
  rw [Gm.take_one hx]; unfold evs; simp
theorem Wp.pickB_snoc (c : Bool) (a b : List Bool) (x y : Bool) : Wp.pickB c (a ++ [x]) (b ++ [y]) = Wp.pickB c a b ++ [if c then x else y] := by
  unfold Wp.pickB; cases c <;> rfl
attribute [local irreducible] wpSeq
set_option maxRecDepth 100000 in
set_option maxHeartbeats 1000000 in
theorem minus_any {w : World} {B b : Nat} {gs : List Gm.Gate} (h : GA w B b gs) {A A2 : Option Addr} {c c2 n : Nat} {xs ys : List Nat} (hx : Held w B A n xs) (hy : Held w B A2 n ys) (gx : AllHas gs xs) (gy : AllHas gs ys) (hn : gs.length + 9 * n ≤ 99000) (hl : n ≤ 1000) :
    Calls Tryd.prog 85 #[.agg #[.pointer (some ⟨b, 0, none⟩)], .slice A n c, .slice A2 n c2] w (WL w B b gs (9 * n) n (fun inp => Wp.minusB (evs inp gs xs) (evs inp gs ys)) (fun inp => Wp.geB (evs inp gs xs) (evs inp gs ys))) := by
  obtain ⟨W2, hW2⟩ : ∃ W2, W2 = (w.alloc (.cells #[.pointer (some ⟨b, 0, none⟩)] 106)).drew := ⟨_, rfl⟩
  have hb2 : Below w.heap.size w W2 := by rw [hW2]; exact below_drewN ((Below.refl _ _).alloc (Nat.le_refl _) _) 1
  have bx2 : Blk W2 w.heap.size 106 #[.pointer (some ⟨b, 0, none⟩)] := by rw [hW2]; exact Blk.new w _ _
  have C1 := Lib.hid (turned_any (c := c2) (hy.new hb2) (allHas_small gy (by omega)) hl)
  have HX := Lib.hid (hx.new hb2)
  have HG := Lib.hid (h.new hb2)
  have HB2 := Lib.hid hb2
  have HBX := Lib.hid bx2
  have HGX := Lib.hid gx
  have HGY := Lib.hid gy
  have HN := Lib.hid hn
  have HW2 := Lib.hid hW2
  have HS := Lib.hid (bx2.cell 0)
  clear h hx hy gx gy hn hW2 hb2 bx2
  go_enter Tryd.func85, Tryd.ntmps85
  go_wp2_with fail
  refine wp_region_seq (S := fun w' => w'.cell? ⟨w.heap.size, 0, none⟩ = some (.pointer (some ⟨b, 0, none⟩))) [(0, false), (1, false), (2, false), (3, true), (4, true), (5, false), (6, false), (7, false), (8, false)] (by kernel_rfl) (by kernel_rfl) (by kernel_rfl) (by rw [← HW2.out]; exact HS.out) ?_
  rw [← HW2.out]
  iterate 3 (refine seq_take _ _ rfl (by kernel_rfl) (fun wv hv => by have hv1 := hv; clear hv; go_simp; try with_reducible rfl) ?_; simp only [Act.put, List.getElem_toArray, List.getElem_cons_zero, List.getElem_cons_succ, List.setIfInBounds_toArray, List.set_cons_zero, List.set_cons_succ])
  refine seq_act _ rfl (fun K hK => ?_)
  go_simp
  refine C1.out.mono ?_
  rintro e w3 ⟨A3, c3, rfl, ho, hb⟩
  have HO3 := Lib.hid ho
  have HB3 := Lib.hid hb
  have HBX3 := Lib.hid (HBX.out.below hb HBX.out.lt)
  clear ho hb
  go_simp
  refine hK _ _ (HBX3.out.cell 0) ?_
  clear hK K
  refine seq_act _ rfl (fun K hK => ?_)
  go_simp
  refine (sum_wl (HG.out.new HB3.out) (HX.out.new HB3.out) (Held.of_own (B := B) HO3.out) HGX.out (allHas_not HGY.out) (has_one gs) HN.out hl).mono ?_
  rintro e w5 ⟨A5, c5, gs', outs, last, rfl, h1, h2, h3, h4, h5⟩
  have HG5 := Lib.hid h1
  have HC5 := Lib.hid h2
  have HO5 := Lib.hid h3
  have HM5 := Lib.hid h4
  have HM6 := Lib.hid h5
  clear h1 h2 h3 h4 h5
  go_simp
  refine hK _ _ ((box_gt HBX3.out HC5.out).cell 0) ?_
  clear hK K
  iterate 4 (refine seq_take _ _ rfl (by kernel_rfl) (fun wv hv => by go_simp; try with_reducible rfl) ?_; simp only [Act.put, List.getElem_toArray, List.getElem_cons_zero, List.getElem_cons_succ, List.setIfInBounds_toArray, List.set_cons_zero, List.set_cons_succ])
  refine seq_nil ?_
  go_wp2
  go_ret2
  have hb4 : Below w.heap.size w w3 := HB2.out.trans (HB3.out.mono HB2.out.size)
  have hf : ∀ inp, evs inp gs (ys.map Gm.notL) = (evs inp gs ys).map (!·) := fun inp => evs_not inp gs ys
  refine ⟨A5, c5, gs', outs, last, rfl, HG5.out, (Chg.of_new hb4).trans HC5.out, own_base HO5.out hb4.size, HM5.out.to (Nat.le_refl _) fun inp => ?_, HM6.out.to (Nat.le_refl _) fun inp => ?_⟩
  · rw [hf, Gm.ev_one]; rfl
  · rw [hf, Gm.ev_one]; rfl
def WRel (W : World) (B b : Nat) (gs : List Gm.Gate) (c : Nat) (xs ys : List Nat) (ov iv : Value) (wr : World) : Prop :=
  ∃ k gs' outs, k ≤ xs.length ∧ iv = .int .i64 (k : Nat) ∧ (∃ A cp, ov = .slice A k cp) ∧ GA wr B b gs' ∧ Chg (GT B) W wr ∧ wr.ownsRow W.heap.size 29 1 ov k (natVals outs) ∧
    Blk wr W.heap.size 106 #[.pointer (some ⟨b, 0, none⟩)] ∧ MadeW gs gs' (3 * k) outs (fun inp => Wp.pickB (Gm.ev inp gs c) (evs inp gs (xs.take k)) (evs inp gs (ys.take k)))
set_option maxRecDepth 100000 in
set_option maxHeartbeats 2000000 in
theorem word_any {w : World} {B b : Nat} {gs : List Gm.Gate} (h : GA w B b gs) {c : Nat} (hc : Gm.has gs c) {A A2 : Option Addr} {c1 c2 n : Nat} {xs ys : List Nat} (hx : Held w B A n xs) (hy : Held w B A2 n ys) (gx : AllHas gs xs) (gy : AllHas gs ys)
    (hn : gs.length + 3 * n ≤ 99000) (hl : n ≤ 1000) :
    Calls Tryd.prog 45 #[.agg #[.pointer (some ⟨b, 0, none⟩)], .int .i64 (c : Nat), .slice A n c1, .slice A2 n c2] w (WG w B b gs (3 * n) n (fun inp => Wp.pickB (Gm.ev inp gs c) (evs inp gs xs) (evs inp gs ys))) := by
  obtain ⟨i0, hi0, hz0, hz1, hz2⟩ := info_parts infoLit_
  have HIN := Lib.hid (show _ ∧ _ ∧ _ ∧ _ from ⟨hi0, hz0, hz1, hz2⟩)
  obtain rfl := hx.1
  have HG := Lib.hid h
  have HX := Lib.hid hx
  have HY := Lib.hid hy
  have GX := Lib.hid gx
  have GY := Lib.hid gy
  have HC := Lib.hid hc
  have HN := Lib.hid hn
  clear h hx hy gx gy hc hn hi0 hz0 hz1 hz2
  go_enter Tryd.func45, Tryd.ntmps45
  go_wp2_with fail
  go_loopw [9, 13] (fun ov iv wr => WRel w B b gs c xs ys ov iv wr) (fun _ iv _ => xs.length - (intOf iv).toNat)
  case atStart =>
    refine ⟨0, gs, [], Nat.zero_le _, rfl, ⟨none, 0, rfl⟩, HG.out.new ((Below.refl _ _).alloc (Nat.le_refl _) _), (Chg.refl _ _).alloc _, World.ownsRow_nil _ _ _ _, Blk.new w _ _, .refl _, (fun x hx => by cases hx), by simp, fun inp => ?_⟩
    unfold Wp.pickB evs; split <;> rfl
  case round =>
    obtain ⟨k, gs1, outs, hk, rfl, ⟨Ao, co, rfl⟩, hg, hch, hown, hbox, hso⟩ := hrel
    by_cases hkl : k < xs.length
    · obtain ⟨x, hxk⟩ : ∃ x, xs[k]? = some x := ⟨_, List.getElem?_eq_getElem hkl⟩
      obtain ⟨y, hyk⟩ : ∃ y, ys[k]? = some y := ⟨_, List.getElem?_eq_getElem (by have := HY.out.1; omega)⟩
      obtain ⟨ad, rfl⟩ := HX.out.form (by omega)
      obtain ⟨ad2, rfl⟩ := HY.out.form (by omega)
      have HS := Lib.hid (show ∀ w', Chg (GT B) w w' → Blk w' w.heap.size 106 #[.pointer (some ⟨b, 0, none⟩)] → w'.cell? ⟨w.heap.size, 0, none⟩ = some (.pointer (some ⟨b, 0, none⟩)) ∧ w'.cell? (ad.add k) = some (.int .i64 (x : Nat)) ∧ w'.cell? (ad2.add k) = some (.int .i64 (y : Nat)) from
        fun w' hc hb => ⟨hb.cell 0, (HX.out.gt hc).at_ hxk, (HY.out.gt hc).at_ hyk⟩)
      have hxh := GX.out x (List.mem_of_getElem? hxk)
      have hyh := GY.out y (List.mem_of_getElem? hyk)
      have hl1 : gs1.length ≤ gs.length + 3 * k := hso.len
      obtain ⟨r, er⟩ : ∃ r, r = Gm.ifG gs1 c x y := ⟨_, rfl⟩
      have hr := madeL_if hg.wf hso.ext HC.out hxh hyh
      rw [← er] at hr
      have HN1 := Lib.hid (show MadeW gs r.1 (3 * (k + 1)) (outs ++ [r.2]) (fun inp => Wp.pickB (Gm.ev inp gs c) (evs inp gs (xs.take (k + 1))) (evs inp gs (ys.take (k + 1)))) from
        (hso.snoc hr.ext hr.len hr.has hr.eq).to (by omega) fun inp => by rw [evs_snoc hxk, evs_snoc hyk, Wp.pickB_snoc])
      obtain ⟨W2, hW2⟩ : ∃ W2, W2 = wr.drew := ⟨_, rfl⟩
      have hc2 : Chg (GT B) w W2 := by rw [hW2]; exact hch.drew
      have hbx2 : Blk W2 w.heap.size 106 #[.pointer (some ⟨b, 0, none⟩)] := by rw [hW2]; exact hbox
      have ho2 : W2.ownsRow w.heap.size 29 1 (.slice Ao k co) k (natVals outs) := by rw [hW2]; exact hown
      have C1 := mkr_pick (show GA W2 B b gs1 by rw [hW2]; exact hg.drewN 1) (by have := HN.out; omega) (hso.ext.has HC.out) (hso.ext.has hxh) (hso.ext.has hyh)
      rw [← er] at C1
      have C1 := Lib.hid C1
      have HC2 := Lib.hid hc2
      have HBX2 := Lib.hid hbx2
      have HO2 := Lib.hid ho2
      have HS2 := Lib.hid (HS.out _ hc2 hbx2)
      have HW2 := Lib.hid hW2
      clear hxk hyk hxh hyh hl1 er hr hW2 hc2 hbx2 ho2 hg hch hown hbox hso
      go_wp2_with fail
      refine wp_region_seq (S := fun w' => w'.cell? ⟨w.heap.size, 0, none⟩ = some (.pointer (some ⟨b, 0, none⟩)) ∧ w'.cell? (ad.add k) = some (.int .i64 (x : Nat)) ∧ w'.cell? (ad2.add k) = some (.int .i64 (y : Nat))) [(0, false), (1, false), (2, false), (3, false), (4, false), (5, false), (6, false), (7, false), (8, false), (9, false), (10, false), (11, true), (12, true), (13, true), (14, false)] (by kernel_rfl) (by kernel_rfl) (by kernel_rfl) (by rw [← HW2.out]; exact HS2.out) ?_
      rw [← HW2.out]
      iterate 11 (refine seq_take _ _ rfl (by kernel_rfl) (fun wv hv => by obtain ⟨hv1, hv2, hv3⟩ := hv; go_simp; try with_reducible rfl) ?_; simp only [Act.put, List.getElem_toArray, List.getElem_cons_zero, List.getElem_cons_succ, List.setIfInBounds_toArray, List.set_cons_zero, List.set_cons_succ])
      refine seq_act _ rfl (fun K hK => ?_)
      go_simp
      refine C1.out.mono ?_
      rintro e w3 ⟨rfl, h1, h2⟩
      have HG3 := Lib.hid h1
      have HC3 := Lib.hid (HC2.out.trans h2)
      have HBX3 := Lib.hid (box_gt HBX2.out h2)
      have HO3 := Lib.hid (own_gt HO2.out h2)
      have hs3 := HC3.out.size
      clear h1 h2
      go_simp
      refine hK _ _ (HS.out _ HC3.out HBX3.out) ?_
      clear hK K
      refine seq_act _ rfl (fun K hK => ?_)
      go_simp
      go_simp
      refine hK _ _ (HS.out _ (HC3.out.alloc _) (HBX3.out.alloc _)) ?_
      clear hK K
      refine seq_act _ rfl (fun K hK => ?_)
      refine step_append_sl _ rfl (.tmp 16) (.tmp 28) _ rfl w.heap.size 29 i0 _ 1 8 Tryd.underlying28 HIN.out.1 HIN.out.2.1 HIN.out.2.2.1 HIN.out.2.2.2 rfl (by omega) _ k _ rfl (HO3.out.alloc _) (w3.heap.size + 1) (some ⟨w3.heap.size, 0, none⟩) 1 1 [.int .i64 (r.2 : Nat)] rfl (reads_new rfl (by omega) rfl) (ints_one (by simp)) (le_maxLen (by omega)) (le_bytes (by omega) (by omega)) (by simp; omega) ?_
      intro A5 c5 w5 hown5 hg5
      have hg6 : (w3.alloc (.cells #[.int .i64 (r.2 : Nat)] 29)).grownBy w5 (Value.slice Ao k co).ownBlock := hg5
      have HG5 := Lib.hid (HG3.out.row (row_chg HO3.out hg6))
      have HCH5 := Lib.hid (gt_grown HC3.out HO3.out (Nat.le_refl _) hg6)
      have HBX5 := Lib.hid ((HBX3.out.alloc _).grown hg6 (own_blk_ne HO3.out HBX3.out (by decide)).symm)
      have HO5 := Lib.hid (show w5.ownsRow w.heap.size 29 1 (.slice A5 (k + 1) c5) (k + 1) (natVals (outs ++ [r.2])) by rw [natVals_append]; exact hown5)
      clear hown5 hg5 hg6
      refine hK _ _ (HS.out _ HCH5.out HBX5.out) ?_
      clear hK K
      try simp only [Act.put, List.getElem_toArray, List.getElem_cons_zero, List.getElem_cons_succ, List.setIfInBounds_toArray, List.set_cons_zero, List.set_cons_succ]
      iterate 1 (refine seq_take _ _ rfl (by kernel_rfl) (fun wv hv => by go_simp; try with_reducible rfl) ?_; simp only [Act.put, List.getElem_toArray, List.getElem_cons_zero, List.getElem_cons_succ, List.setIfInBounds_toArray, List.set_cons_zero, List.set_cons_succ])
      refine seq_nil ?_
      go_wp2_with fail
      go_roundw
      case rel => exact ⟨k + 1, _, _, by omega, by go_num, ⟨_, _, rfl⟩, HG5.out, HCH5.out, HO5.out, HBX5.out, HN1.out⟩
      case measure => simp [intOf]; omega
    · obtain rfl : k = xs.length := by omega
      have HG1 := Lib.hid hg
      have HCH := Lib.hid hch
      have HO := Lib.hid hown
      have HSO := Lib.hid hso
      clear hg hch hown hbox hso
      go_wp2
      go_ret
      refine ⟨Ao, co, gs1, outs, rfl, HG1.out, HCH.out, HO.out, HSO.out.to (Nat.le_refl _) fun inp => ?_⟩
      rw [List.take_length, List.take_of_length_le (by have := HY.out.1; omega)]
end Go.Proofs.YtmbjhpgemphmmaaDoor
