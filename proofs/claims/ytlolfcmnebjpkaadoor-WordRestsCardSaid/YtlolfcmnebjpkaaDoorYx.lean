/-
  THE WALK of the law WordRing.
-/
import Derived.Test.YtlolfcmnebjpkaaDoorYu
import Derived.Test.YtlolfcmnebjpkaaDoorWr
import Derived.Test.YtlolfcmnebjpkaaDoorGx
namespace Go.Proofs.YtlolfcmnebjpkaaDoor
open Go.RowKit
namespace Wp
/-- a product of a sum is a sum of products; turned around they are the same -/
theorem ring {a b c : List Bool} {n : Nat} (ha : a.length = n) (hb : b.length = n) (hc : c.length = n) :
    timesB a (sums b c false) = sums (timesB a b) (timesB a c) false ∧ timesB a (sums b c false) = timesB (sums c b false) a := by
  have ra := Rep.self a
  have rb := Rep.self b
  have rc := Rep.self c
  rw [ha] at ra
  rw [hb] at rb
  rw [hc] at rc
  have z : ((bit false : Nat) : Int) = 0 := rfl
  have h1 := rep_times ra (rep_sums rb rc false)
  have h2 := rep_sums (rep_times ra rb) (rep_times ra rc) false
  have h3 := rep_times (rep_sums rc rb false) ra
  have e1 : (nu a : Int) * ((nu b : Int) + nu c + ((bit false : Nat) : Int)) = (nu a : Int) * nu b + (nu a : Int) * nu c + ((bit false : Nat) : Int) := by rw [z, Int.add_zero, Int.mul_add, Int.add_zero]
  have e2 : (nu a : Int) * ((nu b : Int) + nu c + ((bit false : Nat) : Int)) = ((nu c : Int) + nu b + ((bit false : Nat) : Int)) * nu a := by rw [z, Int.add_zero, Int.add_zero, Int.mul_comm, Int.add_comm (nu c : Int)]
  rw [e1] at h1
  refine ⟨h1.inj h2, ?_⟩
  rw [← e1, e2] at h1
  exact h1.inj h3
end Wp
/-- an append onto a row of the call's own, from what is there -/
theorem own_below {w w1 : World} {base e n B0 : Nat} {v : Value} {xs : List Value} (ho : w.ownsRow base e 1 v n xs) (hB : B0 ≤ base) (hs : B0 ≤ w.heap.size) (hg : w.grownBy w1 v.ownBlock) : Below B0 w w1 :=
  ⟨hg.os, hg.tape, hg.output, hg.size, fun k hk => hg.block k (by omega) fun e' => by have := (ho.lt k e'.symm).1; omega⟩
theorem own_reads {w : World} {base n c : Nat} {A : Option Addr} {xs : List Nat} (h : w.ownsRow base 33 1 (.slice A n c) n (natVals xs)) : Reads w w.heap.size 1 A n (natVals xs) := Reads.of_own h
theorem evs_app (inp : List Bool) (gs : List Gm.Gate) (a b : List Nat) : evs inp gs (a ++ b) = evs inp gs a ++ evs inp gs b := by unfold evs; rw [List.map_append]
/-- Eval's answer, its length written out -/
def EvM (w : World) (bs : List Bool) (n : Nat) (e : Ending) (w' : World) : Prop :=
  ∃ A c, e = .returned (.tuple #[.slice A n c, .nilIface]) ∧ w'.ownsRow w.heap.size 4 1 (.slice A n c) n (boolVals bs) ∧ Below w.heap.size w w'
theorem eval_words {w : World} {B b : Nat} {gs : List Gm.Gate} (hg : GA w B b gs) {A A2 : Option Addr} {c c2 n m BR : Nat} {inp : List Bool} (hil : inp.length = n) (hi : n = Gm.ins gs) (hri : Reads w BR 1 A n (boolVals inp)) (hBR : BR ≤ w.heap.size)
    {l : List Nat} (hr : Reads w w.heap.size 1 A2 m (natVals l)) (hlm : l.length = m) (hl : m ≤ 1000000) (hw : AllHas gs l) :
    Calls Tryd.prog 28 #[.pointer (some ⟨b, 0, none⟩), .slice A n c, .slice A2 m c2] w (EvM w (evs inp gs l) m) := by
  subst hil
  subst hlm
  refine (geval_any (c := c) (c2 := c2) hg hi hri hBR (l := l) hr (Nat.le_refl _) hl hw).mono ?_
  rintro e w' ⟨A', c', rfl, h1, h2⟩
  have hlen : (l.map (Gm.ev inp gs)).length = l.length := List.length_map _
  rw [hlen] at h1
  exact ⟨A', c', by rw [hlen], h1, h2⟩
/-- one literal made behind another graph -/
theorem MadeW.val {gs gs1 gs2 : List Gm.Gate} {k : Nat} {outs : List Nat} {f : List Bool → List Bool} (h : MadeW gs gs1 k outs f) (he : Gm.Ext gs1 gs2) (inp : List Bool) : evs inp gs2 outs = f inp := by rw [evs_ext h.all he, h.eq]
/-- what is read of a row of bools -/
theorem bool_at {w : World} {base n c g k : Nat} {bs : List Bool} {bb : Bool} (h : w.ownsRow base 4 1 (.slice (some ⟨g, 0, none⟩) n c) n (boolVals bs)) (hk : bs[k]? = some bb) : w.cell? ⟨g, k, none⟩ = some (.bool bb) := by
  have hl := (List.getElem?_eq_some_iff.1 hk).1
  have hn : bs.length = n := by have := h.1; unfold boolVals at this; simp at this; omega
  obtain ⟨u, hu, hc⟩ := own_cell (k := k) h (by omega)
  unfold boolVals at hu
  rw [List.getElem?_map, hk] at hu
  rw [hc]; rw [← hu]; rfl
theorem natVals_app3 (a b c : List Nat) : natVals a ++ natVals b ++ natVals c = natVals (a ++ b ++ c) := by rw [natVals_append, natVals_append]
theorem app3_at {a b c : List Bool} {k : Nat} {x : Bool} (ha : a.length = 8) (hb : b.length = 8) (hk : k < 8) : (a[k]? = some x → (a ++ b ++ c)[k]? = some x) ∧ (b[k]? = some x → (a ++ b ++ c)[8 + k]? = some x) ∧ (c[k]? = some x → (a ++ b ++ c)[16 + k]? = some x) := by
  refine ⟨fun h => ?_, fun h => ?_, fun h => ?_⟩
  · rw [List.append_assoc, List.getElem?_append_left (by omega)]; exact h
  · rw [List.append_assoc, List.getElem?_append_right (by omega), List.getElem?_append_left (by omega)]
    rw [← h]; congr 1; omega
  · rw [List.getElem?_append_right (by simp; omega)]
    rw [← h]; congr 1; simp; omega
def RgR (W : World) (iv : Value) (wx : World) : Prop := ∃ k : Nat, k ≤ 8 ∧ iv = .int .i64 k ∧ Below W.heap.size W wx
attribute [local irreducible] wpSeq wpStill
set_option maxRecDepth 100000 in
set_option maxHeartbeats 8000000 in
theorem ring_any {w : World} {LB : Nat} (hL : Lvls w LB) (hLB : LB ≤ w.heap.size) {x y z : Int} (hx : (Lit.int .i64 x).wf = true) (hy : (Lit.int .i64 y).wf = true) (hz : (Lit.int .i64 z).wf = true) :
    Calls Tryd.prog 8 #[.int .i64 x, .int .i64 y, .int .i64 z] w (LPost w) := by
  obtain ⟨i0, hi0, hz0, hz1, hz2⟩ := info_parts infoLit_
  have HIN := Lib.hid (show _ ∧ _ ∧ _ ∧ _ from ⟨hi0, hz0, hz1, hz2⟩)
  have HL := Lib.hid hL
  have HLB := Lib.hid hLB
  have HWF := Lib.hid (show ∀ v ∈ [x, y, z], (Lit.int .i64 v).wf = true from fun v hv => by
    simp only [List.mem_cons, List.not_mem_nil, or_false] at hv
    rcases hv with rfl | rfl | rfl <;> assumption)
  clear hL hLB hx hy hz hi0 hz0 hz1 hz2
  go_enter Tryd.func8, Tryd.ntmps8
  go_wp2_with fail
  refine (five_any _).mono ?_
  rintro e w1 ⟨rfl, hb1⟩
  have HB1 := Lib.hid hb1
  have hga := ga_new w1 (B := w1.heap.size) (Nat.le_refl _)
  obtain ⟨W2, hW2⟩ : ∃ W2, W2 = w1.alloc (.cells #[.slice none 0 0, .int .i64 0, .map none] 68) := ⟨_, rfl⟩
  rw [← hW2] at hga
  have hb12 : Below w1.heap.size w1 W2 := by rw [hW2]; exact (Below.refl _ _).alloc (Nat.le_refl _) _
  have HB2 := Lib.hid hb12
  have HLB2 := Lib.hid (Nat.le_trans HLB.out hb1.size)
  have HL2 := Lib.hid ((HL.out.below hb1 HLB.out).below hb12 HLB2.out)
  have CW := Lib.hid (wordsOf_any hga (many := 3) (by omega) (by omega))
  have HW2 := Lib.hid hW2
  clear hb1 hga hW2 hb12
  go_wp2_with fail
  rw [← HW2.out]
  refine CW.out.mono ?_
  rintro e w3 ⟨Aw, cw, rfl, h1, h2, h3⟩
  obtain ⟨ad, ow, rfl, _, _, hcell⟩ := id h3
  obtain ⟨A0, c0, q0, hh0⟩ := hcell 0 (wordL 0) rfl
  obtain ⟨A1, c1, q1, hh1⟩ := hcell 1 (wordL 1) rfl
  obtain ⟨A2, c2, q2, hh2⟩ := hcell 2 (wordL 2) rfl
  rw [wordL_length] at q0 q1 q2 hh0 hh1 hh2
  have HG3 := Lib.hid h1
  have HC3 := Lib.hid h2
  have HH0 := Lib.hid hh0
  have HH1 := Lib.hid hh1
  have HH2 := Lib.hid hh2
  have HS := Lib.hid (show ∀ w', Chg (GT w1.heap.size) w3 w' → w'.cell? ad = some (.slice A0 8 c0) ∧ w'.cell? ⟨ad.block, ad.off + 1, none⟩ = some (.slice A1 8 c1) ∧ w'.cell? ⟨ad.block, ad.off + 2, none⟩ = some (.slice A2 8 c2) from
    fun w' hc => ⟨(h3.same hc 0).trans q0, (h3.same hc 1).trans q1, (h3.same hc 2).trans q2⟩)
  have HLV := Lib.hid (show ∀ w', Chg (GT w1.heap.size) w3 w' → Lvls w' LB ∧ LB ≤ w'.heap.size from fun w' hc => by
    have hcc := HC3.out.trans hc
    have hs := HB2.out.size
    exact ⟨HL2.out.below (GT.below hcc hs) HLB2.out, Nat.le_trans HLB2.out (Nat.le_trans hs hcc.size)⟩)
  have G0 := Lib.hid (wordL_has (i := 0) (n := 24) (by omega))
  have G1 := Lib.hid (wordL_has (i := 1) (n := 24) (by omega))
  have G2 := Lib.hid (wordL_has (i := 2) (n := 24) (by omega))
  obtain ⟨W4, hW4⟩ : ∃ W4, W4 = w3.drew := ⟨_, rfl⟩
  have HD4 := Lib.hid (show Chg (GT w1.heap.size) w3 W4 by rw [hW4]; exact (Chg.refl _ _).drew)
  have HG4 := Lib.hid (show GA W4 w1.heap.size w1.heap.size (inps 24) by rw [hW4]; exact h1.drewN 1)
  have HW4 := Lib.hid hW4
  clear h1 h2 h3 hcell q0 q1 q2 hh0 hh1 hh2 hW4
  go_wp2_with fail
  refine wp_region_seq (S := fun w' => w'.cell? ad = some (.slice A0 8 c0) ∧ w'.cell? ⟨ad.block, ad.off + 1, none⟩ = some (.slice A1 8 c1) ∧ w'.cell? ⟨ad.block, ad.off + 2, none⟩ = some (.slice A2 8 c2)) [(0, false), (1, false), (2, false), (3, false), (4, false), (5, false), (6, false), (7, false), (8, false), (9, false), (10, false), (11, true), (12, true), (13, false)] (by kernel_rfl) (by kernel_rfl) (by kernel_rfl) (by rw [← HW4.out]; exact HS.out _ HD4.out) ?_
  rw [← HW4.out]
  iterate 11 (refine seq_take _ _ rfl (by kernel_rfl) (fun wv hv => by obtain ⟨hv1, hv2, hv3⟩ := hv; go_simp; try with_reducible rfl) ?_; simp only [Act.put, List.getElem_toArray, List.getElem_cons_zero, List.getElem_cons_succ, List.setIfInBounds_toArray, List.set_cons_zero, List.set_cons_succ])
  refine seq_act _ rfl (fun K hK => ?_)
  go_simp
  refine (made_plus HG4.out (HLV.out _ HD4.out).1 (HLV.out _ HD4.out).2 (HH1.out.gt HD4.out) (HH2.out.gt HD4.out) G1.out G2.out (by rw [inps_length]; omega)).mono ?_
  rintro e w5 ⟨A5, c5, gs5, l5, rfl, h1, h2, h3, h4⟩
  have HD5 := Lib.hid (HD4.out.trans h2)
  have HM5 := Lib.hid h4
  have HL5 := Lib.hid (show gs5.length ≤ 1824 by have := h4.len; rw [inps_length] at this; exact this)
  have CT := Lib.hid (made_times (c0 := c0) (c1 := c5) h1 (HLV.out _ HD5.out).1 (HLV.out _ HD5.out).2 (HH0.out.gt HD5.out) (Held.of_own (B := w1.heap.size) h3) (G0.out.ext h4.ext) h4.all (by have := HL5.out; omega))
  clear h1 h2 h3 h4
  go_simp
  refine hK _ _ (HS.out _ HD5.out) ?_
  clear hK K
  refine seq_act _ rfl (fun K hK => ?_)
  go_simp
  refine CT.out.mono ?_
  rintro e w6 ⟨A6, c6, gs6, l6, rfl, h1, h2, h3, h4⟩
  have HD6 := Lib.hid (HD5.out.trans h2)
  have HM6 := Lib.hid h4
  have HL6 := Lib.hid (show gs6.length ≤ 3624 by have := h4.len; have := HL5.out; omega)
  have HO6 := Lib.hid h3
  have HG6 := Lib.hid h1
  clear h1 h2 h3 h4
  go_simp
  refine hK _ _ (HS.out _ HD6.out) ?_
  clear hK K
  iterate 1 (refine seq_take _ _ rfl (by kernel_rfl) (fun wv hv => by go_simp; try with_reducible rfl) ?_; simp only [Act.put, List.getElem_toArray, List.getElem_cons_zero, List.getElem_cons_succ, List.setIfInBounds_toArray, List.set_cons_zero, List.set_cons_succ])
  refine seq_nil ?_
  obtain ⟨W7, hW7⟩ : ∃ W7, W7 = w6.drew := ⟨_, rfl⟩
  have HD7 := Lib.hid (show Chg (GT w1.heap.size) w3 W7 by rw [hW7]; exact HD6.out.drew)
  have HG7 := Lib.hid (show GA W7 w1.heap.size w1.heap.size gs6 by rw [hW7]; exact HG6.out.drewN 1)
  have HO7 := Lib.hid (show W7.ownsRow w5.heap.size 33 1 (.slice A6 8 c6) 8 (natVals l6) by rw [hW7]; exact HO6.out)
  have HX6 := Lib.hid (show Gm.Ext (inps 24) gs6 from HM5.out.ext.trans HM6.out.ext)
  have HW7 := Lib.hid hW7
  clear hW7
  go_wp2_with fail
  refine wp_region_seq (S := fun w' => w'.cell? ad = some (.slice A0 8 c0) ∧ w'.cell? ⟨ad.block, ad.off + 1, none⟩ = some (.slice A1 8 c1) ∧ w'.cell? ⟨ad.block, ad.off + 2, none⟩ = some (.slice A2 8 c2)) [(0, false), (1, false), (2, false), (3, false), (4, false), (5, false), (6, false), (7, false), (9, false), (10, false), (11, false), (12, false), (13, false), (14, false), (15, false), (8, true), (16, true), (17, true), (18, false)] (by kernel_rfl) (by kernel_rfl) (by kernel_rfl) (by rw [← HW7.out]; exact HS.out _ HD7.out) ?_
  rw [← HW7.out]
  iterate 15 (refine seq_take _ _ rfl (by kernel_rfl) (fun wv hv => by obtain ⟨hv1, hv2, hv3⟩ := hv; go_simp; try with_reducible rfl) ?_; simp only [Act.put, List.getElem_toArray, List.getElem_cons_zero, List.getElem_cons_succ, List.setIfInBounds_toArray, List.set_cons_zero, List.set_cons_succ])
  refine seq_act _ rfl (fun K hK => ?_)
  go_simp
  refine (made_times HG7.out (HLV.out _ HD7.out).1 (HLV.out _ HD7.out).2 (HH0.out.gt HD7.out) (HH1.out.gt HD7.out) (G0.out.ext HX6.out) (G1.out.ext HX6.out) (by have := HL6.out; omega)).mono ?_
  rintro e w8 ⟨A8, c8, gs8, l8, rfl, h1, h2, h3, h4⟩
  have HD8 := Lib.hid (HD7.out.trans h2)
  have HM8 := Lib.hid h4
  have HL8 := Lib.hid (show gs8.length ≤ 5424 by have := h4.len; have := HL6.out; omega)
  have HO8 := Lib.hid h3
  have HO68 := Lib.hid (own_gt HO7.out h2)
  have HX8 := Lib.hid (HX6.out.trans h4.ext)
  have CT := Lib.hid (made_times (c0 := c0) (c1 := c2) h1 (HLV.out _ HD8.out).1 (HLV.out _ HD8.out).2 (HH0.out.gt HD8.out) (HH2.out.gt HD8.out) (G0.out.ext HX8.out) (G2.out.ext HX8.out) (by have := HL8.out; omega))
  clear h1 h2 h3 h4
  go_simp
  refine hK _ _ (HS.out _ HD8.out) ?_
  clear hK K
  refine seq_act _ rfl (fun K hK => ?_)
  go_simp
  refine CT.out.mono ?_
  rintro e w9 ⟨A9, c9, gs9, l9, rfl, h1, h2, h3, h4⟩
  have HD9 := Lib.hid (HD8.out.trans h2)
  have HM9 := Lib.hid h4
  have HL9 := Lib.hid (show gs9.length ≤ 7224 by have := h4.len; have := HL8.out; omega)
  have HO69 := Lib.hid (own_gt HO68.out h2)
  have HX9 := Lib.hid (HX8.out.trans h4.ext)
  have CP := Lib.hid (made_plus (c0 := c8) (c1 := c9) h1 (HLV.out _ HD9.out).1 (HLV.out _ HD9.out).2 (Held.of_own (B := w1.heap.size) (own_gt HO8.out h2)) (Held.of_own (B := w1.heap.size) h3) (HM8.out.all.ext h4.ext) h4.all (by have := HL9.out; omega))
  clear h1 h2 h3 h4
  go_simp
  refine hK _ _ (HS.out _ HD9.out) ?_
  clear hK K
  refine seq_act _ rfl (fun K hK => ?_)
  go_simp
  refine CP.out.mono ?_
  rintro e w10 ⟨A10, c10, gs10, l10, rfl, h1, h2, h3, h4⟩
  have HD10 := Lib.hid (HD9.out.trans h2)
  have HM10 := Lib.hid h4
  have HL10 := Lib.hid (show gs10.length ≤ 9024 by have := h4.len; have := HL9.out; omega)
  have HO610 := Lib.hid (own_gt HO69.out h2)
  have HO10 := Lib.hid h3
  have HG10 := Lib.hid h1
  have HX10 := Lib.hid (HX9.out.trans h4.ext)
  clear h1 h2 h3 h4
  go_simp
  refine hK _ _ (HS.out _ HD10.out) ?_
  clear hK K
  iterate 1 (refine seq_take _ _ rfl (by kernel_rfl) (fun wv hv => by go_simp; try with_reducible rfl) ?_; simp only [Act.put, List.getElem_toArray, List.getElem_cons_zero, List.getElem_cons_succ, List.setIfInBounds_toArray, List.set_cons_zero, List.set_cons_succ])
  refine seq_nil ?_
  obtain ⟨W11, hW11⟩ : ∃ W11, W11 = w10.drew := ⟨_, rfl⟩
  have HD11 := Lib.hid (show Chg (GT w1.heap.size) w3 W11 by rw [hW11]; exact HD10.out.drew)
  have HG11 := Lib.hid (show GA W11 w1.heap.size w1.heap.size gs10 by rw [hW11]; exact HG10.out.drewN 1)
  have HO611 := Lib.hid (show W11.ownsRow w5.heap.size 33 1 (.slice A6 8 c6) 8 (natVals l6) by rw [hW11]; exact HO610.out)
  have HO1011 := Lib.hid (show W11.ownsRow w9.heap.size 33 1 (.slice A10 8 c10) 8 (natVals l10) by rw [hW11]; exact HO10.out)
  have HW11 := Lib.hid hW11
  clear hW11
  go_wp2_with fail
  refine wp_region_seq (S := fun w' => w'.cell? ad = some (.slice A0 8 c0) ∧ w'.cell? ⟨ad.block, ad.off + 1, none⟩ = some (.slice A1 8 c1) ∧ w'.cell? ⟨ad.block, ad.off + 2, none⟩ = some (.slice A2 8 c2)) [(0, false), (1, false), (2, false), (3, false), (4, false), (5, false), (6, false), (7, false), (9, false), (10, false), (11, false), (8, true), (12, true), (13, false)] (by kernel_rfl) (by kernel_rfl) (by kernel_rfl) (by rw [← HW11.out]; exact HS.out _ HD11.out) ?_
  rw [← HW11.out]
  iterate 11 (refine seq_take _ _ rfl (by kernel_rfl) (fun wv hv => by obtain ⟨hv1, hv2, hv3⟩ := hv; go_simp; try with_reducible rfl) ?_; simp only [Act.put, List.getElem_toArray, List.getElem_cons_zero, List.getElem_cons_succ, List.setIfInBounds_toArray, List.set_cons_zero, List.set_cons_succ])
  refine seq_act _ rfl (fun K hK => ?_)
  go_simp
  refine (made_plus HG11.out (HLV.out _ HD11.out).1 (HLV.out _ HD11.out).2 (HH2.out.gt HD11.out) (HH1.out.gt HD11.out) (G2.out.ext HX10.out) (G1.out.ext HX10.out) (by have := HL10.out; omega)).mono ?_
  rintro e w12 ⟨A12, c12, gs12, l12, rfl, h1, h2, h3, h4⟩
  have HD12 := Lib.hid (HD11.out.trans h2)
  have HM12 := Lib.hid h4
  have HL12 := Lib.hid (show gs12.length ≤ 10824 by have := h4.len; have := HL10.out; omega)
  have HO612 := Lib.hid (own_gt HO611.out h2)
  have HO1012 := Lib.hid (own_gt HO1011.out h2)
  have HX12 := Lib.hid (HX10.out.trans h4.ext)
  have CT := Lib.hid (made_times (c0 := c12) (c1 := c0) h1 (HLV.out _ HD12.out).1 (HLV.out _ HD12.out).2 (Held.of_own (B := w1.heap.size) h3) (HH0.out.gt HD12.out) h4.all (G0.out.ext HX12.out) (by have := HL12.out; omega))
  clear h1 h2 h3 h4
  go_simp
  refine hK _ _ (HS.out _ HD12.out) ?_
  clear hK K
  refine seq_act _ rfl (fun K hK => ?_)
  go_simp
  refine CT.out.mono ?_
  rintro e w13 ⟨A13, c13, gs13, l13, rfl, h1, h2, h3, h4⟩
  have HD13 := Lib.hid (HD12.out.trans h2)
  have HM13 := Lib.hid h4
  have HO613 := Lib.hid (own_gt HO612.out h2)
  have HO1013 := Lib.hid (own_gt HO1012.out h2)
  have HO13 := Lib.hid h3
  have HG13 := Lib.hid h1
  have HX13 := Lib.hid (HX12.out.trans h4.ext)
  clear h1 h2 h3 h4
  go_simp
  refine hK _ _ (HS.out _ HD13.out) ?_
  clear hK K
  iterate 1 (refine seq_take _ _ rfl (by kernel_rfl) (fun wv hv => by go_simp; try with_reducible rfl) ?_; simp only [Act.put, List.getElem_toArray, List.getElem_cons_zero, List.getElem_cons_succ, List.setIfInBounds_toArray, List.set_cons_zero, List.set_cons_succ])
  refine seq_nil ?_
  have HR6 := Lib.hid (own_reads HO613.out)
  go_wp2_with (first | (at_builtin; refine wpList_append_sl _ rfl (.tmp 87) (.tmp 88) _ rfl w13.heap.size 33 i0 _ 1 8 Tryd.underlying26 HIN.out.1 HIN.out.2.1 HIN.out.2.2.1 HIN.out.2.2.2 rfl (by omega) _ 0 [] rfl (World.ownsRow_nil _ _ _ _) w13.heap.size A6 8 c6 (natVals l6) rfl HR6.out natVals_ones (le_maxLen (by omega)) (le_bytes (by omega) (by omega)) (Nat.le_refl _) ?_; simp only [Nat.zero_add, List.nil_append]; intro A14 c14 w14 hown hg; have HB14 := Lib.hid (below_row hg); have HO14 := Lib.hid hown; have HR10 := Lib.hid ((own_reads HO1013.out).below (below_row hg)); clear hown hg) | (at_builtin; refine wpList_append_sl _ rfl (.tmp 90) (.tmp 91) _ rfl w13.heap.size 33 i0 _ 1 8 Tryd.underlying26 HIN.out.1 HIN.out.2.1 HIN.out.2.2.1 HIN.out.2.2.2 rfl (by omega) _ 8 _ rfl HO14.out w13.heap.size A10 8 c10 (natVals l10) rfl HR10.out natVals_ones (le_maxLen (by omega)) (le_bytes (by omega) (by omega)) HB14.out.size ?_; simp only [Nat.reduceAdd]; intro A15 c15 w15 hown hg; have HB15 := Lib.hid (HB14.out.trans (own_below HO14.out (Nat.le_refl _) HB14.out.size hg)); have HO15 := Lib.hid hown; have HR13 := Lib.hid ((own_reads HO13.out).below HB15.out); clear hown hg) | (at_builtin; refine wpList_append_sl _ rfl (.tmp 93) (.tmp 94) _ rfl w13.heap.size 33 i0 _ 1 8 Tryd.underlying26 HIN.out.1 HIN.out.2.1 HIN.out.2.2.1 HIN.out.2.2.2 rfl (by omega) _ 16 _ rfl HO15.out w13.heap.size A13 8 c13 (natVals l13) rfl HR13.out natVals_ones (le_maxLen (by omega)) (le_bytes (by omega) (by omega)) HB15.out.size ?_; simp only [Nat.reduceAdd]; intro A16 c16 w16 hown hg; have HB16 := Lib.hid (HB15.out.trans (own_below HO15.out (Nat.le_refl _) HB15.out.size hg)); have HO16 := Lib.hid hown; clear hown hg))
  obtain ⟨W17, hW17⟩ : ∃ W17, W17 = w16.alloc (.cells #[.int .i64 x, .int .i64 y, .int .i64 z] 3) := ⟨_, rfl⟩
  have hb16 : Below w16.heap.size w16 W17 := by rw [hW17]; exact (Below.refl _ _).alloc (Nat.le_refl _) _
  have hr17 : Reads W17 W17.heap.size 1 (some ⟨w16.heap.size, 0, none⟩) [x, y, z].length (litVals [x, y, z]) := by rw [hW17]; exact reads_new rfl (by simp) rfl
  have CB := Lib.hid (show Calls Tryd.prog 32 #[.slice (some ⟨w16.heap.size, 0, none⟩) 3 3] W17 (BoP W17 24 (bitsL [x, y, z])) from bitsOf_any hr17 HWF.out (by simp))
  have HB17 := Lib.hid hb16
  have HW17 := Lib.hid hW17
  clear hW17 hb16 hr17
  rw [← HW17.out]
  refine CB.out.mono ?_
  rintro e w18 ⟨A18, c18, rfl, ho18, hb18⟩
  have hb68 : Below w16.heap.size w16 w18 := HB17.out.trans (hb18.mono HB17.out.size)
  have hb38 : Below w13.heap.size w13 w18 := HB16.out.trans (hb68.mono HB16.out.size)
  obtain ⟨inp, hinp⟩ : ∃ inp, inp = bitsL [x, y, z] := ⟨_, rfl⟩
  rw [← hinp] at ho18
  have hil : inp.length = 24 := by rw [hinp, bitsL_length]; rfl
  have hro := (Reads.of_own (show w16.ownsRow w13.heap.size 33 1 (.slice A16 24 c16) 24 (natVals (l6 ++ l10 ++ l13)) by rw [← natVals_app3]; exact HO16.out)).below hb68
  have hn6 := natVals_len_own HO613.out
  have hn10 := natVals_len_own HO1013.out
  have hn13 := natVals_len_own HO13.out
  have CE := Lib.hid (eval_words (c := c18) (c2 := c16) (HG13.out.new hb38) hil (by rw [HX13.out.ins, inps_ins]) (Reads.of_own ho18) (Nat.le_refl _) (hro.more hb68.size) (by simp [hn6, hn10, hn13]) (by omega)
    (fun v hv => by
      rcases List.mem_append.1 hv with hv | hv
      · rcases List.mem_append.1 hv with hv | hv
        · exact ((((((HM6.out.all.ext HM8.out.ext).ext HM9.out.ext).ext HM10.out.ext).ext HM12.out.ext).ext HM13.out.ext) v hv)
        · exact ((HM10.out.all.ext HM12.out.ext).ext HM13.out.ext) v hv
      · exact HM13.out.all v hv))
  have HIL := Lib.hid hil
  have HB38 := Lib.hid hb38
  clear ho18 hb18 hb68 hb38 hinp hil hro hn6 hn10 hn13
  go_wp2_with fail
  refine CE.out.mono ?_
  rintro e w19 ⟨A19, c19, rfl, ho19, hb19⟩
  obtain ⟨Lb, hLb⟩ : ∃ Lb, Lb = Wp.timesB (evs inp (inps 24) (wordL 0)) (Wp.sums (evs inp (inps 24) (wordL 1)) (evs inp (inps 24) (wordL 2)) false) := ⟨_, rfl⟩
  have hwl : ∀ i, (evs inp (inps 24) (wordL i)).length = 8 := fun i => by rw [evs_length, wordL_length]
  obtain ⟨hr1, hr2⟩ := Wp.ring (hwl 0) (hwl 1) (hwl 2)
  have v0 : ∀ gs, Gm.Ext (inps 24) gs → evs inp gs (wordL 0) = evs inp (inps 24) (wordL 0) := fun gs he => evs_ext G0.out he
  have v1 : ∀ gs, Gm.Ext (inps 24) gs → evs inp gs (wordL 1) = evs inp (inps 24) (wordL 1) := fun gs he => evs_ext G1.out he
  have v2 : ∀ gs, Gm.Ext (inps 24) gs → evs inp gs (wordL 2) = evs inp (inps 24) (wordL 2) := fun gs he => evs_ext G2.out he
  have e6 : evs inp gs13 l6 = Lb := by
    rw [HM6.out.val ((((HM8.out.ext.trans HM9.out.ext).trans HM10.out.ext).trans HM12.out.ext).trans HM13.out.ext), v0 _ HM5.out.ext, HM5.out.eq, hLb]
  have e10 : evs inp gs13 l10 = Lb := by
    rw [HM10.out.val (HM12.out.ext.trans HM13.out.ext), HM8.out.val HM9.out.ext, HM9.out.eq, v0 _ HX6.out, v1 _ HX6.out, v0 _ HX8.out, v2 _ HX8.out, ← hr1, hLb]
  have e13 : evs inp gs13 l13 = Lb := by
    rw [HM13.out.eq, HM12.out.eq, v2 _ HX10.out, v1 _ HX10.out, v0 _ HX12.out, ← hr2, hLb]
  have hLl : Lb.length = 8 := by rw [← e13, evs_length]; exact natVals_len_own HO13.out
  rw [evs_app, evs_app, e6, e10, e13] at ho19
  obtain ⟨gv, rfl, hgv1, hgv2⟩ := own_some ho19 (by omega)
  have HO19 := Lib.hid ho19
  have HLL := Lib.hid hLl
  have HB19 := Lib.hid hb19
  have HBW := Lib.hid (show Below w.heap.size w w19 from
    (HB1.out.trans ((HB2.out.trans (GT.below (HC3.out.trans HD13.out) HB2.out.size)).mono HB1.out.size)).trans ((HB38.out.trans (hb19.mono HB38.out.size)).mono (by
      have h1 := HB1.out.size; have h2 := HB2.out.size; have h3 := HC3.out.size; have h4 := HD13.out.size; omega)))
  clear ho19 hb19 hLl e6 e10 e13 v0 v1 v2 hr1 hr2 hwl hLb
  go_wp2_with fail
  go_loopw [17] (fun iv wx => RgR w19 iv wx) (fun iv _ => 8 - (intOf iv).toNat)
  case atStart => exact ⟨0, by omega, rfl, Below.refl _ _⟩
  case round =>
    obtain ⟨k, hk, rfl, hb⟩ := hrel
    have HBX := Lib.hid hb
    clear hb
    by_cases hk8 : k < 8
    · obtain ⟨bb, hbb⟩ : ∃ bb, Lb[k]? = some bb := ⟨_, List.getElem?_eq_getElem (by have := HLL.out; omega)⟩
      obtain ⟨j8, hj8⟩ : ∃ j, 8 + k = j := ⟨_, rfl⟩
      obtain ⟨j16, hj16⟩ : ∃ j, 16 + k = j := ⟨_, rfl⟩
      obtain ⟨p0, p1, p2⟩ := app3_at (a := Lb) (b := Lb) (c := Lb) (x := bb) HLL.out HLL.out hk8
      have q0 := (HBX.out.cell (p := ⟨gv, k, none⟩) hgv2).trans (bool_at HO19.out (p0 hbb))
      have q1 := (HBX.out.cell (p := ⟨gv, j8, none⟩) hgv2).trans (bool_at HO19.out (by rw [← hj8]; exact p1 hbb))
      have q2 := (HBX.out.cell (p := ⟨gv, j16, none⟩) hgv2).trans (bool_at HO19.out (by rw [← hj16]; exact p2 hbb))
      have HQ := Lib.hid (And.intro q0 (And.intro q1 q2))
      have w8 : IntKind.i64.wrap (j8 : Int) = (j8 : Int) := wrap_in (by omega) (by omega)
      have w16' : IntKind.i64.wrap (j16 : Int) = (j16 : Int) := wrap_in (by omega) (by omega)
      have s8 : (8 : Int) + (k : Int) = (j8 : Int) := by omega
      have s16 : (16 : Int) + (k : Int) = (j16 : Int) := by omega
      have b8 : (j8 : Int) < 24 := by omega
      have b16 : (j16 : Int) < 24 := by omega
      have b0 : (k : Int) < 24 := by omega
      clear hj8 hj16 p0 p1 p2 q0 q1 q2 hbb
      go_wp2_with fail
      refine wp_region_seq (S := fun w' => w'.cell? ⟨gv, k, none⟩ = some (.bool bb) ∧ w'.cell? ⟨gv, j8, none⟩ = some (.bool bb) ∧ w'.cell? ⟨gv, j16, none⟩ = some (.bool bb)) [(0, false), (1, false), (2, false), (3, false), (4, false), (5, false), (6, false), (7, false), (8, false), (9, false), (10, false), (11, false), (12, false), (13, false), (14, false), (15, false), (16, false), (17, false), (18, false), (19, false), (20, false), (21, false)] (by kernel_rfl) (by kernel_rfl) (by kernel_rfl) HQ.out ?_
      iterate 22 (refine seq_take _ _ rfl (by kernel_rfl) (fun wv hv => by obtain ⟨hv1, hv2, hv3⟩ := hv; go_simp; try with_reducible rfl) ?_; simp only [Act.put, List.getElem_toArray, List.getElem_cons_zero, List.getElem_cons_succ, List.setIfInBounds_toArray, List.set_cons_zero, List.set_cons_succ])
      refine seq_nil ?_
      clear w8 w16' s8 s16 b8 b16 b0
      go_wp2_with fail
      go_roundw
      case rel => exact ⟨k + 1, by omega, by go_num, below_drewN HBX.out 1⟩
      case measure => simp [intOf]; omega
    · obtain rfl : k = 8 := by omega
      go_wp2
      go_ret
      exact ⟨rfl, HBW.out.trans (HBX.out.mono HBW.out.size)⟩
end Go.Proofs.YtlolfcmnebjpkaaDoor
