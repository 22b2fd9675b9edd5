/-
  WALKS of package word: divide.
  THE WALK of package word: divide.
-/
import Derived.Test.YtmbjhpgemphmmaaDoorYh
namespace Go.Proofs.YtmbjhpgemphmmaaDoor
open Go.RowKit
/-- two words -/
def WW (w : World) (B b : Nat) (gs : List Gm.Gate) (k n : Nat) (f g : List Bool → List Bool) (e : Ending) (w' : World) : Prop :=
  ∃ A c A2 c2 gs' ql rl, e = .returned (.tuple #[.slice A n c, .slice A2 n c2]) ∧ GA w' B b gs' ∧ Chg (GT B) w w' ∧ w'.ownsRow w.heap.size 29 1 (.slice A n c) n (natVals ql) ∧ w'.ownsRow w.heap.size 29 1 (.slice A2 n c2) n (natVals rl) ∧ MadeW gs gs' k ql f ∧ MadeW gs gs' k rl g
def DvR (W : World) (B b : Nat) (gs : List Gm.Gate) (xs ys : List Nat) (Bq gq cq : Nat) (wv rv iv : Value) (wr : World) : Prop :=
  ∃ k z gs' ql rl, k ≤ xs.length ∧ iv = .int .i64 z ∧ z + k + 1 = (xs.length : Int) ∧ (∃ A c, rv = .slice A (xs.length + 1) c) ∧ GA wr B b gs' ∧ Chg (GT B) W wr ∧ Bq ≤ wr.heap.size ∧
    wr.ownsRow W.heap.size 29 1 (.slice (some ⟨gq, 0, none⟩) xs.length cq) xs.length (natVals ql) ∧ wr.ownsRow Bq 29 1 rv (xs.length + 1) (natVals rl) ∧ wr.ownsRow Bq 29 1 wv (xs.length + 1) (natVals (ys ++ [0])) ∧
    Blk wr W.heap.size 106 #[.pointer (some ⟨b, 0, none⟩)] ∧
    MadeW gs gs' (12 * (xs.length + 1) * k) ql (fun inp => List.replicate (xs.length - k) false ++ (Wp.divTo (evs inp gs xs) (evs inp gs ys) k).1) ∧
    MadeW gs gs' (12 * (xs.length + 1) * k) rl (fun inp => (Wp.divTo (evs inp gs xs) (evs inp gs ys) k).2)
theorem set_zeros {n k : Nat} (l : List Bool) (f : Bool) (hk : k < n) : (List.replicate (n - k) false ++ l).set (n - 1 - k) f = List.replicate (n - (k + 1)) false ++ f :: l := by
  obtain ⟨m, hm⟩ : ∃ m, n - k = m + 1 := ⟨n - k - 1, by omega⟩
  have h2 : n - (k + 1) = m := by omega
  have h3 : n - 1 - k = m := by omega
  rw [hm, h2, h3, List.replicate_succ', List.append_assoc, List.set_append, if_neg (by simp)]
  simp
theorem evs_take (inp : List Bool) (gs : List Gm.Gate) (l : List Nat) (n : Nat) : evs inp gs (l.take n) = (evs inp gs l).take n := by unfold evs; rw [List.map_take]
theorem zero_any1 (n : Nat) (hn : n + 1 ≤ 1000) (w : World) : Calls Tryd.prog 79 #[.int .i64 ((n : Int) + 1)] w (WPost w (n + 1) (List.replicate (n + 1) 0)) := by
  have h := zero_any (n + 1) hn w
  rwa [Int.natCast_add, Int.natCast_one] at h
/-- one place of a division -/
structure DvStep (gs gs1 gs2 gs3 : List Gm.Gate) (xs ys ql rl dl r2 : List Nat) (k x fits i : Nat) : Prop where
  q : MadeW gs gs3 (12 * (xs.length + 1) * (k + 1)) (ql.set i fits) (fun inp => List.replicate (xs.length - (k + 1)) false ++ (Wp.divTo (evs inp gs xs) (evs inp gs ys) (k + 1)).1)
  r : MadeW gs gs3 (12 * (xs.length + 1) * (k + 1)) r2 (fun inp => (Wp.divTo (evs inp gs xs) (evs inp gs ys) (k + 1)).2)
theorem dv_step {gs gs1 gs2 gs3 : List Gm.Gate} {xs ys ql rl dl r2 : List Nat} {k x fits i : Nat} (hk : k + i + 1 = xs.length) (hx : xs[i]? = some x) (gx : AllHas gs xs) (gy : AllHas gs ys)
    (hq : MadeW gs gs1 (12 * (xs.length + 1) * k) ql (fun inp => List.replicate (xs.length - k) false ++ (Wp.divTo (evs inp gs xs) (evs inp gs ys) k).1))
    (hr : MadeW gs gs1 (12 * (xs.length + 1) * k) rl (fun inp => (Wp.divTo (evs inp gs xs) (evs inp gs ys) k).2))
    (hd : MadeW gs1 gs2 (9 * (xs.length + 1)) dl (fun inp => Wp.minusB (evs inp gs1 (x :: rl.take xs.length)) (evs inp gs1 (ys ++ [0]))))
    (hf : MadeL gs1 gs2 (9 * (xs.length + 1)) fits (fun inp => Wp.geB (evs inp gs1 (x :: rl.take xs.length)) (evs inp gs1 (ys ++ [0]))))
    (hw : MadeW gs2 gs3 (3 * (xs.length + 1)) r2 (fun inp => Wp.pickB (Gm.ev inp gs2 fits) (evs inp gs2 dl) (evs inp gs2 (x :: rl.take xs.length)))) :
    DvStep gs gs1 gs2 gs3 xs ys ql rl dl r2 k x fits i := by
  have hx0 := gx x (List.mem_of_getElem? hx)
  have e13 := hd.ext.trans hw.ext
  have har : AllHas gs1 (x :: rl.take xs.length) := fun z hz => by
    rcases List.mem_cons.1 hz with rfl | hz
    · exact hq.ext.has hx0
    · exact hr.all z (List.mem_of_mem_take hz)
  have hwide : ∀ inp, evs inp gs1 (ys ++ [0]) = evs inp gs ys ++ [false] := fun inp => by
    have : evs inp gs1 ys = evs inp gs ys := evs_ext gy hq.ext
    unfold evs at this ⊢
    rw [List.map_append, this]; simp [Gm.ev_zero]
  have hr1 : ∀ inp, evs inp gs1 (x :: rl.take xs.length) = (evs inp gs xs).getD ((evs inp gs xs).length - 1 - k) false :: ((Wp.divTo (evs inp gs xs) (evs inp gs ys) k).2).take (evs inp gs xs).length := fun inp => by
    have h1 : evs inp gs1 (x :: rl.take xs.length) = Gm.ev inp gs1 x :: evs inp gs1 (rl.take xs.length) := rfl
    rw [h1, evs_take, hr.eq, evs_length, Gm.ev_ext hq.ext hx0]
    congr 1
    have : (evs inp gs xs)[i]? = some (Gm.ev inp gs x) := by unfold evs; simp [hx]
    have e : xs.length - 1 - k = i := by omega
    rw [e]; simp [List.getD, this]
  have hl : 12 * (xs.length + 1) * (k + 1) = 12 * (xs.length + 1) * k + 12 * (xs.length + 1) := by rw [Nat.mul_add, Nat.mul_one]
  have len3 : gs3.length ≤ gs1.length + 12 * (xs.length + 1) := by have := hd.len; have := hw.len; omega
  have hq3 := hq.step e13 len3
  constructor
  · refine ⟨hq3.ext, fun z hz => ?_, by have := hq3.len; omega, fun inp => ?_⟩
    · rcases List.mem_or_eq_of_mem_set hz with hz | rfl
      · exact hq3.all z hz
      · exact hw.ext.has hf.has
    · rw [evs_set, hq3.eq, Gm.ev_ext hw.ext hf.has, hf.eq, hwide, hr1]
      have e : i = xs.length - 1 - k := by omega
      rw [e, set_zeros _ _ (by omega)]
      simp only [Wp.divTo, Wp.divStep]
  · refine ⟨hq.ext.trans e13, hw.all, by have := hq3.len; omega, fun inp => ?_⟩
    rw [hw.eq, hf.eq, hd.eq, evs_ext har hd.ext, hwide, hr1]
    simp only [Wp.divTo, Wp.divStep]
end Go.Proofs.YtmbjhpgemphmmaaDoor
namespace Go.Proofs.YtmbjhpgemphmmaaDoor
open Go.RowKit
theorem below_made {w w1 : World} {o : Obj} {r : Option Nat} (hg : (w.alloc o).grownBy w1 r) (hr : ∀ g, r = some g → w.heap.size ≤ g) : Below w.heap.size w w1 :=
  ((Below.refl _ w).alloc (Nat.le_refl _) o).trans ⟨hg.os, hg.tape, hg.output, hg.size, fun k hk => hg.block k (by simp; omega) fun e => by have := hr k e.symm; omega⟩
attribute [local irreducible] wpSeq wpStill
set_option maxRecDepth 100000 in
set_option maxHeartbeats 4000000 in
theorem divide_any {w : World} {B b : Nat} {gs : List Gm.Gate} (h : GA w B b gs) {A A2 : Option Addr} {c1 c2 n : Nat} {xs ys : List Nat} (hx : Held w B A n xs) (hy : Held w B A2 n ys) (gx : AllHas gs xs) (gy : AllHas gs ys)
    (hn : gs.length + 12 * (n + 1) * n ≤ 90000) (hl : n ≤ 80) (hpos : 0 < n) :
    Calls Tryd.prog 111 #[.agg #[.pointer (some ⟨b, 0, none⟩)], .slice A n c1, .slice A2 n c2] w
      (WW w B b gs (12 * (n + 1) * n) n (fun inp => Wp.quoB (evs inp gs xs) (evs inp gs ys)) (fun inp => Wp.remB (evs inp gs xs) (evs inp gs ys))) := by
  obtain ⟨i0, hi0, hz0, hz1, hz2⟩ := info_parts infoLit_
  have HIN := Lib.hid (show _ ∧ _ ∧ _ ∧ _ from ⟨hi0, hz0, hz1, hz2⟩)
  obtain rfl := hx.1
  have HG := Lib.hid h
  have HX := Lib.hid hx
  have HY := Lib.hid hy
  have GX := Lib.hid gx
  have GY := Lib.hid gy
  have HN := Lib.hid hn
  clear h hx hy gx gy hn hi0 hz0 hz1 hz2
  go_enter Tryd.func111, Tryd.ntmps111
  go_wp2_with fail
  refine (zero_any xs.length (by omega) _).mono ?_
  rintro e w1 ⟨Aq, cq, rfl, ho, hb⟩
  obtain ⟨gq, rfl, hgq1, hgq2⟩ := own_some ho hpos
  have HOQ := Lib.hid ho
  have HB1 := Lib.hid (show Below w.heap.size w w1 from ((Below.refl _ _).alloc (Nat.le_refl _) _).trans (hb.mono (by simp)))
  have HBX1 := Lib.hid ((Blk.new w 106 #[.pointer (some ⟨b, 0, none⟩)]).below hb (by simp))
  clear ho hb
  go_wp2_with fail
  refine (zero_any1 xs.length (by omega) _).mono ?_
  rintro e w2 ⟨Ar, cr, rfl, ho, hb⟩
  have HOR := Lib.hid ho
  have HB2 := Lib.hid hb
  have HR2 := Lib.hid (((HY.out.new HB1.out).new hb).reads)
  have HBX2 := Lib.hid (HBX1.out.below hb HBX1.out.lt)
  clear ho hb
  go_wp2_with (first | (at_builtin; refine wpList_append_sl _ rfl (.const (.slice none 0 0)) (.tmp 20) _ rfl w2.heap.size 29 i0 _ 1 8 Tryd.underlying28 HIN.out.1 HIN.out.2.1 HIN.out.2.2.1 HIN.out.2.2.2 rfl (by omega) _ 0 [] rfl (World.ownsRow_nil _ _ _ _) w2.heap.size A2 xs.length c2 (natVals ys) rfl HR2.out natVals_ones (le_maxLen (by omega)) (le_bytes (by omega) (by omega)) (Nat.le_refl _) ?_; rw [Nat.zero_add, List.nil_append]; intro A3 c3 w3 hown3 hg3; have HB3 := Lib.hid (below_row hg3); have HO3 := Lib.hid hown3; have HBX3 := Lib.hid (HBX2.out.below (below_row hg3) HBX2.out.lt); have hs3 := (below_row hg3).size; clear hown3 hg3) | (at_builtin; refine wpList_append_sl _ rfl (.tmp 21) (.tmp 22) _ rfl w2.heap.size 29 i0 _ 1 8 Tryd.underlying28 HIN.out.1 HIN.out.2.1 HIN.out.2.2.1 HIN.out.2.2.2 rfl (by omega) _ xs.length _ rfl (HO3.out.alloc _) (w3.heap.size + 1) (some ⟨w3.heap.size, 0, none⟩) 1 1 [.int .i64 (0 : Nat)] rfl (reads_new rfl (by omega) rfl) (ints_one (by simp)) (le_maxLen (by omega)) (le_bytes (by omega) (by omega)) (by simp; omega) ?_; intro A4 c4 w4 hown4 hg4; have hg4' : (w3.alloc (.cells #[.int .i64 (0 : Nat)] 29)).grownBy w4 (Value.slice A3 xs.length c3).ownBlock := hg4; have HGR4 := Lib.hid hg4'; have HO4 := Lib.hid hown4; clear hown4 hg4 hg4'))
  have hb4 : Below w2.heap.size w2 w4 := own_grown_below HB3.out HO3.out (Nat.le_refl _) HGR4.out
  have HB4 := Lib.hid hb4
  have HB04 := Lib.hid (show Below w.heap.size w w4 from HB1.out.trans ((HB2.out.trans (hb4.mono HB2.out.size)).mono HB1.out.size))
  clear hb4
  go_loopw [7, 10] (fun rv iv wr => DvR w B b gs xs ys w1.heap.size gq cq (.slice A4 (xs.length + 1) c4) rv iv wr) (fun _ iv _ => (intOf iv + 1).toNat)
  case atStart =>
    have hb14 : Below w1.heap.size w1 w4 := HB2.out.trans (HB4.out.mono HB2.out.size)
    have he : ∀ inp, evs inp gs (List.replicate xs.length 0) = List.replicate (xs.length - 0) false ++ (Wp.divTo (evs inp gs xs) (evs inp gs ys) 0).1 := fun inp => by rw [evs_zeros]; simp [Wp.divTo]
    have he2 : ∀ inp, evs inp gs (List.replicate (xs.length + 1) 0) = (Wp.divTo (evs inp gs xs) (evs inp gs ys) 0).2 := fun inp => by rw [evs_zeros]; simp [Wp.divTo, evs_length]
    refine ⟨0, _, gs, List.replicate xs.length 0, List.replicate (xs.length + 1) 0, Nat.zero_le _, rfl, by omega, ⟨Ar, cr, rfl⟩, HG.out.new HB04.out, .of_new HB04.out, hb14.size, ?_, ?_, ?_, HBX1.out.below hb14 HBX1.out.lt, ⟨.refl _, allHas_zeros gs _, by omega, he⟩, ⟨.refl _, allHas_zeros gs _, by omega, he2⟩⟩
    · exact own_base (own_chg (S := fun _ _ => False) HOQ.out (Chg.of_new hb14) (fun _ _ _ _ hs => hs)) (by simp)
    · exact own_chg (S := fun _ _ => False) HOR.out (Chg.of_new HB4.out) (fun _ _ _ _ hs => hs)
    · rw [natVals_append]; exact own_base HO4.out HB2.out.size
  case round =>
    obtain ⟨k, z, gs1, ql, rl, hk, rfl, hz, ⟨Ar1, cr1, rfl⟩, hg, hch, hbq, hoq, hor, how, hbox, hmq, hmr⟩ := hrel
    by_cases hkl : k < xs.length
    · obtain ⟨i, hi⟩ : ∃ i : Nat, (i : Int) = z := ⟨z.toNat, by omega⟩
      subst hi
      have hki : k + i + 1 = xs.length := by omega
      obtain ⟨x, hxi⟩ : ∃ x, xs[i]? = some x := ⟨_, List.getElem?_eq_getElem (by omega)⟩
      obtain ⟨ad, rfl⟩ := HX.out.form (by omega)
      have hlen1 : gs1.length ≤ gs.length + 12 * (xs.length + 1) * k := hmq.len
      have hlk : 12 * (xs.length + 1) * k + 12 * (xs.length + 1) ≤ 12 * (xs.length + 1) * xs.length := by
        have := Nat.mul_le_mul_left (12 * (xs.length + 1)) (show k + 1 ≤ xs.length by omega)
        rw [Nat.mul_add, Nat.mul_one] at this; exact this
      have HL1 := Lib.hid (And.intro hlen1 hlk)
      have HS := Lib.hid (show ∀ w', Chg (GT B) w w' → w'.cell? (ad.add i) = some (.int .i64 (x : Nat)) from fun w' hc => (HX.out.gt hc).at_ hxi)
      obtain ⟨W2, hW2⟩ : ∃ W2, W2 = wr.drew := ⟨_, rfl⟩
      have hc2 : Chg (GT B) w W2 := by rw [hW2]; exact hch.drew
      have hil : (i : Int) < (xs.length : Int) := by omega
      have HKI := Lib.hid hki
      have HXI := Lib.hid hxi
      have HMQ := Lib.hid hmq
      have HMR := Lib.hid hmr
      have HC2 := Lib.hid hc2
      have HG2 := Lib.hid (show GA W2 B b gs1 by rw [hW2]; exact hg.drewN 1)
      have HBQ2 := Lib.hid (show w1.heap.size ≤ W2.heap.size by rw [hW2]; exact hbq)
      have HBX2' := Lib.hid (show Blk W2 w.heap.size 106 #[.pointer (some ⟨b, 0, none⟩)] by rw [hW2]; exact hbox)
      have HOQ2 := Lib.hid (show W2.ownsRow w.heap.size 29 1 (.slice (some ⟨gq, 0, none⟩) xs.length cq) xs.length (natVals ql) by rw [hW2]; exact hoq)
      have HOR2 := Lib.hid (show W2.ownsRow w1.heap.size 29 1 (.slice Ar1 (xs.length + 1) cr1) (xs.length + 1) (natVals rl) by rw [hW2]; exact hor)
      have HOW2 := Lib.hid (show W2.ownsRow w1.heap.size 29 1 (.slice A4 (xs.length + 1) c4) (xs.length + 1) (natVals (ys ++ [0])) by rw [hW2]; exact how)
      obtain ⟨gr, rfl, _, _⟩ := own_some hor (by omega)
      have hcr : xs.length + 1 ≤ cr1 := by
        rcases hor.2 with ⟨h0, _⟩ | ⟨g', cap, cur, hv, _, _, hnc, _⟩
        · cases h0
        · obtain ⟨rfl, rfl⟩ : gr = g' ∧ cr1 = cap := by simpa using hv
          exact hnc
      have hcr' : (xs.length : Int) ≤ (cr1 : Int) := by omega
      have HW2 := Lib.hid hW2
      clear hz hki hxi hlen1 hlk hW2 hc2 hg hch hbq hoq hor how hbox hmq hmr hcr
      go_wp2_with fail
      refine wp_region_seq (S := fun w' => w'.cell? (ad.add i) = some (.int .i64 (x : Nat))) [(0, false), (1, false), (2, false), (3, false), (5, false), (6, false), (7, false), (4, true), (8, true), (9, false)] (by kernel_rfl) (by kernel_rfl) (by kernel_rfl) (by rw [← HW2.out]; exact HS.out _ HC2.out) ?_
      rw [← HW2.out]
      iterate 7 (refine seq_take _ _ rfl (by kernel_rfl) (fun wv hv => by have hv1 := hv; clear hv; go_simp; try with_reducible rfl) ?_; simp only [Act.put, List.getElem_toArray, List.getElem_cons_zero, List.getElem_cons_succ, List.setIfInBounds_toArray, List.set_cons_zero, List.set_cons_succ])
      refine seq_act _ rfl (fun K hK => ?_)
      go_simp
      go_simp
      refine hK _ _ (HS.out _ (HC2.out.alloc _)) ?_
      clear hK K
      refine seq_act _ rfl (fun K hK => ?_)
      refine step_append_sl _ rfl (.tmp 34) (.tmp 37) _ rfl W2.heap.size 29 i0 _ 1 8 Tryd.underlying28 HIN.out.1 HIN.out.2.1 HIN.out.2.2.1 HIN.out.2.2.2 rfl (by omega) _ 1 [.int .i64 (x : Nat)] rfl (own_full (Nat.le_refl _) rfl (by omega)) W2.heap.size (some ⟨gr, 0, none⟩) xs.length cr1 (natVals (rl.take xs.length)) rfl ((Reads.of_own (by rw [natVals_take]; exact own_take HOR2.out (Nat.le_succ _) (by omega))).alloc (Nat.le_refl _) _) natVals_ones (le_maxLen (by omega)) (le_bytes (by omega) (by omega)) (by simp) ?_
      rw [Nat.add_comm 1 xs.length]
      intro A5 c5 w5 hown5 hg5
      have hb5 : Below W2.heap.size W2 w5 := below_made hg5 fun g e => by
        have e' : some W2.heap.size = some g := e
        injection e' with e'; omega
      have ho5 : w5.ownsRow W2.heap.size 29 1 (.slice A5 (xs.length + 1) c5) (xs.length + 1) (natVals (x :: rl.take xs.length)) := hown5
      have hc5 := HC2.out.trans (Chg.of_new (S := GT B) hb5)
      have HB5 := Lib.hid hb5
      have HO5 := Lib.hid ho5
      have HC5 := Lib.hid hc5
      have HG5 := Lib.hid (HG2.out.new hb5)
      have bx5 := HBX2'.out.below hb5 HBX2'.out.lt
      have cb5 := bx5.cell 0
      have HBX5 := Lib.hid bx5
      have hoq5 := own_chg (S := fun _ _ => False) HOQ2.out (Chg.of_new hb5) (fun _ _ _ _ hs => hs)
      have how5 := own_chg (S := fun _ _ => False) HOW2.out (Chg.of_new hb5) (fun _ _ _ _ hs => hs)
      have HOQ5 := Lib.hid hoq5
      have HOW5 := Lib.hid how5
      have HAR := Lib.hid (show AllHas gs1 (x :: rl.take xs.length) from fun v hv => by
        rcases List.mem_cons.1 hv with rfl | hv
        · exact HMQ.out.ext.has (GX.out _ (List.mem_of_getElem? HXI.out))
        · exact HMR.out.all v (List.mem_of_mem_take hv))
      have HAW := Lib.hid (show AllHas gs1 (ys ++ [0]) from fun v hv => by
        rcases List.mem_append.1 hv with hv | hv
        · exact HMQ.out.ext.has (GY.out v hv)
        · rw [List.mem_singleton.1 hv]; exact has_zero gs1)
      have CM := Lib.hid (minus_any (c := c5) (c2 := c4) HG5.out (Held.of_own (B := B) ho5) (Held.of_own (B := B) how5) HAR.out HAW.out (by have := HL1.out; have := HN.out; omega) (by omega))
      clear hown5 hg5 ho5 hc5 hb5 bx5 hoq5 how5
      refine hK _ _ (HS.out _ HC5.out) ?_
      clear hK K
      try simp only [Act.put, List.getElem_toArray, List.getElem_cons_zero, List.getElem_cons_succ, List.setIfInBounds_toArray, List.set_cons_zero, List.set_cons_succ]
      iterate 1 (refine seq_take _ _ rfl (by kernel_rfl) (fun wv hv => by go_simp; try with_reducible rfl) ?_; simp only [Act.put, List.getElem_toArray, List.getElem_cons_zero, List.getElem_cons_succ, List.setIfInBounds_toArray, List.set_cons_zero, List.set_cons_succ])
      refine seq_nil ?_
      go_wp2_with fail
      refine CM.out.mono ?_
      rintro e w6 ⟨A6, c6, gs2, dl, fits, rfl, h1, h2, h3, h4, h5⟩
      have HG6 := Lib.hid h1
      have HC6 := Lib.hid (HC5.out.trans h2)
      have HOD := Lib.hid h3
      have HMD := Lib.hid h4
      have HMF := Lib.hid h5
      have hoq6 := own_gt HOQ5.out h2
      have HOQ6 := Lib.hid hoq6
      have HOW6 := Lib.hid (own_gt HOW5.out h2)
      have HOR6 := Lib.hid (own_gt HO5.out h2)
      have HBX6 := Lib.hid (box_gt HBX5.out h2)
      have hil' : i < xs.length := by have := HKI.out; omega
      obtain ⟨u, _, cq6⟩ := own_cell (k := i) hoq6 hil'
      have fq6 := own_unfrozen (k := i) hoq6
      have bx7 := HBX6.out.far (p := ⟨gq, i, none⟩) (by show w.heap.size ≠ gq; simp at hgq1; omega) (.int .i64 (fits : Nat))
      have cb7 := bx7.cell 0
      have hs56 : w5.heap.size ≤ w6.heap.size := h2.size
      have hs25 : W2.heap.size ≤ w5.heap.size := HB5.out.size
      have HS7 := Lib.hid (And.intro hs56 hs25)
      have hge : ∀ (base : Nat) (v : Value) (m : Nat) (l : List Value), w6.ownsRow base 29 1 v m l → w1.heap.size ≤ base → v.ownBlock ≠ some gq := fun base v m l ho hb e => by have := (ho.lt gq e).1; omega
      have CW := Lib.hid (word_any (c := fits) (c1 := c6) (c2 := c5) (HG6.out.setLit (k := i) hoq6 (.int .i64 (fits : Nat))) HMF.out.has
        (Held.of_own (B := B) (own_far h3 (k := i) (.int .i64 (fits : Nat)) (hge _ _ _ _ h3 (by have := HBQ2.out; omega))))
        (Held.of_own (B := B) (own_far HOR6.out (k := i) (.int .i64 (fits : Nat)) (hge _ _ _ _ HOR6.out HBQ2.out)))
        HMD.out.all (HAR.out.ext HMD.out.ext) (by have := HL1.out; have := HN.out; have := HMD.out.len; omega) (by omega))
      have HOW7 := Lib.hid (own_far HOW6.out (k := i) (.int .i64 (fits : Nat)) (hge _ _ _ _ HOW6.out (Nat.le_refl _)))
      have HOQ7 := Lib.hid (own_set hoq6 (k := i) (.int .i64 (fits : Nat)))
      have HC7 := Lib.hid (gt_setLit (k := i) HC6.out hoq6 (Nat.le_refl _) (.int .i64 (fits : Nat)))
      have HBX7 := Lib.hid bx7
      clear h1 h2 h3 h4 h5 hoq6 bx7 hge hs56 hs25 cb5
      go_wp2_with fail
      refine CW.out.mono ?_
      rintro e w8 ⟨A8, c8, gs3, r2, rfl, h1, h2, h3, h4⟩
      have HG8 := Lib.hid h1
      have HC8 := Lib.hid (HC7.out.trans h2)
      have HOR8 := Lib.hid h3
      have HM8 := Lib.hid h4
      have HOW8 := Lib.hid (own_gt HOW7.out h2)
      have HOQ8 := Lib.hid (own_gt HOQ7.out h2)
      have HBX8 := Lib.hid (box_gt HBX7.out h2)
      have HS8 := Lib.hid (show w6.heap.size ≤ w8.heap.size by have := h2.size; simpa [World.setCell] using this)
      clear h1 h2 h3 h4 cb7 cq6 fq6
      go_wp2_with fail
      go_roundw
      case rel =>
        have hst := dv_step HKI.out HXI.out GX.out GY.out HMQ.out HMR.out HMD.out HMF.out HM8.out
        refine ⟨k + 1, _, gs3, ql.set i fits, r2, by omega, rfl, by have := HKI.out; omega, ⟨A8, c8, rfl⟩, HG8.out, HC8.out, ?_, ?_, ?_, HOW8.out, HBX8.out, hst.q, hst.r⟩
        · have := HS8.out; have := HS7.out; have := HBQ2.out; omega
        · rw [natVals_set]; exact HOQ8.out
        · refine own_base HOR8.out ?_
          have := HS7.out; have := HBQ2.out
          simp [World.setCell]; omega
      case measure => simp [intOf]
    · obtain rfl : k = xs.length := by omega
      obtain rfl : z = -1 := by omega
      obtain ⟨gr, rfl, _, _⟩ := own_some hor (by omega)
      have hcr : xs.length + 1 ≤ cr1 := by
        rcases hor.2 with ⟨h0, _⟩ | ⟨g', cap, cur, hv, _, _, hnc, _⟩
        · cases h0
        · obtain ⟨rfl, rfl⟩ : gr = g' ∧ cr1 = cap := by simpa using hv
          exact hnc
      have hcr' : (xs.length : Int) ≤ (cr1 : Int) := by omega
      have HGF := Lib.hid hg
      have HCF := Lib.hid hch
      have HOQF := Lib.hid hoq
      have HORF := Lib.hid hor
      have HMQ := Lib.hid hmq
      have HMR := Lib.hid hmr
      clear hz hg hch hbq hoq hor how hbox hmq hmr hcr
      go_wp2_with fail
      refine wp_region_seq (S := fun w' => True) [(0, false), (1, false), (2, false), (3, false), (4, false), (5, false)] (by kernel_rfl) (by kernel_rfl) (by kernel_rfl) trivial ?_
      iterate 6 (refine seq_take _ _ rfl (by kernel_rfl) (fun wv hv => by go_simp; try with_reducible rfl) ?_; simp only [Act.put, List.getElem_toArray, List.getElem_cons_zero, List.getElem_cons_succ, List.setIfInBounds_toArray, List.set_cons_zero, List.set_cons_succ])
      refine seq_nil ?_
      go_wp2
      go_ret2
      refine ⟨_, cq, _, cr1, gs1, ql, rl.take xs.length, rfl, HGF.out.drewN 1, HCF.out.drew, HOQF.out, ?_, HMQ.out.to (Nat.le_refl _) fun inp => ?_, HMR.out.ext, fun v hv => HMR.out.all v (List.mem_of_mem_take hv), HMR.out.len, fun inp => ?_⟩
      · have h := own_take HORF.out (Nat.le_succ xs.length) (by omega)
        rw [natVals_take]
        exact own_base h (Nat.le_trans (by simp) HB1.out.size)
      · unfold Wp.quoB; rw [evs_length, Nat.sub_self]; simp
      · unfold Wp.remB; rw [evs_take, HMR.out.eq, evs_length]
end Go.Proofs.YtmbjhpgemphmmaaDoor
