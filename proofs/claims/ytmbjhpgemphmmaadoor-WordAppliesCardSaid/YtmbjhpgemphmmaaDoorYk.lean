/-
  WALKS of package word: divide.
  THE WALK of package word: divide.
  THE WALK of package word: signed.
-/
import Derived.Test.YtmbjhpgemphmmaaDoorYf
namespace Go.Proofs.YtmbjhpgemphmmaaDoor
open Go.RowKit
/-- two words -/
def WW (w : World) (B b : Nat) (gs : List Gm.Gate) (k n : Nat) (f g : List Bool → List Bool) (e : Ending) (w' : World) : Prop :=
  ∃ A c A2 c2 gs' ql rl, e = .returned (.tuple #[.slice A n c, .slice A2 n c2]) ∧ GA w' B b gs' ∧ Chg (GT B) w w' ∧ w'.ownsRow w.heap.size 29 1 (.slice A n c) n (natVals ql) ∧ w'.ownsRow w.heap.size 29 1 (.slice A2 n c2) n (natVals rl) ∧ MadeW gs gs' k ql f ∧ MadeW gs gs' k rl g
def DvR (W : World) (B b : Nat) (gs : List Gm.Gate) (xs ys : List Nat) (Bq gq cq : Nat) (wv rv iv : Value) (wr : World) : Prop :=
  ∃ k z gs' ql rl, k ≤ xs.length ∧ iv = .int .i64 z ∧ z + k + 1 = (xs.length : Int) ∧ (∃ A c, rv = .slice A (xs.length + 1) c) ∧ GA wr B b gs' ∧ Chg (GT B) W wr ∧ Bq ≤ wr.heap.size ∧
    wr.ownsRow W.heap.size 29 1 (.slice (some ⟨gq, 0, none⟩) xs.length cq) xs.length (natVals ql) ∧ wr.ownsRow Bq 29 1 rv (xs.length + 1) (natVals rl) ∧ wr.ownsRow Bq 29 1 wv (xs.length + 1) (natVals (ys ++ [0])) ∧
    Blk wr W.heap.size 106 #[.pointer (some ⟨b, 0, none⟩)] ∧
    MadeW gs gs' (12 * (xs.length + 1) * k) ql (fun inp => List.replicate (xs.length - k) false ++ (Wp.divTo (evs inp gs xs) (evs inp gs ys) k).1) ∧
    MadeW gs gs' (12 * (xs.length + 1) * k) rl (fun inp => (Wp.divTo (evs inp gs xs) (evs inp gs ys) k).2)
theorem set_zeros {n k : Nat} (l : List Bool) (f : Bool) (hk : k < n) : (List.replicate (n - k) false ++ l).set (n - 1 - k) f = List.replicate (n - (k + 1)) false ++ f :: l := by
  obtain ⟨m, hm⟩ : ∃ m, n - k = m + 1 := ⟨n - k - 1, by omega⟩
  have h2 : n - (k + 1) = m := by omega
  have h3 : n - 1 - k = m := by omega
  rw [hm, h2, h3, List.replicate_succ', List.append_assoc, List.set_append, if_neg (by simp)]
  simp
theorem evs_take (inp : List Bool) (gs : List Gm.Gate) (l : List Nat) (n : Nat) : evs inp gs (l.take n) = (evs inp gs l).take n := by unfold evs; rw [List.map_take]
theorem zero_any1 (n : Nat) (hn : n + 1 ≤ 1000) (w : World) : Calls Tryd.prog 79 #[.int .i64 ((n : Int) + 1)] w (WPost w (n + 1) (List.replicate (n + 1) 0)) := by
  have h := zero_any (n + 1) hn w
  rwa [Int.natCast_add, Int.natCast_one] at h
/-- one place of a division -/
structure DvStep (gs gs1 gs2 gs3 : List Gm.Gate) (xs ys ql rl dl r2 : List Nat) (k x fits i : Nat) : Prop where
  q : MadeW gs gs3 (12 * (xs.length + 1) * (k + 1)) (ql.set i fits) (fun inp => List.replicate (xs.length - (k + 1)) false ++ (Wp.divTo (evs inp gs xs) (evs inp gs ys) (k + 1)).1)
  r : MadeW gs gs3 (12 * (xs.length + 1) * (k + 1)) r2 (fun inp => (Wp.divTo (evs inp gs xs) (evs inp gs ys) (k + 1)).2)
theorem dv_step {gs gs1 gs2 gs3 : List Gm.Gate} {xs ys ql rl dl r2 : List Nat} {k x fits i : Nat} (hk : k + i + 1 = xs.length) (hx : xs[i]? = some x) (gx : AllHas gs xs) (gy : AllHas gs ys)
    (hq : MadeW gs gs1 (12 * (xs.length + 1) * k) ql (fun inp => List.replicate (xs.length - k) false ++ (Wp.divTo (evs inp gs xs) (evs inp gs ys) k).1))
    (hr : MadeW gs gs1 (12 * (xs.length + 1) * k) rl (fun inp => (Wp.divTo (evs inp gs xs) (evs inp gs ys) k).2))
    (hd : MadeW gs1 gs2 (9 * (xs.length + 1)) dl (fun inp => Wp.minusB (evs inp gs1 (x :: rl.take xs.length)) (evs inp gs1 (ys ++ [0]))))
    (hf : MadeL gs1 gs2 (9 * (xs.length + 1)) fits (fun inp => Wp.geB (evs inp gs1 (x :: rl.take xs.length)) (evs inp gs1 (ys ++ [0]))))
    (hw : MadeW gs2 gs3 (3 * (xs.length + 1)) r2 (fun inp => Wp.pickB (Gm.ev inp gs2 fits) (evs inp gs2 dl) (evs inp gs2 (x :: rl.take xs.length)))) :
    DvStep gs gs1 gs2 gs3 xs ys ql rl dl r2 k x fits i := by
  have hx0 := gx x (List.mem_of_getElem? hx)
  have e13 := hd.ext.trans hw.ext
  have har : AllHas gs1 (x :: rl.take xs.length) := fun z hz => by
    rcases List.mem_cons.1 hz with rfl | hz
    · exact hq.ext.has hx0
    · exact hr.all z (List.mem_of_mem_take hz)
  have hwide : ∀ inp, evs inp gs1 (ys ++ [0]) = evs inp gs ys ++ [false] := fun inp => by
    have : evs inp gs1 ys = evs inp gs ys := evs_ext gy hq.ext
    unfold evs at this ⊢
    rw [List.map_append, this]; simp [Gm.ev_zero]
  have hr1 : ∀ inp, evs inp gs1 (x :: rl.take xs.length) = (evs inp gs xs).getD ((evs inp gs xs).length - 1 - k) false :: ((Wp.divTo (evs inp gs xs) (evs inp gs ys) k).2).take (evs inp gs xs).length := fun inp => by
    have h1 : evs inp gs1 (x :: rl.take xs.length) = Gm.ev inp gs1 x :: evs inp gs1 (rl.take xs.length) := rfl
    rw [h1, evs_take, hr.eq, evs_length, Gm.ev_ext hq.ext hx0]
    congr 1
    have : (evs inp gs xs)[i]? = some (Gm.ev inp gs x) := by unfold evs; simp [hx]
    have e : xs.length - 1 - k = i := by omega
    rw [e]; simp [List.getD, this]
  have hl : 12 * (xs.length + 1) * (k + 1) = 12 * (xs.length + 1) * k + 12 * (xs.length + 1) := by rw [Nat.mul_add, Nat.mul_one]
  have len3 : gs3.length ≤ gs1.length + 12 * (xs.length + 1) := by have := hd.len; have := hw.len; omega
  have hq3 := hq.step e13 len3
  constructor
  · refine ⟨hq3.ext, fun z hz => ?_, by have := hq3.len; omega, fun inp => ?_⟩
    · rcases List.mem_or_eq_of_mem_set hz with hz | rfl
      · exact hq3.all z hz
      · exact hw.ext.has hf.has
    · rw [evs_set, hq3.eq, Gm.ev_ext hw.ext hf.has, hf.eq, hwide, hr1]
      have e : i = xs.length - 1 - k := by omega
      rw [e, set_zeros _ _ (by omega)]
      simp only [Wp.divTo, Wp.divStep]
  · refine ⟨hq.ext.trans e13, hw.all, by have := hq3.len; omega, fun inp => ?_⟩
    rw [hw.eq, hf.eq, hd.eq, evs_ext har hd.ext, hwide, hr1]
    simp only [Wp.divTo, Wp.divStep]
end Go.Proofs.YtmbjhpgemphmmaaDoor
namespace Go.Proofs.YtmbjhpgemphmmaaDoor
open Go.RowKit
theorem below_made {w w1 : World} {o : Obj} {r : Option Nat} (hg : (w.alloc o).grownBy w1 r) (hr : ∀ g, r = some g → w.heap.size ≤ g) : Below w.heap.size w w1 :=
  ((Below.refl _ w).alloc (Nat.le_refl _) o).trans ⟨hg.os, hg.tape, hg.output, hg.size, fun k hk => hg.block k (by simp; omega) fun e => by have := hr k e.symm; omega⟩
attribute [local irreducible] wpSeq wpStill
set_option maxRecDepth 100000 in
set_option maxHeartbeats 4000000 in
theorem divide_any {w : World} {B b : Nat} {gs : List Gm.Gate} (h : GA w B b gs) {A A2 : Option Addr} {c1 c2 n : Nat} {xs ys : List Nat} (hx : Held w B A n xs) (hy : Held w B A2 n ys) (gx : AllHas gs xs) (gy : AllHas gs ys)
    (hn : gs.length + 12 * (n + 1) * n ≤ 90000) (hl : n ≤ 80) (hpos : 0 < n) :
    Calls Tryd.prog 111 #[.agg #[.pointer (some ⟨b, 0, none⟩)], .slice A n c1, .slice A2 n c2] w
      (WW w B b gs (12 * (n + 1) * n) n (fun inp => Wp.quoB (evs inp gs xs) (evs inp gs ys)) (fun inp => Wp.remB (evs inp gs xs) (evs inp gs ys))) := by
  obtain ⟨i0, hi0, hz0, hz1, hz2⟩ := info_parts infoLit_
  have HIN := Lib.hid (show _ ∧ _ ∧ _ ∧ _ from ⟨hi0, hz0, hz1, hz2⟩)
  obtain rfl := hx.1
  have HG := Lib.hid h
  have HX := Lib.hid hx
  have HY := Lib.hid hy
  have GX := Lib.hid gx
  have GY := Lib.hid gy
  have HN := Lib.hid hn
  clear h hx hy gx gy hn hi0 hz0 hz1 hz2
  go_enter Tryd.func111, Tryd.ntmps111
  go_wp2_with fail
  refine (zero_any xs.length (by omega) _).mono ?_
  rintro e w1 ⟨Aq, cq, rfl, ho, hb⟩
  obtain ⟨gq, rfl, hgq1, hgq2⟩ := own_some ho hpos
  have HOQ := Lib.hid ho
  have HB1 := Lib.hid (show Below w.heap.size w w1 from ((Below.refl _ _).alloc (Nat.le_refl _) _).trans (hb.mono (by simp)))
  have HBX1 := Lib.hid ((Blk.new w 106 #[.pointer (some ⟨b, 0, none⟩)]).below hb (by simp))
  clear ho hb
  go_wp2_with fail
  refine (zero_any1 xs.length (by omega) _).mono ?_
  rintro e w2 ⟨Ar, cr, rfl, ho, hb⟩
  have HOR := Lib.hid ho
  have HB2 := Lib.hid hb
  have HR2 := Lib.hid (((HY.out.new HB1.out).new hb).reads)
  have HBX2 := Lib.hid (HBX1.out.below hb HBX1.out.lt)
  clear ho hb
  go_wp2_with (first | (at_builtin; refine wpList_append_sl _ rfl (.const (.slice none 0 0)) (.tmp 20) _ rfl w2.heap.size 29 i0 _ 1 8 Tryd.underlying28 HIN.out.1 HIN.out.2.1 HIN.out.2.2.1 HIN.out.2.2.2 rfl (by omega) _ 0 [] rfl (World.ownsRow_nil _ _ _ _) w2.heap.size A2 xs.length c2 (natVals ys) rfl HR2.out natVals_ones (le_maxLen (by omega)) (le_bytes (by omega) (by omega)) (Nat.le_refl _) ?_; rw [Nat.zero_add, List.nil_append]; intro A3 c3 w3 hown3 hg3; have HB3 := Lib.hid (below_row hg3); have HO3 := Lib.hid hown3; have HBX3 := Lib.hid (HBX2.out.below (below_row hg3) HBX2.out.lt); have hs3 := (below_row hg3).size; clear hown3 hg3) | (at_builtin; refine wpList_append_sl _ rfl (.tmp 21) (.tmp 22) _ rfl w2.heap.size 29 i0 _ 1 8 Tryd.underlying28 HIN.out.1 HIN.out.2.1 HIN.out.2.2.1 HIN.out.2.2.2 rfl (by omega) _ xs.length _ rfl (HO3.out.alloc _) (w3.heap.size + 1) (some ⟨w3.heap.size, 0, none⟩) 1 1 [.int .i64 (0 : Nat)] rfl (reads_new rfl (by omega) rfl) (ints_one (by simp)) (le_maxLen (by omega)) (le_bytes (by omega) (by omega)) (by simp; omega) ?_; intro A4 c4 w4 hown4 hg4; have hg4' : (w3.alloc (.cells #[.int .i64 (0 : Nat)] 29)).grownBy w4 (Value.slice A3 xs.length c3).ownBlock := hg4; have HGR4 := Lib.hid hg4'; have HO4 := Lib.hid hown4; clear hown4 hg4 hg4'))
  have hb4 : Below w2.heap.size w2 w4 := own_grown_below HB3.out HO3.out (Nat.le_refl _) HGR4.out
  have HB4 := Lib.hid hb4
  have HB04 := Lib.hid (show Below w.heap.size w w4 from HB1.out.trans ((HB2.out.trans (hb4.mono HB2.out.size)).mono HB1.out.size))
  clear hb4
  go_loopw [7, 10] (fun rv iv wr => DvR w B b gs xs ys w1.heap.size gq cq (.slice A4 (xs.length + 1) c4) rv iv wr) (fun _ iv _ => (intOf iv + 1).toNat)
  case atStart =>
    have hb14 : Below w1.heap.size w1 w4 := HB2.out.trans (HB4.out.mono HB2.out.size)
    have he : ∀ inp, evs inp gs (List.replicate xs.length 0) = List.replicate (xs.length - 0) false ++ (Wp.divTo (evs inp gs xs) (evs inp gs ys) 0).1 := fun inp => by rw [evs_zeros]; simp [Wp.divTo]
    have he2 : ∀ inp, evs inp gs (List.replicate (xs.length + 1) 0) = (Wp.divTo (evs inp gs xs) (evs inp gs ys) 0).2 := fun inp => by rw [evs_zeros]; simp [Wp.divTo, evs_length]
    refine ⟨0, _, gs, List.replicate xs.length 0, List.replicate (xs.length + 1) 0, Nat.zero_le _, rfl, by omega, ⟨Ar, cr, rfl⟩, HG.out.new HB04.out, .of_new HB04.out, hb14.size, ?_, ?_, ?_, HBX1.out.below hb14 HBX1.out.lt, ⟨.refl _, allHas_zeros gs _, by omega, he⟩, ⟨.refl _, allHas_zeros gs _, by omega, he2⟩⟩
    · exact own_base (own_chg (S := fun _ _ => False) HOQ.out (Chg.of_new hb14) (fun _ _ _ _ hs => hs)) (by simp)
    · exact own_chg (S := fun _ _ => False) HOR.out (Chg.of_new HB4.out) (fun _ _ _ _ hs => hs)
    · rw [natVals_append]; exact own_base HO4.out HB2.out.size
  case round =>
    obtain ⟨k, z, gs1, ql, rl, hk, rfl, hz, ⟨Ar1, cr1, rfl⟩, hg, hch, hbq, hoq, hor, how, hbox, hmq, hmr⟩ := hrel
    by_cases hkl : k < xs.length
    · obtain ⟨i, hi⟩ : ∃ i : Nat, (i : Int) = z := ⟨z.toNat, by omega⟩
      subst hi
      have hki : k + i + 1 = xs.length := by omega
      obtain ⟨x, hxi⟩ : ∃ x, xs[i]? = some x := ⟨_, List.getElem?_eq_getElem (by omega)⟩
      obtain ⟨ad, rfl⟩ := HX.out.form (by omega)
      have hlen1 : gs1.length ≤ gs.length + 12 * (xs.length + 1) * k := hmq.len
      have hlk : 12 * (xs.length + 1) * k + 12 * (xs.length + 1) ≤ 12 * (xs.length + 1) * xs.length := by
        have := Nat.mul_le_mul_left (12 * (xs.length + 1)) (show k + 1 ≤ xs.length by omega)
        rw [Nat.mul_add, Nat.mul_one] at this; exact this
      have HL1 := Lib.hid (And.intro hlen1 hlk)
      have HS := Lib.hid (show ∀ w', Chg (GT B) w w' → w'.cell? (ad.add i) = some (.int .i64 (x : Nat)) from fun w' hc => (HX.out.gt hc).at_ hxi)
      obtain ⟨W2, hW2⟩ : ∃ W2, W2 = wr.drew := ⟨_, rfl⟩
      have hc2 : Chg (GT B) w W2 := by rw [hW2]; exact hch.drew
      have hil : (i : Int) < (xs.length : Int) := by omega
      have HKI := Lib.hid hki
      have HXI := Lib.hid hxi
      have HMQ := Lib.hid hmq
      have HMR := Lib.hid hmr
      have HC2 := Lib.hid hc2
      have HG2 := Lib.hid (show GA W2 B b gs1 by rw [hW2]; exact hg.drewN 1)
      have HBQ2 := Lib.hid (show w1.heap.size ≤ W2.heap.size by rw [hW2]; exact hbq)
      have HBX2' := Lib.hid (show Blk W2 w.heap.size 106 #[.pointer (some ⟨b, 0, none⟩)] by rw [hW2]; exact hbox)
      have HOQ2 := Lib.hid (show W2.ownsRow w.heap.size 29 1 (.slice (some ⟨gq, 0, none⟩) xs.length cq) xs.length (natVals ql) by rw [hW2]; exact hoq)
      have HOR2 := Lib.hid (show W2.ownsRow w1.heap.size 29 1 (.slice Ar1 (xs.length + 1) cr1) (xs.length + 1) (natVals rl) by rw [hW2]; exact hor)
      have HOW2 := Lib.hid (show W2.ownsRow w1.heap.size 29 1 (.slice A4 (xs.length + 1) c4) (xs.length + 1) (natVals (ys ++ [0])) by rw [hW2]; exact how)
      obtain ⟨gr, rfl, _, _⟩ := own_some hor (by omega)
      have hcr : xs.length + 1 ≤ cr1 := by
        rcases hor.2 with ⟨h0, _⟩ | ⟨g', cap, cur, hv, _, _, hnc, _⟩
        · cases h0
        · obtain ⟨rfl, rfl⟩ : gr = g' ∧ cr1 = cap := by simpa using hv
          exact hnc
      have hcr' : (xs.length : Int) ≤ (cr1 : Int) := by omega
      have HW2 := Lib.hid hW2
      clear hz hki hxi hlen1 hlk hW2 hc2 hg hch hbq hoq hor how hbox hmq hmr hcr
      go_wp2_with fail
      refine wp_region_seq (S := fun w' => w'.cell? (ad.add i) = some (.int .i64 (x : Nat))) [(0, false), (1, false), (2, false), (3, false), (5, false), (6, false), (7, false), (4, true), (8, true), (9, false)] (by kernel_rfl) (by kernel_rfl) (by kernel_rfl) (by rw [← HW2.out]; exact HS.out _ HC2.out) ?_
      rw [← HW2.out]
      iterate 7 (refine seq_take _ _ rfl (by kernel_rfl) (fun wv hv => by have hv1 := hv; clear hv; go_simp; try with_reducible rfl) ?_; simp only [Act.put, List.getElem_toArray, List.getElem_cons_zero, List.getElem_cons_succ, List.setIfInBounds_toArray, List.set_cons_zero, List.set_cons_succ])
      refine seq_act _ rfl (fun K hK => ?_)
      go_simp
      go_simp
      refine hK _ _ (HS.out _ (HC2.out.alloc _)) ?_
      clear hK K
      refine seq_act _ rfl (fun K hK => ?_)
      refine step_append_sl _ rfl (.tmp 34) (.tmp 37) _ rfl W2.heap.size 29 i0 _ 1 8 Tryd.underlying28 HIN.out.1 HIN.out.2.1 HIN.out.2.2.1 HIN.out.2.2.2 rfl (by omega) _ 1 [.int .i64 (x : Nat)] rfl (own_full (Nat.le_refl _) rfl (by omega)) W2.heap.size (some ⟨gr, 0, none⟩) xs.length cr1 (natVals (rl.take xs.length)) rfl ((Reads.of_own (by rw [natVals_take]; exact own_take HOR2.out (Nat.le_succ _) (by omega))).alloc (Nat.le_refl _) _) natVals_ones (le_maxLen (by omega)) (le_bytes (by omega) (by omega)) (by simp) ?_
      rw [Nat.add_comm 1 xs.length]
      intro A5 c5 w5 hown5 hg5
      have hb5 : Below W2.heap.size W2 w5 := below_made hg5 fun g e => by
        have e' : some W2.heap.size = some g := e
        injection e' with e'; omega
      have ho5 : w5.ownsRow W2.heap.size 29 1 (.slice A5 (xs.length + 1) c5) (xs.length + 1) (natVals (x :: rl.take xs.length)) := hown5
      have hc5 := HC2.out.trans (Chg.of_new (S := GT B) hb5)
      have HB5 := Lib.hid hb5
      have HO5 := Lib.hid ho5
      have HC5 := Lib.hid hc5
      have HG5 := Lib.hid (HG2.out.new hb5)
      have bx5 := HBX2'.out.below hb5 HBX2'.out.lt
      have cb5 := bx5.cell 0
      have HBX5 := Lib.hid bx5
      have hoq5 := own_chg (S := fun _ _ => False) HOQ2.out (Chg.of_new hb5) (fun _ _ _ _ hs => hs)
      have how5 := own_chg (S := fun _ _ => False) HOW2.out (Chg.of_new hb5) (fun _ _ _ _ hs => hs)
      have HOQ5 := Lib.hid hoq5
      have HOW5 := Lib.hid how5
      have HAR := Lib.hid (show AllHas gs1 (x :: rl.take xs.length) from fun v hv => by
        rcases List.mem_cons.1 hv with rfl | hv
        · exact HMQ.out.ext.has (GX.out _ (List.mem_of_getElem? HXI.out))
        · exact HMR.out.all v (List.mem_of_mem_take hv))
      have HAW := Lib.hid (show AllHas gs1 (ys ++ [0]) from fun v hv => by
        rcases List.mem_append.1 hv with hv | hv
        · exact HMQ.out.ext.has (GY.out v hv)
        · rw [List.mem_singleton.1 hv]; exact has_zero gs1)
      have CM := Lib.hid (minus_any (c := c5) (c2 := c4) HG5.out (Held.of_own (B := B) ho5) (Held.of_own (B := B) how5) HAR.out HAW.out (by have := HL1.out; have := HN.out; omega) (by omega))
      clear hown5 hg5 ho5 hc5 hb5 bx5 hoq5 how5
      refine hK _ _ (HS.out _ HC5.out) ?_
      clear hK K
      try simp only [Act.put, List.getElem_toArray, List.getElem_cons_zero, List.getElem_cons_succ, List.setIfInBounds_toArray, List.set_cons_zero, List.set_cons_succ]
      iterate 1 (refine seq_take _ _ rfl (by kernel_rfl) (fun wv hv => by go_simp; try with_reducible rfl) ?_; simp only [Act.put, List.getElem_toArray, List.getElem_cons_zero, List.getElem_cons_succ, List.setIfInBounds_toArray, List.set_cons_zero, List.set_cons_succ])
      refine seq_nil ?_
      go_wp2_with fail
      refine CM.out.mono ?_
      rintro e w6 ⟨A6, c6, gs2, dl, fits, rfl, h1, h2, h3, h4, h5⟩
      have HG6 := Lib.hid h1
      have HC6 := Lib.hid (HC5.out.trans h2)
      have HOD := Lib.hid h3
      have HMD := Lib.hid h4
      have HMF := Lib.hid h5
      have hoq6 := own_gt HOQ5.out h2
      have HOQ6 := Lib.hid hoq6
      have HOW6 := Lib.hid (own_gt HOW5.out h2)
      have HOR6 := Lib.hid (own_gt HO5.out h2)
      have HBX6 := Lib.hid (box_gt HBX5.out h2)
      have hil' : i < xs.length := by have := HKI.out; omega
      obtain ⟨u, _, cq6⟩ := own_cell (k := i) hoq6 hil'
      have fq6 := own_unfrozen (k := i) hoq6
      have bx7 := HBX6.out.far (p := ⟨gq, i, none⟩) (by show w.heap.size ≠ gq; simp at hgq1; omega) (.int .i64 (fits : Nat))
      have cb7 := bx7.cell 0
      have hs56 : w5.heap.size ≤ w6.heap.size := h2.size
      have hs25 : W2.heap.size ≤ w5.heap.size := HB5.out.size
      have HS7 := Lib.hid (And.intro hs56 hs25)
      have hge : ∀ (base : Nat) (v : Value) (m : Nat) (l : List Value), w6.ownsRow base 29 1 v m l → w1.heap.size ≤ base → v.ownBlock ≠ some gq := fun base v m l ho hb e => by have := (ho.lt gq e).1; omega
      have CW := Lib.hid (word_any (c := fits) (c1 := c6) (c2 := c5) (HG6.out.setLit (k := i) hoq6 (.int .i64 (fits : Nat))) HMF.out.has
        (Held.of_own (B := B) (own_far h3 (k := i) (.int .i64 (fits : Nat)) (hge _ _ _ _ h3 (by have := HBQ2.out; omega))))
        (Held.of_own (B := B) (own_far HOR6.out (k := i) (.int .i64 (fits : Nat)) (hge _ _ _ _ HOR6.out HBQ2.out)))
        HMD.out.all (HAR.out.ext HMD.out.ext) (by have := HL1.out; have := HN.out; have := HMD.out.len; omega) (by omega))
      have HOW7 := Lib.hid (own_far HOW6.out (k := i) (.int .i64 (fits : Nat)) (hge _ _ _ _ HOW6.out (Nat.le_refl _)))
      have HOQ7 := Lib.hid (own_set hoq6 (k := i) (.int .i64 (fits : Nat)))
      have HC7 := Lib.hid (gt_setLit (k := i) HC6.out hoq6 (Nat.le_refl _) (.int .i64 (fits : Nat)))
      have HBX7 := Lib.hid bx7
      clear h1 h2 h3 h4 h5 hoq6 bx7 hge hs56 hs25 cb5
      go_wp2_with fail
      refine CW.out.mono ?_
      rintro e w8 ⟨A8, c8, gs3, r2, rfl, h1, h2, h3, h4⟩
      have HG8 := Lib.hid h1
      have HC8 := Lib.hid (HC7.out.trans h2)
      have HOR8 := Lib.hid h3
      have HM8 := Lib.hid h4
      have HOW8 := Lib.hid (own_gt HOW7.out h2)
      have HOQ8 := Lib.hid (own_gt HOQ7.out h2)
      have HBX8 := Lib.hid (box_gt HBX7.out h2)
      have HS8 := Lib.hid (show w6.heap.size ≤ w8.heap.size by have := h2.size; simpa [World.setCell] using this)
      clear h1 h2 h3 h4 cb7 cq6 fq6
      go_wp2_with fail
      go_roundw
      case rel =>
        have hst := dv_step HKI.out HXI.out GX.out GY.out HMQ.out HMR.out HMD.out HMF.out HM8.out
        refine ⟨k + 1, _, gs3, ql.set i fits, r2, by omega, rfl, by have := HKI.out; omega, ⟨A8, c8, rfl⟩, HG8.out, HC8.out, ?_, ?_, ?_, HOW8.out, HBX8.out, hst.q, hst.r⟩
        · have := HS8.out; have := HS7.out; have := HBQ2.out; omega
        · rw [natVals_set]; exact HOQ8.out
        · refine own_base HOR8.out ?_
          have := HS7.out; have := HBQ2.out
          simp [World.setCell]; omega
      case measure => simp [intOf]
    · obtain rfl : k = xs.length := by omega
      obtain rfl : z = -1 := by omega
      obtain ⟨gr, rfl, _, _⟩ := own_some hor (by omega)
      have hcr : xs.length + 1 ≤ cr1 := by
        rcases hor.2 with ⟨h0, _⟩ | ⟨g', cap, cur, hv, _, _, hnc, _⟩
        · cases h0
        · obtain ⟨rfl, rfl⟩ : gr = g' ∧ cr1 = cap := by simpa using hv
          exact hnc
      have hcr' : (xs.length : Int) ≤ (cr1 : Int) := by omega
      have HGF := Lib.hid hg
      have HCF := Lib.hid hch
      have HOQF := Lib.hid hoq
      have HORF := Lib.hid hor
      have HMQ := Lib.hid hmq
      have HMR := Lib.hid hmr
      clear hz hg hch hbq hoq hor how hbox hmq hmr hcr
      go_wp2_with fail
      refine wp_region_seq (S := fun w' => True) [(0, false), (1, false), (2, false), (3, false), (4, false), (5, false)] (by kernel_rfl) (by kernel_rfl) (by kernel_rfl) trivial ?_
      iterate 6 (refine seq_take _ _ rfl (by kernel_rfl) (fun wv hv => by go_simp; try with_reducible rfl) ?_; simp only [Act.put, List.getElem_toArray, List.getElem_cons_zero, List.getElem_cons_succ, List.setIfInBounds_toArray, List.set_cons_zero, List.set_cons_succ])
      refine seq_nil ?_
      go_wp2
      go_ret2
      refine ⟨_, cq, _, cr1, gs1, ql, rl.take xs.length, rfl, HGF.out.drewN 1, HCF.out.drew, HOQF.out, ?_, HMQ.out.to (Nat.le_refl _) fun inp => ?_, HMR.out.ext, fun v hv => HMR.out.all v (List.mem_of_mem_take hv), HMR.out.len, fun inp => ?_⟩
      · have h := own_take HORF.out (Nat.le_succ xs.length) (by omega)
        rw [natVals_take]
        exact own_base h (Nat.le_trans (by simp) HB1.out.size)
      · unfold Wp.quoB; rw [evs_length, Nat.sub_self]; simp
      · unfold Wp.remB; rw [evs_take, HMR.out.eq, evs_length]
end Go.Proofs.YtmbjhpgemphmmaaDoor
namespace Go.Proofs.YtmbjhpgemphmmaaDoor
open Go.RowKit
def sgK (n : Nat) : Nat := 36 * n + 12 * (n + 1) * n + 3
theorem ev_top {inp : List Bool} {gs : List Gm.Gate} {xs : List Nat} {m x : Nat} (hl : xs.length = m + 1) (hx : xs[m]? = some x) : Wp.topB (evs inp gs xs) = Gm.ev inp gs x := by
  unfold Wp.topB
  rw [evs_length, hl]
  have : (evs inp gs xs)[m]? = some (Gm.ev inp gs x) := by unfold evs; simp [hx]
  simp [List.getD, this]
/-- 'word' of a sign, what is turned around, and what is not -/
theorem made_abs {gs gs1 gs2 : List Gm.Gate} {n k x : Nat} {xs nl ol : List Nat} {c : List Bool → Bool} {f : List Bool → List Bool} (_hx : Gm.has gs1 x) (hxs : AllHas gs xs) (hf : ∀ inp, evs inp gs xs = f inp) (hc : ∀ inp, Gm.ev inp gs1 x = c inp)
    (h1 : MadeW gs gs1 k nl (fun inp => Wp.negB (evs inp gs xs))) (h2 : MadeW gs1 gs2 (3 * n) ol (fun inp => Wp.pickB (Gm.ev inp gs1 x) (evs inp gs1 nl) (evs inp gs1 xs))) :
    MadeW gs gs2 (k + 3 * n) ol (fun inp => Wp.pickB (c inp) (Wp.negB (f inp)) (f inp)) :=
  ⟨h1.ext.trans h2.ext, h2.all, by have := h1.len; have := h2.len; omega, fun inp => by rw [h2.eq, hc, h1.eq, evs_ext hxs h1.ext, hf]⟩
attribute [local irreducible] wpSeq wpStill
set_option maxRecDepth 100000 in
set_option maxHeartbeats 4000000 in
theorem signed_any {w : World} {B b : Nat} {gs : List Gm.Gate} (h : GA w B b gs) {A A2 : Option Addr} {c1 c2 m : Nat} {xs ys : List Nat} (hx : Held w B A (m + 1) xs) (hy : Held w B A2 (m + 1) ys) (gx : AllHas gs xs) (gy : AllHas gs ys)
    (hn : gs.length + sgK (m + 1) ≤ 89000) (hl : m + 1 ≤ 80) (rest : Bool) :
    Calls Tryd.prog 87 #[.agg #[.pointer (some ⟨b, 0, none⟩)], .slice A (m + 1) c1, .slice A2 (m + 1) c2, .bool rest] w
      (WG w B b gs (sgK (m + 1)) (m + 1) (fun inp => if rest then Wp.sRem (evs inp gs xs) (evs inp gs ys) else Wp.sQuo (evs inp gs xs) (evs inp gs ys))) := by
  obtain ⟨x, hxm⟩ : ∃ x, xs[m]? = some x := ⟨_, List.getElem?_eq_getElem (by have := hx.1; omega)⟩
  obtain ⟨y, hym⟩ : ∃ y, ys[m]? = some y := ⟨_, List.getElem?_eq_getElem (by have := hy.1; omega)⟩
  obtain ⟨ad, rfl⟩ := hx.form (by omega)
  obtain ⟨ad2, rfl⟩ := hy.form (by omega)
  have HXM := Lib.hid hxm
  have HYM := Lib.hid hym
  have HG := Lib.hid h
  have HX := Lib.hid hx
  have HY := Lib.hid hy
  have GX := Lib.hid gx
  have GY := Lib.hid gy
  have HK : Hid (gs.length + (36 * (m + 1) + 12 * (m + 1 + 1) * (m + 1) + 3) ≤ 89000) := Lib.hid hn
  have HS := Lib.hid (show ∀ w', Chg (GT B) w w' → Blk w' w.heap.size 106 #[.pointer (some ⟨b, 0, none⟩)] → w'.cell? ⟨w.heap.size, 0, none⟩ = some (.pointer (some ⟨b, 0, none⟩)) ∧ w'.cell? (ad.add m) = some (.int .i64 (x : Nat)) ∧ w'.cell? (ad2.add m) = some (.int .i64 (y : Nat)) from
    fun w' hc hb => ⟨hb.cell 0, (hx.gt hc).at_ hxm, (hy.gt hc).at_ hym⟩)
  obtain ⟨W2, hW2⟩ : ∃ W2, W2 = (w.alloc (.cells #[.pointer (some ⟨b, 0, none⟩)] 106)).drew := ⟨_, rfl⟩
  have hb2 : Below w.heap.size w W2 := by rw [hW2]; exact below_drewN ((Below.refl _ _).alloc (Nat.le_refl _) _) 1
  have bx2 : Blk W2 w.heap.size 106 #[.pointer (some ⟨b, 0, none⟩)] := by rw [hW2]; exact Blk.new w _ _
  have HB2 := Lib.hid hb2
  have HBX2 := Lib.hid bx2
  have HC2 := Lib.hid (Chg.of_new (S := GT B) hb2)
  have HS2 := Lib.hid (HS.out _ HC2.out bx2)
  have HW2 := Lib.hid hW2
  have hm1 : (m : Int) < (m : Int) + 1 := by omega
  have hxh := gx x (List.mem_of_getElem? hxm)
  have hyh := gy y (List.mem_of_getElem? hym)
  have HXH := Lib.hid hxh
  have HYH := Lib.hid hyh
  have C1 := Lib.hid (neg_any (c := c1) (h.new hb2) (hx.gt HC2.out) gx (by omega) (by omega))
  clear h hx hy gx gy hn hxm hym hW2 hb2 bx2 hxh hyh
  go_enter Tryd.func87, Tryd.ntmps87
  go_wp2_with fail
  refine wp_region_seq (S := fun w' => w'.cell? ⟨w.heap.size, 0, none⟩ = some (.pointer (some ⟨b, 0, none⟩)) ∧ w'.cell? (ad.add m) = some (.int .i64 (x : Nat)) ∧ w'.cell? (ad2.add m) = some (.int .i64 (y : Nat))) [(0, false), (1, false), (2, false), (3, false), (4, false), (5, false), (6, false), (8, false), (10, false), (11, false), (12, false), (13, false), (14, false), (15, false), (16, false), (18, false), (7, true), (9, true), (17, true), (19, true), (20, false), (21, false)] (by kernel_rfl) (by kernel_rfl) (by kernel_rfl) (by rw [← HW2.out]; exact HS2.out) ?_
  rw [← HW2.out]
  iterate 16 (refine seq_take _ _ rfl (by kernel_rfl) (fun wv hv => by obtain ⟨hv1, hv2, hv3⟩ := hv; go_simp; try with_reducible rfl) ?_; simp only [Act.put, List.getElem_toArray, List.getElem_cons_zero, List.getElem_cons_succ, List.setIfInBounds_toArray, List.set_cons_zero, List.set_cons_succ])
  refine seq_act _ rfl (fun K hK => ?_)
  go_simp
  refine C1.out.mono ?_
  rintro e w3 ⟨A3, c3, gs3, l3, rfl, h1, h2, h3, h4⟩
  have HC3 := Lib.hid (HC2.out.trans h2)
  have HBX3 := Lib.hid (box_gt HBX2.out h2)
  have HM3 := Lib.hid h4
  have C2 := Lib.hid (word_any (c := x) (c1 := c3) (c2 := c1) h1 (h4.ext.has HXH.out) (Held.of_own (B := B) h3) (HX.out.gt HC3.out) h4.all (GX.out.ext h4.ext) (by have := h4.len; have := HK.out; omega) (by omega))
  clear h1 h2 h3 h4
  go_simp
  refine hK _ _ (HS.out _ HC3.out HBX3.out) ?_
  clear hK K
  refine seq_act _ rfl (fun K hK => ?_)
  go_simp
  refine C2.out.mono ?_
  rintro e w4 ⟨A4, c4, gs4, l4, rfl, h1, h2, h3, h4⟩
  have HC4 := Lib.hid (HC3.out.trans h2)
  have HBX4 := Lib.hid (box_gt HBX3.out h2)
  have m4 := made_abs (HM3.out.ext.has HXH.out) GX.out (fun inp => rfl) (fun inp => by rw [Gm.ev_ext HM3.out.ext HXH.out, ← ev_top HX.out.1 HXM.out]) HM3.out h4
  have HM4 := Lib.hid (show MadeW gs gs4 (9 * (m + 1) + 3 * (m + 1)) l4 (fun inp => Wp.absB (evs inp gs xs)) from m4)
  have HO4 := Lib.hid h3
  have C3 := Lib.hid (neg_any (c := c2) h1 (HY.out.gt HC4.out) (GY.out.ext m4.ext) (by have := m4.len; have := HK.out; omega) (by omega))
  clear h1 h2 h3 h4 m4
  go_simp
  refine hK _ _ (HS.out _ HC4.out HBX4.out) ?_
  clear hK K
  refine seq_act _ rfl (fun K hK => ?_)
  go_simp
  refine C3.out.mono ?_
  rintro e w5 ⟨A5, c5, gs5, l5, rfl, h1, h2, h3, h4⟩
  have HC5 := Lib.hid (HC4.out.trans h2)
  have HBX5 := Lib.hid (box_gt HBX4.out h2)
  have HM5 := Lib.hid h4
  have HO5 := Lib.hid (own_gt HO4.out h2)
  have C4 := Lib.hid (word_any (c := y) (c1 := c5) (c2 := c2) h1 ((HM4.out.ext.trans h4.ext).has HYH.out) (Held.of_own (B := B) h3) (HY.out.gt HC5.out) h4.all ((GY.out.ext HM4.out.ext).ext h4.ext) (by have := h4.len; have := HM4.out.len; have := HK.out; omega) (by omega))
  clear h1 h2 h3 h4
  go_simp
  refine hK _ _ (HS.out _ HC5.out HBX5.out) ?_
  clear hK K
  refine seq_act _ rfl (fun K hK => ?_)
  go_simp
  refine C4.out.mono ?_
  rintro e w6 ⟨A6, c6, gs6, l6, rfl, h1, h2, h3, h4⟩
  have HC6 := Lib.hid (HC5.out.trans h2)
  have bx6 := box_gt HBX5.out h2
  have cb6 := bx6.cell 0
  have HBX6 := Lib.hid bx6
  have m6 := made_abs (f := fun inp => evs inp gs ys) (c := fun inp => Wp.topB (evs inp gs ys)) (HM5.out.ext.has (HM4.out.ext.has HYH.out)) (GY.out.ext HM4.out.ext) (fun inp => evs_ext GY.out HM4.out.ext) (fun inp => by rw [Gm.ev_ext HM5.out.ext (HM4.out.ext.has HYH.out), Gm.ev_ext HM4.out.ext HYH.out, ← ev_top HY.out.1 HYM.out]) HM5.out h4
  have HM6 := Lib.hid (show MadeW gs4 gs6 (9 * (m + 1) + 3 * (m + 1)) l6 (fun inp => Wp.absB (evs inp gs ys)) from m6)
  have HO6 := Lib.hid (own_gt HO5.out h2)
  have C5 := Lib.hid (divide_any (c1 := c4) (c2 := c6) h1 (Held.of_own (B := B) (own_gt HO5.out h2)) (Held.of_own (B := B) h3) (HM4.out.all.ext HM6.out.ext) h4.all (by have := HM4.out.len; have := HM6.out.len; have := HK.out; omega) (by omega) (by omega))
  clear h1 h2 h3 h4 m6 bx6
  go_simp
  refine hK _ _ (HS.out _ HC6.out HBX6.out) ?_
  clear hK K
  iterate 2 (refine seq_take _ _ rfl (by kernel_rfl) (fun wv hv => by go_simp; try with_reducible rfl) ?_; simp only [Act.put, List.getElem_toArray, List.getElem_cons_zero, List.getElem_cons_succ, List.setIfInBounds_toArray, List.set_cons_zero, List.set_cons_succ])
  refine seq_nil ?_
  go_wp2_with fail
  refine C5.out.mono ?_
  rintro e w7 ⟨A7, c7, A8, c8, gs7, ql, rl, rfl, h1, h2, h3, h3', h4, h5⟩
  have HG7 := Lib.hid h1
  have HC7 := Lib.hid (HC6.out.trans h2)
  have HBX7 := Lib.hid (box_gt HBX6.out h2)
  have HOQ := Lib.hid h3
  have HOR := Lib.hid h3'
  have HMQ := Lib.hid h4
  have HMR := Lib.hid h5
  clear h1 h2 h3 h3' h4 h5 cb6
  have HE := Lib.hid (show Gm.Ext gs gs7 from (HM4.out.ext.trans HM6.out.ext).trans HMQ.out.ext)
  have HL7 := Lib.hid (show gs7.length ≤ gs.length + (24 * (m + 1) + 12 * (m + 1 + 1) * (m + 1)) by have := HM4.out.len; have := HM6.out.len; have := HMQ.out.len; omega)
  have HVX := Lib.hid (show ∀ inp, evs inp gs6 l4 = Wp.absB (evs inp gs xs) from fun inp => by rw [evs_ext HM4.out.all HM6.out.ext, HM4.out.eq])
  have HVY := Lib.hid (show ∀ inp, evs inp gs6 l6 = Wp.absB (evs inp gs ys) from fun inp => HM6.out.eq inp)
  obtain ⟨W8, hW8⟩ : ∃ W8, W8 = w7.drew := ⟨_, rfl⟩
  have hc8 : Chg (GT B) w W8 := by rw [hW8]; exact HC7.out.drew
  have HC8 := Lib.hid hc8
  have HBX8 := Lib.hid (show Blk W8 w.heap.size 106 #[.pointer (some ⟨b, 0, none⟩)] by rw [hW8]; exact HBX7.out.drew)
  have HG8 := Lib.hid (show GA W8 B b gs7 by rw [hW8]; exact HG7.out.drewN 1)
  have HS8 := Lib.hid (HS.out _ hc8 HBX8.out)
  have HOQ8 := Lib.hid (show W8.ownsRow w6.heap.size 29 1 (.slice A7 (m + 1) c7) (m + 1) (natVals ql) by rw [hW8]; exact HOQ.out)
  have HOR8 := Lib.hid (show W8.ownsRow w6.heap.size 29 1 (.slice A8 (m + 1) c8) (m + 1) (natVals rl) by rw [hW8]; exact HOR.out)
  have HW8 := Lib.hid hW8
  clear hW8 hc8
  cases rest with
  | true =>
    go_wp2_with fail
    refine wp_region_seq (S := fun w' => w'.cell? ⟨w.heap.size, 0, none⟩ = some (.pointer (some ⟨b, 0, none⟩)) ∧ w'.cell? (ad.add m) = some (.int .i64 (x : Nat)) ∧ w'.cell? (ad2.add m) = some (.int .i64 (y : Nat))) [(0, false), (1, false), (2, false), (3, false), (4, false), (5, false), (6, false), (8, false), (7, true), (9, true), (10, false)] (by kernel_rfl) (by kernel_rfl) (by kernel_rfl) (by rw [← HW8.out]; exact HS8.out) ?_
    rw [← HW8.out]
    iterate 8 (refine seq_take _ _ rfl (by kernel_rfl) (fun wv hv => by obtain ⟨hv1, hv2, hv3⟩ := hv; go_simp; try with_reducible rfl) ?_; simp only [Act.put, List.getElem_toArray, List.getElem_cons_zero, List.getElem_cons_succ, List.setIfInBounds_toArray, List.set_cons_zero, List.set_cons_succ])
    refine seq_act _ rfl (fun K hK => ?_)
    go_simp
    refine (neg_any HG8.out (Held.of_own (B := B) HOR8.out) HMR.out.all (by have := HL7.out; have := HK.out; omega) (by omega)).mono ?_
    rintro e w9 ⟨A9, c9, gs9, l9, rfl, h1, h2, h3, h4⟩
    have HC9 := Lib.hid (HC8.out.trans h2)
    have HBX9 := Lib.hid (box_gt HBX8.out h2)
    have HM9 := Lib.hid h4
    have C6 := Lib.hid (word_any (c := x) (c1 := c9) (c2 := c8) h1 ((HE.out.trans h4.ext).has HXH.out) (Held.of_own (B := B) h3) (Held.of_own (B := B) (own_gt HOR8.out h2)) h4.all (HMR.out.all.ext h4.ext) (by have := h4.len; have := HL7.out; have := HK.out; omega) (by omega))
    clear h1 h2 h3 h4
    go_simp
    refine hK _ _ (HS.out _ HC9.out HBX9.out) ?_
    clear hK K
    refine seq_act _ rfl (fun K hK => ?_)
    go_simp
    refine C6.out.mono ?_
    rintro e w10 ⟨A10, c10, gs10, l10, rfl, h1, h2, h3, h4⟩
    have HG10 := Lib.hid h1
    have HC10 := Lib.hid (HC9.out.trans h2)
    have HBX10 := Lib.hid (box_gt HBX9.out h2)
    have HO10 := Lib.hid h3
    have m10 := made_abs (f := fun inp => Wp.remB (Wp.absB (evs inp gs xs)) (Wp.absB (evs inp gs ys))) (c := fun inp => Wp.topB (evs inp gs xs)) (HM9.out.ext.has (HE.out.has HXH.out)) HMR.out.all (fun inp => by rw [HMR.out.eq, HVX.out, HVY.out]) (fun inp => by rw [Gm.ev_ext HM9.out.ext (HE.out.has HXH.out), Gm.ev_ext HE.out HXH.out, ← ev_top HX.out.1 HXM.out]) HM9.out h4
    have HM10 := Lib.hid m10
    clear h1 h2 h3 h4 m10
    go_simp
    refine hK _ _ (HS.out _ HC10.out HBX10.out) ?_
    clear hK K
    iterate 1 (refine seq_take _ _ rfl (by kernel_rfl) (fun wv hv => by go_simp; try with_reducible rfl) ?_; simp only [Act.put, List.getElem_toArray, List.getElem_cons_zero, List.getElem_cons_succ, List.setIfInBounds_toArray, List.set_cons_zero, List.set_cons_succ])
    refine seq_nil ?_
    go_wp2
    go_ret
    exact ⟨A10, c10, gs10, l10, rfl, HG10.out, HC10.out, own_base HO10.out HC9.out.size, HE.out.trans HM10.out.ext, HM10.out.all, by have := HM10.out.len; have := HL7.out; unfold sgK; omega, fun inp => HM10.out.eq inp⟩
  | false =>
    go_wp2_with fail
    refine wp_region_seq (S := fun w' => w'.cell? ⟨w.heap.size, 0, none⟩ = some (.pointer (some ⟨b, 0, none⟩)) ∧ w'.cell? (ad.add m) = some (.int .i64 (x : Nat)) ∧ w'.cell? (ad2.add m) = some (.int .i64 (y : Nat))) [(0, false), (1, false), (2, false), (3, false), (4, false), (5, false), (6, false), (7, false), (8, false), (9, false), (11, false), (12, false), (14, false), (10, true), (13, true), (15, true), (16, false)] (by kernel_rfl) (by kernel_rfl) (by kernel_rfl) (by rw [← HW8.out]; exact HS8.out) ?_
    rw [← HW8.out]
    iterate 13 (refine seq_take _ _ rfl (by kernel_rfl) (fun wv hv => by obtain ⟨hv1, hv2, hv3⟩ := hv; go_simp; try with_reducible rfl) ?_; simp only [Act.put, List.getElem_toArray, List.getElem_cons_zero, List.getElem_cons_succ, List.setIfInBounds_toArray, List.set_cons_zero, List.set_cons_succ])
    obtain ⟨r, er⟩ : ∃ r, r = Gm.xorG gs7 x y := ⟨_, rfl⟩
    have hr := fun inp => Gm.comes_xor (inp := inp) HG8.out.wf (HE.out.has HXH.out) (HE.out.has HYH.out)
    have hrl : r.1.length ≤ gs7.length + 3 := by rw [er]; exact Gm.orOf_len ..
    rw [← er] at hr
    have HR := Lib.hid hr
    have HRL := Lib.hid hrl
    have CX := mkr_xor HG8.out (by have := HL7.out; have := HK.out; omega) (HE.out.has HXH.out) (HE.out.has HYH.out)
    rw [← er] at CX
    have CX := Lib.hid CX
    clear er hr hrl
    refine seq_act _ rfl (fun K hK => ?_)
    go_simp
    refine CX.out.mono ?_
    rintro e w9 ⟨rfl, h1, h2⟩
    have HC9 := Lib.hid (HC8.out.trans h2)
    have HBX9 := Lib.hid (box_gt HBX8.out h2)
    have HOQ9 := Lib.hid (own_gt HOQ8.out h2)
    have C5 := Lib.hid (neg_any (c := c7) h1 (Held.of_own (B := B) HOQ9.out) (HMQ.out.all.ext (HR.out []).ext) (by have := HL7.out; have := HK.out; have := HRL.out; omega) (by omega))
    clear h1 h2
    go_simp
    refine hK _ _ (HS.out _ HC9.out HBX9.out) ?_
    clear hK K
    refine seq_act _ rfl (fun K hK => ?_)
    go_simp
    refine C5.out.mono ?_
    rintro e w10 ⟨A9, c9, gs9, l9, rfl, h1, h2, h3, h4⟩
    have HC10 := Lib.hid (HC9.out.trans h2)
    have HBX10 := Lib.hid (box_gt HBX9.out h2)
    have HM9 := Lib.hid h4
    have C6 := Lib.hid (word_any (c := r.2) (c1 := c9) (c2 := c7) h1 (h4.ext.has (HR.out []).has) (Held.of_own (B := B) h3) (Held.of_own (B := B) (own_gt HOQ9.out h2)) h4.all ((HMQ.out.all.ext (HR.out []).ext).ext h4.ext) (by have := h4.len; have := HL7.out; have := HK.out; have := HRL.out; omega) (by omega))
    clear h1 h2 h3 h4
    go_simp
    refine hK _ _ (HS.out _ HC10.out HBX10.out) ?_
    clear hK K
    refine seq_act _ rfl (fun K hK => ?_)
    go_simp
    refine C6.out.mono ?_
    rintro e w11 ⟨A10, c10, gs10, l10, rfl, h1, h2, h3, h4⟩
    have HG10 := Lib.hid h1
    have HC11 := Lib.hid (HC10.out.trans h2)
    have HBX11 := Lib.hid (box_gt HBX10.out h2)
    have HO10 := Lib.hid h3
    have m10 := made_abs (f := fun inp => Wp.quoB (Wp.absB (evs inp gs xs)) (Wp.absB (evs inp gs ys))) (c := fun inp => Wp.topB (evs inp gs xs) != Wp.topB (evs inp gs ys)) (HM9.out.ext.has (HR.out []).has) (HMQ.out.all.ext (HR.out []).ext) (fun inp => by rw [evs_ext HMQ.out.all (HR.out []).ext, HMQ.out.eq, HVX.out, HVY.out]) (fun inp => by rw [Gm.ev_ext HM9.out.ext (HR.out []).has, (HR.out inp).ev, Gm.ev_ext HE.out HXH.out, Gm.ev_ext HE.out HYH.out, ← ev_top HX.out.1 HXM.out, ← ev_top HY.out.1 HYM.out]) HM9.out h4
    have HM10 := Lib.hid m10
    clear h1 h2 h3 h4 m10
    go_simp
    refine hK _ _ (HS.out _ HC11.out HBX11.out) ?_
    clear hK K
    iterate 1 (refine seq_take _ _ rfl (by kernel_rfl) (fun wv hv => by go_simp; try with_reducible rfl) ?_; simp only [Act.put, List.getElem_toArray, List.getElem_cons_zero, List.getElem_cons_succ, List.setIfInBounds_toArray, List.set_cons_zero, List.set_cons_succ])
    refine seq_nil ?_
    go_wp2
    go_ret
    exact ⟨A10, c10, gs10, l10, rfl, HG10.out, HC11.out, own_base HO10.out HC10.out.size, (HE.out.trans (HR.out []).ext).trans HM10.out.ext, HM10.out.all, by have := HM10.out.len; have := HL7.out; have := HRL.out; unfold sgK; omega, fun inp => HM10.out.eq inp⟩
end Go.Proofs.YtmbjhpgemphmmaaDoor
