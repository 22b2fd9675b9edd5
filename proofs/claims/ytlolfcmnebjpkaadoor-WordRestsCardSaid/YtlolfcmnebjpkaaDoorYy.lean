/-
  PLAIN: what words of inputs come to; what the law WordRests leans on. No program in sight.
  THE WALK of the law WordRests.
-/
import Derived.Test.YtlolfcmnebjpkaaDoorYu
import Derived.Test.YtlolfcmnebjpkaaDoorYx
namespace Go.Proofs.YtlolfcmnebjpkaaDoor
theorem inps_add (n m : Nat) : inps (n + m) = inps n ++ inps m := by unfold inps; rw [List.replicate_append_replicate]
theorem ev_inps (inp : List Bool) {j n : Nat} (h : j < n) : Gm.ev inp (inps n) (2 * j + 2) = inp.getD j false := by
  have h1 := Gm.ev_new_inp inp (inps j)
  rw [inps_succ, inps_ins] at h1
  have h2 : ∃ hs, inps n = inps (j + 1) ++ hs := ⟨inps (n - (j + 1)), by rw [← inps_add]; congr 1; omega⟩
  rw [Gm.ev_pre h2 (by unfold Gm.has; rw [inps_length]; omega)]
  exact h1
theorem getD_app (a b : List Bool) (i k : Nat) (h : a.length = i) : (a ++ b).getD (i + k) false = b.getD k false := by
  subst h
  rw [List.getD_eq_getElem?_getD, List.getD_eq_getElem?_getD, List.getElem?_append_right (by omega)]
  congr 2; omega
theorem map_getD (l : List Bool) (r : List Bool) : (List.range l.length).map (fun k => (l ++ r).getD k false) = l := by
  apply List.ext_getElem?
  intro i
  rw [List.getElem?_map]
  by_cases h : i < l.length
  · rw [List.getElem?_range h]
    simp only [Option.map_some, List.getD_eq_getElem?_getD, List.getElem?_append_left h, List.getElem?_eq_getElem h, Option.getD_some]
  · rw [List.getElem?_eq_none (by simp; omega), List.getElem?_eq_none (by omega)]; rfl
theorem word_evs {l : List Int} {i : Nat} {x : Int} (hx : l[i]? = some x) : evs (bitsL l) (inps (8 * l.length)) (wordL i) = bitsN 8 (byteM x) := by
  have hi := (List.getElem?_eq_some_iff.1 hx).1
  have e : bitsL l = bitsL (l.take i) ++ (bitsN 8 (byteM x) ++ bitsL (l.drop (i + 1))) := by
    have h1 : l = l.take i ++ x :: l.drop (i + 1) := by
      have hxx : l[i] = x := by simpa [hi] using hx
      rw [← hxx, ← List.drop_eq_getElem_cons hi, List.take_append_drop]
    conv => lhs; rw [h1]
    unfold bitsL; simp
  have hl : (bitsL (l.take i)).length = 8 * i := by rw [bitsL_length, List.length_take]; omega
  have h2 : ∀ k, k < 8 → Gm.ev (bitsL l) (inps (8 * l.length)) (2 * (8 * i + k) + 2) = (bitsN 8 (byteM x) ++ bitsL (l.drop (i + 1))).getD k false := fun k hk => by
    rw [ev_inps _ (by omega), e, getD_app _ _ _ _ hl]
  have h3 : (List.range 8).map (Gm.ev (bitsL l) (inps (8 * l.length)) ∘ fun j => 2 * (8 * i + j) + 2) = (List.range (bitsN 8 (byteM x)).length).map fun k => (bitsN 8 (byteM x) ++ bitsL (l.drop (i + 1))).getD k false := by
    rw [bitsN_length]
    exact List.map_congr_left fun k hk => h2 k (List.mem_range.1 hk)
  have h4 : evs (bitsL l) (inps (8 * l.length)) (wordL i) = (List.range 8).map (Gm.ev (bitsL l) (inps (8 * l.length)) ∘ fun j => 2 * (8 * i + j) + 2) := by unfold evs wordL wordTo; rw [List.map_map]
  rw [h4, h3, map_getD]
/-- is an int 0 modulo 256? -/
theorem zero_byte (b : Int) : Wp.sameB (bitsN 8 (byteM b)) (List.replicate 8 false) = (b.tmod 256 == 0) := by
  have h1 : Wp.nu (bitsN 8 (byteM b)) = byteM b := by rw [bitsN_nu]; exact Nat.mod_eq_of_lt (byteM_lt b)
  have h2 : bitsN 8 (byteM b) = List.replicate 8 false ↔ byteM b = 0 := by
    have := Wp.nu_zero (a := bitsN 8 (byteM b))
    rw [bitsN_length, h1] at this
    exact this.symm
  have h3 := tmod_byte b
  have h4 := byteM_lt b
  have h5 : byteM b = 0 ↔ b.tmod 256 = 0 := by
    rcases Int.lt_or_le (b.tmod 256) 0 with h | h
    · have := h3.1 h
      have h6 : b.tmod 256 < 0 := h
      constructor
      · intro h0
        exfalso
        have h7 : b.tmod 256 = -256 := by omega
        have h8 : (256 : Int) ∣ b - b.tmod 256 := ⟨b.tdiv 256, by have := Int.mul_tdiv_add_tmod b 256; omega⟩
        rcases Int.lt_or_le b 0 with hb | hb
        · have e : b.tmod 256 = -((-b) % 256) := by
            rw [← Int.tmod_eq_emod_of_nonneg (by omega), Int.neg_tmod, Int.neg_neg]
          omega
        · have e : b.tmod 256 = b % 256 := Int.tmod_eq_emod_of_nonneg hb
          omega
      · intro h0; omega
    · have := h3.2 h
      omega
  rw [Bool.eq_iff_iff, Wp.sameB_iff (by rw [bitsN_length]; simp), h2, h5]
  simp
theorem euclid_byte {a : List Bool} {b : Int} (ha : a.length = 8) (hb : (b.tmod 256 == 0) = false) :
    Wp.sums (Wp.timesB (Wp.sQuo a (bitsN 8 (byteM b))) (bitsN 8 (byteM b))) (Wp.sRem a (bitsN 8 (byteM b))) false = a := by
  have h1 := zero_byte b
  rw [hb] at h1
  have h2 : 0 < Wp.nu (bitsN 8 (byteM b)) := by
    rcases Nat.eq_zero_or_pos (Wp.nu (bitsN 8 (byteM b))) with h | h
    · rw [Wp.nu_zero, bitsN_length] at h
      rw [(Wp.sameB_iff (by rw [bitsN_length]; simp)).2 h] at h1
      cases h1
    · exact h
  exact Wp.euclid (by rw [ha, bitsN_length]) (Wp.abs_pos h2)
end Go.Proofs.YtlolfcmnebjpkaaDoor
namespace Go.Proofs.YtlolfcmnebjpkaaDoor
open Go.RowKit
/-- Of's answer for a division -/
theorem of_quo {w : World} {B b LB : Nat} {gs : List Gm.Gate} (h : GA w B b gs) (hL : Lvls w LB) (hLB : LB ≤ w.heap.size) {A : Option Addr} {c : Nat} {xs ys : List Nat} (hp : PartsAt w B A [xs, ys]) (hx8 : xs.length = 8) (hy8 : ys.length = 8) (gx : AllHas gs xs) (gy : AllHas gs ys)
    (hn : gs.length ≤ 80000) :
    Calls Tryd.prog 33 #[.pointer (some ⟨b, 0, none⟩), .string ⟨#[47]⟩, .slice A 2 c] w (OfP w B b gs 1800 8 (fun inp => Wp.sQuo (evs inp gs xs) (evs inp gs ys)) (fun inp => Wp.sameB (evs inp gs ys) (List.replicate 8 false))) := by
  refine (of_two (c := c) h hL hLB hp hx8 hy8 gx gy (by omega) two_quo (fun W A0 A1 c0 c1 hg hx hy => ints_quo (m := 7) hg hx hy gx gy (by show gs.length + 1795 ≤ 88000; omega) (by omega))).mono ?_
  rintro e w' ⟨A', c', gs', outs, last, h0, h1, h2, h3, h4, h5⟩
  exact ⟨A', c', gs', outs, last, h0, h1, h2, h3, h4.to (by show 1187 ≤ 1800; omega) fun _ => rfl, h5.to (by show 1187 ≤ 1800; omega) fun _ => rfl⟩
theorem of_rest {w : World} {B b LB : Nat} {gs : List Gm.Gate} (h : GA w B b gs) (hL : Lvls w LB) (hLB : LB ≤ w.heap.size) {A : Option Addr} {c : Nat} {xs ys : List Nat} (hp : PartsAt w B A [xs, ys]) (hx8 : xs.length = 8) (hy8 : ys.length = 8) (gx : AllHas gs xs) (gy : AllHas gs ys)
    (hn : gs.length ≤ 80000) :
    Calls Tryd.prog 33 #[.pointer (some ⟨b, 0, none⟩), .string ⟨#[109, 111, 100]⟩, .slice A 2 c] w (OfP w B b gs 1800 8 (fun inp => Wp.sRem (evs inp gs xs) (evs inp gs ys)) (fun inp => Wp.sameB (evs inp gs ys) (List.replicate 8 false))) := by
  refine (of_two (c := c) h hL hLB hp hx8 hy8 gx gy (by omega) two_rest (fun W A0 A1 c0 c1 hg hx hy => ints_rest (m := 7) hg hx hy gx gy (by show gs.length + 1795 ≤ 88000; omega) (by omega))).mono ?_
  rintro e w' ⟨A', c', gs', outs, last, h0, h1, h2, h3, h4, h5⟩
  exact ⟨A', c', gs', outs, last, h0, h1, h2, h3, h4.to (by show 1187 ≤ 1800; omega) fun _ => rfl, h5.to (by show 1187 ≤ 1800; omega) fun _ => rfl⟩
attribute [local irreducible] wpSeq wpStill
set_option maxRecDepth 100000 in
set_option maxHeartbeats 8000000 in
theorem rests_any {w : World} {LB : Nat} (hL : Lvls w LB) (hLB : LB ≤ w.heap.size) {x y : Int} (hx : (Lit.int .i64 x).wf = true) (hy : (Lit.int .i64 y).wf = true) :
    Calls Tryd.prog 9 #[.int .i64 x, .int .i64 y] w (LPost w) := by
  obtain ⟨i0, hi0, hz0, hz1, hz2⟩ := info_parts infoLit_
  have HIN := Lib.hid (show _ ∧ _ ∧ _ ∧ _ from ⟨hi0, hz0, hz1, hz2⟩)
  have HL := Lib.hid hL
  have HLB := Lib.hid hLB
  have HWF := Lib.hid (show ∀ v ∈ [x, y], (Lit.int .i64 v).wf = true from fun v hv => by
    simp only [List.mem_cons, List.not_mem_nil, or_false] at hv
    rcases hv with rfl | rfl <;> assumption)
  clear hL hLB hx hy hi0 hz0 hz1 hz2
  go_enter Tryd.func9, Tryd.ntmps9
  go_wp2_with fail
  refine (five_any _).mono ?_
  rintro e w1 ⟨rfl, hb1⟩
  have HB1 := Lib.hid hb1
  have hga := ga_new w1 (B := w1.heap.size) (Nat.le_refl _)
  obtain ⟨W2, hW2⟩ : ∃ W2, W2 = w1.alloc (.cells #[.slice none 0 0, .int .i64 0, .map none] 68) := ⟨_, rfl⟩
  rw [← hW2] at hga
  have hb12 : Below w1.heap.size w1 W2 := by rw [hW2]; exact (Below.refl _ _).alloc (Nat.le_refl _) _
  have HB2 := Lib.hid hb12
  have HLB2 := Lib.hid (Nat.le_trans HLB.out hb1.size)
  have HL2 := Lib.hid ((HL.out.below hb1 HLB.out).below hb12 HLB2.out)
  have CW := Lib.hid (wordsOf_any hga (many := 2) (by omega) (by omega))
  have HW2 := Lib.hid hW2
  clear hb1 hga hW2 hb12
  go_wp2_with fail
  rw [← HW2.out]
  refine CW.out.mono ?_
  rintro e w3 ⟨Aw, cw, rfl, h1, h2, h3⟩
  obtain ⟨ad, ow, rfl, _, _, hcell⟩ := id h3
  obtain ⟨A0, c0, q0, hh0⟩ := hcell 0 (wordL 0) rfl
  obtain ⟨A1, c1, q1, hh1⟩ := hcell 1 (wordL 1) rfl
  rw [wordL_length] at q0 q1 hh0 hh1
  have HG3 := Lib.hid h1
  have HC3 := Lib.hid h2
  have HH0 := Lib.hid hh0
  have HH1 := Lib.hid hh1
  have HS := Lib.hid (show ∀ w', Chg (GT w1.heap.size) w3 w' → w'.cell? ad = some (.slice A0 8 c0) ∧ w'.cell? ⟨ad.block, ad.off + 1, none⟩ = some (.slice A1 8 c1) from
    fun w' hc => ⟨(h3.same hc 0).trans q0, (h3.same hc 1).trans q1⟩)
  have HLV := Lib.hid (show ∀ w', Chg (GT w1.heap.size) w3 w' → Lvls w' LB ∧ LB ≤ w'.heap.size from fun w' hc => by
    have hcc := HC3.out.trans hc
    have hs := HB2.out.size
    exact ⟨HL2.out.below (GT.below hcc hs) HLB2.out, Nat.le_trans HLB2.out (Nat.le_trans hs hcc.size)⟩)
  have G0 := Lib.hid (wordL_has (i := 0) (n := 16) (by omega))
  have G1 := Lib.hid (wordL_has (i := 1) (n := 16) (by omega))
  obtain ⟨W4, hW4⟩ : ∃ W4, W4 = w3.drew := ⟨_, rfl⟩
  have HD4 := Lib.hid (show Chg (GT w1.heap.size) w3 W4 by rw [hW4]; exact (Chg.refl _ _).drew)
  have HG4 := Lib.hid (show GA W4 w1.heap.size w1.heap.size (inps 16) by rw [hW4]; exact h1.drewN 1)
  have HW4 := Lib.hid hW4
  clear h1 h2 h3 hcell q0 q1 hh0 hh1 hW4
  go_wp2_with fail
  refine wp_region_seq (S := fun w' => w'.cell? ad = some (.slice A0 8 c0) ∧ w'.cell? ⟨ad.block, ad.off + 1, none⟩ = some (.slice A1 8 c1)) [(0, false), (1, false), (2, false), (3, false), (4, false), (5, false), (6, false), (7, true), (8, true), (9, false), (10, false), (11, false), (12, false), (13, false), (14, false), (15, false)] (by kernel_rfl) (by kernel_rfl) (by kernel_rfl) (by rw [← HW4.out]; exact HS.out _ HD4.out) ?_
  rw [← HW4.out]
  iterate 7 (refine seq_take _ _ rfl (by kernel_rfl) (fun wv hv => by obtain ⟨hv1, hv2⟩ := hv; go_simp; try with_reducible rfl) ?_; simp only [Act.put, List.getElem_toArray, List.getElem_cons_zero, List.getElem_cons_succ, List.setIfInBounds_toArray, List.set_cons_zero, List.set_cons_succ])
  have hd4a := HD4.out.alloc (.cells #[.slice A0 8 c0, .slice A1 8 c1] 26)
  have CQ := Lib.hid (of_quo (c := 2) (HG4.out.alloc1 _) (HLV.out _ hd4a).1 (HLV.out _ hd4a).2 (parts_new (c0 := c0) (c1 := c1) (HH0.out.gt HD4.out) (HH1.out.gt HD4.out)) (wordL_length 0) (wordL_length 1) G0.out G1.out (by rw [inps_length]; omega))
  have HD4A := Lib.hid hd4a
  clear hd4a
  refine seq_act _ rfl (fun K hK => ?_)
  go_simp
  go_simp
  refine hK _ _ (HS.out _ HD4A.out) ?_
  clear hK K
  refine seq_act _ rfl (fun K hK => ?_)
  go_simp
  refine CQ.out.mono ?_
  rintro e w5 ⟨A5, c5, gs5, l5, t5, rfl, h1, h2, h3, h4, h5⟩
  have HD5 := Lib.hid (HD4A.out.trans h2)
  have HM5 := Lib.hid h4
  have HT5 := Lib.hid h5
  have HL5 := Lib.hid (show gs5.length ≤ 1816 by have := h4.len; rw [inps_length] at this; exact this)
  obtain ⟨W6, hW6⟩ : ∃ W6, W6 = w5.drew := ⟨_, rfl⟩
  have HD6 := Lib.hid (show Chg (GT w1.heap.size) w3 W6 by rw [hW6]; exact HD5.out.drew)
  have HG6 := Lib.hid (show GA W6 w1.heap.size w1.heap.size gs5 by rw [hW6]; exact h1.drewN 1)
  have HO6 := Lib.hid (show W6.ownsRow (W4.alloc (.cells #[.slice A0 8 c0, .slice A1 8 c1] 26)).heap.size 33 1 (.slice A5 8 c5) 8 (natVals l5) by rw [hW6]; exact h3)
  have HW6 := Lib.hid hW6
  clear h1 h2 h3 h4 h5 hW6
  go_simp
  refine hK _ _ (HS.out _ HD5.out) ?_
  clear hK K
  iterate 7 (refine seq_take _ _ rfl (by kernel_rfl) (fun wv hv => by go_simp; try with_reducible rfl) ?_; simp only [Act.put, List.getElem_toArray, List.getElem_cons_zero, List.getElem_cons_succ, List.setIfInBounds_toArray, List.set_cons_zero, List.set_cons_succ])
  refine seq_nil ?_
  go_wp2_with fail
  refine wp_region_seq (S := fun w' => w'.cell? ad = some (.slice A0 8 c0) ∧ w'.cell? ⟨ad.block, ad.off + 1, none⟩ = some (.slice A1 8 c1)) [(0, false), (1, false), (2, false), (3, false), (4, false), (5, false), (6, false), (7, true), (8, true), (9, false), (10, false), (11, false), (12, false), (13, false), (14, false), (15, false)] (by kernel_rfl) (by kernel_rfl) (by kernel_rfl) (by rw [← HW6.out]; exact HS.out _ HD6.out) ?_
  rw [← HW6.out]
  iterate 7 (refine seq_take _ _ rfl (by kernel_rfl) (fun wv hv => by obtain ⟨hv1, hv2⟩ := hv; go_simp; try with_reducible rfl) ?_; simp only [Act.put, List.getElem_toArray, List.getElem_cons_zero, List.getElem_cons_succ, List.setIfInBounds_toArray, List.set_cons_zero, List.set_cons_succ])
  have hd6a := HD6.out.alloc (.cells #[.slice A0 8 c0, .slice A1 8 c1] 26)
  have CQ := Lib.hid (of_rest (c := 2) (HG6.out.alloc1 _) (HLV.out _ hd6a).1 (HLV.out _ hd6a).2 (parts_new (c0 := c0) (c1 := c1) (HH0.out.gt HD6.out) (HH1.out.gt HD6.out)) (wordL_length 0) (wordL_length 1) (G0.out.ext HM5.out.ext) (G1.out.ext HM5.out.ext) (by have := HL5.out; omega))
  have HO6A := Lib.hid (HO6.out.alloc (.cells #[.slice A0 8 c0, .slice A1 8 c1] 26))
  have HD6A := Lib.hid hd6a
  clear hd6a
  refine seq_act _ rfl (fun K hK => ?_)
  go_simp
  go_simp
  refine hK _ _ (HS.out _ HD6A.out) ?_
  clear hK K
  refine seq_act _ rfl (fun K hK => ?_)
  go_simp
  refine CQ.out.mono ?_
  rintro e w7 ⟨A7, c7, gs7, l7, t7, rfl, h1, h2, h3, h4, h5⟩
  have HD7 := Lib.hid (HD6A.out.trans h2)
  have HM7 := Lib.hid h4
  have HT7 := Lib.hid h5
  have HL7 := Lib.hid (show gs7.length ≤ 3616 by have := h4.len; have := HL5.out; omega)
  have HG7 := Lib.hid h1
  have HO57 := Lib.hid (own_gt HO6A.out h2)
  have HO7 := Lib.hid h3
  have HX7 := Lib.hid (HM5.out.ext.trans h4.ext)
  clear h1 h2 h3 h4 h5
  go_simp
  refine hK _ _ (HS.out _ HD7.out) ?_
  clear hK K
  iterate 7 (refine seq_take _ _ rfl (by kernel_rfl) (fun wv hv => by go_simp; try with_reducible rfl) ?_; simp only [Act.put, List.getElem_toArray, List.getElem_cons_zero, List.getElem_cons_succ, List.setIfInBounds_toArray, List.set_cons_zero, List.set_cons_succ])
  refine seq_nil ?_
  obtain ⟨s0, s1⟩ := HS.out _ HD7.out
  have CT := Lib.hid (made_times (c0 := c5) (c1 := c1) HG7.out (HLV.out _ HD7.out).1 (HLV.out _ HD7.out).2 (Held.of_own (B := w1.heap.size) HO57.out) (HH1.out.gt HD7.out) (HM5.out.all.ext HM7.out.ext) (G1.out.ext HX7.out) (by have := HL7.out; omega))
  go_wp2_with fail
  refine CT.out.mono ?_
  rintro e w8 ⟨A8, c8, gs8, l8, rfl, h1, h2, h3, h4⟩
  have HD8 := Lib.hid (HD7.out.trans h2)
  have HM8 := Lib.hid h4
  have HL8 := Lib.hid (show gs8.length ≤ 5416 by have := h4.len; have := HL7.out; omega)
  have HO78 := Lib.hid (own_gt HO7.out h2)
  have CP := Lib.hid (made_plus (c0 := c8) (c1 := c7) h1 (HLV.out _ HD8.out).1 (HLV.out _ HD8.out).2 (Held.of_own (B := w1.heap.size) h3) (Held.of_own (B := w1.heap.size) HO78.out) h4.all (HM7.out.all.ext h4.ext) (by have := HL8.out; omega))
  clear h1 h2 h3 h4 s0 s1
  go_wp2_with fail
  refine CP.out.mono ?_
  rintro e w9 ⟨A9, c9, gs9, l9, rfl, h1, h2, h3, h4⟩
  have HD9 := Lib.hid (HD8.out.trans h2)
  have HM9 := Lib.hid h4
  have HG9 := Lib.hid h1
  have HO9 := Lib.hid h3
  have HX9 := Lib.hid ((HX7.out.trans HM8.out.ext).trans h4.ext)
  clear h1 h2 h3 h4
  have HR9 := Lib.hid (own_reads HO9.out)
  have HRX := Lib.hid ((HH0.out.gt HD9.out).reads)
  obtain ⟨s0, s1⟩ := HS.out _ HD9.out
  have HSN := Lib.hid (show ∀ w', Below w9.heap.size w9 w' → w'.cell? ad = some (.slice A0 8 c0) from fun w' hb => (HS.out _ (HD9.out.trans (Chg.of_new hb))).1)
  clear s1
  go_wp2_with (first | (at_builtin; refine wpList_append_sl _ rfl (.tmp 76) (.tmp 77) _ rfl w9.heap.size 33 i0 _ 1 8 Tryd.underlying26 HIN.out.1 HIN.out.2.1 HIN.out.2.2.1 HIN.out.2.2.2 rfl (by omega) _ 0 [] rfl (World.ownsRow_nil _ _ _ _) w9.heap.size A9 8 c9 (natVals l9) rfl HR9.out natVals_ones (le_maxLen (by omega)) (le_bytes (by omega) (by omega)) (Nat.le_refl _) ?_; simp only [Nat.zero_add, List.nil_append]; intro A14 c14 w14 hown hg; have HB14 := Lib.hid (below_row hg); have HO14 := Lib.hid hown; have HR14 := Lib.hid (HRX.out.below (below_row hg)); have s14 := HSN.out _ (below_row hg); clear hown hg s0) | (at_builtin; refine wpList_append_sl _ rfl (.tmp 79) (.tmp 82) _ rfl w9.heap.size 33 i0 _ 1 8 Tryd.underlying26 HIN.out.1 HIN.out.2.1 HIN.out.2.2.1 HIN.out.2.2.2 rfl (by omega) _ 8 _ rfl HO14.out w9.heap.size A0 8 c0 (natVals (wordL 0)) rfl HR14.out natVals_ones (le_maxLen (by omega)) (le_bytes (by omega) (by omega)) HB14.out.size ?_; simp only [Nat.reduceAdd]; intro A15 c15 w15 hown hg; have HB15 := Lib.hid (HB14.out.trans (own_below HO14.out (Nat.le_refl _) HB14.out.size hg)); have hs15 := HB15.out.size; have HO15 := Lib.hid hown; clear hown hg s14) | (at_builtin; refine wpList_append_sl _ rfl (.tmp 84) (.tmp 87) _ rfl w9.heap.size 33 i0 _ 1 8 Tryd.underlying26 HIN.out.1 HIN.out.2.1 HIN.out.2.2.1 HIN.out.2.2.2 rfl (by omega) _ 16 _ rfl (HO15.out.alloc _) (w15.heap.size + 1) (some ⟨w15.heap.size, 0, none⟩) 2 2 [.int .i64 (t5 : Nat), .int .i64 (t7 : Nat)] rfl (reads_new rfl (by omega) rfl) (ints_one (by simp)) (le_maxLen (by omega)) (le_bytes (by omega) (by omega)) (by simp; omega) ?_; simp only [Nat.reduceAdd]; intro A16 c16 w16 hown hg; have HB16 := Lib.hid (own_grown_below HB15.out HO15.out (Nat.le_refl _) hg); have HO16 := Lib.hid hown; clear hown hg))
  obtain ⟨W17, hW17⟩ : ∃ W17, W17 = w16.alloc (.cells #[.int .i64 x, .int .i64 y] 3) := ⟨_, rfl⟩
  have hb16 : Below w16.heap.size w16 W17 := by rw [hW17]; exact (Below.refl _ _).alloc (Nat.le_refl _) _
  have hr17 : Reads W17 W17.heap.size 1 (some ⟨w16.heap.size, 0, none⟩) [x, y].length (litVals [x, y]) := by rw [hW17]; exact reads_new rfl (by simp) rfl
  have CB := Lib.hid (show Calls Tryd.prog 32 #[.slice (some ⟨w16.heap.size, 0, none⟩) 2 2] W17 (BoP W17 16 (bitsL [x, y])) from bitsOf_any hr17 HWF.out (by simp))
  have HB17 := Lib.hid hb16
  have HW17 := Lib.hid hW17
  clear hW17 hb16 hr17
  rw [← HW17.out]
  refine CB.out.mono ?_
  rintro e w18 ⟨A18, c18, rfl, ho18, hb18⟩
  have hb68 : Below w16.heap.size w16 w18 := HB17.out.trans (hb18.mono HB17.out.size)
  have hb38 : Below w9.heap.size w9 w18 := HB16.out.trans (hb68.mono HB16.out.size)
  obtain ⟨inp, hinp⟩ : ∃ inp, inp = bitsL [x, y] := ⟨_, rfl⟩
  rw [← hinp] at ho18
  have hil : inp.length = 16 := by rw [hinp, bitsL_length]; rfl
  have hro := (Reads.of_own (show w16.ownsRow w9.heap.size 33 1 (.slice A16 18 c16) 18 (natVals (l9 ++ wordL 0 ++ [t5, t7])) by rw [← natVals_app3]; exact HO16.out)).below hb68
  have hn9 := natVals_len_own HO9.out
  have hx9 := HM7.out.ext.trans (HM8.out.ext.trans HM9.out.ext)
  have CE := Lib.hid (eval_words (c := c18) (c2 := c16) (HG9.out.new hb38) hil (by rw [HX9.out.ins, inps_ins]) (Reads.of_own ho18) (Nat.le_refl _) (hro.more hb68.size) (by simp [hn9, wordL_length]) (by omega)
    (fun v hv => by
      rcases List.mem_append.1 hv with hv | hv
      · rcases List.mem_append.1 hv with hv | hv
        · exact HM9.out.all v hv
        · exact G0.out.ext HX9.out v hv
      · simp only [List.mem_cons, List.not_mem_nil, or_false] at hv
        rcases hv with rfl | rfl
        · exact hx9.has HT5.out.has
        · exact (HM8.out.ext.trans HM9.out.ext).has HT7.out.has))
  have HB38 := Lib.hid hb38
  have HINP := Lib.hid hinp
  clear ho18 hb18 hb68 hb38 hinp hil hro hn9
  go_wp2_with fail
  refine CE.out.mono ?_
  rintro e w19 ⟨A19, c19, rfl, ho19, hb19⟩
  obtain ⟨X0, hX0⟩ : ∃ X0, X0 = evs inp (inps 16) (wordL 0) := ⟨_, rfl⟩
  obtain ⟨tb, htb⟩ : ∃ tb, (y.tmod 256 == 0) = tb := ⟨_, rfl⟩
  have hX1 : evs inp (inps 16) (wordL 1) = bitsN 8 (byteM y) := by rw [HINP.out]; exact word_evs (l := [x, y]) (i := 1) rfl
  have hl0 : X0.length = 8 := by rw [hX0, evs_length, wordL_length]
  have v0 : ∀ gs, Gm.Ext (inps 16) gs → evs inp gs (wordL 0) = X0 := fun gs he => by rw [evs_ext G0.out he, hX0]
  have v1 : ∀ gs, Gm.Ext (inps 16) gs → evs inp gs (wordL 1) = bitsN 8 (byteM y) := fun gs he => by rw [evs_ext G1.out he, hX1]
  have eT5 : Gm.ev inp gs9 t5 = tb := by
    rw [Gm.ev_ext hx9 HT5.out.has, HT5.out.eq, v1 _ (.refl _), zero_byte, htb]
  have eT7 : Gm.ev inp gs9 t7 = tb := by
    rw [Gm.ev_ext (HM8.out.ext.trans HM9.out.ext) HT7.out.has, HT7.out.eq, v1 _ HM5.out.ext, zero_byte, htb]
  have e0 : evs inp gs9 (wordL 0) = X0 := v0 _ HX9.out
  have e9 : tb = false → evs inp gs9 l9 = X0 := fun h => by
    rw [HM9.out.eq, HM8.out.eq, HM7.out.val HM8.out.ext, v1 _ HX7.out, v0 _ HM5.out.ext, v1 _ HM5.out.ext, HM5.out.val HM7.out.ext, v0 _ (.refl _), v1 _ (.refl _)]
    exact euclid_byte hl0 (by rw [htb, h])
  obtain ⟨Y, hY⟩ : ∃ Y, Y = evs inp gs9 l9 := ⟨_, rfl⟩
  have hYl : Y.length = 8 := by rw [hY, evs_length]; exact natVals_len_own HO9.out
  rw [← hY] at e9
  have hrow : evs inp gs9 (l9 ++ wordL 0 ++ [t5, t7]) = Y ++ X0 ++ [tb, tb] := by
    rw [evs_app, evs_app, ← hY, e0]
    show _ ++ [Gm.ev inp gs9 t5, Gm.ev inp gs9 t7] = _
    rw [eT5, eT7]
  rw [hrow] at ho19
  obtain ⟨gv, rfl, hgv1, hgv2⟩ := own_some ho19 (by omega)
  have q16 := bool_at ho19 (k := 16) (bb := tb) (by rw [List.getElem?_append_right (by simp [hYl, hl0])]; simp [hYl, hl0])
  have q17 := bool_at ho19 (k := 17) (bb := tb) (by rw [List.getElem?_append_right (by simp [hYl, hl0])]; simp [hYl, hl0])
  have HO19 := Lib.hid ho19
  have HLL := Lib.hid (And.intro hYl hl0)
  have HE9 := Lib.hid e9
  have HBW := Lib.hid (show Below w.heap.size w w19 from
    (HB1.out.trans ((HB2.out.trans (GT.below (HC3.out.trans HD9.out) HB2.out.size)).mono HB1.out.size)).trans ((HB38.out.trans (hb19.mono HB38.out.size)).mono (by
      have h1 := HB1.out.size; have h2 := HB2.out.size; have h3 := HC3.out.size; have h4 := HD9.out.size; omega)))
  have HQ := Lib.hid (And.intro q16 q17)
  have hlo : -256 < y.tmod 256 ∧ y.tmod 256 < 256 := by
    have h1 := tmod_byte y
    have h2 := byteM_lt y
    rcases Int.lt_or_le y 0 with h | h
    · have e : y.tmod 256 = -((-y) % 256) := by rw [← Int.tmod_eq_emod_of_nonneg (by omega), Int.neg_tmod, Int.neg_neg]
      omega
    · have e : y.tmod 256 = y % 256 := Int.tmod_eq_emod_of_nonneg h
      omega
  obtain ⟨ty, hty⟩ : ∃ ty, y.tmod 256 = ty := ⟨_, rfl⟩
  rw [hty] at htb hlo
  have hwy : IntKind.i64.wrap ty = ty := wrap_in (by omega) (by omega)
  clear ho19 hb19 hYl hl0 e9 e0 eT5 eT7 v0 v1 hX1 hX0 hrow hY q16 q17 hx9 hlo
  go_wp2_with fail
  refine wp_region_seq (S := fun w' => w'.cell? ⟨gv, 16, none⟩ = some (.bool tb) ∧ w'.cell? ⟨gv, 17, none⟩ = some (.bool tb)) [(0, false), (1, false), (2, false), (3, false), (4, false), (5, false), (6, false), (7, false), (8, false), (9, false), (10, false), (11, false), (12, false), (13, false), (14, false), (15, false), (16, false), (17, false), (18, false), (19, false)] (by kernel_rfl) (by kernel_rfl) (by kernel_rfl) HQ.out ?_
  iterate 20 (refine seq_take _ _ rfl (by kernel_rfl) (fun wv hv => by obtain ⟨hv1, hv2⟩ := hv; go_simp; try with_reducible rfl) ?_; simp only [Act.put, List.getElem_toArray, List.getElem_cons_zero, List.getElem_cons_succ, List.setIfInBounds_toArray, List.set_cons_zero, List.set_cons_succ])
  refine seq_nil ?_
  clear hty htb hwy
  obtain ⟨W20, hW20⟩ : ∃ W20, W20 = w19.drew := ⟨_, rfl⟩
  have HO20 := Lib.hid (show W20.ownsRow w18.heap.size 4 1 (.slice (some ⟨gv, 0, none⟩) 18 c19) 18 (boolVals (Y ++ X0 ++ [tb, tb])) by rw [hW20]; exact HO19.out)
  have HBW20 := Lib.hid (show Below w.heap.size w W20 by rw [hW20]; exact below_drewN HBW.out 1)
  have hgv3 : gv < W20.heap.size := by rw [hW20]; exact hgv2
  have HQ20 := Lib.hid (show W20.cell? ⟨gv, 16, none⟩ = some (.bool tb) by rw [hW20]; exact HQ.out.1)
  have HW20 := Lib.hid hW20
  clear hW20
  change Exit.then _ _ _ _ w19.drew
  rw [← HW20.out]
  cases tb with
  | true =>
    have qt := HQ20.out
    go_wp2_with fail
    go_loopw [19] (fun iv wx => RgR W20 iv wx) (fun iv _ => 8 - (intOf iv).toNat)
    case atStart => exact ⟨0, by omega, rfl, Below.refl _ _⟩
    case round =>
      obtain ⟨k, hk, rfl, hb⟩ := hrel
      have HBX := Lib.hid hb
      have q0 := (hb.cell (p := ⟨gv, 16, none⟩) hgv3).trans HQ20.out
      clear hb
      by_cases hk8 : k < 8
      · go_wp2_with fail
        go_ret
        exact ⟨rfl, HBW20.out.trans (HBX.out.mono HBW20.out.size)⟩
      · obtain rfl : k = 8 := by omega
        go_wp2
        go_ret
        exact ⟨rfl, HBW20.out.trans (HBX.out.mono HBW20.out.size)⟩
  | false =>
    go_wp2_with fail
    go_loopw [19] (fun iv wx => RgR W20 iv wx) (fun iv _ => 8 - (intOf iv).toNat)
    case atStart => exact ⟨0, by omega, rfl, Below.refl _ _⟩
    case round =>
      obtain ⟨k, hk, rfl, hb⟩ := hrel
      have HBX := Lib.hid hb
      have qt := (hb.cell (p := ⟨gv, 16, none⟩) hgv3).trans HQ20.out
      clear hb
      by_cases hk8 : k < 8
      · obtain ⟨bb, hbb⟩ : ∃ bb, Y[k]? = some bb := ⟨_, List.getElem?_eq_getElem (by have := HLL.out.1; omega)⟩
        have hbb2 : X0[k]? = some bb := by rw [← HE9.out (by trivial)]; exact hbb
        obtain ⟨j8, hj8⟩ : ∃ j, 8 + k = j := ⟨_, rfl⟩
        obtain ⟨p0, p1, _⟩ := app3_at (a := Y) (b := X0) (c := [false, false]) (x := bb) HLL.out.1 HLL.out.2 hk8
        have q0 := (HBX.out.cell (p := ⟨gv, k, none⟩) hgv3).trans (bool_at HO20.out (p0 hbb))
        have q1 := (HBX.out.cell (p := ⟨gv, j8, none⟩) hgv3).trans (bool_at HO20.out (by rw [← hj8]; exact p1 hbb2))
        have HQ := Lib.hid (And.intro q0 q1)
        have w8 : IntKind.i64.wrap (j8 : Int) = (j8 : Int) := wrap_in (by omega) (by omega)
        have s8 : (8 : Int) + (k : Int) = (j8 : Int) := by omega
        have b8 : (j8 : Int) < 18 := by omega
        have b0 : (k : Int) < 18 := by omega
        clear hj8 p0 p1 q0 q1 hbb hbb2
        go_wp2_with fail
        refine wp_region_seq (S := fun w' => w'.cell? ⟨gv, k, none⟩ = some (.bool bb) ∧ w'.cell? ⟨gv, j8, none⟩ = some (.bool bb)) [(0, false), (1, false), (2, false), (3, false), (4, false), (5, false), (6, false), (7, false), (8, false), (9, false)] (by kernel_rfl) (by kernel_rfl) (by kernel_rfl) HQ.out ?_
        iterate 10 (refine seq_take _ _ rfl (by kernel_rfl) (fun wv hv => by obtain ⟨hv1, hv2⟩ := hv; go_simp; try with_reducible rfl) ?_; simp only [Act.put, List.getElem_toArray, List.getElem_cons_zero, List.getElem_cons_succ, List.setIfInBounds_toArray, List.set_cons_zero, List.set_cons_succ])
        refine seq_nil ?_
        clear w8 s8 b8 b0
        go_wp2_with fail
        go_roundw
        case rel => exact ⟨k + 1, by omega, by go_num, below_drewN HBX.out 1⟩
        case measure => simp [intOf]; omega
      · obtain rfl : k = 8 := by omega
        go_wp2
        go_ret
        exact ⟨rfl, HBW20.out.trans (HBX.out.mono HBW20.out.size)⟩
end Go.Proofs.YtlolfcmnebjpkaaDoor
