/-
  THE WALK of the law CnfTexts.
-/
import Derived.Test.YtaedbnbeelkkcaaGreatDoorTe
namespace Go.Proofs.YtaedbnbeelkkcaaGreatDoor
open Go.RowKit
theorem okF_off {v : Int} {cs : List (List Int)} {c a : Int} (h : FaultIs v cs c a) (hc : c = 0) : okF v cs = true := (faultIs_ok h (by omega)).2.2
theorem tx_len {v : Int} {cs : List (List Int)} (hok : okF v cs = true) (hw : wtC cs ≤ 500) : (Rd.txF v cs).length ≤ 20000 := by
  obtain ⟨hv0, hv1, hn, hx⟩ := okF_in hok
  have h1 := Lib.itoa_length_le v (by omega) (by omega)
  have h2 := Lib.itoa_length_le (cs.length : Int) (by omega) (by omega)
  have key : ∀ l : List (List Int), (∀ x ∈ l, ∀ n ∈ x, n ≠ 0 ∧ Mild n) → (l.flatMap txL).length ≤ 25 * wtC l := by
    intro l hl
    induction l with
    | nil => simp [wtC]
    | cons x r ih =>
      have ih := ih fun y hy => hl y (List.mem_cons_of_mem _ hy)
      have hxx : ∀ z : List Int, (∀ n ∈ z, n ≠ 0 ∧ Mild n) → (z.flatMap txN).length ≤ 25 * z.length := by
        intro z hz
        induction z with
        | nil => simp
        | cons n t it =>
          have it := it fun y hy => hz y (List.mem_cons_of_mem _ hy)
          have hn := (hz n (by simp)).2
          unfold Mild at hn
          have h3 := Lib.itoa_length_le n (by omega) (by omega)
          have h4 : (txN n).length = (Lib.itoa n).length + 1 := by unfold txN; rw [List.length_append]; rfl
          rw [List.flatMap_cons, List.length_append, List.length_cons, h4]; omega
      have hx := hxx x (hl x (by simp))
      have h5 : (txL x).length = (x.flatMap txN).length + 2 := by unfold txL; rw [List.length_append]; rfl
      have h6 : wtC (x :: r) = (1 + x.length) + wtC r := by unfold wtC; simp
      rw [List.flatMap_cons, List.length_append, h5, h6]; omega
  have h3 := key cs hx
  have h4 : (txH v cs.length).length = 6 + (Lib.itoa v).length + 1 + (Lib.itoa (cs.length : Int)).length + 1 := by
    unfold txH; simp only [List.length_append]; rfl
  rw [txF_is, List.length_append, h4]; omega
attribute [local irreducible] wpSeq
set_option maxRecDepth 100000 in
set_option maxHeartbeats 16000000 in
theorem texts_any {w : World} {B : Nat} {ea : Nat → Addr} {EB : Nat} {v : Int} {A : Option Addr} {n c : Nat} {cs : List (List Int)} (hn : cs.length = n) (hes : Errs w ea EB) (hE : EB ≤ w.heap.size) (ht : Tens w) (ha : AtE w) (hm : MaxL w) (hwt : Fits cs) (hr : ClsR w B A cs) (hB : B ≤ w.heap.size) :
    Calls Tryz.prog 3 #[.agg #[.int .i64 v, .slice A n c]] w (LPost2 w) := by
  obtain ⟨W1, hW1⟩ : ∃ W1, W1 = w.alloc (.cells #[.int .i64 v, .slice A n c] 24) := ⟨_, rfl⟩
  have hb1 : Below w.heap.size w W1 := by rw [hW1]; exact (Below.refl _ _).alloc (Nat.le_refl _) _
  have k1 : Blk W1 w.heap.size 24 #[.int .i64 v, .slice A n c] := by rw [hW1]; exact Blk.new w _ _
  have C0 := Lib.hid (texted_any (hes.below (hb1.mono hE)) (ht.below hb1))
  have HX := Lib.hid (show ∀ w', Below w.heap.size w w' → Errs w' ea EB ∧ EB ≤ w'.heap.size ∧ Tens w' ∧ AtE w' ∧ MaxL w' ∧ ClsR w' B A cs ∧ B ≤ w'.heap.size from fun w' hb =>
    ⟨hes.below (hb.mono hE), Nat.le_trans hE hb.size, ht.below hb, ha.below hb, hm.below hb, hr.below (hb.mono hB), Nat.le_trans hB hb.size⟩)
  have HW1 := Lib.hid hW1
  have HB1 := Lib.hid hb1
  have HK1 := Lib.hid k1
  have HWT := Lib.hid hwt
  have HN := Lib.hid hn
  clear hn hes hE ht ha hm hwt hr hB hW1 hb1 k1
  go_enter Tryz.func3, Tryz.ntmps3
  go_upto_region 1 with fail
  rw [← HW1.out]
  go_wp2_with fail
  refine C0.out.mono ?_
  rintro e w2 ⟨rfl, hb2⟩
  have HB2 := Lib.hid (HB1.out.trans (hb2.mono HB1.out.size))
  have HK2 := Lib.hid (HK1.out.below hb2 HK1.out.lt)
  clear hb2
  have c0 := HK2.out.cell 0
  have c1 := HK2.out.cell 1
  obtain ⟨_, _, _, _, _, r2, z2⟩ := HX.out w2 HB2.out
  have CS := Lib.hid (slight_any (v := v) (c := c) HN.out HWT.out r2 z2)
  clear r2 z2
  go_wp2_with fail
  refine CS.out.mono ?_
  rintro e w3 ⟨rfl, hb3⟩
  obtain ⟨q, hq⟩ : ∃ q, decide (IntKind.i64.wrap ((wtC cs : Nat) : Int) ≤ 500) = q := ⟨_, rfl⟩
  rw [hq]
  have HQ := Lib.hid hq
  have HB3 := Lib.hid (HB2.out.trans (hb3.mono HB2.out.size))
  have HK3 := Lib.hid (HK2.out.below hb3 HK2.out.lt)
  clear hb3 hq c0 c1
  cases q with
  | false =>
    go_wp2_with fail
    go_ret
    exact ⟨rfl, HB3.out⟩
  | true =>
  have HW5 := Lib.hid (fits_says HWT.out HQ.out)
  have HLS := Lib.hid (show cs.length ≤ 500000 → ∀ x ∈ cs, x.length ≤ 500 from fun h5 x hx => by have := HW5.out h5; have := wtC_mem hx; omega)
  have HN5 := Lib.hid (show cs.length ≤ 500000 → n ≤ 500 from fun h5 => by have := HW5.out h5; have := wtC_len cs; have := HN.out; omega)
  have c0 := HK3.out.cell 0
  have c1 := HK3.out.cell 1
  obtain ⟨_, _, _, _, _, r3, z3⟩ := HX.out w3 HB3.out
  have CF := Lib.hid (formulaOf_any (v := v) (c := c) HN.out (by have := HWT.out.1; have := HN.out; omega) HWT.out.2 r3 z3)
  clear r3 z3
  go_wp2_with fail
  refine CF.out.mono ?_
  rintro e w4 ⟨A4, c4, rfl, hcs4, hb4⟩
  have HB4 := Lib.hid (HB3.out.trans (hb4.mono HB3.out.size))
  have HK4 := Lib.hid (HK3.out.below hb4 HK3.out.lt)
  clear hb4 c0 c1
  obtain ⟨e4, y4, t4, _, _, _, _⟩ := HX.out w4 HB4.out
  have CT := Lib.hid (textx_any (v := v) (c := c4) HN.out e4 y4 t4 (fun h5 x hx => by have := HLS.out h5 x hx; omega) (clsr_of_own hcs4) (Nat.le_refl _) (fun hok => by have := tx_len hok (HW5.out (okF_len hok)); omega))
  clear e4 y4 t4 hcs4
  go_wp2_with fail
  refine CT.out.mono ?_
  rintro e w5 ⟨cd, pl, sv, ev, rfl, hb5, hfi, hev, hsv⟩
  have HB5 := Lib.hid (HB4.out.trans (hb5.mono HB4.out.size))
  have HK5 := Lib.hid (HK4.out.below hb5 HK4.out.lt)
  have HFI := Lib.hid hfi
  have HEV := Lib.hid hev
  have HSV := Lib.hid hsv
  clear hb5 hfi hev hsv
  have c0 := HK5.out.cell 0
  have c1 := HK5.out.cell 1
  obtain ⟨_, _, _, _, _, r5, z5⟩ := HX.out w5 HB5.out
  have CO := Lib.hid (checkOf_any (v := v) (c := c) HN.out (fun h5 x hx => by have := HLS.out h5 x hx; omega) r5 z5)
  clear r5 z5
  go_wp2_with fail
  refine CO.out.mono ?_
  rintro e w6 ⟨cd2, pl2, rfl, hb6, hfi2⟩
  obtain ⟨hcd, hpl⟩ := faultIs_eq hfi2 HFI.out
  subst hcd hpl
  obtain ⟨W7, hW7⟩ : ∃ W7, W7 = (w6.alloc (.cells #[.int .i64 cd2, .int .i64 pl2] 34)).drew := ⟨_, rfl⟩
  have hb67 : Below w6.heap.size w6 W7 := by rw [hW7]; exact below_drewN ((Below.refl _ _).alloc (Nat.le_refl _) _) 1
  have kf7 : Blk W7 w6.heap.size 34 #[.int .i64 cd2, .int .i64 pl2] := by rw [hW7]; exact Blk.new w6 _ _
  have HB6 := Lib.hid (HB5.out.trans (hb6.mono HB5.out.size))
  have HB7 := Lib.hid (HB6.out.trans (hb67.mono HB6.out.size))
  have HK7 := Lib.hid ((HK5.out.below hb6 HK5.out.lt).below hb67 (HK5.out.below hb6 HK5.out.lt).lt)
  have HEV7 := Lib.hid ((HEV.out.below hb6).below hb67)
  have HKF7 := Lib.hid kf7
  have HW7 := Lib.hid hW7
  clear hb6 hfi2 hW7 hb67 kf7 c0 c1
  go_upto_region 6 with fail
  refine wp_region_seq (S := fun w' => w'.cell? ⟨w.heap.size, 0, none⟩ = some (.int .i64 v) ∧ w'.cell? ⟨w.heap.size, 1, none⟩ = some (.slice A n c) ∧ w'.cell? ⟨w6.heap.size, 0, none⟩ = some (.int .i64 cd2) ∧ w'.cell? ⟨w6.heap.size, 1, none⟩ = some (.int .i64 pl2)) [(0, false), (3, false), (1, true), (2, true), (4, true), (5, false)] (by kernel_rfl) (by kernel_rfl) (by kernel_rfl) (by rw [← HW7.out]; exact ⟨HK7.out.cell 0, HK7.out.cell 1, HKF7.out.cell 0, HKF7.out.cell 1⟩) ?_
  rw [← HW7.out]
  iterate 2 (refine seq_take _ _ rfl (by kernel_rfl) (fun wv hv => by obtain ⟨hv1, hv2, hv3, hv4⟩ := hv; go_simp; try with_reducible rfl) ?_; simp only [Act.put, List.getElem_toArray, List.getElem_cons_zero, List.getElem_cons_succ, List.setIfInBounds_toArray, List.set_cons_zero, List.set_cons_succ])
  refine seq_act _ rfl (fun K hK => ?_)
  go_simp
  obtain ⟨_, _, _, _, _, r7, z7⟩ := HX.out W7 HB7.out
  refine (formulaOf_any (v := v) (c := c) HN.out (by have := HWT.out.1; have := HN.out; omega) HWT.out.2 r7 z7).mono ?_
  rintro e w8 ⟨A8, c8, rfl, hcs8, hb8⟩
  have HB8 := Lib.hid (HB7.out.trans (hb8.mono HB7.out.size))
  have HK8 := Lib.hid (HK7.out.below hb8 HK7.out.lt)
  have HKF8 := Lib.hid (HKF7.out.below hb8 HKF7.out.lt)
  have HEV8 := Lib.hid (HEV7.out.below hb8)
  have HCS8 := Lib.hid hcs8
  clear hb8 hcs8 r7 z7
  go_simp
  refine hK _ _ (⟨HK8.out.cell 0, HK8.out.cell 1, HKF8.out.cell 0, HKF8.out.cell 1⟩) ?_
  clear hK K
  refine seq_act _ rfl (fun K hK => ?_)
  go_simp
  obtain ⟨e8, y8, _, _, _, _, _⟩ := HX.out w8 HB8.out
  refine (checkx_any (v := v) (c := c8) HN.out e8 (fun h5 x hx => by have := HLS.out h5 x hx; omega) (clsr_of_own HCS8.out) (Nat.le_refl _)).mono ?_
  rintro e w9 ⟨ev9, cd3, pl3, rfl, hb9, hfi3, hev9⟩
  obtain ⟨hcd, hpl⟩ := faultIs_eq hfi3 HFI.out
  subst hcd hpl
  have HB9 := Lib.hid (HB8.out.trans (hb9.mono HB8.out.size))
  have HK9 := Lib.hid (HK8.out.below hb9 HK8.out.lt)
  have HKF9 := Lib.hid (HKF8.out.below hb9 HKF8.out.lt)
  have HEV9 := Lib.hid (HEV8.out.below hb9)
  have HEW9 := Lib.hid hev9
  clear hb9 hfi3 hev9 e8 y8
  go_simp
  refine hK _ _ (⟨HK9.out.cell 0, HK9.out.cell 1, HKF9.out.cell 0, HKF9.out.cell 1⟩) ?_
  clear hK K
  refine seq_act _ rfl (fun K hK => ?_)
  go_simp
  obtain ⟨e9, y9, _, _, _, _, _⟩ := HX.out w9 HB9.out
  refine (faulted_ev e9 y9 HEW9.out).mono ?_
  rintro e w10 ⟨rfl, hb10⟩
  have HB10 := Lib.hid (HB9.out.trans (hb10.mono HB9.out.size))
  have HK10 := Lib.hid (HK9.out.below hb10 HK9.out.lt)
  have HKF10 := Lib.hid (HKF9.out.below hb10 HKF9.out.lt)
  have HEV10 := Lib.hid (HEV9.out.below hb10)
  clear hb10 e9 y9
  go_simp
  refine hK _ _ (⟨HK10.out.cell 0, HK10.out.cell 1, HKF10.out.cell 0, HKF10.out.cell 1⟩) ?_
  clear hK K
  iterate 1 (refine seq_take _ _ rfl (by kernel_rfl) (fun wv hv => by go_simp; try with_reducible rfl) ?_; simp only [Act.put, List.getElem_toArray, List.getElem_cons_zero, List.getElem_cons_succ, List.setIfInBounds_toArray, List.set_cons_zero, List.set_cons_succ])
  refine seq_nil ?_
  have f0 := HKF10.out.cell 0
  have f1 := HKF10.out.cell 1
  by_cases hc : 0 < cd3
  · have e0 : decide (0 < cd3) = true := decide_eq_true hc
    obtain ⟨h, _⟩ | ⟨_, hsv⟩ := HSV.out
    · omega
    subst hsv
    obtain ⟨e10, y10, _, _, _, _, _⟩ := HX.out w10 HB10.out
    have CF2 := Lib.hid (faulted_ev e10 y10 HEV10.out)
    clear hc e10 y10
    go_wp2_with fail
    refine CF2.out.mono ?_
    rintro e w11 ⟨rfl, hb11⟩
    have HB11 := Lib.hid (HB10.out.trans (hb11.mono HB10.out.size))
    clear hb11 f0 f1
    go_wp2_with fail
    go_ret
    exact ⟨rfl, HB11.out⟩
  · obtain ⟨hc0, hp0, hok⟩ := faultIs_ok HFI.out hc
    subst hc0 hp0
    obtain ⟨_, hev⟩ | ⟨h, _⟩ | ⟨h, _⟩ := HEV10.out
    case inr.inl => omega
    case inr.inr => omega
    obtain ⟨_, hsv⟩ | ⟨h, _⟩ := HSV.out
    case inr => omega
    subst hev hsv
    have HOK := Lib.hid hok
    have HLS := Lib.hid (HLS.out (okF_len hok))
    have HN5 := Lib.hid (HN5.out (okF_len hok))
    have HTL := Lib.hid (tx_len hok (HW5.out (okF_len hok)))
    obtain ⟨_, _, _, _, _, r10, z10⟩ := HX.out w10 HB10.out
    have CTX := Lib.hid (textOf_any (v := v) (c := c) HN.out (fun x hx => by have := HLS.out x hx; omega) r10 z10 hok (by have := HTL.out; omega))
    have c0 := HK10.out.cell 0
    have c1 := HK10.out.cell 1
    clear hc hok r10 z10
    go_wp2_with fail
    refine CTX.out.mono ?_
    rintro e w11 ⟨rfl, hb11⟩
    have HB11 := Lib.hid (HB10.out.trans (hb11.mono HB10.out.size))
    have HK11 := Lib.hid (HK10.out.below hb11 HK10.out.lt)
    obtain ⟨e11, y11, t11, a11, m11, _, _⟩ := HX.out w11 HB11.out
    have CR1 := Lib.hid (read_back (s := ⟨(Rd.txF v cs).toArray⟩) (v := v) (cs := cs) HN.out HOK.out (by rw [← HN.out]; exact trim_full v cs) (by rw [ba_size]; have := HTL.out; omega) t11 a11 m11 ⟨_, errs_bound e11⟩ ⟨_, errs_shape e11⟩)
    clear hb11 c0 c1 f0 f1 e11 y11 t11 a11 m11
    go_wp2_with fail
    refine CR1.out.mono ?_
    rintro e w12 ⟨A12, c12, rfl, hb12, hcl12⟩
    obtain ⟨W13, hW13⟩ : ∃ W13, W13 = w12.alloc (.cells #[.int .i64 v, .slice A12 n c12] 31) := ⟨_, rfl⟩
    have hb13 : Below w12.heap.size w12 W13 := by rw [hW13]; exact (Below.refl _ _).alloc (Nat.le_refl _) _
    have kx13 : Blk W13 w12.heap.size 31 #[.int .i64 v, .slice A12 n c12] := by rw [hW13]; exact Blk.new w12 _ _
    have HB12 := Lib.hid (HB11.out.trans (hb12.mono HB11.out.size))
    have HB13 := Lib.hid (HB12.out.trans (hb13.mono HB12.out.size))
    have HK13 := Lib.hid ((HK11.out.below hb12 HK11.out.lt).below hb13 (HK11.out.below hb12 HK11.out.lt).lt)
    have HCL13 := Lib.hid (And.intro (hcl12.below hb13) hb13.size)
    have HKX13 := Lib.hid kx13
    have HW13 := Lib.hid hW13
    clear hb12 hcl12 hW13 hb13 kx13
    go_upto_region 13 with fail
    rw [← HW13.out]
    obtain ⟨t0, ht0⟩ : ∃ t0, Rd.txF v cs = t0 := ⟨_, rfl⟩
    have htb : t0 = Lib.join (hdL v cs.length :: cs.map Rd.txC) [10] ++ [10] := by rw [← ht0]; exact txF_body v cs
    have htl : t0.length ≤ 20000 := by rw [← ht0]; exact HTL.out
    have ht1 : 1 ≤ t0.length := by rw [htb, List.length_append]; simp
    rw [ht0]
    have HTB := Lib.hid htb
    clear ht0 htb
    go_wp2_with fail
    obtain ⟨_, _, t13, a13, m13, _, _⟩ := HX.out W13 HB13.out
    obtain ⟨e13, _⟩ := HX.out W13 HB13.out
    have hcut : ((⟨t0.toArray⟩ : ByteArray).extract 0 (t0.length - 1)).data.toList = Lib.join (hdL v cs.length :: cs.map Rd.txC) [10] := by
      rw [Lib.extract_from_zero]
      show t0.take (t0.length - 1) = _
      rw [HTB.out, List.length_append]
      simp
    have hcz : ((⟨t0.toArray⟩ : ByteArray).extract 0 (t0.length - 1)).size ≤ 100000 := by
      rw [Lib.size_eq, Lib.extract_from_zero, List.length_take]
      show min _ t0.length ≤ _
      omega
    obtain ⟨u, hu⟩ : ∃ u, (⟨t0.toArray⟩ : ByteArray).extract 0 (t0.length - 1) = u := ⟨_, rfl⟩
    rw [hu] at hcut hcz ⊢
    refine (read_back (s := u) (v := v) (cs := cs) HN.out HOK.out (by rw [hcut, trim_cut, HN.out]) hcz t13 a13 m13 ⟨_, errs_bound e13⟩ ⟨_, errs_shape e13⟩).mono ?_
    rintro e w14 ⟨A14, c14, rfl, hb14, hcl14⟩
    obtain ⟨W15, hW15⟩ : ∃ W15, W15 = w14.alloc (.cells #[.int .i64 v, .slice A14 n c14] 31) := ⟨_, rfl⟩
    have hb15 : Below w14.heap.size w14 W15 := by rw [hW15]; exact (Below.refl _ _).alloc (Nat.le_refl _) _
    have hb35 : Below W13.heap.size W13 W15 := hb14.trans (hb15.mono hb14.size)
    have ky15 : Blk W15 w14.heap.size 31 #[.int .i64 v, .slice A14 n c14] := by rw [hW15]; exact Blk.new w14 _ _
    have kx15 := HKX13.out.below hb35 HKX13.out.lt
    have k15 := HK13.out.below hb35 HK13.out.lt
    have hbw15 : Below w.heap.size w W15 := HB13.out.trans (hb35.mono HB13.out.size)
    obtain ⟨_, _, _, _, _, r15, z15⟩ := HX.out W15 hbw15
    have CS1 := Lib.hid (sameClauses_n (c1 := c12) (c2 := c) HN.out (HCL13.out.1.below (hb35.mono HCL13.out.2)) r15 (by have := HN5.out; omega) (fun x hx => by have := HLS.out x hx; omega))
    have CS2 := Lib.hid (show ∀ w', Below W15.heap.size W15 w' → Calls Tryz.prog 13 #[.slice A14 n c14, .slice A n c] w' (fun e w'' => e = .returned (.bool true) ∧ Below w'.heap.size w' w'') from fun w' hb =>
      sameClauses_n (c1 := c14) (c2 := c) HN.out ((hcl14.below hb15).below (hb.mono hb15.size)) (r15.below (hb.mono z15)) (by have := HN5.out; omega) (fun x hx => by have := HLS.out x hx; omega))
    have HB15 := Lib.hid hbw15
    have x0 := kx15.cell 0
    have x1 := kx15.cell 1
    have y0 := ky15.cell 0
    have y1 := ky15.cell 1
    have q0 := k15.cell 0
    have q1 := k15.cell 1
    have HKK := Lib.hid (And.intro kx15 (And.intro ky15 k15))
    have HW15 := Lib.hid hW15
    clear hcut hcz hu t13 a13 m13 e13 hb14 hcl14 hW15 hb15 hb35 ky15 kx15 k15 hbw15 r15 z15
    go_upto_region 14 with fail
    rw [← HW15.out]
    go_wp2_with fail
    refine CS1.out.mono ?_
    rintro e w16 ⟨rfl, hb16⟩
    have HB16 := Lib.hid (HB15.out.trans (hb16.mono HB15.out.size))
    have C2 := Lib.hid (CS2.out w16 hb16)
    have p1 := (HKK.out.2.1.below hb16 HKK.out.2.1.lt).cell 1
    have s1 := (HKK.out.2.2.below hb16 HKK.out.2.2.lt).cell 1
    clear hb16 x0 x1 y0 y1 q0 q1
    go_wp2_with fail
    refine C2.out.mono ?_
    rintro e w17 ⟨rfl, hb17⟩
    have HB17 := Lib.hid (HB16.out.trans (hb17.mono HB16.out.size))
    clear hb17 p1 s1
    go_wp2_with fail
    go_ret
    exact ⟨rfl, HB17.out⟩
end Go.Proofs.YtaedbnbeelkkcaaGreatDoor
