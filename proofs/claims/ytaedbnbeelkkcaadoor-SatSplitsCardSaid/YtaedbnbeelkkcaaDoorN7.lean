/-
  THE WALK of the law SatSplits.
-/
import Derived.Test.YtaedbnbeelkkcaaDoorN6
import Derived.Test.YtaedbnbeelkkcaaDoorTa
namespace Go.Proofs.YtaedbnbeelkkcaaDoor.slv
open Go.RowKit
def CtU (w : World) (V : Nat) (F : List (List Int)) (e : Ending) (w' : World) : Prop :=
  ∃ (p : Int) (ev : Value), e = .returned (.tuple #[.int .i64 p, ev]) ∧ Below w.heap.size w w' ∧ ((RightF (V : Int) F ∧ p = (cntM V F : Nat) ∧ ev = .nilIface) ∨ (¬ RightF (V : Int) F ∧ p = 0 ∧ ∃ t a, ev = .iface t (.pointer (some a))))
theorem rightF_len {v : Int} {F : List (List Int)} (h : RightF v F) : F.length ≤ 500000 := by
  have := h.1
  unfold Off at this
  omega
theorem count_u {w : World} {ea : Nat → Addr} {n c base V : Nat} {A : Option Addr} {F : List (List Int)} (hes : Sen w ea) (hV : V ≤ 9) (hF : F.length = n) (hcs : CsAt w base (.slice A n c) F) (hls : F.length ≤ 500000 → ∀ d ∈ F, d.length ≤ 1000000) :
    Calls Tryd.prog 8 #[.agg #[.int .i64 (V : Nat), .slice A n c], .int .i64 1000] w (CtU w V F) := by
  by_cases hr : RightF (V : Int) F
  · have h := count_good (most := 1000) (m := cntM V F) (c := c) hes hV hF (CsO.of_at hcs) (fun d hd => ⟨hls (rightF_len hr) d hd, okC_lit.1 (List.all_eq_true.1 hr.2 d hd)⟩) (by have := rightF_len hr; omega) (by omega) rfl
    refine h.mono ?_
    rintro e w2 ⟨rfl, hb⟩
    have h2 := cnt_le_two hV F
    exact ⟨_, _, rfl, hb, .inl ⟨hr, by rw [if_pos (by omega)], by rw [if_pos (by omega)]⟩⟩
  · have h := count_bad (most := 1000) (c := c) (v := (V : Int)) hes hF (clsr_of_own hcs) (Nat.le_refl _) hls hr
    refine h.mono ?_
    rintro e w2 ⟨t, a, cd, pl, rfl, hb, _⟩
    exact ⟨_, _, rfl, hb, .inr ⟨hr, rfl, t, a, rfl⟩⟩
/-- one clause more is right where its numbers are -/
theorem RightF.more {V : Nat} {F : List (List Int)} {z : Int} (h : RightF (V : Int) F) (hn : F.length ≤ 1000) (hz : 1 ≤ z.natAbs) (hz2 : z.natAbs ≤ V) : RightF (V : Int) (F ++ [[z]]) := by
  obtain ⟨h1, h2⟩ := h
  refine ⟨?_, ?_⟩
  · unfold Off at h1 ⊢
    rw [List.length_append, List.length_singleton]
    omega
  · rw [List.all_append, h2, Bool.true_and, List.all_cons, List.all_nil, Bool.and_true]
    refine okC_lit.2 fun m hm => ?_
    obtain rfl : m = z := by simpa using hm
    exact ⟨by omega, by omega⟩
theorem csat_lit {w w' : World} {base n c : Nat} {A : Option Addr} {cs : List (List Int)} {z : Int} {o : Obj} {A' : Option Addr} {c' : Nat} {rows : List Value} (hB : base ≤ w.heap.size) (hrow : w.ownsRow base 26 1 (.slice A n c) n rows) (hn : cs.length = n)
    (hcl : ∀ (i : Nat) (l : List Int), cs[i]? = some l → ∃ u, rows[i]? = some u ∧ w.ownsRow base 3 1 u l.length (litVals l))
    (hg : ((w.alloc (.cells #[.int .i64 z] 3)).alloc o).grownBy w' (Value.slice A n c).ownBlock)
    (hown : w'.ownsRow base 26 1 (.slice A' (n + 1) c') (n + 1) (rows ++ [.slice (some ⟨w.heap.size, 0, none⟩) 1 1])) : CsAt w' base (.slice A' (n + 1) c') (cs ++ [[z]]) := by
  subst hn
  refine CsAt.more (new := [[z]]) (news := [.slice (some ⟨w.heap.size, 0, none⟩) 1 1]) (hrow.alloc _) (fun i l hl => by obtain ⟨u, h1, h2⟩ := hcl i l hl; exact ⟨u, h1, h2.alloc _⟩) (fun i l hl => by
    match i, hl with
    | 0, hl =>
      obtain rfl : [z] = l := by simpa using hl
      exact ⟨_, rfl, own_full0 (xs := [.int .i64 z]) hB rfl (by omega)⟩) hg hown
attribute [local irreducible] wpSeq
set_option maxRecDepth 100000 in
set_option maxHeartbeats 16000000 in
theorem splits_any {w : World} {B Bc : Nat} {ea : Nat → Addr} {v0 v : Int} {A Ax : Option Addr} {n c m cx : Nat} {cs : List (List Int)} {x : List Int} (hn : cs.length = n) (hm : x.length = m) (hes : Sen w ea) (hwt : Fits cs) (hr : ClsR w B A cs) (hB : B ≤ w.heap.size) (hx : Reads w Bc 1 Ax m (litVals x)) (hBc : Bc ≤ w.heap.size) :
    Calls Tryd.prog 3 #[.agg #[.int .i64 v0, .slice A n c], .int .i64 v, .slice Ax m cx] w (RtT w) := by
  obtain ⟨W1, hW1⟩ : ∃ W1, W1 = w.alloc (.cells #[.int .i64 v0, .slice A n c] 24) := ⟨_, rfl⟩
  have hb1 : Below w.heap.size w W1 := by rw [hW1]; exact (Below.refl _ _).alloc (Nat.le_refl _) _
  have k1 : Blk W1 w.heap.size 24 #[.int .i64 v0, .slice A n c] := by rw [hW1]; exact Blk.new w _ _
  have C0 := Lib.hid (holds_true (hes.below hb1))
  have HX := Lib.hid (show ∀ w', Below w.heap.size w w' → Sen w' ea ∧ ClsR w' B A cs ∧ B ≤ w'.heap.size ∧ Reads w' Bc 1 Ax m (litVals x) ∧ Bc ≤ w'.heap.size from fun w' hb =>
    ⟨hes.below hb, hr.below (hb.mono hB), Nat.le_trans hB hb.size, hx.below (hb.mono hBc), Nat.le_trans hBc hb.size⟩)
  obtain ⟨i0, hi0, hz0, hz1, hz2⟩ := info_parts infoIntR_
  have HIN := Lib.hid (show _ ∧ _ ∧ _ ∧ _ from ⟨hi0, hz0, hz1, hz2⟩)
  clear hi0 hz0 hz1 hz2
  obtain ⟨ic, hi0', hz0', hz1', hz2'⟩ := info_parts infoClause_
  have HIC := Lib.hid (show _ ∧ _ ∧ _ ∧ _ from ⟨hi0', hz0', hz1', hz2'⟩)
  clear hi0' hz0' hz1' hz2'
  have HW1 := Lib.hid hW1
  have HB1 := Lib.hid hb1
  have HK1 := Lib.hid k1
  have HWT := Lib.hid hwt
  have HN := Lib.hid hn
  have HM := Lib.hid hm
  clear hn hm hes hwt hr hB hx hBc hW1 hb1 k1
  go_enter Tryd.func3, Tryd.ntmps3
  go_upto_region 1 with fail
  rw [← HW1.out]
  go_wp2_with fail
  refine C0.out.mono ?_
  rintro e w2 ⟨rfl, hb2⟩
  have HB2 := Lib.hid (HB1.out.trans (hb2.mono HB1.out.size))
  have HK2 := Lib.hid (HK1.out.below hb2 HK1.out.lt)
  clear hb2
  have c0 := HK2.out.cell 0
  have c1 := HK2.out.cell 1
  obtain ⟨_, r2, z2, _, _⟩ := HX.out w2 HB2.out
  have CS := Lib.hid (slight_any (v := v0) (c := c) HN.out HWT.out r2 z2)
  clear r2 z2
  go_wp2_with fail
  refine CS.out.mono ?_
  rintro e w3 ⟨rfl, hb3⟩
  obtain ⟨q, hq⟩ : ∃ q, decide (IntKind.i64.wrap ((wtC cs : Nat) : Int) ≤ 500) = q := ⟨_, rfl⟩
  rw [hq]
  have HQ := Lib.hid hq
  have HB3 := Lib.hid (HB2.out.trans (hb3.mono HB2.out.size))
  have HK3 := Lib.hid (HK2.out.below hb3 HK2.out.lt)
  clear hb3 hq c0 c1
  cases q with
  | false =>
    go_wp2_with fail
    go_ret
    exact ⟨rfl, HB3.out⟩
  | true =>
  have HW5 := Lib.hid (fits_says HWT.out HQ.out)
  have HLS := Lib.hid (show cs.length ≤ 500000 → ∀ x ∈ cs, x.length ≤ 500 from fun h5 x hx => by have := HW5.out h5; have := wtC_mem hx; omega)
  have HN5 := Lib.hid (show cs.length ≤ 500000 → n ≤ 500 from fun h5 => by have := HW5.out h5; have := wtC_len cs; have := HN.out; omega)
  have c0 := HK3.out.cell 0
  have c1 := HK3.out.cell 1
  by_cases h1 : v0 < 1
  · have e1 : decide (v0 < 1) = true := decide_eq_true h1
    go_wp2_with fail
    go_ret
    exact ⟨rfl, HB3.out⟩
  have e1 : decide (v0 < 1) = false := decide_eq_false h1
  by_cases h2 : 9 < v0
  · have e2 : decide (9 < v0) = true := decide_eq_true h2
    go_wp2_with fail
    go_ret
    exact ⟨rfl, HB3.out⟩
  have e2 : decide (9 < v0) = false := decide_eq_false h2
  by_cases h3 : v < 1
  · have e3 : decide (v < 1) = true := decide_eq_true h3
    go_wp2_with fail
    go_ret
    exact ⟨rfl, HB3.out⟩
  have e3 : decide (v < 1) = false := decide_eq_false h3
  by_cases h4 : v0 < v
  · have e4 : decide (v0 < v) = true := decide_eq_true h4
    go_wp2_with fail
    go_ret
    exact ⟨rfl, HB3.out⟩
  have e4 : decide (v0 < v) = false := decide_eq_false h4
  by_cases h5 : 30 < m
  · have e5 : decide ((30 : Int) < (m : Int)) = true := decide_eq_true (by omega)
    have e6 : decide (30 < m) = true := decide_eq_true h5
    go_wp2_with fail
    go_ret
    exact ⟨rfl, HB3.out⟩
  have e5 : decide ((30 : Int) < (m : Int)) = false := decide_eq_false (by omega)
  have e6 : decide (30 < m) = false := decide_eq_false h5
  obtain ⟨V, hV⟩ : ∃ V : Nat, v0 = (V : Int) := ⟨v0.toNat, by omega⟩
  obtain ⟨u, hu⟩ : ∃ u : Nat, v = (u : Int) := ⟨v.toNat, by omega⟩
  subst hV
  subst hu
  have HVV := Lib.hid (show V ≤ 9 ∧ 1 ≤ u ∧ u ≤ V ∧ m ≤ 30 by omega)
  have n1 : decide (V < 1) = false := decide_eq_false (by omega)
  have n2 : decide (9 < V) = false := decide_eq_false (by omega)
  have n3 : decide (u < 1) = false := decide_eq_false (by omega)
  have n4 : decide (V < u) = false := decide_eq_false (by omega)
  clear h1 h2 h3 h4 h5
  have CF := Lib.hid (show ∀ w', Below w.heap.size w w' → Calls Tryd.prog 7 #[.agg #[.int .i64 (V : Nat), .slice A n c]] w' (FmP w' (V : Nat) cs n) from fun w' hb =>
    formulaOf_any (v := ((V : Nat) : Int)) (c := c) HN.out (by have := HWT.out.1; have := HN.out; omega) HWT.out.2 (HX.out w' hb).2.1 (HX.out w' hb).2.2.1)
  have CF3 := Lib.hid (CF.out w3 HB3.out)
  go_wp2_with fail
  refine CF3.out.mono ?_
  rintro e w4 ⟨A4, c4, rfl, hcs4, hb4⟩
  have HB4 := Lib.hid (HB3.out.trans (hb4.mono HB3.out.size))
  have HK4 := Lib.hid (HK3.out.below hb4 HK3.out.lt)
  have HCS4 := Lib.hid hcs4
  clear c0 c1 hb4 hcs4 CF3 e1 e2 e3 e4 e5 e6 n1 n2 n3 n4
  obtain ⟨W5, hW5⟩ : ∃ W5, W5 = w4.alloc (.cells #[.int .i64 (V : Nat), .slice A4 n c4] 29) := ⟨_, rfl⟩
  have hb5 : Below w4.heap.size w4 W5 := by rw [hW5]; exact (Below.refl _ _).alloc (Nat.le_refl _) _
  have k5 : Blk W5 w4.heap.size 29 #[.int .i64 (V : Nat), .slice A4 n c4] := by rw [hW5]; exact Blk.new w4 _ _
  have HB5 := Lib.hid (HB4.out.trans (hb5.mono HB4.out.size))
  have HK5 := Lib.hid (HK4.out.below hb5 HK4.out.lt)
  have HCS5 := Lib.hid (HCS4.out.chg hb5)
  have CA := Lib.hid (count_u (c := c4) (HX.out W5 HB5.out).1 HVV.out.1 HN.out HCS5.out (fun h5 d hd => by have := HLS.out h5 d hd; omega))
  have c0 := k5.cell 0
  have c1 := k5.cell 1
  have HW5 := Lib.hid hW5
  clear hb5 k5 hW5
  go_upto_region 5 with fail
  rw [← HW5.out]
  go_wp2_with fail
  clear c0 c1
  refine CA.out.mono ?_
  rintro e w6 ⟨p, ev, rfl, hb6, hev⟩
  have HB6 := Lib.hid (HB5.out.trans (hb6.mono HB5.out.size))
  have HK6 := Lib.hid (HK5.out.below hb6 HK5.out.lt)
  clear hb6
  rcases hev with ⟨hR, rfl, rfl⟩ | ⟨_, rfl, t, a, rfl⟩
  rotate_left
  · go_wp2_with fail
    go_ret
    exact ⟨rfl, HB6.out⟩
  have HR := Lib.hid hR
  have HLS := Lib.hid (HLS.out (rightF_len hR))
  have HN5 := Lib.hid (HN5.out (rightF_len hR))
  obtain ⟨N, hN⟩ : ∃ N, cntM V cs = N := ⟨_, rfl⟩
  rw [hN]
  have HNN := Lib.hid hN
  clear hR hN CA
  have c0 := HK6.out.cell 0
  have c1 := HK6.out.cell 1
  have CF6 := Lib.hid (CF.out w6 HB6.out)
  go_wp2_with fail
  refine CF6.out.mono ?_
  rintro e w7 ⟨A7, c7, rfl, hcs7, hb7⟩
  have HB7 := Lib.hid (HB6.out.trans (hb7.mono HB6.out.size))
  have HK7 := Lib.hid (HK6.out.below hb7 HK6.out.lt)
  have HCS7 := Lib.hid hcs7
  have hs7 := hb7.size
  clear c0 c1 hb7 hcs7 CF6
  obtain ⟨W8, hW8⟩ : ∃ W8, W8 = w7.alloc (.cells #[.int .i64 (V : Nat), .slice A7 n c7] 29) := ⟨_, rfl⟩
  have hb8 : Below w7.heap.size w7 W8 := by rw [hW8]; exact (Below.refl _ _).alloc (Nat.le_refl _) _
  have k8 : Blk W8 w7.heap.size 29 #[.int .i64 (V : Nat), .slice A7 n c7] := by rw [hW8]; exact Blk.new w7 _ _
  have HB8 := Lib.hid (HB7.out.trans (hb8.mono HB7.out.size))
  have HK8 := Lib.hid (HK7.out.below hb8 HK7.out.lt)
  have HCS8 := Lib.hid (HCS7.out.chg hb8)
  have hs8 : w6.heap.size ≤ W8.heap.size := Nat.le_trans hs7 hb8.size
  have c0 := k8.cell 0
  have c1 := k8.cell 1
  have HX8 := Lib.hid k8
  have HW8 := Lib.hid hW8
  clear hb8 k8 hW8
  obtain ⟨rows, hrow, hcl⟩ := HCS8.out
  rw [HN.out] at hrow
  have HROW := Lib.hid hrow
  have HCL := Lib.hid hcl
  clear hrow hcl
  have HRD := Lib.hid (show ∀ z : Int, Reads ((W8.alloc (.cells #[.int .i64 z] 3)).alloc (.cells #[.slice (some ⟨W8.heap.size, 0, none⟩) 1 1] 26)) (W8.heap.size + 2) 1 (some ⟨W8.heap.size + 1, 0, none⟩) 1 [.slice (some ⟨W8.heap.size, 0, none⟩) 1 1] from fun z =>
    reads_new (w := W8.alloc (.cells #[.int .i64 z] 3)) (xs := [.slice (some ⟨W8.heap.size, 0, none⟩) 1 1]) (g := W8.heap.size + 1) (by simp) (by omega) rfl)
  go_upto_region 9 with fail
  rw [← HW8.out]
  go_upto_region 10 with
    (at_builtin; refine wpList_append_sl _ rfl (.tmp 66) (.tmp 69) _ rfl w6.heap.size 26 ic _ 1 24 Tryd.underlying22 HIC.out.1 HIC.out.2.1 HIC.out.2.2.1 HIC.out.2.2.2 rfl (by omega) _ n _ rfl ((HROW.out.alloc _).alloc _) (W8.heap.size + 2) (some ⟨W8.heap.size + 1, 0, none⟩) 1 1 [.slice (some ⟨W8.heap.size, 0, none⟩) 1 1] rfl (HRD.out _) (fun u hu => by rw [List.mem_singleton.1 hu]; rfl) (le_maxLen (by have := HN5.out; omega)) (le_bytes (by have := HN5.out; omega) (by omega)) (by simp; omega) ?_; intro A9 c9 w9 hown9 hg9; have k9 := blk_grown ((HX8.out.alloc _).alloc _) ((HROW.out.alloc _).alloc _) (by decide) hg9; have d1 := k9.cell 1; have f1 := k9.frozen 1)
  have HX9 := Lib.hid k9
  have HK9 := Lib.hid (blk_grown ((HK8.out.alloc _).alloc _) ((HROW.out.alloc _).alloc _) (by decide) hg9)
  have HB9 := Lib.hid (own_grown_below0 (bal0 HB8.out _) (HROW.out.alloc _) HB6.out.size hg9)
  have HCS9 := Lib.hid (csat_lit hs8 HROW.out HN.out HCL.out hg9 hown9)
  clear k9 d1 f1 hown9 hg9 c0 c1 HROW HCL HRD
  obtain ⟨W10, hW10⟩ : ∃ W10, W10 = w9.setCell ⟨w7.heap.size, 1, none⟩ (.slice A9 (n + 1) c9) := ⟨_, rfl⟩
  have HB10 := Lib.hid (show Below w.heap.size w W10 by rw [hW10]; exact HB9.out.setCell (by show w.heap.size ≤ w7.heap.size; exact HB7.out.size) _)
  have HX10 := Lib.hid (show Blk W10 w7.heap.size 29 #[.int .i64 (V : Nat), .slice A9 (n + 1) c9] by rw [hW10]; exact HX9.out.set_ 1 _)
  have HK10 := Lib.hid (show Blk W10 w.heap.size 24 #[.int .i64 (V : Nat), .slice A n c] by rw [hW10]; exact HK9.out.far (p := ⟨w7.heap.size, 1, none⟩) (by show w.heap.size ≠ w7.heap.size; have := HK7.out.lt; omega) _)
  have HCS10 := Lib.hid (show CsAt W10 w6.heap.size (.slice A9 (n + 1) c9) (cs ++ [[(u : Int)]]) by rw [hW10]; exact HCS9.out.far HX9.out (by decide) (by decide) 1 _)
  rw [← hW10]
  clear hW10
  have c0 := HK10.out.cell 0
  have c1 := HK10.out.cell 1
  have CF10 := Lib.hid (CF.out W10 HB10.out)
  go_wp2_with fail
  refine CF10.out.mono ?_
  rintro e w11 ⟨A11, c11, rfl, hcs11, hb11⟩
  have HB11 := Lib.hid (HB10.out.trans (hb11.mono HB10.out.size))
  have HK11 := Lib.hid (HK10.out.below hb11 HK10.out.lt)
  have HX11 := Lib.hid (HX10.out.below hb11 HX10.out.lt)
  have HCSX11 := Lib.hid (HCS10.out.chg hb11)
  have HCS11 := Lib.hid hcs11
  have hs11 := hb11.size
  have HBX11 := Lib.hid hb11
  clear c0 c1 hb11 hcs11 CF10
  obtain ⟨W12, hW12⟩ : ∃ W12, W12 = w11.alloc (.cells #[.int .i64 (V : Nat), .slice A11 n c11] 29) := ⟨_, rfl⟩
  have hb12 : Below w11.heap.size w11 W12 := by rw [hW12]; exact (Below.refl _ _).alloc (Nat.le_refl _) _
  have k12 : Blk W12 w11.heap.size 29 #[.int .i64 (V : Nat), .slice A11 n c11] := by rw [hW12]; exact Blk.new w11 _ _
  have HB12 := Lib.hid (HB11.out.trans (hb12.mono HB11.out.size))
  have HK12 := Lib.hid (HK11.out.below hb12 HK11.out.lt)
  have HX12 := Lib.hid (HX11.out.below hb12 HX11.out.lt)
  have HCSX12 := Lib.hid (HCSX11.out.chg hb12)
  have HBX12 := Lib.hid (HBX11.out.trans (hb12.mono hs11))
  have HCS12 := Lib.hid (HCS11.out.chg hb12)
  have hs12 : W10.heap.size ≤ W12.heap.size := Nat.le_trans hs11 hb12.size
  have c0 := k12.cell 0
  have c1 := k12.cell 1
  have HY12 := Lib.hid k12
  have HW12 := Lib.hid hW12
  clear hb12 k12 hW12
  obtain ⟨rows, hrow, hcl⟩ := HCS12.out
  rw [HN.out] at hrow
  have HROW := Lib.hid hrow
  have HCL := Lib.hid hcl
  clear hrow hcl
  have HRD := Lib.hid (show ∀ z : Int, Reads ((W12.alloc (.cells #[.int .i64 z] 3)).alloc (.cells #[.slice (some ⟨W12.heap.size, 0, none⟩) 1 1] 26)) (W12.heap.size + 2) 1 (some ⟨W12.heap.size + 1, 0, none⟩) 1 [.slice (some ⟨W12.heap.size, 0, none⟩) 1 1] from fun z =>
    reads_new (w := W12.alloc (.cells #[.int .i64 z] 3)) (xs := [.slice (some ⟨W12.heap.size, 0, none⟩) 1 1]) (g := W12.heap.size + 1) (by simp) (by omega) rfl)
  have wneg : IntKind.i64.wrap (-(u : Int)) = -(u : Int) := by have := HVV.out; rw [IntKind.wrap_i64]; omega
  go_upto_region 11 with fail
  rw [← HW12.out]
  go_upto_region 12 with
    (at_builtin; refine wpList_append_sl _ rfl (.tmp 75) (.tmp 79) _ rfl W10.heap.size 26 ic _ 1 24 Tryd.underlying22 HIC.out.1 HIC.out.2.1 HIC.out.2.2.1 HIC.out.2.2.2 rfl (by omega) _ n _ rfl ((HROW.out.alloc _).alloc _) (W12.heap.size + 2) (some ⟨W12.heap.size + 1, 0, none⟩) 1 1 [.slice (some ⟨W12.heap.size, 0, none⟩) 1 1] rfl (HRD.out _) (fun u hu => by rw [List.mem_singleton.1 hu]; rfl) (le_maxLen (by have := HN5.out; omega)) (le_bytes (by have := HN5.out; omega) (by omega)) (by simp; omega) ?_; intro A13 c13 w13 hown13 hg13; have k13 := blk_grown ((HY12.out.alloc _).alloc _) ((HROW.out.alloc _).alloc _) (by decide) hg13; have d1 := k13.cell 1; have f1 := k13.frozen 1)
  have HY13 := Lib.hid k13
  have HX13 := Lib.hid (blk_grown ((HX12.out.alloc _).alloc _) ((HROW.out.alloc _).alloc _) (by decide) hg13)
  have HK13 := Lib.hid (blk_grown ((HK12.out.alloc _).alloc _) ((HROW.out.alloc _).alloc _) (by decide) hg13)
  have hb13 : Below W10.heap.size W10 w13 := own_grown_below0 (bal0 HBX12.out _) (HROW.out.alloc _) (Nat.le_refl _) hg13
  have HB13 := Lib.hid (own_grown_below0 (bal0 HB12.out _) (HROW.out.alloc _) HB10.out.size hg13)
  have HCSX13 := Lib.hid (HCS10.out.chg hb13)
  have HCS13 := Lib.hid (csat_lit hs12 HROW.out HN.out HCL.out hg13 hown13)
  clear k13 d1 f1 hown13 hg13 c0 c1 HROW HCL HRD wneg hb13
  obtain ⟨W14, hW14⟩ : ∃ W14, W14 = w13.setCell ⟨w11.heap.size, 1, none⟩ (.slice A13 (n + 1) c13) := ⟨_, rfl⟩
  have hlx : w7.heap.size < w11.heap.size := HX11.out.lt
  have HB14 := Lib.hid (show Below w.heap.size w W14 by rw [hW14]; exact HB13.out.setCell (by show w.heap.size ≤ w11.heap.size; exact HB11.out.size) _)
  have HY14 := Lib.hid (show Blk W14 w11.heap.size 29 #[.int .i64 (V : Nat), .slice A13 (n + 1) c13] by rw [hW14]; exact HY13.out.set_ 1 _)
  have HX14 := Lib.hid (show Blk W14 w7.heap.size 29 #[.int .i64 (V : Nat), .slice A9 (n + 1) c9] by rw [hW14]; exact HX13.out.far (p := ⟨w11.heap.size, 1, none⟩) (by show w7.heap.size ≠ w11.heap.size; omega) _)
  have HK14 := Lib.hid (show Blk W14 w.heap.size 24 #[.int .i64 (V : Nat), .slice A n c] by rw [hW14]; exact HK13.out.far (p := ⟨w11.heap.size, 1, none⟩) (by show w.heap.size ≠ w11.heap.size; have := HK11.out.lt; omega) _)
  have HCS14 := Lib.hid (show CsAt W14 W10.heap.size (.slice A13 (n + 1) c13) (cs ++ [[-(u : Int)]]) by rw [hW14]; exact HCS13.out.far HY13.out (by decide) (by decide) 1 _)
  have HCSX14 := Lib.hid (show CsAt W14 w6.heap.size (.slice A9 (n + 1) c9) (cs ++ [[(u : Int)]]) by rw [hW14]; exact HCSX13.out.far HY13.out (by decide) (by decide) 1 _)
  have hl1 : ∀ z : Int, (cs ++ [[z]]).length = n + 1 := fun z => by rw [List.length_append, HN.out]; rfl
  have HL1 := Lib.hid hl1
  have HLL := Lib.hid (show ∀ z : Int, ∀ d ∈ cs ++ [[z]], d.length ≤ 1000000 from fun z d hd => by
    rcases List.mem_append.1 hd with h | h
    · have := HLS.out d h; omega
    · obtain rfl : d = [z] := by simpa using h
      simp)
  have CX := Lib.hid (count_u (c := c9) (HX.out W14 HB14.out).1 HVV.out.1 (HL1.out _) HCSX14.out (fun _ => HLL.out _))
  have c0 := HX14.out.cell 0
  have c1 := HX14.out.cell 1
  clear hl1 hlx
  rw [← hW14]
  clear hW14
  go_wp2_with fail
  refine CX.out.mono ?_
  rintro e w15 ⟨p, ev, rfl, hb15, hev⟩
  obtain ⟨rfl, rfl⟩ : p = ((cntM V (cs ++ [[(u : Int)]]) : Nat) : Int) ∧ ev = .nilIface := by
    rcases hev with ⟨_, h1, h2⟩ | ⟨h, _⟩
    · exact ⟨h1, h2⟩
    · exact absurd (HR.out.more (by have := HN.out; have := HN5.out; omega) (by have := HVV.out; omega) (by have := HVV.out; omega)) h
  obtain ⟨P, hP⟩ : ∃ P, cntM V (cs ++ [[(u : Int)]]) = P := ⟨_, rfl⟩
  rw [hP]
  have HP := Lib.hid hP
  have HB15 := Lib.hid (HB14.out.trans (hb15.mono HB14.out.size))
  have HK15 := Lib.hid (HK14.out.below hb15 HK14.out.lt)
  have HY15 := Lib.hid (HY14.out.below hb15 HY14.out.lt)
  have HCS15 := Lib.hid (HCS14.out.chg hb15)
  clear hb15 hev hP CX c0 c1
  have CY := Lib.hid (count_u (c := c13) (HX.out w15 HB15.out).1 HVV.out.1 (HL1.out _) HCS15.out (fun _ => HLL.out _))
  have c0 := HY15.out.cell 0
  have c1 := HY15.out.cell 1
  go_wp2_with fail
  refine CY.out.mono ?_
  rintro e w16 ⟨p, ev, rfl, hb16, hev⟩
  obtain ⟨rfl, rfl⟩ : p = ((cntM V (cs ++ [[-(u : Int)]]) : Nat) : Int) ∧ ev = .nilIface := by
    rcases hev with ⟨_, h1, h2⟩ | ⟨h, _⟩
    · exact ⟨h1, h2⟩
    · exact absurd (HR.out.more (by have := HN.out; have := HN5.out; omega) (by have := HVV.out; omega) (by have := HVV.out; omega)) h
  obtain ⟨Q, hQ⟩ : ∃ Q, cntM V (cs ++ [[-(u : Int)]]) = Q := ⟨_, rfl⟩
  rw [hQ]
  have hpq : P + Q = N := by rw [← HP.out, ← hQ, ← HNN.out]; exact cnt_split HVV.out.2.1
  have h5 := cnt_le_two HVV.out.1 cs
  rw [HNN.out] at h5
  have wpq : IntKind.i64.wrap ((P : Int) + (Q : Int)) = (N : Int) := by rw [IntKind.wrap_i64]; omega
  have HB16 := Lib.hid (HB15.out.trans (hb16.mono HB15.out.size))
  have HK16 := Lib.hid (HK15.out.below hb16 HK15.out.lt)
  clear hb16 hev hQ CY c0 c1 hpq h5
  have c0 := HK16.out.cell 0
  have c1 := HK16.out.cell 1
  have CF16 := Lib.hid (CF.out w16 HB16.out)
  go_wp2_with fail
  refine CF16.out.mono ?_
  rintro e w17 ⟨A17, c17, rfl, hcs17, hb17⟩
  have HB17 := Lib.hid (HB16.out.trans (hb17.mono HB16.out.size))
  have HCS17 := Lib.hid hcs17
  have hs17 := hb17.size
  clear c0 c1 hb17 hcs17 CF16 wpq
  obtain ⟨W18, hW18⟩ : ∃ W18, W18 = w17.alloc (.cells #[.int .i64 (V : Nat), .slice A17 n c17] 29) := ⟨_, rfl⟩
  have hb18 : Below w17.heap.size w17 W18 := by rw [hW18]; exact (Below.refl _ _).alloc (Nat.le_refl _) _
  have k18 : Blk W18 w17.heap.size 29 #[.int .i64 (V : Nat), .slice A17 n c17] := by rw [hW18]; exact Blk.new w17 _ _
  have HB18 := Lib.hid (HB17.out.trans (hb18.mono HB17.out.size))
  have HCS18 := Lib.hid (HCS17.out.chg hb18)
  have hs18 : w16.heap.size ≤ W18.heap.size := Nat.le_trans hs17 hb18.size
  have hs68 : w17.heap.size ≤ W18.heap.size := hb18.size
  have c0 := k18.cell 0
  have c1 := k18.cell 1
  have HZ18 := Lib.hid k18
  have HW18 := Lib.hid hW18
  have HRX := Lib.hid (HX.out W18 HB18.out).2.2.2.1
  have HBC := Lib.hid (HX.out W18 HB18.out).2.2.2.2
  have hm30 := HVV.out.2.2.2
  clear hb18 k18 hW18
  go_upto_region 17 with fail
  rw [← HW18.out]
  go_wp2_with fail
  refine wp_region_mv (S := fun w' => w'.cell? ⟨w17.heap.size, 1, none⟩ = some (.slice A17 n c17) ∧ w'.cell? ⟨w17.heap.size, 0, none⟩ = some (.int .i64 (V : Nat))) 8 [.f 0, .f 1, .f 2, .f 3, .t 4, .t 5, .t 6, .f 7, .t 8] (by kernel_rfl) (by kernel_rfl) (by kernel_rfl) (And.intro c1 c0) ?_
  iterate 4 (refine mv_take _ _ rfl (by kernel_rfl) (fun wv hv => by obtain ⟨hv1, hv2⟩ := hv; go_simp; try with_reducible rfl) ?_; simp only [Act.put, List.getElem_toArray, List.getElem_cons_zero, List.getElem_cons_succ, List.setIfInBounds_toArray, List.set_cons_zero, List.set_cons_succ])
  refine mv_act _ rfl (fun K hK => ?_)
  refine step_append_sl _ rfl (.tmp 109) (.tmp 110) _ rfl W18.heap.size 3 i0 _ 1 8 Tryd.underlying26 HIN.out.1 HIN.out.2.1 HIN.out.2.2.1 HIN.out.2.2.2 rfl (by omega) _ 0 [] rfl (World.ownsRow_nil _ _ _ _) Bc Ax m cx (litVals x) rfl (HRX.out.below (below_drewN (Below.refl _ W18) 1)) (lits_one x) (le_maxLen (by omega)) (le_bytes (by omega) (by omega)) (Nat.le_refl _) ?_
  rw [Nat.zero_add, List.nil_append]
  intro A5 c5 w5 hown5 hg5
  have hb5 : Below W18.heap.size W18 w5 := (below_drewN (Below.refl _ W18) 1).trans (below_row0 hg5)
  have HCS5 := Lib.hid (HCS18.out.chg hb5)
  have HB5' := Lib.hid (HB18.out.trans (hb5.mono HB18.out.size))
  have HOX := Lib.hid (own_base hown5 hs18)
  have hs5 : W18.heap.size ≤ w5.heap.size := hb5.size
  have HZ5 := Lib.hid (HZ18.out.below hb5 HZ18.out.lt)
  obtain ⟨rows, hrow, hcl⟩ := HCS5.out
  rw [HN.out] at hrow
  have HROW := Lib.hid hrow
  have HCL := Lib.hid hcl
  clear hown5 hg5 hb5 hrow hcl c0 c1
  refine hK _ _ (.inr ((And.intro (HZ5.out.cell 1) (HZ5.out.cell 0)))) ?_
  clear hK K
  try simp only [Act.put, List.getElem_toArray, List.getElem_cons_zero, List.getElem_cons_succ, List.setIfInBounds_toArray, List.set_cons_zero, List.set_cons_succ]
  refine mv_act _ rfl (fun K hK => ?_)
  go_simp
  go_simp
  refine hK _ _ (.inr ((And.intro ((HZ5.out.alloc (.cells #[.slice A5 m c5] 26)).cell 1) ((HZ5.out.alloc (.cells #[.slice A5 m c5] 26)).cell 0)))) ?_
  clear hK K
  refine mv_act _ rfl (fun K hK => ?_)
  refine step_append_sl _ rfl (.tmp 108) (.tmp 112) _ rfl w16.heap.size 26 ic _ 1 24 Tryd.underlying22 HIC.out.1 HIC.out.2.1 HIC.out.2.2.1 HIC.out.2.2.2 rfl (by omega) _ n _ rfl (HROW.out.alloc _) (w5.heap.size + 1) (some ⟨w5.heap.size, 0, none⟩) 1 1 [.slice A5 m c5] rfl (reads_new rfl (by omega) rfl) (fun u hu => by rw [List.mem_singleton.1 hu]; rfl) (le_maxLen (by have := HN5.out; omega)) (le_bytes (by have := HN5.out; omega) (by omega)) (by simp; omega) ?_
  intro A6 c6 w6' hown6 hg6
  have k19 := blk_grown (HZ5.out.alloc _) (HROW.out.alloc _) (by decide) hg6
  have d0 := k19.cell 0
  have d1 := k19.cell 1
  have f1 := k19.frozen 1
  have hg7 : (w5.alloc (.cells #[.slice A5 m c5] 26)).grownBy w6' (Value.slice A17 n c17).ownBlock := hg6
  have HZ6 := Lib.hid k19
  have HB6' := Lib.hid (own_grown_below0 HB5'.out HROW.out HB16.out.size hg7)
  have HC6 := Lib.hid (CsAt.more (new := [x]) (news := [.slice A5 m c5]) (by rw [HN.out]; exact HROW.out) HCL.out (fun i l hl => by
    match i, hl with
    | 0, hl => obtain rfl : x = l := by simpa using hl
               exact ⟨_, rfl, by rw [HM.out]; exact HOX.out⟩) hg7 (by rw [HN.out]; exact hown6))
  clear k19 hg6 hg7 hown6 HROW HCL HRX HBC
  refine hK _ _ (.inr ((And.intro d1 d0))) ?_
  clear hK K
  try simp only [Act.put, List.getElem_toArray, List.getElem_cons_zero, List.getElem_cons_succ, List.setIfInBounds_toArray, List.set_cons_zero, List.set_cons_succ]
  iterate 1 (refine mv_take _ _ rfl (by kernel_rfl) (fun wv hv => by obtain ⟨hv1, hv2⟩ := hv; go_simp; try with_reducible rfl) ?_; simp only [Act.put, List.getElem_toArray, List.getElem_cons_zero, List.getElem_cons_succ, List.setIfInBounds_toArray, List.set_cons_zero, List.set_cons_succ])
  refine mv_act _ rfl (fun K hK => ?_)
  go_simp
  go_simp
  refine hK _ _ (.inl rfl) ?_
  clear hK K
  refine mv_nil ?_
  clear d0 d1 f1
  obtain ⟨W20, hW20⟩ : ∃ W20, W20 = w6'.setCell ⟨w17.heap.size, 1, none⟩ (.slice A6 (n + 1) c6) := ⟨_, rfl⟩
  have HB20 := Lib.hid (show Below w.heap.size w W20 by rw [hW20]; exact HB6'.out.setCell (by show w.heap.size ≤ w17.heap.size; exact HB17.out.size) _)
  have k20 : Blk W20 w17.heap.size 29 #[.int .i64 (V : Nat), .slice A6 (n + 1) c6] := by rw [hW20]; exact HZ6.out.set_ 1 _
  have HCS20 := Lib.hid (show CsAt W20 w16.heap.size (.slice A6 (n + 1) c6) (cs ++ [x]) by rw [hW20]; exact HC6.out.far HZ6.out (by decide) (by decide) 1 _)
  have CZ := Lib.hid (count_u (c := c6) (HX.out W20 HB20.out).1 HVV.out.1 (by rw [List.length_append, HN.out]; rfl) HCS20.out (fun _ d hd => by
    rcases List.mem_append.1 hd with h | h
    · have := HLS.out d h; omega
    · obtain rfl : d = x := by simpa using h
      have := HM.out; omega))
  have c0 := k20.cell 0
  have c1 := k20.cell 1
  rw [← hW20]
  clear hW20 k20
  go_wp2_with fail
  refine CZ.out.mono ?_
  rintro e w21 ⟨p, ev, rfl, hb21, hev⟩
  have HB21 := Lib.hid (HB20.out.trans (hb21.mono HB20.out.size))
  clear hb21 c0 c1
  rcases hev with ⟨_, rfl, rfl⟩ | ⟨_, rfl, t, a, rfl⟩
  · obtain ⟨R, hR⟩ : ∃ R, cntM V (cs ++ [x]) = R := ⟨_, rfl⟩
    rw [hR]
    have hle : R ≤ N := by rw [← hR, ← HNN.out]; exact cnt_more
    have g1 : decide (R ≤ N) = true := decide_eq_true hle
    have g2 : decide ((R : Int) ≤ (N : Int)) = true := decide_eq_true (by omega)
    go_wp2_with fail
    go_ret
    exact ⟨rfl, HB21.out⟩
  · go_wp2_with fail
    go_ret
    exact ⟨rfl, HB21.out⟩
end Go.Proofs.YtaedbnbeelkkcaaDoor.slv
