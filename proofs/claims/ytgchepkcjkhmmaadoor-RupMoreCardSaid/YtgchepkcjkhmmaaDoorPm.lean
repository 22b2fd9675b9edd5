/-
  THE WALK of the law RupMore.
-/
import Derived.Test.YtgchepkcjkhmmaaDoorZe
import Derived.Test.YtgchepkcjkhmmaaDoorTa
import Derived.Test.YtgchepkcjkhmmaaDoorZp
import Derived.Test.YtgchepkcjkhmmaaDoorQj
import Derived.Test.YtgchepkcjkhmmaaDoorHs
namespace Go.Proofs.YtgchepkcjkhmmaaDoor
open Go.RowKit
theorem pfR_nil {v : Int} : ∀ {pf L : List (List Int)} {i : Nat} {fin : Bool}, (pfR v L i fin pf).1 = 0 → pfR v L i fin pf = (0, -1)
  | [], L, i, fin, h => by unfold pfR at h ⊢; split at h <;> simp_all
  | c :: r, L, i, fin, h => by
    unfold pfR at h ⊢
    by_cases h1 : okC v c = true
    · rw [if_pos h1] at h ⊢
      by_cases h2 : Ref L c
      · rw [if_pos h2] at h ⊢
        exact pfR_nil h
      · rw [if_neg h2] at h; simp at h
    · rw [if_neg h1] at h; simp at h
theorem pfIs_det {v : Int} {cs pf : List (List Int)} {c a : Int} (h : PfIs v cs pf c a) (hv : 0 ≤ v ∧ v ≤ 150000) (hl : cs.length ≤ 500000) (hal : cs.all (okC v) = true) (hp : (pfR v cs 0 false pf).1 = 0) : c = 0 := by
  have hf : FaultIs v cs 0 (-1) := .inr ⟨by unfold Off; omega, .inr ⟨rfl, rfl, hal⟩⟩
  rcases h with ⟨h0, h⟩ | ⟨_, h⟩
  · exact absurd (faultIs_eq h hf).1 h0
  · rw [pfR_nil hp] at h
    injection h
def RbR (pf : List (List Int)) (iv : Value) : Prop := ∃ i : Nat, i ≤ pf.length ∧ iv = .int .i64 (i : Nat) ∧ ∀ x ∈ pf.take i, x.length ≤ 60
attribute [local irreducible] wpSeq
set_option maxRecDepth 100000 in
set_option maxHeartbeats 16000000 in
theorem rupMore_any {w : World} {B B2 B3 : Nat} {ea : Nat → Addr} {v : Int} {A A2 A3 : Option Addr} {n c n2 c2 n3 c3 : Nat} {cs pf : List (List Int)} {cl : List Int} (hn : cs.length = n) (hn2 : pf.length = n2) (hn3 : cl.length = n3) (hes : Sen3 w ea) (hwt : Fits cs) (hr : ClsR w B A cs) (hB : B ≤ w.heap.size) (hr2 : ClsR w B2 A2 pf) (hB2 : B2 ≤ w.heap.size) (hr3 : Reads w B3 1 A3 n3 (litVals cl)) (hB3 : B3 ≤ w.heap.size) :
    Calls Tryd.prog 4 #[.agg #[.int .i64 v, .slice A n c], .slice A2 n2 c2, .slice A3 n3 c3] w fun e w' => e = .returned (.bool true) ∧ Below w.heap.size w w' := by
  obtain ⟨W1, hW1⟩ : ∃ W1, W1 = w.alloc (.cells #[.int .i64 v, .slice A n c] 24) := ⟨_, rfl⟩
  have hb1 : Below w.heap.size w W1 := by rw [hW1]; exact (Below.refl _ _).alloc (Nat.le_refl _) _
  have k1 : Blk W1 w.heap.size 24 #[.int .i64 v, .slice A n c] := by rw [hW1]; exact Blk.new w _ _
  have C0 := Lib.hid (slv.holds_true (hes.below hb1).s)
  have HX := Lib.hid (show ∀ w', Below w.heap.size w w' → Sen3 w' ea ∧ ClsR w' B A cs ∧ B ≤ w'.heap.size ∧ ClsR w' B2 A2 pf ∧ B2 ≤ w'.heap.size ∧ Reads w' B3 1 A3 n3 (litVals cl) ∧ B3 ≤ w'.heap.size from fun w' hb =>
    ⟨hes.below hb, hr.below (hb.mono hB), Nat.le_trans hB hb.size, hr2.below (hb.mono hB2), Nat.le_trans hB2 hb.size, hr3.below (hb.mono hB3), Nat.le_trans hB3 hb.size⟩)
  have HW1 := Lib.hid hW1
  have HB1 := Lib.hid hb1
  have HK1 := Lib.hid k1
  have HWT := Lib.hid hwt
  have HN := Lib.hid hn
  have HN2 := Lib.hid hn2
  have HN3 := Lib.hid hn3
  clear hn hn2 hn3 hes hwt hr hB hr2 hB2 hr3 hB3 hW1 hb1 k1
  go_enter Tryd.func4, Tryd.ntmps4
  go_upto_region 1 with fail
  rw [← HW1.out]
  go_wp2_with fail
  refine C0.out.mono ?_
  rintro e w2 ⟨rfl, hb2⟩
  have HB2 := Lib.hid (HB1.out.trans (hb2.mono HB1.out.size))
  have HK2 := Lib.hid (HK1.out.below hb2 HK1.out.lt)
  clear hb2
  have c0 := HK2.out.cell 0
  have c1 := HK2.out.cell 1
  obtain ⟨_, r2, z2, _, _, _, _⟩ := HX.out w2 HB2.out
  have CS := Lib.hid (slight_any (v := v) (c := c) HN.out HWT.out r2 z2)
  clear r2 z2
  go_wp2_with fail
  refine CS.out.mono ?_
  rintro e w3 ⟨rfl, hb3⟩
  obtain ⟨q, hq⟩ : ∃ q, decide (IntKind.i64.wrap ((wtC cs : Nat) : Int) ≤ 500) = q := ⟨_, rfl⟩
  rw [hq]
  have HQ := Lib.hid hq
  have HB3 := Lib.hid (HB2.out.trans (hb3.mono HB2.out.size))
  have HK3 := Lib.hid (HK2.out.below hb3 HK2.out.lt)
  clear hb3 hq c0 c1
  cases q with
  | false =>
    go_wp2_with fail
    go_ret
    exact ⟨rfl, HB3.out⟩
  | true =>
  have HW5 := Lib.hid (fits_says HWT.out HQ.out)
  have HLS := Lib.hid (show cs.length ≤ 500000 → ∀ x ∈ cs, x.length ≤ 500 from fun h5 x hx => by have := HW5.out h5; have := wtC_mem hx; omega)
  have HN5 := Lib.hid (show cs.length ≤ 500000 → n ≤ 500 from fun h5 => by have := HW5.out h5; have := wtC_len cs; have := HN.out; omega)
  have c0 := HK3.out.cell 0
  have c1 := HK3.out.cell 1
  by_cases h60 : 60 < n2
  · have e1 : decide ((60 : Int) < (n2 : Int)) = true := decide_eq_true (by omega)
    have e2 : decide (60 < n2) = true := decide_eq_true h60
    go_wp2_with fail
    go_ret
    exact ⟨rfl, HB3.out⟩
  have e1 : decide ((60 : Int) < (n2 : Int)) = false := decide_eq_false (by omega)
  have e2 : decide (60 < n2) = false := decide_eq_false h60
  have HP60 := Lib.hid h60
  clear h60
  by_cases h30 : 30 < n3
  · have e4 : decide ((30 : Int) < (n3 : Int)) = true := decide_eq_true (by omega)
    have e5 : decide (30 < n3) = true := decide_eq_true h30
    go_wp2_with fail
    go_ret
    exact ⟨rfl, HB3.out⟩
  have e4 : decide ((30 : Int) < (n3 : Int)) = false := decide_eq_false (by omega)
  have e5 : decide (30 < n3) = false := decide_eq_false h30
  have HC30 := Lib.hid h30
  clear h30
  by_cases hv3 : 300 < v
  · have e3 : decide (300 < v) = true := decide_eq_true hv3
    go_wp2_with fail
    go_ret
    exact ⟨rfl, HB3.out⟩
  have e3 : decide (300 < v) = false := decide_eq_false hv3
  have HV3 := Lib.hid hv3
  clear hv3
  · skip
    go_wp2_with fail
    go_loopw [8] (fun iv wx => RbR pf iv ∧ wx = w3) (fun iv _ => pf.length - (intOf iv).toNat)
    case atStart => exact ⟨⟨0, Nat.zero_le _, rfl, fun x hx => by simp at hx⟩, rfl⟩
    case round =>
      obtain ⟨⟨i, hi, ei, hall⟩, ew⟩ := hrel
      subst ei
      subst ew
      clear e3 e1 e2 e4 e5
      by_cases hlt : i < pf.length
      · obtain ⟨x, hx⟩ : ∃ x, pf[i]? = some x := ⟨_, List.getElem?_eq_getElem hlt⟩
        obtain ⟨_, _, _, r3, z3, _, _⟩ := HX.out wr HB3.out
        obtain ⟨ad, hA, hadb, hc⟩ := r3 (by omega)
        subst hA
        obtain ⟨Ax, cx, hcell, hrx⟩ := hc i x hx
        obtain ⟨m, hm⟩ : ∃ m, x.length = m := ⟨_, rfl⟩
        rw [hm] at hcell
        have hN2 := HN2.out
        have iI : (i : Int) < (n2 : Int) := by omega
        have w1 : IntKind.i64.wrap ((i : Int) + 1) = (i : Int) + 1 := by have := HP60.out; rw [IntKind.wrap_i64]; omega
        have HM := Lib.hid hm
        have HXX := Lib.hid hx
        have HALL := Lib.hid hall
        have HLT := Lib.hid hlt
        clear hadb hc hrx hx hm hall hlt hN2 r3 z3 hi
        by_cases h6 : 60 < m
        · have g1 : decide ((60 : Int) < (m : Int)) = true := decide_eq_true (by omega)
          have g2 : decide (60 < m) = true := decide_eq_true h6
          go_wp2_with fail
          go_ret
          exact ⟨rfl, HB3.out⟩
        · have g1 : decide ((60 : Int) < (m : Int)) = false := decide_eq_false (by omega)
          have g2 : decide (60 < m) = false := decide_eq_false h6
          have H6 := Lib.hid h6
          clear h6
          go_wp2_with fail
          go_roundw
          case rel =>
            refine ⟨⟨i + 1, HLT.out, by go_num, fun y hy => ?_⟩, trivial⟩
            rw [take_atP HXX.out] at hy
            rcases List.mem_append.1 hy with hy | hy
            · exact HALL.out y hy
            · obtain rfl : y = x := by simpa using hy
              have := H6.out
              have := HM.out
              omega
          case measure => have := HLT.out; simp [intOf]; omega
      · obtain rfl : i = pf.length := by omega
        have HL2 := Lib.hid (show ∀ x ∈ pf, x.length ≤ 60 from fun x hx => hall x (by rw [List.take_length]; exact hx))
        have nI : ((pf.length : Nat) : Int) = (n2 : Int) := by rw [HN2.out]
        clear hall hlt hi
        have CF := Lib.hid (formulaOf_any (v := v) (c := c) HN.out (by have := HWT.out.1; have := HN.out; omega) HWT.out.2 (HX.out wr HB3.out).2.1 (HX.out wr HB3.out).2.2.1)
        go_wp2_with fail
        refine CF.out.mono ?_
        rintro e w8 ⟨A8, c8, rfl, hcs8, hb8⟩
        have HB8 := Lib.hid (HB3.out.trans (hb8.mono HB3.out.size))
        have HK8 := Lib.hid (HK3.out.below hb8 HK3.out.lt)
        have HCS8 := Lib.hid hcs8
        clear hb8 hcs8 c0 c1 CF
        have CC := Lib.hid (clauses_any (c := c2) HN2.out (by have := HP60.out; omega) (fun x hx => by have := HL2.out x hx; omega) (HX.out w8 HB8.out).2.2.2.1 (HX.out w8 HB8.out).2.2.2.2.1)
        go_wp2_with fail
        refine CC.out.mono ?_
        rintro e w9 ⟨A9, c9, rfl, hcs9, hb9⟩
        have HB9 := Lib.hid (HB8.out.trans (hb9.mono HB8.out.size))
        have HK9 := Lib.hid (HK8.out.below hb9 HK8.out.lt)
        have CR := Lib.hid (rcheck_any (v := v) (c := c8) (c2 := c9) (HX.out w9 HB9.out).1 (HCS8.out.chg hb9) HN.out hcs9.in_ HN2.out (by have := HP60.out; omega) (fun h5 x hx => by have := HLS.out h5 x hx; omega) (fun x hx => by have := HL2.out x hx; omega))
        clear hb9 hcs9 CC
        go_wp2_with fail
        refine CR.out.mono ?_
        rintro e w10 ⟨ev, cd, pl, rfl, hb10, hpf, hev⟩
        have HB10 := Lib.hid (HB9.out.trans (hb10.mono HB9.out.size))
        have HK10 := Lib.hid (HK9.out.below hb10 HK9.out.lt)
        rcases hev.nil_iff with ⟨hc0, he0⟩ | ⟨hc0, t, a, he0⟩
        · subst hc0
          subst he0
          obtain ⟨hfi, hpr⟩ : FaultIs v cs 0 (-1) ∧ (0, pl) = pfR v cs 0 false pf := by
            rcases hpf with ⟨h, _⟩ | h
            · exact absurd rfl h
            · exact h
          have hp0 : (pfR v cs 0 false pf).1 = 0 := by rw [← hpr]
          have hok := (faultIs_ok hfi (by omega)).2.2
          have hok2 : 0 ≤ v ∧ cs.all (okC v) = true := by
            unfold okF at hok
            simp only [Bool.and_eq_true, decide_eq_true_eq] at hok
            exact ⟨hok.1.1.1, hok.2⟩
          have HLS := Lib.hid (HLS.out (okF_len hok))
          have HN5 := Lib.hid (HN5.out (okF_len hok))
          have hvv : 0 ≤ v ∧ v ≤ 150000 := ⟨hok2.1, by have := HV3.out; omega⟩
          obtain ⟨bb, hbb⟩ : ∃ bb, okC v cl = bb := ⟨_, rfl⟩
          have CL := Lib.hid (clauseRight_any (c := c3) HN3.out (by have := HC30.out; omega) hvv (HX.out w10 HB10.out).2.2.2.2.2.1)
          rw [hbb] at CL
          have HBB := Lib.hid hbb
          have HP0 := Lib.hid hp0
          have HOK := Lib.hid hok2
          have c0 := HK10.out.cell 0
          have c1 := HK10.out.cell 1
          clear hb10 hpf hev hfi hpr hok hok2 hp0 hvv hbb CR
          cases bb with
          | false =>
            go_wp2_with fail
            refine CL.out.mono ?_
            rintro e w11 ⟨rfl, rfl⟩
            go_wp2_with fail
            go_ret
            exact ⟨rfl, HB10.out⟩
          | true =>
            have CF := Lib.hid (formulaOf_any (v := v) (c := c) HN.out (by have := HWT.out.1; have := HN.out; omega) HWT.out.2 (HX.out w10 HB10.out).2.1 (HX.out w10 HB10.out).2.2.1)
            go_wp2_with fail
            refine CL.out.mono ?_
            rintro e w11 ⟨rfl, rfl⟩
            go_wp2_with fail
            refine CF.out.mono ?_
            rintro e w12 ⟨A12, c12, rfl, hcs12, hb12⟩
            have HB12 := Lib.hid (HB10.out.trans (hb12.mono HB10.out.size))
            have HK12 := Lib.hid (HK10.out.below hb12 HK10.out.lt)
            have HCS12 := Lib.hid (csat_base hcs12 HB10.out.size)
            clear hb12 hcs12 CF CL c0 c1
            obtain ⟨i0, hi0, hz0, hz1, hz2⟩ := info_parts infoIntR_
            have HIN := Lib.hid (show _ ∧ _ ∧ _ ∧ _ from ⟨hi0, hz0, hz1, hz2⟩)
            obtain ⟨ic, hi0', hz0', hz1', hz2'⟩ := info_parts infoClause_
            have HIC := Lib.hid (show _ ∧ _ ∧ _ ∧ _ from ⟨hi0', hz0', hz1', hz2'⟩)
            clear hi0 hz0 hz1 hz2 hi0' hz0' hz1' hz2'
            have hn3i : n3 ≤ 30 := by have := HC30.out; omega
            go_upto_region 13 with fail
            obtain ⟨W13, hW13⟩ : ∃ W13, w12.alloc (.cells #[.int .i64 v, .slice A12 n c12] 32) = W13 := ⟨_, rfl⟩
            have hb13 : Below w12.heap.size w12 W13 := by rw [← hW13]; exact (Below.refl _ _).alloc (Nat.le_refl _) _
            have KM := Lib.hid (show Blk W13 w12.heap.size 32 #[.int .i64 v, .slice A12 n c12] by rw [← hW13]; exact Blk.new w12 _ _)
            have HB13 := Lib.hid (HB12.out.trans (hb13.mono HB12.out.size))
            have HK13 := Lib.hid (HK12.out.below hb13 HK12.out.lt)
            have HCS13 := Lib.hid (HCS12.out.chg hb13)
            obtain ⟨m1, hm1⟩ : ∃ m1, w12.heap.size = m1 := ⟨_, rfl⟩
            have hm1w : w.heap.size < m1 := by rw [← hm1]; exact HK12.out.lt
            rw [hm1] at KM ⊢
            rw [hW13]
            have hsz13 : w.heap.size ≤ W13.heap.size := HB13.out.size
            clear hb13 hW13 hm1 HCS12
            go_wp2_with (first
              | (at_builtin; refine wpList_append_sl _ rfl (.tmp 63) (.tmp 64) _ rfl w.heap.size 3 i0 _ 1 8 Tryd.underlying28 HIN.out.1 HIN.out.2.1 HIN.out.2.2.1 HIN.out.2.2.2 rfl (by omega) _ 0 [] rfl (World.ownsRow_nil _ _ _ _) B3 A3 n3 c3 (litVals cl) rfl (HX.out W13 HB13.out).2.2.2.2.2.1 (lits_one cl) (le_maxLen (by omega)) (le_bytes (by omega) (by omega)) hsz13 ?_; rw [Nat.zero_add, List.nil_append]; intro A14 c14 w14 hown14 hg14; have hb14 : Below W13.heap.size W13 w14 := below_row0 hg14; have HB14 := Lib.hid (HB13.out.trans (hb14.mono HB13.out.size)); have HK14 := Lib.hid (HK13.out.below hb14 HK13.out.lt); have KM14 := Lib.hid (KM.out.below hb14 KM.out.lt); have HCS14 := Lib.hid (HCS13.out.chg hb14); have HO14 := Lib.hid hown14; obtain ⟨rows14, hrow14, hcl14⟩ := HCS14.out; rw [HN.out] at hrow14; have HROW := Lib.hid hrow14; have HCL := Lib.hid hcl14; have k141 := KM14.out.cell 1; have hsz14 : w.heap.size ≤ w14.heap.size := HB14.out.size; clear hown14 hg14 hb14 hrow14 hcl14)
              | (at_builtin; refine wpList_append_sl _ rfl (.tmp 67) (.tmp 69) _ rfl w.heap.size 28 ic _ 1 24 Tryd.underlying22 HIC.out.1 HIC.out.2.1 HIC.out.2.2.1 HIC.out.2.2.2 rfl (by omega) _ n _ rfl (HROW.out.alloc _) (w14.heap.size + 1) (some ⟨w14.heap.size, 0, none⟩) 1 1 [.slice A14 n3 c14] rfl (reads_new rfl (by omega) rfl) (fun u hu => by rw [List.mem_singleton.1 hu]; rfl) (le_maxLen (by have := HN5.out; omega)) (le_bytes (by have := HN5.out; omega) (by omega)) (by simp; omega) ?_; intro A15 c15 w15 hown15 hg15; have hg15' : (w14.alloc (.cells #[.slice A14 n3 c14] 28)).grownBy w15 (Value.slice A12 n c12).ownBlock := hg15; have km15 := (KM14.out.alloc (.cells #[.slice A14 n3 c14] 28)).grown hg15' (own_blk_ne (HROW.out.alloc (.cells #[.slice A14 n3 c14] 28)) (KM14.out.alloc (.cells #[.slice A14 n3 c14] 28)) (by decide)).symm; have k151 := km15.cell 1; have f151 := km15.frozen 1; have l15 := km15.lt; have HG15 := Lib.hid hg15'; have HO15 := Lib.hid hown15; have KM15 := Lib.hid km15; clear hown15 hg15 hg15' km15)
              | fail)
            have HB16 := Lib.hid (show Below w.heap.size w (w15.setCell ⟨m1, 1, none⟩ (.slice A15 (n + 1) c15)) from (own_grown_below0 HB14.out HROW.out (Nat.le_refl _) HG15.out).setCell (by show w.heap.size ≤ m1; omega) _)
            have hcs15 := CsAt.more (new := [cl]) (news := [.slice A14 n3 c14]) (by rw [HN.out]; exact HROW.out) HCL.out (fun i l hl => by
              match i, hl with
              | 0, hl => obtain rfl : cl = l := by simpa using hl
                         exact ⟨_, rfl, by rw [HN3.out]; exact HO14.out⟩) HG15.out (by rw [HN.out]; exact HO15.out)
            have HCS16 := Lib.hid (hcs15.far KM15.out (by decide) (by decide) 1 (.slice A15 (n + 1) c15))
            have HO16 := Lib.hid (own_far (k := 1) (own_kept1 HO14.out HROW.out (by decide) HG15.out) (.slice A15 (n + 1) c15) (own_blk_ne (own_kept1 HO14.out HROW.out (by decide) HG15.out) KM15.out (by decide)))
            have hk15 := ((HK14.out.alloc (.cells #[.slice A14 n3 c14] 28)).grown HG15.out (own_blk_ne (HROW.out.alloc (.cells #[.slice A14 n3 c14] 28)) (HK14.out.alloc (.cells #[.slice A14 n3 c14] 28)) (by decide)).symm)
            have HK16 := Lib.hid (hk15.far (p := ⟨m1, 1, none⟩) (by show w.heap.size ≠ m1; omega) (.slice A15 (n + 1) c15))
            have HKM16 := Lib.hid (KM15.out.set_ 1 (.slice A15 (n + 1) c15))
            obtain ⟨W16, hW16⟩ : ∃ W16, w15.setCell ⟨m1, 1, none⟩ (.slice A15 (n + 1) c15) = W16 := ⟨_, rfl⟩
            rw [hW16] at HB16 HCS16 HO16 HK16 HKM16 ⊢
            clear hcs15 hk15 hW16 HB14 HROW HG15 HO15 KM15 HCL HO14 HK14 KM14 k151 f151 l15 k141 HCS14
            refine (clauses_any (c := c2) HN2.out (by have := HP60.out; omega) (fun x hx => by have := HL2.out x hx; omega) (HX.out W16 HB16.out).2.2.2.1 (HX.out W16 HB16.out).2.2.2.2.1).mono ?_
            rintro e w17 ⟨A17, c17, rfl, hcs17, hb17⟩
            have HB1617 := Lib.hid hb17
            have HO17 := Lib.hid (own_chg (S := fun _ _ => False) HO16.out (Chg.of_new hb17) (fun _ _ _ _ hs => hs))
            have hsz17 : W16.heap.size ≤ w17.heap.size := hb17.size
            obtain ⟨rows17, hrow17, hcl17⟩ := hcs17
            rw [HN2.out] at hrow17
            have HROW17 := Lib.hid hrow17
            have HCL17 := Lib.hid hcl17
            clear hb17 hrow17 hcl17
            go_wp2_with (first
              | (at_builtin; refine wpList_append_sl _ rfl (.tmp 74) (.tmp 76) _ rfl W16.heap.size 28 ic _ 1 24 Tryd.underlying22 HIC.out.1 HIC.out.2.1 HIC.out.2.2.1 HIC.out.2.2.2 rfl (by omega) _ n2 _ rfl (HROW17.out.alloc _) (w17.heap.size + 1) (some ⟨w17.heap.size, 0, none⟩) 1 1 [.slice A14 n3 c14] rfl (reads_new rfl (by omega) rfl) (fun u hu => by rw [List.mem_singleton.1 hu]; rfl) (le_maxLen (by have := HP60.out; omega)) (le_bytes (by have := HP60.out; omega) (by omega)) (by simp; omega) ?_; intro A18 c18 w18 hown18 hg18; have HG18 := Lib.hid (show (w17.alloc (.cells #[.slice A14 n3 c14] 28)).grownBy w18 (Value.slice A17 n2 c17).ownBlock from hg18); have HO18 := Lib.hid hown18; clear hown18 hg18)
              | fail)
            have hb1618 := own_grown_below0 HB1617.out HROW17.out (Nat.le_refl _) HG18.out
            have HPF18 := Lib.hid (CsAt.more (cs := pf) (new := [cl]) (news := [.slice A14 n3 c14]) (by rw [HN2.out]; exact own_base HROW17.out HB16.out.size) (fun i l hl => by
              obtain ⟨u, h3, h4⟩ := HCL17.out i l hl
              exact ⟨u, h3, own_base h4 HB16.out.size⟩) (fun i l hl => by
              match i, hl with
              | 0, hl => obtain rfl : cl = l := by simpa using hl
                         exact ⟨_, rfl, by rw [HN3.out]; exact HO17.out⟩) HG18.out (by rw [HN2.out]; exact own_base HO18.out HB16.out.size))
            have HB18 := Lib.hid (HB16.out.trans (hb1618.mono HB16.out.size))
            have HK18 := Lib.hid (HK16.out.below hb1618 HK16.out.lt)
            have HKM18 := Lib.hid (HKM16.out.below hb1618 HKM16.out.lt)
            have HCS18 := Lib.hid (HCS16.out.chg hb1618)
            clear hb1618 HB1617 HROW17 HG18 HCL17 HO17 HO18 HB16 HK16 HKM16 HCS16 HO16 hsz17
            have hl1 : (cs ++ [cl]).length = n + 1 := by rw [List.length_append, HN.out]; rfl
            have hl2 : (pf ++ [cl]).length = n2 + 1 := by rw [List.length_append, HN2.out]; rfl
            have hal1 : (cs ++ [cl]).all (okC v) = true := by rw [List.all_append, HOK.out.2]; simp [HBB.out]
            have HL := Lib.hid (And.intro hl1 (And.intro hl2 hal1))
            have HLS1 := Lib.hid (show ∀ x ∈ cs ++ [cl], x.length ≤ 100000 from fun x hx => by
              rcases List.mem_append.1 hx with hx | hx
              · have := HLS.out x hx; omega
              · obtain rfl : x = cl := by simpa using hx
                have := HN3.out; omega)
            have HLS3 := Lib.hid (show ∀ x ∈ pf ++ [cl], x.length ≤ 100000 from fun x hx => by
              rcases List.mem_append.1 hx with hx | hx
              · have := HL2.out x hx; omega
              · obtain rfl : x = cl := by simpa using hx
                have := HN3.out; omega)
            clear hl1 hl2 hal1
            go_upto_region 17 with fail
            have HB19 := Lib.hid (HB18.out.trans (below_drewN (Below.refl _ w18) 1))
            have HK19 := Lib.hid HK18.out.drew
            have HKM19 := Lib.hid HKM18.out.drew
            refine wp_region_seq (S := fun w' => w'.cell? ⟨m1, 0, none⟩ = some (.int .i64 v) ∧ w'.cell? ⟨m1, 1, none⟩ = some (.slice A15 (n + 1) c15) ∧ w'.cell? ⟨w.heap.size, 0, none⟩ = some (.int .i64 v) ∧ w'.cell? ⟨w.heap.size, 1, none⟩ = some (.slice A n c)) [(0, false), (1, false), (2, true), (3, true), (4, false), (5, false), (6, false), (8, false), (7, true), (9, true), (10, false), (11, false), (12, false)] (by kernel_rfl) (by kernel_rfl) (by kernel_rfl) ⟨HKM19.out.cell 0, HKM19.out.cell 1, HK19.out.cell 0, HK19.out.cell 1⟩ ?_
            iterate 2 (refine seq_take _ _ rfl (by kernel_rfl) (fun wv hv => by obtain ⟨hv1, hv2, hv3, hv4⟩ := hv; go_simp; try with_reducible rfl) ?_; simp only [Act.put, List.getElem_toArray, List.getElem_cons_zero, List.getElem_cons_succ, List.setIfInBounds_toArray, List.set_cons_zero, List.set_cons_succ])
            refine seq_act _ rfl (fun K hK => ?_)
            go_simp
            refine (clauses_any (c := c2) HN2.out (by have := HP60.out; omega) (fun x hx => by have := HL2.out x hx; omega) (HX.out w18.drew HB19.out).2.2.2.1 (HX.out w18.drew HB19.out).2.2.2.2.1).mono ?_
            rintro e w20 ⟨A20, c20, rfl, hcs20, hb20⟩
            have HB20 := Lib.hid (HB19.out.trans (hb20.mono HB19.out.size))
            have HK20 := Lib.hid (HK19.out.below hb20 HK19.out.lt)
            have HKM20 := Lib.hid (HKM19.out.below hb20 HKM19.out.lt)
            have HCS20 := Lib.hid ((HCS18.out.chg (below_drewN (Below.refl _ w18) 1)).chg hb20)
            have HPF20 := Lib.hid ((HPF18.out.chg (below_drewN (Below.refl _ w18) 1)).chg hb20)
            have HC20 := Lib.hid hcs20
            clear hb20 hcs20
            go_simp
            refine hK _ _ (⟨HKM20.out.cell 0, HKM20.out.cell 1, HK20.out.cell 0, HK20.out.cell 1⟩) ?_
            clear hK K
            refine seq_act _ rfl (fun K hK => ?_)
            go_simp
            refine (rcheck_any (v := v) (c := c15) (c2 := c20) (HX.out w20 HB20.out).1 HCS20.out HL.out.1 HC20.out.in_ HN2.out (by have := HP60.out; omega) (fun _ => HLS1.out) (fun x hx => by have := HL2.out x hx; omega)).mono ?_
            rintro e w21 ⟨ev1, cd1, pl1, rfl, hb21, hpf1, hev1⟩
            have HB21 := Lib.hid (HB20.out.trans (hb21.mono HB20.out.size))
            have HK21 := Lib.hid (HK20.out.below hb21 HK20.out.lt)
            have HKM21 := Lib.hid (HKM20.out.below hb21 HKM20.out.lt)
            have HPF21 := Lib.hid (HPF20.out.chg hb21)
            have hc1 := pfIs_det hpf1 ⟨HOK.out.1, by have := HV3.out; omega⟩ (by rw [HL.out.1]; have := HN5.out; omega) HL.out.2.2 (pfR_more (fun x hx => List.mem_append_left _ hx) HP0.out)
            have hev1 : ev1 = .nilIface := by
              rcases hev1.nil_iff with ⟨_, h⟩ | ⟨h, _⟩
              · exact h
              · omega
            subst hev1
            clear hb21 hpf1 hc1
            go_simp
            refine hK _ _ (⟨HKM21.out.cell 0, HKM21.out.cell 1, HK21.out.cell 0, HK21.out.cell 1⟩) ?_
            clear hK K
            iterate 4 (refine seq_take _ _ rfl (by kernel_rfl) (fun wv hv => by obtain ⟨hv1, hv2, hv3, hv4⟩ := hv; go_simp; try with_reducible rfl) ?_; simp only [Act.put, List.getElem_toArray, List.getElem_cons_zero, List.getElem_cons_succ, List.setIfInBounds_toArray, List.set_cons_zero, List.set_cons_succ])
            refine seq_act _ rfl (fun K hK => ?_)
            go_simp
            refine (formulaOf_any (v := v) (c := c) HN.out (by have := HWT.out.1; have := HN.out; omega) HWT.out.2 (HX.out w21 HB21.out).2.1 (HX.out w21 HB21.out).2.2.1).mono ?_
            rintro e w22 ⟨A22, c22, rfl, hcs22, hb22⟩
            have HB22 := Lib.hid (HB21.out.trans (hb22.mono HB21.out.size))
            have HK22 := Lib.hid (HK21.out.below hb22 HK21.out.lt)
            have HKM22 := Lib.hid (HKM21.out.below hb22 HKM21.out.lt)
            have HPF22 := Lib.hid (HPF21.out.chg hb22)
            have HC22 := Lib.hid hcs22
            clear hb22 hcs22
            go_simp
            refine hK _ _ (⟨HKM22.out.cell 0, HKM22.out.cell 1, HK22.out.cell 0, HK22.out.cell 1⟩) ?_
            clear hK K
            refine seq_act _ rfl (fun K hK => ?_)
            go_simp
            refine (rcheck_any (v := v) (c := c22) (c2 := c18) (HX.out w22 HB22.out).1 HC22.out HN.out HPF22.out.in_ HL.out.2.1 (by have := HP60.out; omega) (fun _ x hx => by have := HLS.out x hx; omega) HLS3.out).mono ?_
            rintro e w23 ⟨ev2, cd2, pl2, rfl, hb23, hpf2, hev2⟩
            have HB23 := Lib.hid (HB22.out.trans (hb23.mono HB22.out.size))
            have HK23 := Lib.hid (HK22.out.below hb23 HK22.out.lt)
            have HKM23 := Lib.hid (HKM22.out.below hb23 HKM22.out.lt)
            have hc2 := pfIs_det hpf2 ⟨HOK.out.1, by have := HV3.out; omega⟩ (by rw [HN.out]; have := HN5.out; omega) HOK.out.2 (pfR_behind HBB.out (fun h => by cases h) HP0.out)
            have hev2 : ev2 = .nilIface := by
              rcases hev2.nil_iff with ⟨_, h⟩ | ⟨h, _⟩
              · exact h
              · omega
            subst hev2
            clear hb23 hpf2 hc2
            go_simp
            refine hK _ _ (⟨HKM23.out.cell 0, HKM23.out.cell 1, HK23.out.cell 0, HK23.out.cell 1⟩) ?_
            clear hK K
            iterate 3 (refine seq_take _ _ rfl (by kernel_rfl) (fun wv hv => by obtain ⟨hv1, hv2, hv3, hv4⟩ := hv; go_simp; try with_reducible rfl) ?_; simp only [Act.put, List.getElem_toArray, List.getElem_cons_zero, List.getElem_cons_succ, List.setIfInBounds_toArray, List.set_cons_zero, List.set_cons_succ])
            refine seq_nil ?_
            go_wp2_with fail
            go_ret
            exact ⟨rfl, HB23.out⟩
        · subst he0
          clear hb10 hpf hev hc0
          go_wp2_with fail
          go_ret
          exact ⟨rfl, HB10.out⟩
end Go.Proofs.YtgchepkcjkhmmaaDoor
