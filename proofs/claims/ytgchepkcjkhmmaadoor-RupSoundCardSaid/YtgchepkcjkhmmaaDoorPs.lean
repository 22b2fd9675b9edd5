/-
  THE WALK of the law RupSound.
-/
import Derived.Test.YtgchepkcjkhmmaaDoorZe
import Derived.Test.YtgchepkcjkhmmaaDoorTa
import Derived.Test.YtgchepkcjkhmmaaDoorHs
import Derived.Test.YtgchepkcjkhmmaaDoorZp
import Derived.Test.YtgchepkcjkhmmaaDoorMo
import Derived.Test.YtgchepkcjkhmmaaDoorQj
namespace Go.Proofs.YtgchepkcjkhmmaaDoor
open Go.RowKit
theorem sound_forH {v : Int} {vs : List Bool} {cs pf : List (List Int)} (h : (pfR v cs 0 false pf).1 = 0) : Cn.forH vs cs = false := by
  cases hb : Cn.forH vs cs with
  | false => rfl
  | true =>
    exfalso
    have key := pfR_sound (v := v) (A := fun k => if vs.getD (k - 1) false = true then 1 else -1) (pf := pf) (L := cs) (i := 0) (fin := false)
      (fun k => by dsimp only; split <;> omega)
      (fun n h0 _ => by
        unfold lv
        dsimp only
        split <;> split <;> omega)
      (fun x hx => by
        unfold Cn.forH at hb
        have h1 := List.all_eq_true.1 hb x hx
        unfold Cn.clH at h1
        obtain ⟨n, hn, h2⟩ := List.any_eq_true.1 h1
        refine ⟨n, hn, ?_⟩
        unfold Cn.litH at h2
        unfold lv
        dsimp only
        by_cases hn0 : n < 0
        · rw [decide_eq_false (show ¬ 0 < n by omega), decide_eq_true hn0] at h2
          have h3 : vs.getD ((-n).toNat - 1) false = false := by simpa using h2
          rw [if_pos hn0]
          rw [show n.natAbs - 1 = (-n).toNat - 1 by omega, h3]
          simp
        · by_cases hp : 0 < n
          · rw [decide_eq_true hp, decide_eq_false hn0] at h2
            have h3 : vs.getD (n.toNat - 1) false = true := by simpa using h2
            rw [if_neg hn0]
            rw [show n.natAbs - 1 = n.toNat - 1 by omega, h3]
            simp
          · rw [decide_eq_false hp, decide_eq_false hn0] at h2
            simp at h2)
      h
    simp at key
def RbR (pf : List (List Int)) (iv : Value) : Prop := ∃ i : Nat, i ≤ pf.length ∧ iv = .int .i64 (i : Nat) ∧ ∀ x ∈ pf.take i, x.length ≤ 60
attribute [local irreducible] wpSeq
set_option maxRecDepth 100000 in
set_option maxHeartbeats 16000000 in
theorem rupSound_any {w : World} {B B2 : Nat} {ea : Nat → Addr} {v : Int} {A A2 : Option Addr} {n c n2 c2 : Nat} {cs pf : List (List Int)} (hn : cs.length = n) (hn2 : pf.length = n2) (hes : Sen3 w ea) (hwt : Fits cs) (hr : ClsR w B A cs) (hB : B ≤ w.heap.size) (hr2 : ClsR w B2 A2 pf) (hB2 : B2 ≤ w.heap.size) :
    Calls Tryd.prog 3 #[.agg #[.int .i64 v, .slice A n c], .slice A2 n2 c2] w fun e w' => e = .returned (.bool true) ∧ Below w.heap.size w w' := by
  obtain ⟨W1, hW1⟩ : ∃ W1, W1 = w.alloc (.cells #[.int .i64 v, .slice A n c] 24) := ⟨_, rfl⟩
  have hb1 : Below w.heap.size w W1 := by rw [hW1]; exact (Below.refl _ _).alloc (Nat.le_refl _) _
  have k1 : Blk W1 w.heap.size 24 #[.int .i64 v, .slice A n c] := by rw [hW1]; exact Blk.new w _ _
  have C0 := Lib.hid (slv.holds_true (hes.below hb1).s)
  have HX := Lib.hid (show ∀ w', Below w.heap.size w w' → Sen3 w' ea ∧ ClsR w' B A cs ∧ B ≤ w'.heap.size ∧ ClsR w' B2 A2 pf ∧ B2 ≤ w'.heap.size from fun w' hb =>
    ⟨hes.below hb, hr.below (hb.mono hB), Nat.le_trans hB hb.size, hr2.below (hb.mono hB2), Nat.le_trans hB2 hb.size⟩)
  have HW1 := Lib.hid hW1
  have HB1 := Lib.hid hb1
  have HK1 := Lib.hid k1
  have HWT := Lib.hid hwt
  have HN := Lib.hid hn
  have HN2 := Lib.hid hn2
  clear hn hn2 hes hwt hr hB hr2 hB2 hW1 hb1 k1
  go_enter Tryd.func3, Tryd.ntmps3
  go_upto_region 1 with fail
  rw [← HW1.out]
  go_wp2_with fail
  refine C0.out.mono ?_
  rintro e w2 ⟨rfl, hb2⟩
  have HB2 := Lib.hid (HB1.out.trans (hb2.mono HB1.out.size))
  have HK2 := Lib.hid (HK1.out.below hb2 HK1.out.lt)
  clear hb2
  have c0 := HK2.out.cell 0
  have c1 := HK2.out.cell 1
  obtain ⟨_, r2, z2, _, _⟩ := HX.out w2 HB2.out
  have CS := Lib.hid (slight_any (v := v) (c := c) HN.out HWT.out r2 z2)
  clear r2 z2
  go_wp2_with fail
  refine CS.out.mono ?_
  rintro e w3 ⟨rfl, hb3⟩
  obtain ⟨q, hq⟩ : ∃ q, decide (IntKind.i64.wrap ((wtC cs : Nat) : Int) ≤ 500) = q := ⟨_, rfl⟩
  rw [hq]
  have HQ := Lib.hid hq
  have HB3 := Lib.hid (HB2.out.trans (hb3.mono HB2.out.size))
  have HK3 := Lib.hid (HK2.out.below hb3 HK2.out.lt)
  clear hb3 hq c0 c1
  cases q with
  | false =>
    go_wp2_with fail
    go_ret
    exact ⟨rfl, HB3.out⟩
  | true =>
  have HW5 := Lib.hid (fits_says HWT.out HQ.out)
  have HLS := Lib.hid (show cs.length ≤ 500000 → ∀ x ∈ cs, x.length ≤ 500 from fun h5 x hx => by have := HW5.out h5; have := wtC_mem hx; omega)
  have HN5 := Lib.hid (show cs.length ≤ 500000 → n ≤ 500 from fun h5 => by have := HW5.out h5; have := wtC_len cs; have := HN.out; omega)
  have c0 := HK3.out.cell 0
  have c1 := HK3.out.cell 1
  by_cases hv12 : 12 < v
  · have e3 : decide (12 < v) = true := decide_eq_true hv12
    go_wp2_with fail
    go_ret
    exact ⟨rfl, HB3.out⟩
  have e3 : decide (12 < v) = false := decide_eq_false hv12
  have HV12 := Lib.hid hv12
  clear hv12
  by_cases h60 : 60 < n2
  · have e1 : decide ((60 : Int) < (n2 : Int)) = true := decide_eq_true (by omega)
    have e2 : decide (60 < n2) = true := decide_eq_true h60
    go_wp2_with fail
    go_ret
    exact ⟨rfl, HB3.out⟩
  have e1 : decide ((60 : Int) < (n2 : Int)) = false := decide_eq_false (by omega)
  have e2 : decide (60 < n2) = false := decide_eq_false h60
  have HP60 := Lib.hid h60
  clear h60
  · skip
    go_wp2_with fail
    go_loopw [6] (fun iv wx => RbR pf iv ∧ wx = w3) (fun iv _ => pf.length - (intOf iv).toNat)
    case atStart => exact ⟨⟨0, Nat.zero_le _, rfl, fun x hx => by simp at hx⟩, rfl⟩
    case round =>
      obtain ⟨⟨i, hi, ei, hall⟩, ew⟩ := hrel
      subst ei
      subst ew
      clear e3 e1 e2
      by_cases hlt : i < pf.length
      · obtain ⟨x, hx⟩ : ∃ x, pf[i]? = some x := ⟨_, List.getElem?_eq_getElem hlt⟩
        obtain ⟨_, _, _, r3, z3⟩ := HX.out wr HB3.out
        obtain ⟨ad, hA, hadb, hc⟩ := r3 (by omega)
        subst hA
        obtain ⟨Ax, cx, hcell, hrx⟩ := hc i x hx
        obtain ⟨m, hm⟩ : ∃ m, x.length = m := ⟨_, rfl⟩
        rw [hm] at hcell
        have hN2 := HN2.out
        have iI : (i : Int) < (n2 : Int) := by omega
        have w1 : IntKind.i64.wrap ((i : Int) + 1) = (i : Int) + 1 := by have := HP60.out; rw [IntKind.wrap_i64]; omega
        have HM := Lib.hid hm
        have HXX := Lib.hid hx
        have HALL := Lib.hid hall
        have HLT := Lib.hid hlt
        clear hadb hc hrx hx hm hall hlt hN2 r3 z3 hi
        by_cases h6 : 60 < m
        · have g1 : decide ((60 : Int) < (m : Int)) = true := decide_eq_true (by omega)
          have g2 : decide (60 < m) = true := decide_eq_true h6
          go_wp2_with fail
          go_ret
          exact ⟨rfl, HB3.out⟩
        · have g1 : decide ((60 : Int) < (m : Int)) = false := decide_eq_false (by omega)
          have g2 : decide (60 < m) = false := decide_eq_false h6
          have H6 := Lib.hid h6
          clear h6
          go_wp2_with fail
          go_roundw
          case rel =>
            refine ⟨⟨i + 1, HLT.out, by go_num, fun y hy => ?_⟩, trivial⟩
            rw [take_atP HXX.out] at hy
            rcases List.mem_append.1 hy with hy | hy
            · exact HALL.out y hy
            · obtain rfl : y = x := by simpa using hy
              have := H6.out
              have := HM.out
              omega
          case measure => have := HLT.out; simp [intOf]; omega
      · obtain rfl : i = pf.length := by omega
        have HL2 := Lib.hid (show ∀ x ∈ pf, x.length ≤ 60 from fun x hx => hall x (by rw [List.take_length]; exact hx))
        have nI : ((pf.length : Nat) : Int) = (n2 : Int) := by rw [HN2.out]
        clear hall hlt hi
        obtain ⟨_, r3, z3, _, _⟩ := HX.out wr HB3.out
        have CF := Lib.hid (formulaOf_any (v := v) (c := c) HN.out (by have := HWT.out.1; have := HN.out; omega) HWT.out.2 r3 z3)
        clear r3 z3
        go_wp2_with fail
        refine CF.out.mono ?_
        rintro e w8 ⟨A8, c8, rfl, hcs8, hb8⟩
        have HB8 := Lib.hid (HB3.out.trans (hb8.mono HB3.out.size))
        have HK8 := Lib.hid (HK3.out.below hb8 HK3.out.lt)
        have HCS8 := Lib.hid hcs8
        clear hb8 hcs8 c0 c1
        obtain ⟨_, _, _, r8, z8⟩ := HX.out w8 HB8.out
        have CC := Lib.hid (clauses_any (c := c2) HN2.out (by have := HP60.out; omega) (fun x hx => by have := HL2.out x hx; omega) r8 z8)
        clear r8 z8
        go_wp2_with fail
        refine CC.out.mono ?_
        rintro e w9 ⟨A9, c9, rfl, hcs9, hb9⟩
        have HB9 := Lib.hid (HB8.out.trans (hb9.mono HB8.out.size))
        have HK9 := Lib.hid (HK8.out.below hb9 HK8.out.lt)
        obtain ⟨e9, _, _, _, _⟩ := HX.out w9 HB9.out
        have CR := Lib.hid (rcheck_any (v := v) (c := c8) (c2 := c9) e9 (HCS8.out.chg hb9) HN.out hcs9.in_ HN2.out (by have := HP60.out; omega) (fun h5 x hx => by have := HLS.out h5 x hx; omega) (fun x hx => by have := HL2.out x hx; omega))
        clear hb9 hcs9 e9
        go_wp2_with fail
        refine CR.out.mono ?_
        rintro e w10 ⟨ev, cd, pl, rfl, hb10, hpf, hev⟩
        have HB10 := Lib.hid (HB9.out.trans (hb10.mono HB9.out.size))
        have HK10 := Lib.hid (HK9.out.below hb10 HK9.out.lt)
        rcases hev.nil_iff with ⟨hc0, he0⟩ | ⟨hc0, t, a, he0⟩
        · subst hc0
          subst he0
          obtain ⟨hfi, hpr⟩ : FaultIs v cs 0 (-1) ∧ (0, pl) = pfR v cs 0 false pf := by
            rcases hpf with ⟨h, _⟩ | h
            · exact absurd rfl h
            · exact h
          have hok := (faultIs_ok hfi (by omega)).2.2
          have hok2 : 0 ≤ v ∧ ∀ x ∈ cs, okC v x = true := by
            unfold okF at hok
            simp only [Bool.and_eq_true, decide_eq_true_eq, List.all_eq_true] at hok
            exact ⟨hok.1.1.1, hok.2⟩
          have HLS := Lib.hid (HLS.out (okF_len hok))
          have HN5 := Lib.hid (HN5.out (okF_len hok))
          obtain ⟨V, hV⟩ : ∃ V : Nat, v = (V : Int) := ⟨v.toNat, by omega⟩
          subst hV
          have hp0 : (pfR (V : Int) cs 0 false pf).1 = 0 := by rw [← hpr]
          obtain ⟨_, r10, z10, _, _⟩ := HX.out w10 HB10.out
          have CM := Lib.hid (models_none (V := V) (c := c) HN.out r10 z10 (by have := HV12.out; omega) (fun vs _ => sound_forH hp0) (by have := HN.out; have := HN5.out; omega) (fun x hx => ⟨by have := HLS.out x hx; omega, fun m hm => by
            have h1 := hok2.2 x hx
            unfold okC at h1
            have h3 : x.any (badN (V : Int)) = false := by simpa using h1
            have h4 := List.any_eq_false.1 h3 m hm
            unfold badN at h4
            simp only [Bool.or_eq_true, decide_eq_true_eq, beq_iff_eq, not_or] at h4
            omega⟩))
          have c0 := HK10.out.cell 0
          have c1 := HK10.out.cell 1
          clear hb10 hpf hev hfi hpr hok hok2 hp0 r10 z10
          go_wp2_with fail
          refine CM.out.mono ?_
          rintro e w11 ⟨rfl, hb11⟩
          have HB11 := Lib.hid (HB10.out.trans (hb11.mono HB10.out.size))
          clear hb11 c0 c1
          go_wp2_with fail
          go_ret
          exact ⟨rfl, HB11.out⟩
        · subst he0
          clear hb10 hpf hev hc0
          go_wp2_with fail
          go_ret
          exact ⟨rfl, HB10.out⟩
end Go.Proofs.YtgchepkcjkhmmaaDoor
