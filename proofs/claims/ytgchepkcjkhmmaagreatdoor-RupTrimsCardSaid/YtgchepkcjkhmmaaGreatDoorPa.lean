/-
  THE WALK of the law RupChecks.
-/
import Derived.Test.YtgchepkcjkhmmaaGreatDoorTc
import Derived.Test.YtgchepkcjkhmmaaGreatDoorZd
import Derived.Test.YtgchepkcjkhmmaaGreatDoorQj
namespace Go.Proofs.YtgchepkcjkhmmaaGreatDoor
open Go.RowKit
theorem errs_sen {w : World} {ea : Nat → Addr} {B : Nat} (h : Errs w ea B) : Sen3 w ea := ⟨⟨h.var 2 (by omega) (by omega), h.var 3 (by omega) (by omega)⟩, h.var 8 (by omega) (by omega)⟩
theorem pfIs_eq {v : Int} {cs pf : List (List Int)} {c a c2 a2 : Int} (h : PfIs v cs pf c a) (k : PfIs v cs pf c2 a2) : c = c2 ∧ a = a2 := by
  rcases h with ⟨h0, h⟩ | ⟨h, h1⟩
  · rcases k with ⟨_, k⟩ | ⟨k, _⟩
    · exact faultIs_eq h k
    · exact absurd (faultIs_eq h k).1 h0
  · rcases k with ⟨k0, k⟩ | ⟨_, k1⟩
    · exact absurd (faultIs_eq k h).1 k0
    · rw [← k1] at h1
      injection h1 with e1 e2
      exact ⟨e1, e2⟩
theorem faulted_evc {w : World} {ea : Nat → Addr} {B : Nat} (he : Errs w ea B) (hB : B ≤ w.heap.size) {ev : Value} {c at_ : Int} (h : EvC w ea ev c at_) :
    Calls Tryz.prog 7 #[ev, .agg #[.int .i64 c, .int .i64 at_]] w fun e w' => e = .returned (.bool true) ∧ Below w.heap.size w w' := by
  have hb : Below w.heap.size w (w.alloc (.cells #[.int .i64 c, .int .i64 at_] 37)) := (Below.refl _ _).alloc (Nat.le_refl _) _
  have he2 := he.below (hb.mono hB)
  have hB2 := Nat.le_trans hB hb.size
  rcases h with ⟨rfl, rfl⟩ | ⟨rfl, rfl, rfl⟩ | ⟨rfl, rfl, rfl⟩ | ⟨hc, pb, rfl, h3, h4⟩
  · exact faulted_of (n := 0) (at_ := -1) ((code_nil _).mono fun e w' h => ⟨h.1, h.2 ▸ Below.refl _ _⟩) rfl (.inl rfl)
  · exact faulted_of (n := (2 : Nat)) (at_ := -1) (code_sent he2 hB2 (k := 2) (by omega) (by omega)) rfl (.inr rfl)
  · exact faulted_of (n := (8 : Nat)) (at_ := -1) (code_sent he2 hB2 (k := 8) (by omega) (by omega)) rfl (.inr rfl)
  · rcases hc with rfl | rfl
    · exact faulted_of (n := (3 : Nat)) (at_ := at_) (code_fault he2 hB2 (k := 3) (by omega) (by omega) ((hb.cell (World.block_lt_of_cell? _ _ h3)).trans h3) ((hb.cell (World.block_lt_of_cell? _ _ h4)).trans h4)) rfl (.inr rfl)
    · exact faulted_of (n := (8 : Nat)) (at_ := at_) (code_fault he2 hB2 (k := 8) (by omega) (by omega) ((hb.cell (World.block_lt_of_cell? _ _ h3)).trans h3) ((hb.cell (World.block_lt_of_cell? _ _ h4)).trans h4)) rfl (.inr rfl)
def RbR (pf : List (List Int)) (iv : Value) : Prop := ∃ i : Nat, i ≤ pf.length ∧ iv = .int .i64 (i : Nat) ∧ ∀ x ∈ pf.take i, x.length ≤ 60
attribute [local irreducible] wpSeq
set_option maxRecDepth 100000 in
set_option maxHeartbeats 16000000 in
theorem rupChecks_any {w : World} {B B2 : Nat} {ea : Nat → Addr} {EB : Nat} {v : Int} {A A2 : Option Addr} {n c n2 c2 : Nat} {cs pf : List (List Int)} (hn : cs.length = n) (hn2 : pf.length = n2) (hes : Errs w ea EB) (hE : EB ≤ w.heap.size) (hwt : Fits cs) (hr : ClsR w B A cs) (hB : B ≤ w.heap.size) (hr2 : ClsR w B2 A2 pf) (hB2 : B2 ≤ w.heap.size) :
    Calls Tryz.prog 3 #[.agg #[.int .i64 v, .slice A n c], .slice A2 n2 c2] w fun e w' => e = .returned (.bool true) ∧ Below w.heap.size w w' := by
  obtain ⟨W1, hW1⟩ : ∃ W1, W1 = w.alloc (.cells #[.int .i64 v, .slice A n c] 24) := ⟨_, rfl⟩
  have hb1 : Below w.heap.size w W1 := by rw [hW1]; exact (Below.refl _ _).alloc (Nat.le_refl _) _
  have k1 : Blk W1 w.heap.size 24 #[.int .i64 v, .slice A n c] := by rw [hW1]; exact Blk.new w _ _
  have C0 := Lib.hid (slv.holds_true (errs_sen (hes.below (hb1.mono hE))).s)
  have HX := Lib.hid (show ∀ w', Below w.heap.size w w' → Errs w' ea EB ∧ EB ≤ w'.heap.size ∧ ClsR w' B A cs ∧ B ≤ w'.heap.size ∧ ClsR w' B2 A2 pf ∧ B2 ≤ w'.heap.size from fun w' hb =>
    ⟨hes.below (hb.mono hE), Nat.le_trans hE hb.size, hr.below (hb.mono hB), Nat.le_trans hB hb.size, hr2.below (hb.mono hB2), Nat.le_trans hB2 hb.size⟩)
  have HW1 := Lib.hid hW1
  have HB1 := Lib.hid hb1
  have HK1 := Lib.hid k1
  have HWT := Lib.hid hwt
  have HN := Lib.hid hn
  have HN2 := Lib.hid hn2
  clear hn hn2 hes hE hwt hr hB hr2 hB2 hW1 hb1 k1
  go_enter Tryz.func3, Tryz.ntmps3
  go_upto_region 1 with fail
  rw [← HW1.out]
  go_wp2_with fail
  refine C0.out.mono ?_
  rintro e w2 ⟨rfl, hb2⟩
  have HB2 := Lib.hid (HB1.out.trans (hb2.mono HB1.out.size))
  have HK2 := Lib.hid (HK1.out.below hb2 HK1.out.lt)
  clear hb2
  have c0 := HK2.out.cell 0
  have c1 := HK2.out.cell 1
  obtain ⟨_, _, r2, z2, _, _⟩ := HX.out w2 HB2.out
  have CS := Lib.hid (slight_any (v := v) (c := c) HN.out HWT.out r2 z2)
  clear r2 z2
  go_wp2_with fail
  refine CS.out.mono ?_
  rintro e w3 ⟨rfl, hb3⟩
  obtain ⟨q, hq⟩ : ∃ q, decide (IntKind.i64.wrap ((wtC cs : Nat) : Int) ≤ 500) = q := ⟨_, rfl⟩
  rw [hq]
  have HQ := Lib.hid hq
  have HB3 := Lib.hid (HB2.out.trans (hb3.mono HB2.out.size))
  have HK3 := Lib.hid (HK2.out.below hb3 HK2.out.lt)
  clear hb3 hq c0 c1
  cases q with
  | false =>
    go_wp2_with fail
    go_ret
    exact ⟨rfl, HB3.out⟩
  | true =>
  have HW5 := Lib.hid (fits_says HWT.out HQ.out)
  have HLS := Lib.hid (show cs.length ≤ 500000 → ∀ x ∈ cs, x.length ≤ 500 from fun h5 x hx => by have := HW5.out h5; have := wtC_mem hx; omega)
  have HN5 := Lib.hid (show cs.length ≤ 500000 → n ≤ 500 from fun h5 => by have := HW5.out h5; have := wtC_len cs; have := HN.out; omega)
  have c0 := HK3.out.cell 0
  have c1 := HK3.out.cell 1
  by_cases h60 : 60 < n2
  · have e1 : decide ((60 : Int) < (n2 : Int)) = true := decide_eq_true (by omega)
    have e2 : decide (60 < n2) = true := decide_eq_true h60
    go_wp2_with fail
    all_goals (go_ret; exact ⟨rfl, HB3.out⟩)
  have e1 : decide ((60 : Int) < (n2 : Int)) = false := decide_eq_false (by omega)
  have e2 : decide (60 < n2) = false := decide_eq_false h60
  have HP60 := Lib.hid h60
  clear h60
  by_cases hv3 : 300 < v ∧ v ≤ 150000
  · have e3 : decide (300 < v) = true := decide_eq_true hv3.1
    have e4 : decide (v ≤ 150000) = true := decide_eq_true hv3.2
    clear hv3
    go_wp2_with fail
    go_ret
    exact ⟨rfl, HB3.out⟩
  have HV3 := Lib.hid hv3
  clear hv3
  obtain ⟨b3, b4, e3, e4, hbb⟩ : ∃ b3 b4 : Bool, decide (300 < v) = b3 ∧ decide (v ≤ 150000) = b4 ∧ (b3 = false ∨ (b3 = true ∧ b4 = false)) := by
    refine ⟨_, _, rfl, rfl, ?_⟩
    have := HV3.out
    by_cases h1 : 300 < v
    · exact .inr ⟨decide_eq_true h1, decide_eq_false (by omega)⟩
    · exact .inl (decide_eq_false h1)
  rcases hbb with rfl | ⟨rfl, rfl⟩
  all_goals
    go_wp2_with fail
    go_loopw [6] (fun iv wx => RbR pf iv ∧ wx = w3) (fun iv _ => pf.length - (intOf iv).toNat)
    case atStart => exact ⟨⟨0, Nat.zero_le _, rfl, fun x hx => by simp at hx⟩, rfl⟩
    case round =>
      obtain ⟨⟨i, hi, ei, hall⟩, ew⟩ := hrel
      subst ei
      subst ew
      clear e3 e4 e1 e2
      by_cases hlt : i < pf.length
      · obtain ⟨x, hx⟩ : ∃ x, pf[i]? = some x := ⟨_, List.getElem?_eq_getElem hlt⟩
        obtain ⟨_, _, _, _, r3, z3⟩ := HX.out wr HB3.out
        obtain ⟨ad, hA, hadb, hc⟩ := r3 (by omega)
        subst hA
        obtain ⟨Ax, cx, hcell, hrx⟩ := hc i x hx
        obtain ⟨m, hm⟩ : ∃ m, x.length = m := ⟨_, rfl⟩
        rw [hm] at hcell
        have hN2 := HN2.out
        have iI : (i : Int) < (n2 : Int) := by omega
        have w1 : IntKind.i64.wrap ((i : Int) + 1) = (i : Int) + 1 := by have := HP60.out; rw [IntKind.wrap_i64]; omega
        have HM := Lib.hid hm
        have HXX := Lib.hid hx
        have HALL := Lib.hid hall
        have HLT := Lib.hid hlt
        clear hadb hc hrx hx hm hall hlt hN2 r3 z3 hi
        by_cases h6 : 60 < m
        · have g1 : decide ((60 : Int) < (m : Int)) = true := decide_eq_true (by omega)
          have g2 : decide (60 < m) = true := decide_eq_true h6
          go_wp2_with fail
          go_ret
          exact ⟨rfl, HB3.out⟩
        · have g1 : decide ((60 : Int) < (m : Int)) = false := decide_eq_false (by omega)
          have g2 : decide (60 < m) = false := decide_eq_false h6
          have H6 := Lib.hid h6
          clear h6
          go_wp2_with fail
          go_roundw
          case rel =>
            refine ⟨⟨i + 1, HLT.out, by go_num, fun y hy => ?_⟩, trivial⟩
            rw [take_atP HXX.out] at hy
            rcases List.mem_append.1 hy with hy | hy
            · exact HALL.out y hy
            · obtain rfl : y = x := by simpa using hy
              have := H6.out
              have := HM.out
              omega
          case measure => have := HLT.out; simp [intOf]; omega
      · obtain rfl : i = pf.length := by omega
        have HL2 := Lib.hid (show ∀ x ∈ pf, x.length ≤ 60 from fun x hx => hall x (by rw [List.take_length]; exact hx))
        have nI : ((pf.length : Nat) : Int) = (n2 : Int) := by rw [HN2.out]
        clear hall hlt hi
        go_upto_region 9 with fail
        have HK7 := Lib.hid HK3.out.drew
        have HB7 := Lib.hid (HB3.out.trans (below_drewN (Below.refl _ wr) 1))
        refine wp_region_seq (S := fun w' => w'.cell? ⟨w.heap.size, 0, none⟩ = some (.int .i64 v) ∧ w'.cell? ⟨w.heap.size, 1, none⟩ = some (.slice A n c)) [(0, false), (2, false), (5, false), (6, false), (1, true), (3, true), (4, true), (7, true), (8, true), (9, false)] (by kernel_rfl) (by kernel_rfl) (by kernel_rfl) ⟨HK7.out.cell 0, HK7.out.cell 1⟩ ?_
        iterate 4 (refine seq_take _ _ rfl (by kernel_rfl) (fun wv hv => by obtain ⟨hv1, hv2⟩ := hv; go_simp; try with_reducible rfl) ?_; simp only [Act.put, List.getElem_toArray, List.getElem_cons_zero, List.getElem_cons_succ, List.setIfInBounds_toArray, List.set_cons_zero, List.set_cons_succ])
        refine seq_act _ rfl (fun K hK => ?_)
        go_simp
        obtain ⟨_, _, r7, z7, _, _⟩ := HX.out wr.drew HB7.out
        refine (formulaOf_any (v := v) (c := c) HN.out (by have := HWT.out.1; have := HN.out; omega) HWT.out.2 r7 z7).mono ?_
        rintro e w8 ⟨A8, c8, rfl, hcs8, hb8⟩
        have HB8 := Lib.hid (HB7.out.trans (hb8.mono HB7.out.size))
        have HK8 := Lib.hid (HK7.out.below hb8 HK7.out.lt)
        have HCS8 := Lib.hid hcs8
        clear hb8 hcs8 r7 z7
        go_simp
        refine hK _ _ (⟨HK8.out.cell 0, HK8.out.cell 1⟩) ?_
        clear hK K
        refine seq_act _ rfl (fun K hK => ?_)
        go_simp
        obtain ⟨_, _, _, _, r8, z8⟩ := HX.out w8 HB8.out
        refine (clauses_any (c := c2) HN2.out (by have := HP60.out; omega) (fun x hx => by have := HL2.out x hx; omega) r8 z8).mono ?_
        rintro e w9 ⟨A9, c9, rfl, hcs9, hb9⟩
        have HB9 := Lib.hid (HB8.out.trans (hb9.mono HB8.out.size))
        have HK9 := Lib.hid (HK8.out.below hb9 HK8.out.lt)
        have HCS8b := Lib.hid (HCS8.out.chg hb9)
        have HCS9 := Lib.hid hcs9
        clear hb9 hcs9 r8 z8
        go_simp
        refine hK _ _ (⟨HK9.out.cell 0, HK9.out.cell 1⟩) ?_
        clear hK K
        refine seq_act _ rfl (fun K hK => ?_)
        go_simp
        obtain ⟨e9, y9, _, _, _, _⟩ := HX.out w9 HB9.out
        refine (rcheck_any (v := v) (c := c8) (c2 := c9) (errs_sen e9) HCS8b.out HN.out HCS9.out.in_ HN2.out (by have := HP60.out; omega) (fun h5 x hx => by have := HLS.out h5 x hx; omega) (fun x hx => by have := HL2.out x hx; omega)).mono ?_
        rintro e w10 ⟨ev, cd, pl, rfl, hb10, hpf, hev⟩
        have HB10 := Lib.hid (HB9.out.trans (hb10.mono HB9.out.size))
        have HK10 := Lib.hid (HK9.out.below hb10 HK9.out.lt)
        have HPF := Lib.hid hpf
        have HEV := Lib.hid hev
        clear hb10 hpf hev e9 y9
        go_simp
        refine hK _ _ (⟨HK10.out.cell 0, HK10.out.cell 1⟩) ?_
        clear hK K
        refine seq_act _ rfl (fun K hK => ?_)
        go_simp
        obtain ⟨_, _, r10, z10, r11, z11⟩ := HX.out w10 HB10.out
        refine (proofFault_any (v := v) (c := c) (c2 := c2) r10 HN.out z10 r11 HN2.out z11 (by have := HP60.out; omega) (fun h5 x hx => by have := HLS.out h5 x hx; omega) (fun x hx => by have := HL2.out x hx; omega)).mono ?_
        rintro e w11 ⟨cd2, pl2, rfl, hb11, hpf2⟩
        obtain ⟨hcd, hpl⟩ := pfIs_eq hpf2 HPF.out
        subst hcd hpl
        have HB11 := Lib.hid (HB10.out.trans (hb11.mono HB10.out.size))
        have HK11 := Lib.hid (HK10.out.below hb11 HK10.out.lt)
        have HEV11 := Lib.hid (HEV.out.below hb11)
        clear hb11 hpf2 r10 z10 r11 z11
        go_simp
        refine hK _ _ (⟨HK11.out.cell 0, HK11.out.cell 1⟩) ?_
        clear hK K
        refine seq_act _ rfl (fun K hK => ?_)
        go_simp
        obtain ⟨e11, y11, _, _, _, _⟩ := HX.out w11 HB11.out
        refine (faulted_evc e11 y11 HEV11.out).mono ?_
        rintro e w12 ⟨rfl, hb12⟩
        have HB12 := Lib.hid (HB11.out.trans (hb12.mono HB11.out.size))
        have HK12 := Lib.hid (HK11.out.below hb12 HK11.out.lt)
        clear hb12 e11 y11
        go_simp
        refine hK _ _ (⟨HK12.out.cell 0, HK12.out.cell 1⟩) ?_
        clear hK K
        iterate 1 (refine seq_take _ _ rfl (by kernel_rfl) (fun wv hv => by go_simp; try with_reducible rfl) ?_; simp only [Act.put, List.getElem_toArray, List.getElem_cons_zero, List.getElem_cons_succ, List.setIfInBounds_toArray, List.set_cons_zero, List.set_cons_succ])
        refine seq_nil ?_
        go_wp2_with fail
        go_ret
        exact ⟨rfl, HB12.out⟩
end Go.Proofs.YtgchepkcjkhmmaaGreatDoor
