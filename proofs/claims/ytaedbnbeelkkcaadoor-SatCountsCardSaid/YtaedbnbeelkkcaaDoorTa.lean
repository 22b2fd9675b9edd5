/-
  WALKS of the law's slight, clauses, formulaOf.
-/
import Derived.Test.YtaedbnbeelkkcaaDoorRo
namespace Go.Proofs.YtaedbnbeelkkcaaDoor
open Go.RowKit
/-- what a formula weighs -/
def wtC (cs : List (List Int)) : Nat := (cs.map fun c => 1 + c.length).sum
theorem wtC_snoc (cs : List (List Int)) (x : List Int) : wtC (cs ++ [x]) = wtC cs + (1 + x.length) := by unfold wtC; simp
theorem wtC_take (cs : List (List Int)) (k : Nat) : wtC (cs.take k) ≤ wtC cs := by
  have e := List.take_append_drop k cs
  have : wtC cs = wtC (cs.take k) + wtC (cs.drop k) := by
    rw [show wtC cs = wtC (cs.take k ++ cs.drop k) by rw [e]]
    unfold wtC; rw [List.map_append, List.sum_append]
  omega
theorem wtC_len (cs : List (List Int)) : cs.length ≤ wtC cs := by
  induction cs with
  | nil => simp
  | cons x r ih => unfold wtC at ih ⊢; simp only [List.map_cons, List.sum_cons, List.length_cons]; omega
theorem wtC_mem {cs : List (List Int)} {x : List Int} (h : x ∈ cs) : x.length < wtC cs := by
  induction cs with
  | nil => cases h
  | cons y r ih =>
    unfold wtC at ih ⊢
    simp only [List.map_cons, List.sum_cons]
    rcases List.mem_cons.1 h with rfl | h
    · omega
    · have := ih h; omega
/-- the most that a call can be handed -/
def Fits (cs : List (List Int)) : Prop := cs.length ≤ 5864062014634 ∧ ∀ x ∈ cs, x.length ≤ 17592186043904
theorem wtC_most {K : Nat} : ∀ {cs : List (List Int)}, (∀ x ∈ cs, x.length ≤ K) → wtC cs ≤ cs.length * (K + 1)
  | [], _ => by simp [wtC]
  | x :: r, h => by
    have h1 := wtC_most (cs := r) fun y hy => h y (List.mem_cons_of_mem _ hy)
    have h2 := h x (by simp)
    have e : wtC (x :: r) = (1 + x.length) + wtC r := by unfold wtC; simp
    rw [e, List.length_cons, Nat.succ_mul]; omega
/-- where slight says yes and the formula has no more clauses than it may, it is slight -/
theorem fits_says {cs : List (List Int)} (hf : Fits cs) (hq : decide (IntKind.i64.wrap ((wtC cs : Nat) : Int) ≤ 500) = true) : cs.length ≤ 500000 → wtC cs ≤ 500 := fun h5 => by
  have h1 := wtC_most hf.2
  have h2 : cs.length * (17592186043904 + 1) ≤ 500000 * (17592186043904 + 1) := Nat.mul_le_mul_right _ h5
  have h3 := of_decide_eq_true hq
  rw [IntKind.wrap_i64] at h3
  omega
def SlR (W1 : World) (cs : List (List Int)) (nv iv : Value) (wr : World) : Prop := ∃ k : Nat, k ≤ cs.length ∧ iv = .int .i64 (k : Nat) ∧ nv = .int .i64 (IntKind.i64.wrap ((wtC (cs.take k) : Nat) : Int)) ∧ wr = W1
theorem slight_step (a b : Nat) : wrap64 (wrap64 (IntKind.i64.wrap (a : Int) + 1) + (b : Int)) = IntKind.i64.wrap ((a + (1 + b) : Nat) : Int) := by
  unfold wrap64
  simp only [IntKind.wrap_i64]; omega
set_option maxRecDepth 100000 in
set_option maxHeartbeats 1000000 in
theorem slight_any {w : World} {B : Nat} {v : Int} {A : Option Addr} {n c : Nat} {cs : List (List Int)} (hn : cs.length = n) (hw : Fits cs) (hr : ClsR w B A cs) (hB : B ≤ w.heap.size) :
    Calls Tryd.prog 6 #[.agg #[.int .i64 v, .slice A n c]] w fun e w' => e = .returned (.bool (decide (IntKind.i64.wrap ((wtC cs : Nat) : Int) ≤ 500))) ∧ Below w.heap.size w w' := by
  obtain ⟨W1, hW1⟩ : ∃ W1, W1 = w.alloc (.cells #[.int .i64 v, .slice A n c] 24) := ⟨_, rfl⟩
  have hb1 : Below w.heap.size w W1 := by rw [hW1]; exact (Below.refl _ _).alloc (Nat.le_refl _) _
  have k1 : Blk W1 w.heap.size 24 #[.int .i64 v, .slice A n c] := by rw [hW1]; exact Blk.new w _ _
  have HR := Lib.hid (hr.below (hb1.mono hB))
  have HB1 := Lib.hid hb1
  have HW1 := Lib.hid hW1
  have HN := Lib.hid hn
  have HWT := Lib.hid hw
  have hn60 : n ≤ 5864062014634 := by have := hw.1; omega
  have c1 := k1.cell 1
  clear hW1 hb1 k1 hr hw hB
  go_enter Tryd.func6, Tryd.ntmps6
  go_upto_region 1 with fail
  rw [← HW1.out]
  go_wp2_with fail
  go_loopw [3, 4] (fun nv iv wr => SlR W1 cs nv iv wr) (fun _ iv _ => cs.length - (intOf iv).toNat)
  case atStart => exact ⟨0, Nat.zero_le _, rfl, rfl, rfl⟩
  case round =>
    obtain ⟨k, hk, rfl, rfl, rfl⟩ := hrel
    rw [HN.out] at hk
    obtain ⟨t, ht⟩ : ∃ t : Int, IntKind.i64.wrap ((wtC (cs.take k) : Nat) : Int) = t := ⟨_, rfl⟩
    rw [ht]
    have HT := Lib.hid ht
    clear ht
    by_cases hk2 : k < n
    · obtain ⟨x, hx⟩ : ∃ x, cs[k]? = some x := ⟨_, List.getElem?_eq_getElem (by have := HN.out; omega)⟩
      obtain ⟨ad, hA, _, hc⟩ := HR.out (by have := HN.out; omega)
      subst hA
      obtain ⟨Ax, cx, hcell, _⟩ := hc k x hx
      have hxl : x.length ≤ 17592186043904 := HWT.out.2 x (List.mem_of_getElem? hx)
      have HX := Lib.hid hx
      clear hc hx
      go_wp2_with fail
      go_roundw
      case rel => exact ⟨k + 1, by have := HN.out; omega, by go_num, by rw [Gm.take_one HX.out, wtC_snoc, ← HT.out]; exact congrArg (Value.int .i64) (slight_step _ _), rfl⟩
      case measure => have := HN.out; simp [intOf]; omega
    · obtain rfl : n = k := by omega
      have ht2 := HT.out
      rw [List.take_of_length_le (by have := HN.out; omega)] at ht2
      have HT2 := Lib.hid ht2
      clear ht2
      obtain ⟨q, hq⟩ : ∃ q, decide (t ≤ 500) = q := ⟨_, rfl⟩
      have HQ := Lib.hid hq
      go_wp2_with fail
      go_ret
      exact ⟨by rw [HT2.out, HQ.out]; rfl, HB1.out⟩
theorem below_row0 {w w1 : World} (h : w.grownBy w1 none) : Below w.heap.size w w1 :=
  ⟨h.os, h.tape, h.output, h.size, fun k hk => h.block k hk (by simp)⟩
theorem lits_one (l : List Int) : ∀ u ∈ litVals l, u.oneCell' = true := fun u hu => by obtain ⟨x, _, rfl⟩ := List.mem_map.1 hu; rfl
def CaR (w : World) (cs : List (List Int)) (ov iv : Value) (wr : World) : Prop := ∃ (k : Nat) (A : Option Addr) (c : Nat), k ≤ cs.length ∧ iv = .int .i64 (k : Nat) ∧ ov = .slice A k c ∧ CsAt wr w.heap.size ov (cs.take k) ∧ Below w.heap.size w wr
def CaP (w : World) (cs : List (List Int)) (n : Nat) (e : Ending) (w' : World) : Prop := ∃ (A : Option Addr) (c : Nat), e = .returned (.slice A n c) ∧ CsAt w' w.heap.size (.slice A n c) cs ∧ Below w.heap.size w w'
set_option maxRecDepth 100000 in
set_option maxHeartbeats 2000000 in
theorem clauses_any {w : World} {B : Nat} {A : Option Addr} {n c : Nat} {cs : List (List Int)} (hn : cs.length = n) (hn5 : n ≤ 5864062014634) (hls : ∀ x ∈ cs, x.length ≤ 17592186043904) (hr : ClsR w B A cs) (hB : B ≤ w.heap.size) :
    Calls Tryd.prog 14 #[.slice A n c] w (CaP w cs n) := by
  obtain ⟨i0, hi0, hz0, hz1, hz2⟩ := info_parts infoIntR_
  have HIN := Lib.hid (show _ ∧ _ ∧ _ ∧ _ from ⟨hi0, hz0, hz1, hz2⟩)
  obtain ⟨ic, hi0', hz0', hz1', hz2'⟩ := info_parts infoClause_
  have HIC := Lib.hid (show _ ∧ _ ∧ _ ∧ _ from ⟨hi0', hz0', hz1', hz2'⟩)
  have HR := Lib.hid hr
  have HBB := Lib.hid hB
  have HN := Lib.hid hn
  have HLS := Lib.hid hls
  clear hi0 hz0 hz1 hz2 hi0' hz0' hz1' hz2' hr hB hls
  go_enter Tryd.func14, Tryd.ntmps14
  go_wp2_with fail
  go_loopw [3, 4] (fun ov iv wr => CaR w cs ov iv wr) (fun _ iv _ => cs.length - (intOf iv).toNat)
  case atStart => exact ⟨0, none, 0, Nat.zero_le _, rfl, rfl, CsAt.nil _ _, Below.refl _ _⟩
  case round =>
    obtain ⟨k, Ao, co, hk, rfl, rfl, hcs, hb⟩ := hrel
    rw [HN.out] at hk
    have HCS := Lib.hid hcs
    have HB := Lib.hid hb
    have hsw : w.heap.size ≤ wr.heap.size := hb.size
    clear hcs hb
    by_cases hk2 : k < n
    · obtain ⟨x, hx⟩ : ∃ x, cs[k]? = some x := ⟨_, List.getElem?_eq_getElem (by have := HN.out; omega)⟩
      obtain ⟨ad, hA, hadb, hc⟩ := (HR.out.below (HB.out.mono HBB.out)) (by have := HN.out; omega)
      subst hA
      obtain ⟨Ax, cx, hcell, hrx⟩ := hc k x hx
      obtain ⟨m, hm⟩ : ∃ m, x.length = m := ⟨_, rfl⟩
      have hm5 : m ≤ 17592186043904 := by rw [← hm]; exact HLS.out x (List.mem_of_getElem? hx)
      rw [hm] at hcell hrx
      have HRX := Lib.hid hrx
      have HX := Lib.hid (And.intro hx hm)
      have HBW := Lib.hid (Nat.le_trans HBB.out hsw)
      clear hc hrx hx hm hadb
      go_wp2_with (first
        | (at_builtin; refine wpList_append_sl _ rfl (.tmp 13) (.tmp 17) _ rfl wr.heap.size 3 i0 _ 1 8 Tryd.underlying26 HIN.out.1 HIN.out.2.1 HIN.out.2.2.1 HIN.out.2.2.2 rfl (by omega) _ 0 [] rfl (World.ownsRow_nil _ _ _ _) B Ax m cx (litVals x) rfl HRX.out (lits_one x) (by unfold maxLen; omega) (by omega) (Nat.le_refl _) ?_; rw [Nat.zero_add, List.nil_append]; intro A5 c5 w5 hown5 hg5; have hb5 : Below wr.heap.size wr w5 := below_row0 hg5; have HCS5 := Lib.hid (HCS.out.chg hb5); have HB5 := Lib.hid (HB.out.trans (hb5.mono HB.out.size)); have HOX := Lib.hid (own_base hown5 hsw); have hs5 : wr.heap.size ≤ w5.heap.size := hb5.size; obtain ⟨rows, hrow, hcl⟩ := HCS5.out; have htl : (cs.take k).length = k := (by rw [List.length_take, HN.out]; omega); rw [htl] at hrow; have HROW := Lib.hid hrow; have HCL := Lib.hid hcl; have HTL := Lib.hid htl; clear hown5 hg5 hb5 hrow hcl htl)
        | (at_builtin; refine wpList_append_sl _ rfl (.tmp 12) (.tmp 19) _ rfl w.heap.size 26 ic _ 1 24 Tryd.underlying22 HIC.out.1 HIC.out.2.1 HIC.out.2.2.1 HIC.out.2.2.2 rfl (by omega) _ k _ rfl (HROW.out.alloc _) (w5.heap.size + 1) (some ⟨w5.heap.size, 0, none⟩) 1 1 [.slice A5 m c5] rfl (reads_new rfl (by omega) rfl) (fun u hu => by rw [List.mem_singleton.1 hu]; rfl) (by unfold maxLen; omega) (by omega) (by simp; omega) ?_; intro A6 c6 w6 hown6 hg6))
      have hg7 : (w5.alloc (.cells #[.slice A5 m c5] 26)).grownBy w6 (Value.slice Ao k co).ownBlock := hg6
      have HB6 := Lib.hid (own_grown_below0 HB5.out HROW.out (Nat.le_refl _) hg7)
      have HC6 := Lib.hid (CsAt.more (new := [x]) (news := [.slice A5 m c5]) (by rw [HTL.out]; exact HROW.out) HCL.out (fun i l hl => by
        match i, hl with
        | 0, hl => obtain rfl : x = l := by simpa using hl
                   exact ⟨_, rfl, by rw [HX.out.2]; exact HOX.out⟩) hg7 (by rw [HTL.out]; exact hown6))
      clear hown6 hg6 hg7
      go_wp2_with fail
      go_roundw
      case rel => exact ⟨k + 1, A6, c6, by have := HN.out; omega, by go_num, rfl, by rw [Gm.take_one HX.out.1]; exact HC6.out, HB6.out⟩
      case measure => have := HN.out; simp [intOf]; omega
    · obtain rfl : n = k := by omega
      have hcs := HCS.out
      rw [List.take_of_length_le (by have := HN.out; omega)] at hcs
      have HC2 := Lib.hid hcs
      clear hcs
      go_wp2_with fail
      go_ret
      exact ⟨Ao, co, rfl, HC2.out, HB.out⟩
theorem csat_base {w : World} {base base2 : Nat} {v : Value} {cs : List (List Int)} (h : CsAt w base v cs) (hb : base2 ≤ base) : CsAt w base2 v cs := by
  obtain ⟨rows, h1, h2⟩ := h
  exact ⟨rows, own_base h1 hb, fun i l hi => by obtain ⟨u, h3, h4⟩ := h2 i l hi; exact ⟨u, h3, own_base h4 hb⟩⟩
def FmP (w : World) (v : Int) (cs : List (List Int)) (n : Nat) (e : Ending) (w' : World) : Prop := ∃ (A : Option Addr) (c : Nat), e = .returned (.agg #[.int .i64 v, .slice A n c]) ∧ CsAt w' w.heap.size (.slice A n c) cs ∧ Below w.heap.size w w'
set_option maxRecDepth 100000 in
set_option maxHeartbeats 2000000 in
theorem formulaOf_any {w : World} {B : Nat} {v : Int} {A : Option Addr} {n c : Nat} {cs : List (List Int)} (hn : cs.length = n) (hn5 : n ≤ 5864062014634) (hls : ∀ x ∈ cs, x.length ≤ 17592186043904) (hr : ClsR w B A cs) (hB : B ≤ w.heap.size) :
    Calls Tryd.prog 7 #[.agg #[.int .i64 v, .slice A n c]] w (FmP w v cs n) := by
  obtain ⟨W1, hW1⟩ : ∃ W1, W1 = ((w.alloc (.cells #[.int .i64 v, .slice A n c] 24)).alloc (.cells #[.int .i64 0, .slice none 0 0] 29)).alloc (.cells #[.int .i64 v, .slice none 0 0] 29) := ⟨_, rfl⟩
  have hb1 : Below w.heap.size w W1 := by rw [hW1]; exact bal0 (bal0 (bal0 (Below.refl _ _) _) _) _
  have k1 : Blk W1 w.heap.size 24 #[.int .i64 v, .slice A n c] := by rw [hW1]; exact ((Blk.new w _ _).alloc _).alloc _
  have k2 : Blk W1 (w.heap.size + 1) 29 #[.int .i64 0, .slice none 0 0] := by
    rw [hW1]
    have h := Blk.new (w.alloc (.cells #[.int .i64 v, .slice A n c] 24)) 29 #[.int .i64 0, .slice none 0 0]
    exact (show Blk _ (w.heap.size + 1) _ _ by simpa using h).alloc _
  have k3 : Blk W1 (w.heap.size + 1 + 1) 29 #[.int .i64 v, .slice none 0 0] := by
    rw [hW1]
    have h := Blk.new ((w.alloc (.cells #[.int .i64 v, .slice A n c] 24)).alloc (.cells #[.int .i64 0, .slice none 0 0] 29)) 29 #[.int .i64 v, .slice none 0 0]
    simpa using h
  have C := Lib.hid (clauses_any (c := c) hn hn5 hls (hr.below (hb1.mono hB)) (Nat.le_trans hB hb1.size))
  have HW1 := Lib.hid hW1
  have HB1 := Lib.hid hb1
  have HK1 := Lib.hid k1
  have HK2 := Lib.hid k2
  have HK3 := Lib.hid k3
  clear hW1 hb1 k1 k2 k3 hr hB hls hn
  go_enter Tryd.func7, Tryd.ntmps7
  go_upto_region 2 with fail
  rw [← HW1.out]
  have c1 := HK1.out.cell 1
  go_wp2_with fail
  clear c1
  refine C.out.mono ?_
  rintro e w2 ⟨Ao, co, rfl, hcs, hb2⟩
  have HB2 := Lib.hid (HB1.out.trans (hb2.mono HB1.out.size))
  have HK22 := Lib.hid (HK2.out.below hb2 HK2.out.lt)
  have HK32 := Lib.hid (HK3.out.below hb2 HK3.out.lt)
  have HCS := Lib.hid hcs
  have hss := HB1.out.size
  clear hb2 hcs
  have y0 := HK32.out.cell 0
  have y1 := HK32.out.cell 1
  have f1 := HK32.out.frozen 1
  obtain ⟨W3, hW3⟩ : ∃ W3, W3 = w2.setCell ⟨w.heap.size + 1 + 1, 1, none⟩ (.slice Ao n co) := ⟨_, rfl⟩
  have k33 : Blk W3 (w.heap.size + 1 + 1) 29 #[.int .i64 v, .slice Ao n co] := by rw [hW3]; exact HK32.out.set_ 1 _
  have k23 : Blk W3 (w.heap.size + 1) 29 #[.int .i64 0, .slice none 0 0] := by rw [hW3]; exact HK22.out.far (p := ⟨w.heap.size + 1 + 1, 1, none⟩) (by show w.heap.size + 1 ≠ w.heap.size + 1 + 1; omega) _
  have hb3 : Below w.heap.size w W3 := by rw [hW3]; exact HB2.out.setCell (by show w.heap.size ≤ w.heap.size + 1 + 1; omega) _
  have hcs3 : CsAt W3 W1.heap.size (.slice Ao n co) cs := by rw [hW3]; exact HCS.out.far HK32.out (by decide) (by decide) 1 _
  have HW3 := Lib.hid hW3
  have HK33 := Lib.hid k33
  have HK23 := Lib.hid k23
  have HB3 := Lib.hid hb3
  have HCS3 := Lib.hid hcs3
  clear hW3 k33 k23 hb3 hcs3
  go_upto_region 3 with fail
  rw [← HW3.out]
  clear y0 y1 f1
  have y0 := HK33.out.cell 0
  have y1 := HK33.out.cell 1
  have z0 := HK23.out.cell 0
  have z1 := HK23.out.cell 1
  have f0 := HK23.out.frozen 0
  have f1 := HK23.out.frozen 1
  obtain ⟨W9, hW9⟩ : ∃ W9, W9 = (W3.setCell ⟨w.heap.size + 1, 0, none⟩ (.int .i64 v)).setCell ⟨w.heap.size + 1, 1, none⟩ (.slice Ao n co) := ⟨_, rfl⟩
  have x9 : Blk W9 (w.heap.size + 1) 29 #[.int .i64 v, .slice Ao n co] := by rw [hW9]; exact (HK23.out.set_ 0 _).set_ 1 _
  have HB9 := Lib.hid (show Below w.heap.size w W9 by rw [hW9]; exact (HB3.out.setCell (by show w.heap.size ≤ w.heap.size + 1; omega) _).setCell (by show w.heap.size ≤ w.heap.size + 1; omega) _)
  have HC9 := Lib.hid (show CsAt W9 W1.heap.size (.slice Ao n co) cs by rw [hW9]; exact (HCS3.out.far HK23.out (by decide) (by decide) 0 _).far (HK23.out.set_ 0 _) (by decide) (by decide) 1 _)
  have x90 := x9.cell 0
  have x91 := x9.cell 1
  have HW9 := Lib.hid hW9
  clear hW9 x9
  go_wp2_with fail
  rw [← HW9.out]
  exact bodyPost_ret (v := .agg #[.int .i64 v, .slice Ao n co]) (by simp [results, Tryd.results7, go_sem, x90, x91]) rfl ⟨Ao, co, rfl, csat_base HC9.out hss, HB9.out⟩
end Go.Proofs.YtaedbnbeelkkcaaDoor
