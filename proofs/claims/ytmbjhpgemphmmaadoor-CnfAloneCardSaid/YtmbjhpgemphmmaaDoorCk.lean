/-
  THE WALK of the law CnfAlone.
-/
import Derived.Test.YtmbjhpgemphmmaaDoorCf
import Derived.Test.YtmbjhpgemphmmaaDoorCq
import Derived.Test.YtmbjhpgemphmmaaDoorSi
import Derived.Test.YtmbjhpgemphmmaaDoorTx
import Derived.Test.YtmbjhpgemphmmaaDoorHt
namespace Go.Proofs.YtmbjhpgemphmmaaDoor
open Go.RowKit
def litTo (k : Nat) : List Nat := (List.range k).map fun j => 2 * j + 2
theorem litTo_succ (k : Nat) : litTo (k + 1) = litTo k ++ [2 * k + 2] := by unfold litTo; rw [List.range_succ, List.map_append]; rfl
theorem litTo_at {k j : Nat} (h : j < k) : (litTo k)[j]? = some (2 * j + 2) := by unfold litTo; rw [List.getElem?_map, List.getElem?_range h]; rfl
namespace Cn
theorem inps_at {m i : Nat} {g : Gm.Gate} (h : (inps m)[i]? = some g) : g.inp = true := by
  unfold inps at h
  rw [List.eq_of_mem_replicate (List.mem_of_getElem? h)]
theorem alone_reach {m q n : Nat} (h : Reach (inps m) [2 * q + 2, 2 * q + 3] n) : n = q + 1 := by
  cases h with
  | root hr h1 =>
    simp only [List.mem_cons, List.not_mem_nil, or_false] at hr
    rcases hr with rfl | rfl <;> omega
  | left _ hg hi => rw [inps_at hg] at hi; cases hi
  | right _ hg hi => rw [inps_at hg] at hi; cases hi
theorem alone_need {m q : Nat} {nl : List Bool} (hs : ∀ n, nl[n]? = some true ↔ (1 ≤ n ∧ Reach (inps m) [2 * q + 2, 2 * q + 3] n)) (n : Nat) : nl[n]? = some true ↔ n = q + 1 := by
  rw [hs]
  constructor
  · exact fun h => alone_reach h.2
  · rintro rfl
    refine ⟨by omega, ?_⟩
    have h := Reach.root (gs := inps m) (rs := [2 * q + 2, 2 * q + 3]) (r := 2 * q + 2) (by simp) (by omega)
    rwa [show (2 * q + 2) / 2 = q + 1 by omega] at h
theorem alone_cnt {q : Nat} {nl : List Bool} (hn : ∀ n, nl[n]? = some true ↔ n = q + 1) : ∀ k, k ≤ nl.length → cnt nl k = if q + 1 < k then 1 else 0
  | 0, _ => by simp [cnt]
  | k + 1, hk => by
    have ih := alone_cnt hn k (by omega)
    obtain ⟨b, hb⟩ : ∃ b, nl[k]? = some b := ⟨_, List.getElem?_eq_getElem (by omega)⟩
    rw [cnt_succ hb, ih]
    cases b with
    | true =>
      have := (hn k).1 hb
      subst this
      simp
    | false =>
      have h1 : k ≠ q + 1 := fun e => by have := (hn k).2 e; rw [hb] at this; cases this
      simp only [Bool.false_eq_true, if_false, Nat.add_zero]
      split <;> split <;> omega
theorem alone_gates {m : Nat} (nl : List Bool) : gatesC nl 0 (inps m) = [] := by
  have h : ∀ (l : List Gm.Gate) (n : Nat), (∀ g ∈ l, g.inp = true) → gatesC nl n l = [] := by
    intro l
    induction l with
    | nil => intros; rfl
    | cons g l ih =>
      intro n hl
      have h0 : gateC nl n g = [] := by unfold gateC; rw [if_neg]; rw [hl g (by simp)]; simp
      simp only [gatesC, h0, List.nil_append]
      exact ih (n + 1) fun x hx => hl x (by simp [hx])
  refine h _ _ fun g hg => ?_
  unfold inps at hg
  rw [List.eq_of_mem_replicate hg]
theorem alone_all {m q : Nat} {nl : List Bool} (hl : nl.length = m + 1) (hq : q < m) (hs : ∀ n, nl[n]? = some true ↔ (1 ≤ n ∧ Reach (inps m) [2 * q + 2, 2 * q + 3] n)) :
    cnt nl (m + 1) = 1 ∧ clausesC (inps m) nl [2 * q + 2, 2 * q + 3] = [[1], [-1]] ∧ (nums nl)[q + 1]? = some 1 := by
  have hn := alone_need hs
  have hc := alone_cnt hn
  have hz : numAt nl (q + 1) = 1 := by
    unfold numAt; rw [if_pos ((hn _).2 rfl), hc _ (by omega), if_pos (by omega)]
  refine ⟨by rw [hc _ (by omega), if_pos (by omega)], ?_, ?_⟩
  · unfold clausesC
    rw [alone_gates, List.nil_append]
    unfold rootsC rootC
    simp only [List.map_cons, List.map_nil]
    rw [if_neg (by omega), if_neg (by omega), if_neg (by omega), if_neg (by omega)]
    unfold litN
    rw [show (2 * q + 2) / 2 = q + 1 by omega, show (2 * q + 3) / 2 = q + 1 by omega, hz, if_neg (by omega), if_pos (by omega)]
    rfl
  · unfold nums; rw [numTo_get (by omega), if_pos (by omega), hz]
end Cn
set_option maxHeartbeats 1000000 in
theorem calone_out {w : World} {many which : Int} (h : many < 1 ∨ 50 < many ∨ which < 0 ∨ many ≤ which) :
    Calls Tryd.prog 3 #[.int .i64 many, .int .i64 which] w (LPost w) := by
  have CT := Lib.hid (texted_any w)
  have key : many < 1 ∨ (¬ many < 1 ∧ 50 < many) ∨ (¬ many < 1 ∧ ¬ 50 < many ∧ which < 0) ∨ (¬ many < 1 ∧ ¬ 50 < many ∧ ¬ which < 0 ∧ many ≤ which) := by omega
  clear h
  rcases key with e0 | ⟨e0, e1⟩ | ⟨e0, e1, e2⟩ | ⟨e0, e1, e2, e3⟩
  all_goals
    go_enter Tryd.func3, Tryd.ntmps3
    go_wp2_with fail
    refine CT.out.mono ?_
    rintro e w1 ⟨rfl, hb⟩
    have HB := Lib.hid hb
    clear hb
    go_wp2
    go_ret
    exact ⟨rfl, HB.out⟩
theorem reads_blk {w : World} {g t : Nat} {cs : List Value} (h : Blk w g t cs.toArray) : Reads w (g + 1) 1 (some ⟨g, 0, none⟩) cs.length cs := by
  refine ⟨by omega, fun _ => ⟨_, rfl, by simp, fun j u hu => ?_⟩⟩
  have e : (⟨g, 0, none⟩ : Addr).add j = ⟨g, j, none⟩ := by unfold Addr.add; split <;> simp_all
  rw [e, h.cell, List.getElem?_toArray]; exact hu
/-- cnf.Of of an input and of it turned -/
def CaP (W : World) (k q : Nat) (e : Ending) (w' : World) : Prop :=
  ∃ (Ac An : Option Addr) (cc cn : Nat) (l : List Nat), e = .returned (.tuple #[.agg #[.int .i64 1, .slice Ac 2 cc], .slice An (k + 1) cn, .nilIface]) ∧ Below W.heap.size W w' ∧
    CsAt w' W.heap.size (.slice Ac 2 cc) [[1], [-1]] ∧ l[q + 1]? = some 1 ∧ intOwn w' W.heap.size (.slice An (k + 1) cn) (k + 1) l
theorem cof_alone {w : World} {B b k q x y g : Nat} (h : GA w B b (inps k)) (hq : q < k) (hk : k ≤ 50) (hx : 2 * q + 2 = x) (hy : 2 * q + 3 = y) (hb : Blk w g 29 #[.int .i64 (x : Nat), .int .i64 (y : Nat)]) :
    Calls Tryd.prog 11 #[.pointer (some ⟨b, 0, none⟩), .slice (some ⟨g, 0, none⟩) 2 2] w (CaP w k q) := by
  subst hx hy
  have hr : Reads w (g + 1) 1 (some ⟨g, 0, none⟩) [2 * q + 2, 2 * q + 3].length (natVals [2 * q + 2, 2 * q + 3]) := reads_blk (cs := natVals [2 * q + 2, 2 * q + 3]) hb
  refine (cof_any (c := 2) h hr (by have := hb.lt; omega) (fun r hr => ?_) (by simp) (by rw [inps_length]; omega)).mono ?_
  · simp only [List.mem_cons, List.not_mem_nil, or_false] at hr
    unfold Gm.has
    rw [inps_length]
    rcases hr with rfl | rfl <;> omega
  · rintro e w' ⟨nl, Ac, An, cc, cn, hs, hl, rfl, hb', hc, ho⟩
    rw [inps_length] at hl ho
    obtain ⟨h1, h2, h3⟩ := Cn.alone_all hl hq hs
    rw [h2] at hc
    refine ⟨Ac, An, cc, cn, _, ?_, hb', hc, h3, ho⟩
    rw [inps_length, h1, h2]; rfl
/-- what is left behind the call -/
def CaC (W : World) (k q : Nat) (fv nv ev : Value) (wx : World) : Prop :=
  ∃ (bf b1 b2 : Nat) (Ac An : Option Addr) (cc cn : Nat) (l : List Nat), fv = .pointer (some ⟨bf, 0, none⟩) ∧ nv = .slice An (k + 1) cn ∧ ev = .nilIface ∧ Below W.heap.size W wx ∧ Blk wx bf 36 #[.int .i64 1, .slice Ac 2 cc] ∧
    CsAt wx b1 (.slice Ac 2 cc) [[1], [-1]] ∧ l[q + 1]? = some 1 ∧ intOwn wx b2 (.slice An (k + 1) cn) (k + 1) l
def AloR (W : World) (B b m : Nat) (lv iv : Value) (wr : World) : Prop :=
  ∃ k : Nat, k ≤ m ∧ iv = .int .i64 k ∧ (∃ A c, lv = .slice A k c) ∧ GA wr B b (inps k) ∧ Chg (GT B) W wr ∧ wr.ownsRow W.heap.size 29 1 lv k (natVals (litTo k))
attribute [local irreducible] wpTr
set_option maxRecDepth 100000 in
set_option maxHeartbeats 4000000 in
theorem calone_in {w : World} {m q : Nat} (hm : 1 ≤ m) (hm2 : m ≤ 50) (hq : q < m) :
    Calls Tryd.prog 3 #[.int .i64 (m : Nat), .int .i64 (q : Nat)] w (LPost w) := by
  have CT := Lib.hid (texted_any w)
  obtain ⟨i0, hi0, hz0, hz1, hz2⟩ := info_parts infoLit_
  have HIN := Lib.hid (show _ ∧ _ ∧ _ ∧ _ from ⟨hi0, hz0, hz1, hz2⟩)
  have e0 : decide ((m : Int) < 1) = false := decide_eq_false (by omega)
  have e1 : decide ((50 : Int) < (m : Int)) = false := decide_eq_false (by omega)
  have e2 : decide ((q : Int) < 0) = false := decide_eq_false (by omega)
  have e3 : decide (m ≤ q) = false := decide_eq_false (by omega)
  clear hi0 hz0 hz1 hz2
  go_enter Tryd.func3, Tryd.ntmps3
  go_wp2_with fail
  refine CT.out.mono ?_
  rintro e w1 ⟨rfl, hb⟩
  have HB := Lib.hid hb
  clear hb
  obtain ⟨W2, hW2⟩ : ∃ W2, W2 = w1.alloc (.cells #[.slice none 0 0, .int .i64 0, .map none] 27) := ⟨_, rfl⟩
  have HG := Lib.hid (show GA W2 w1.heap.size w1.heap.size (inps 0) by rw [hW2]; exact ga_new w1 (Nat.le_refl _))
  have HB2 := Lib.hid (show Below w1.heap.size w1 W2 by rw [hW2]; exact (Below.refl _ _).alloc (Nat.le_refl _) _)
  have HW2 := Lib.hid hW2
  clear hW2
  go_wp2_with fail
  rw [← HW2.out]
  go_loopw [7, 8] (fun lv iv wr => AloR W2 w1.heap.size w1.heap.size m lv iv wr) (fun _ iv _ => m - (intOf iv).toNat)
  case atStart => exact ⟨0, Nat.zero_le _, rfl, ⟨none, 0, rfl⟩, HG.out, Chg.refl _ _, World.ownsRow_nil _ _ _ _⟩
  case round =>
    obtain ⟨k, hk, rfl, ⟨Al, cl, rfl⟩, hg, hch, hown⟩ := hrel
    by_cases hkm : k < m
    · have C := input_ga hg (by rw [inps_length]; omega)
      rw [inps_succ] at C
      obtain ⟨lx, hlx⟩ : ∃ lx, 2 * k + 2 = lx := ⟨_, rfl⟩
      rw [hlx] at C
      have C := Lib.hid C
      have HLX := Lib.hid hlx
      have HC := Lib.hid hch
      have HO := Lib.hid hown
      clear hg hch hown hlx
      go_wp2_with fail
      refine C.out.mono ?_
      rintro e w2 ⟨rfl, h1, h2⟩
      have HG2 := Lib.hid h1
      have HC2 := Lib.hid (HC.out.trans h2)
      have HO2 := Lib.hid (own_gt HO.out h2)
      have hs2 : W2.heap.size ≤ w2.heap.size := HC2.out.size
      clear h1 h2
      go_wp2_with (at_builtin; refine wpList_append_sl _ rfl (.tmp 49) (.tmp 51) _ rfl W2.heap.size 29 i0 _ 1 8 Tryd.underlying28 HIN.out.1 HIN.out.2.1 HIN.out.2.2.1 HIN.out.2.2.2 rfl (by omega) _ k _ rfl (HO2.out.alloc _) (w2.heap.size + 1) (some ⟨w2.heap.size, 0, none⟩) 1 1 [.int .i64 (lx : Int)] rfl (reads_new rfl (by omega) rfl) (ints_one (by simp)) (le_maxLen (by omega)) (le_bytes (by omega) (by omega)) (by simp; omega) ?_; intro A5 c5 w5 hown5 hg5)
      have hg6 : (w2.alloc (.cells #[.int .i64 (lx : Int)] 29)).grownBy w5 (Value.slice Al k cl).ownBlock := hg5
      have HG5 := Lib.hid (HG2.out.row (row_chg HO2.out hg6))
      have HC5 := Lib.hid (gt_grown HC2.out HO2.out (Nat.le_refl _) hg6)
      have HO5 := Lib.hid (show w5.ownsRow W2.heap.size 29 1 (.slice A5 (k + 1) c5) (k + 1) (natVals (litTo (k + 1))) by rw [litTo_succ, HLX.out, natVals_append]; exact hown5)
      clear hown5 hg5 hg6
      go_wp2_with fail
      go_roundw
      case rel => exact ⟨k + 1, by omega, by go_num, ⟨_, _, rfl⟩, HG5.out, HC5.out, HO5.out⟩
      case measure => simp [intOf]; omega
    · obtain rfl : k = m := by omega
      obtain ⟨ga, rfl, _, hga⟩ := own_some hown (by omega)
      obtain ⟨u, hu, cq⟩ := own_cell (k := q) hown hq
      obtain rfl : Value.int .i64 ((2 * q + 2 : Nat) : Int) = u := by
        rw [natVals_at (litTo_at hq)] at hu; injection hu
      obtain ⟨x, hx⟩ : ∃ x, 2 * q + 2 = x := ⟨_, rfl⟩
      rw [hx] at cq
      have hx9 : x ≤ 200 := by omega
      have hqI : (q : Int) < (k : Int) := by omega
      have HBL := Lib.hid (show Below w.heap.size w wr from HB.out.trans (((HB2.out.trans (GT.below hch HB2.out.size))).mono HB.out.size))
      have HGX := Lib.hid hg
      have HX := Lib.hid hx
      clear hg hch hown hu hx
      obtain ⟨y, hy⟩ : ∃ y, 2 * q + 3 = y := ⟨_, rfl⟩
      have hnx : Gm.notL x = y := by unfold Gm.notL; rw [← HX.out, if_pos (by omega)]; omega
      have CN := Lib.hid (show ∀ wv, Calls Tryd.prog 12 #[.int .i64 (x : Nat)] wv fun e w' => e = .returned (.int .i64 (y : Nat)) ∧ wv = w' from fun wv => by rw [← hnx]; exact not_any x wv (by omega))
      have HCQ := Lib.hid (show ∀ w', Below wr.heap.size wr w' → w'.cell? ⟨ga, q, none⟩ = some (.int .i64 (x : Nat)) from fun w' hb => (hb.cell (p := ⟨ga, q, none⟩) hga).trans cq)
      have HCO := Lib.hid (show ∀ w' g, Below wr.heap.size wr w' → Blk w' g 29 #[.int .i64 (x : Nat), .int .i64 (y : Nat)] → Calls Tryd.prog 11 #[.pointer (some ⟨w1.heap.size, 0, none⟩), .slice (some ⟨g, 0, none⟩) 2 2] w' (CaP w' k q) from
        fun w' g hb hk => cof_alone (HGX.out.new hb) hq (by omega) HX.out hy hk)
      clear hy hnx
      go_upto_region 13 with fail
      go_cut [11, 12, 13] (fun fv nv ev wx => CaC w k q fv nv ev wx)
      case first =>
        refine wp_region_tr (S := fun w' => w'.cell? ⟨ga, q, none⟩ = some (.int .i64 (x : Nat))) 19 (.f 0 (.f 1 (.f 2 (.f 3 (.f 4 (.f 5 (.f 6 (.f 7 (.f 8 (.f 9 (.br 10 (.br 11 (.f 12 (.f 13 (.f 14 (.f 15 (.t 16 (.t 17 (.f 18 (.t 19 .nil)))))))) 16 (.t 11 (.f 12 (.f 13 (.f 14 (.f 15 (.t 17 (.f 18 (.t 19 .nil))))))))) 16 (.t 10 (.t 11 (.f 12 (.f 13 (.f 14 (.f 15 (.t 17 (.f 18 (.t 19 .nil)))))))))))))))))))) (by kernel_rfl) (by kernel_rfl) (by kernel_rfl) cq ?_
        iterate 9 (refine tr_take _ _ rfl (by kernel_rfl) (fun wv hv => by have hv1 := hv; clear hv; go_simp; try with_reducible rfl) ?_; simp only [Act.put, List.getElem_toArray, List.getElem_cons_zero, List.getElem_cons_succ, List.setIfInBounds_toArray, List.set_cons_zero, List.set_cons_succ])
        refine tr_quiet _ _ _ _ rfl (by kernel_rfl) (fun wv hv => by go_simp; try with_reducible rfl) (fun wv hv => CN.out wv) ?_
        simp only [Act.put, List.getElem_toArray, List.getElem_cons_zero, List.getElem_cons_succ, List.setIfInBounds_toArray, List.set_cons_zero, List.set_cons_succ]
        refine tr_br _ _ rfl rfl (fun K hK => ?_) (fun K hK => ?_)
        · obtain ⟨W6, hW6⟩ : ∃ W6, W6 = (wr.alloc (.cells #[.int .i64 (x : Nat), .int .i64 (y : Nat)] 29)).drew := ⟨_, rfl⟩
          have hb6 : Below wr.heap.size wr W6 := by rw [hW6]; exact below_drewN ((Below.refl _ _).alloc (Nat.le_refl _) _) 1
          have k6 : Blk W6 wr.heap.size 29 #[.int .i64 (x : Nat), .int .i64 (y : Nat)] := by rw [hW6]; exact (Blk.new wr _ _).drew
          have HW6 := Lib.hid hW6
          have HB6 := Lib.hid hb6
          have HK6 := Lib.hid k6
          clear hW6 hb6 k6
          go_simp
          rw [← HW6.out]
          refine hK _ _ (.inr (HCQ.out _ HB6.out)) ?_
          clear hK K
          refine tr_br _ _ rfl rfl (fun K hK => ?_) (fun K hK => ?_)
          · go_simp
            refine (HCO.out _ _ HB6.out HK6.out).mono ?_
            rintro e w7 ⟨Ac, An, cc, cn, l, rfl, hb7, hc7, hl7, ho7⟩
            have HP7 := Lib.hid (And.intro hc7 (And.intro hl7 ho7))
            have HB7 := Lib.hid (HB6.out.trans (hb7.mono HB6.out.size))
            clear hc7 hl7 ho7 hb7
            refine hK _ _ (.inr (HCQ.out _ HB7.out)) ?_
            clear hK K
            iterate 4 (refine tr_take _ _ rfl (by kernel_rfl) (fun wv hv => by go_simp; try with_reducible rfl) ?_; simp only [Act.put, List.getElem_toArray, List.getElem_cons_zero, List.getElem_cons_succ, List.setIfInBounds_toArray, List.set_cons_zero, List.set_cons_succ])
            obtain ⟨W8, hW8⟩ : ∃ W8, W8 = w7.alloc (.cells #[.int .i64 0, .slice none 0 0] 36) := ⟨_, rfl⟩
            have hb8 : Below wr.heap.size wr W8 := by rw [hW8]; exact HB7.out.alloc HB7.out.size _
            have f8 : Blk W8 w7.heap.size 36 #[.int .i64 0, .slice none 0 0] := by rw [hW8]; exact Blk.new w7 _ _
            have hn8 : Below w7.heap.size w7 W8 := by rw [hW8]; exact (Below.refl _ _).alloc (Nat.le_refl _) _
            have HW8 := Lib.hid hW8
            have HB8 := Lib.hid hb8
            have HF8 := Lib.hid f8
            have HN8 := Lib.hid hn8
            clear hW8 hb8 f8 hn8
            obtain ⟨bf, hbf⟩ : ∃ bf, w7.heap.size = bf := ⟨_, rfl⟩
            rw [hbf] at HF8
            refine tr_act _ rfl (fun K hK => ?_)
            go_simp
            rw [← HW8.out]
            refine hK _ _ (.inr (HCQ.out _ HB8.out)) ?_
            clear hK K
            have c80 := HF8.out.cell 0
            have c81 := HF8.out.cell 1
            have g80 := HF8.out.frozen 0
            have g81 := HF8.out.frozen 1
            have hgb : wr.heap.size ≤ bf := by have := HB7.out.size; omega
            have HB9 := Lib.hid (show Below wr.heap.size wr ((W8.setCell ⟨bf, 0, none⟩ (.int .i64 1)).setCell ⟨bf, 1, none⟩ (.slice Ac 2 cc)) from (HB8.out.setCell hgb _).setCell hgb _)
            have HBF := Lib.hid hbf
            clear hbf
            refine tr_act _ rfl (fun K hK => ?_)
            go_simp
            refine hK _ _ (.inr (HCQ.out _ HB9.out)) ?_
            clear hK K c80 c81 g80 g81
            iterate 1 (refine tr_take _ _ rfl (by kernel_rfl) (fun wv hv => by go_simp; try with_reducible rfl) ?_; simp only [Act.put, List.getElem_toArray, List.getElem_cons_zero, List.getElem_cons_succ, List.setIfInBounds_toArray, List.set_cons_zero, List.set_cons_succ])
            refine tr_act _ rfl (fun K hK => ?_)
            go_simp
            go_simp
            refine hK _ _ (.inl rfl) ?_
            clear hK K
            refine tr_nil ?_
            go_wp2_with fail
            go_meet
            have hn9 : Below w7.heap.size w7 ((W8.setCell ⟨bf, 0, none⟩ (.int .i64 1)).setCell ⟨bf, 1, none⟩ (.slice Ac 2 cc)) := (HN8.out.setCell (Nat.le_of_eq HBF.out) _).setCell (Nat.le_of_eq HBF.out) _
            exact ⟨bf, _, _, Ac, An, cc, cn, l, rfl, rfl, rfl, HBL.out.trans (HB9.out.mono HBL.out.size), (HF8.out.set_ 0 _).set_ 1 _, HP7.out.1.chg hn9, HP7.out.2.1, own_chg (S := fun _ _ => False) HP7.out.2.2 (Chg.of_new hn9) (fun _ _ _ _ hs => hs)⟩
          · obtain ⟨W7, hW7⟩ : ∃ W7, W7 = W6.alloc (.cells #[.int .i64 0, .slice none 0 0] 36) := ⟨_, rfl⟩
            have hb7 : Below wr.heap.size wr W7 := by rw [hW7]; exact HB6.out.alloc HB6.out.size _
            have k7 : Blk W7 wr.heap.size 29 #[.int .i64 (x : Nat), .int .i64 (y : Nat)] := by rw [hW7]; exact HK6.out.alloc _
            have f7 : Blk W7 W6.heap.size 36 #[.int .i64 0, .slice none 0 0] := by rw [hW7]; exact Blk.new W6 _ _
            have HW7 := Lib.hid hW7
            have HB7 := Lib.hid hb7
            have HK7 := Lib.hid k7
            have HF7 := Lib.hid f7
            have hgbl := HB6.out.size
            clear hW7 hb7 k7 f7
            obtain ⟨bf, hbf⟩ : ∃ bf, W6.heap.size = bf := ⟨_, rfl⟩
            rw [hbf] at HF7 hgbl
            have HGB := Lib.hid hgbl
            clear hgbl
            go_simp
            rw [← HW7.out]
            refine hK _ _ (.inr (HCQ.out _ HB7.out)) ?_
            clear hK K hbf
            refine tr_act _ rfl (fun K hK => ?_)
            go_simp
            refine (HCO.out _ _ HB7.out HK7.out).mono ?_
            rintro e w8 ⟨Ac, An, cc, cn, l, rfl, hb8, hc8, hl8, ho8⟩
            have HP8 := Lib.hid (And.intro hc8 (And.intro hl8 ho8))
            have HB8 := Lib.hid (HB7.out.trans (hb8.mono HB7.out.size))
            have HF8 := Lib.hid (HF7.out.below hb8 HF7.out.lt)
            clear hc8 hl8 ho8 hb8
            refine hK _ _ (.inr (HCQ.out _ HB8.out)) ?_
            clear hK K
            iterate 4 (refine tr_take _ _ rfl (by kernel_rfl) (fun wv hv => by go_simp; try with_reducible rfl) ?_; simp only [Act.put, List.getElem_toArray, List.getElem_cons_zero, List.getElem_cons_succ, List.setIfInBounds_toArray, List.set_cons_zero, List.set_cons_succ])
            have c80 := HF8.out.cell 0
            have c81 := HF8.out.cell 1
            have g80 := HF8.out.frozen 0
            have g81 := HF8.out.frozen 1
            have HB9 := Lib.hid (show Below wr.heap.size wr ((w8.setCell ⟨bf, 0, none⟩ (.int .i64 1)).setCell ⟨bf, 1, none⟩ (.slice Ac 2 cc)) from (HB8.out.setCell HGB.out _).setCell HGB.out _)
            refine tr_act _ rfl (fun K hK => ?_)
            go_simp
            refine hK _ _ (.inr (HCQ.out _ HB9.out)) ?_
            clear hK K c80 c81 g80 g81
            iterate 1 (refine tr_take _ _ rfl (by kernel_rfl) (fun wv hv => by go_simp; try with_reducible rfl) ?_; simp only [Act.put, List.getElem_toArray, List.getElem_cons_zero, List.getElem_cons_succ, List.setIfInBounds_toArray, List.set_cons_zero, List.set_cons_succ])
            refine tr_act _ rfl (fun K hK => ?_)
            go_simp
            go_simp
            refine hK _ _ (.inl rfl) ?_
            clear hK K
            refine tr_nil ?_
            go_wp2_with fail
            go_meet
            exact ⟨bf, _, _, Ac, An, cc, cn, l, rfl, rfl, rfl, HBL.out.trans (HB9.out.mono HBL.out.size), (HF8.out.set_ 0 _).set_ 1 _, (HP8.out.1.far HF8.out (by decide) (by decide) 0 _).far (HF8.out.set_ 0 _) (by decide) (by decide) 1 _, HP8.out.2.1, own_far (own_far HP8.out.2.2 _ (own_blk_ne HP8.out.2.2 HF8.out (by decide))) _ (own_blk_ne HP8.out.2.2 HF8.out (by decide))⟩
        · obtain ⟨W6, hW6⟩ : ∃ W6, W6 = (wr.alloc (.cells #[.int .i64 0, .slice none 0 0] 36)).drew := ⟨_, rfl⟩
          have hb6 : Below wr.heap.size wr W6 := by rw [hW6]; exact below_drewN ((Below.refl _ _).alloc (Nat.le_refl _) _) 1
          have f6 : Blk W6 wr.heap.size 36 #[.int .i64 0, .slice none 0 0] := by rw [hW6]; exact (Blk.new wr _ _).drew
          have HW6 := Lib.hid hW6
          have HB6 := Lib.hid hb6
          have HF6 := Lib.hid f6
          clear hW6 hb6 f6
          obtain ⟨bf, hbf⟩ : ∃ bf, wr.heap.size = bf := ⟨_, rfl⟩
          rw [hbf] at HF6
          have HGB := Lib.hid (Nat.le_of_eq hbf)
          go_simp
          rw [← HW6.out]
          refine hK _ _ (.inr (HCQ.out _ HB6.out)) ?_
          clear hK K hbf
          obtain ⟨W7, hW7⟩ : ∃ W7, W7 = W6.alloc (.cells #[.int .i64 (x : Nat), .int .i64 (y : Nat)] 29) := ⟨_, rfl⟩
          have hb7 : Below wr.heap.size wr W7 := by rw [hW7]; exact HB6.out.alloc HB6.out.size _
          have k7 : Blk W7 W6.heap.size 29 #[.int .i64 (x : Nat), .int .i64 (y : Nat)] := by rw [hW7]; exact Blk.new W6 _ _
          have f7 : Blk W7 bf 36 #[.int .i64 0, .slice none 0 0] := by rw [hW7]; exact HF6.out.alloc _
          have HW7 := Lib.hid hW7
          have HB7 := Lib.hid hb7
          have HK7 := Lib.hid k7
          have HF7 := Lib.hid f7
          clear hW7 hb7 k7 f7
          refine tr_act _ rfl (fun K hK => ?_)
          go_simp
          rw [← HW7.out]
          refine hK _ _ (.inr (HCQ.out _ HB7.out)) ?_
          clear hK K
          refine tr_act _ rfl (fun K hK => ?_)
          go_simp
          refine (HCO.out _ _ HB7.out HK7.out).mono ?_
          rintro e w8 ⟨Ac, An, cc, cn, l, rfl, hb8, hc8, hl8, ho8⟩
          have HP8 := Lib.hid (And.intro hc8 (And.intro hl8 ho8))
          have HB8 := Lib.hid (HB7.out.trans (hb8.mono HB7.out.size))
          have HF8 := Lib.hid (HF7.out.below hb8 HF7.out.lt)
          clear hc8 hl8 ho8 hb8
          refine hK _ _ (.inr (HCQ.out _ HB8.out)) ?_
          clear hK K
          iterate 4 (refine tr_take _ _ rfl (by kernel_rfl) (fun wv hv => by go_simp; try with_reducible rfl) ?_; simp only [Act.put, List.getElem_toArray, List.getElem_cons_zero, List.getElem_cons_succ, List.setIfInBounds_toArray, List.set_cons_zero, List.set_cons_succ])
          have c80 := HF8.out.cell 0
          have c81 := HF8.out.cell 1
          have g80 := HF8.out.frozen 0
          have g81 := HF8.out.frozen 1
          have HB9 := Lib.hid (show Below wr.heap.size wr ((w8.setCell ⟨bf, 0, none⟩ (.int .i64 1)).setCell ⟨bf, 1, none⟩ (.slice Ac 2 cc)) from (HB8.out.setCell HGB.out _).setCell HGB.out _)
          refine tr_act _ rfl (fun K hK => ?_)
          go_simp
          refine hK _ _ (.inr (HCQ.out _ HB9.out)) ?_
          clear hK K c80 c81 g80 g81
          iterate 1 (refine tr_take _ _ rfl (by kernel_rfl) (fun wv hv => by go_simp; try with_reducible rfl) ?_; simp only [Act.put, List.getElem_toArray, List.getElem_cons_zero, List.getElem_cons_succ, List.setIfInBounds_toArray, List.set_cons_zero, List.set_cons_succ])
          refine tr_act _ rfl (fun K hK => ?_)
          go_simp
          go_simp
          refine hK _ _ (.inl rfl) ?_
          clear hK K
          refine tr_nil ?_
          go_wp2_with fail
          go_meet
          exact ⟨bf, _, _, Ac, An, cc, cn, l, rfl, rfl, rfl, HBL.out.trans (HB9.out.mono HBL.out.size), (HF8.out.set_ 0 _).set_ 1 _, (HP8.out.1.far HF8.out (by decide) (by decide) 0 _).far (HF8.out.set_ 0 _) (by decide) (by decide) 1 _, HP8.out.2.1, own_far (own_far HP8.out.2.2 _ (own_blk_ne HP8.out.2.2 HF8.out (by decide))) _ (own_blk_ne HP8.out.2.2 HF8.out (by decide))⟩
      case rest =>
        obtain ⟨bf, b1, b2, Ac, An, cc, cn, l, rfl, rfl, rfl, hb, hf, hc, hl, ho⟩ := hcut
        obtain ⟨rows, hrow, hcl⟩ := hc
        obtain ⟨u0, hu0, h0⟩ := hcl 0 _ rfl
        obtain ⟨u1, hu1, h1⟩ := hcl 1 _ rfl
        obtain ⟨gc, rfl, _, _⟩ := own_some hrow (by simp)
        obtain ⟨gn, rfl, _, _⟩ := own_some ho (by omega)
        obtain ⟨v0, hv0, c0⟩ := own_cell (k := 0) hrow (by simp)
        obtain ⟨v1, hv1, c1⟩ := own_cell (k := 1) hrow (by simp)
        obtain rfl : v0 = u0 := by rw [hv0] at hu0; injection hu0
        obtain rfl : v1 = u1 := by rw [hv1] at hu1; injection hu1
        obtain ⟨vn, hvn, cnq⟩ := own_cell (k := q + 1) ho (by omega)
        obtain rfl : Value.int .i64 ((1 : Nat) : Int) = vn := by rw [natVals_at hl] at hvn; injection hvn
        obtain ⟨A0, d0, rfl⟩ := own_form h0
        obtain ⟨A1, d1, rfl⟩ := own_form h1
        have f0 := hf.cell 0
        have f1 := hf.cell 1
        have HB := Lib.hid hb
        have HR0 := Lib.hid (Reads.of_own h0)
        have HR1 := Lib.hid (Reads.of_own h1)
        clear hb hf hrow hcl hu0 hu1 hv0 hv1 ho hl h0 h1 hvn
        have CS0 := Lib.hid (sameInts_any (xs := [1]) (ys := [1]) (c1 := d0) (c2 := 1) (HR0.out.alloc (Nat.le_refl _) (.cells #[.int .i64 1] 3)) (reads_blk (cs := [.int .i64 1]) (Blk.new wc 3 #[.int .i64 1])) (by simp))
        go_wp2_with fail
        refine CS0.out.mono ?_
        rintro e w2 ⟨rfl, n, hw2⟩
        have hbn : Below wc.heap.size wc w2 := by rw [hw2]; exact below_drewN ((Below.refl _ _).alloc (Nat.le_refl _) _) n
        have f1n := (hbn.cell (p := ⟨bf, 1, none⟩) (World.block_lt_of_cell? wc _ f1)).trans f1
        have c1n := (hbn.cell (p := ⟨gc, 1, none⟩) (World.block_lt_of_cell? wc _ c1)).trans c1
        have CS1 := Lib.hid (sameInts_any (xs := [-1]) (ys := [-1]) (c1 := d1) (c2 := 1) ((HR1.out.below hbn).alloc hbn.size (.cells #[.int .i64 (-1)] 3)) (reads_blk (cs := [.int .i64 (-1)]) (Blk.new w2 3 #[.int .i64 (-1)])) (by simp))
        have HB2 := Lib.hid (HB.out.trans (hbn.mono HB.out.size))
        clear hbn hw2
        have hs0 : (([1] : List Int) == [1]) = true := rfl
        rw [hs0]
        clear hs0
        go_wp2_with fail
        refine CS1.out.mono ?_
        rintro e w3 ⟨rfl, m, hw3⟩
        have HB3 := Lib.hid (show Below w.heap.size w w3 by rw [hw3]; exact below_drewN (HB2.out.alloc HB2.out.size _) m)
        clear hw3
        have hs0 : (([-1] : List Int) == [-1]) = true := rfl
        rw [hs0]
        clear hs0
        go_wp2_with fail
        go_ret
        exact ⟨rfl, HB3.out⟩
end Go.Proofs.YtmbjhpgemphmmaaDoor
