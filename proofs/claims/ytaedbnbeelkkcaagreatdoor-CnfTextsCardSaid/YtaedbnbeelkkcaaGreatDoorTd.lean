/-
  WALK of the document's TextOf.
-/
import Derived.Test.YtaedbnbeelkkcaaGreatDoorRd
import Derived.Test.YtaedbnbeelkkcaaGreatDoorDc
namespace Go.Proofs.YtaedbnbeelkkcaaGreatDoor
open Go.RowKit
def ToR (w : World) (v : Int) (cs : List (List Int)) (sv iv : Value) (wr : World) : Prop := ∃ k : Nat, k ≤ cs.length ∧ iv = .int .i64 (k : Nat) ∧ sv = .string ⟨(txH v cs.length ++ (cs.take k).flatMap txL).toArray⟩ ∧ Below w.heap.size w wr
def ToI (w : World) (pre : List UInt8) (x : List Int) (sv iv : Value) (wr : World) : Prop := ∃ j : Nat, j ≤ x.length ∧ iv = .int .i64 (j : Nat) ∧ sv = .string ⟨(pre ++ (x.take j).flatMap txN).toArray⟩ ∧ Below w.heap.size w wr
attribute [local irreducible] wpSeq
set_option maxRecDepth 100000 in
set_option maxHeartbeats 8000000 in
theorem textOf_any {w : World} {B : Nat} {v : Int} {A : Option Addr} {n c : Nat} {cs : List (List Int)} (hn : cs.length = n) (hls : ∀ x ∈ cs, x.length ≤ 1000000) (hr : ClsR w B A cs) (hB : B ≤ w.heap.size) (hok : okF v cs = true) (htx : (Rd.txF v cs).length ≤ 1000000000) :
    Calls Tryz.prog 11 #[.agg #[.int .i64 v, .slice A n c]] w fun e w' => e = .returned (.string ⟨(Rd.txF v cs).toArray⟩) ∧ Below w.heap.size w w' := by
  obtain ⟨W1, hW1⟩ : ∃ W1, W1 = w.alloc (.cells #[.int .i64 v, .slice A n c] 24) := ⟨_, rfl⟩
  have hb1 : Below w.heap.size w W1 := by rw [hW1]; exact (Below.refl _ _).alloc (Nat.le_refl _) _
  have k1 : Blk W1 w.heap.size 24 #[.int .i64 v, .slice A n c] := by rw [hW1]; exact Blk.new w _ _
  have hv : 0 ≤ v ∧ v ≤ 150000 ∧ n ≤ 500000 ∧ cs.all (okC v) = true := by
    unfold okF at hok
    simp only [Bool.and_eq_true, decide_eq_true_eq] at hok
    exact ⟨hok.1.1.1, hok.1.1.2, by omega, hok.2⟩
  obtain ⟨W2, hW2⟩ : ∃ W2, W2 = W1.drew := ⟨_, rfl⟩
  have hb2 : Below w.heap.size w W2 := by rw [hW2]; exact below_drewN hb1 1
  have k2 : Blk W2 w.heap.size 24 #[.int .i64 v, .slice A n c] := by rw [hW2]; exact k1
  have HW1 := Lib.hid hW1
  have HW2 := Lib.hid hW2
  have HB2 := Lib.hid hb2
  have HK2 := Lib.hid k2
  have HR := Lib.hid hr
  have HV := Lib.hid hv
  have HBB := Lib.hid hB
  have HLS := Lib.hid hls
  have HTX := Lib.hid htx
  have HN := Lib.hid hn
  clear hW1 hb1 k1 hW2 hb2 k2 hr hv hB hls htx hok
  go_enter Tryz.func11, Tryz.ntmps11
  go_upto_region 1 with fail
  rw [← HW1.out]
  refine wp_region_seq (S := fun w' => w'.cell? ⟨w.heap.size, 0, none⟩ = some (.int .i64 v) ∧ w'.cell? ⟨w.heap.size, 1, none⟩ = some (.slice A n c)) [(0, false), (1, false), (5, false), (6, false), (7, false), (2, true), (3, false), (4, false), (8, true), (9, false), (10, false), (11, false)] (by kernel_rfl) (by kernel_rfl) (by kernel_rfl) (by rw [← HW2.out]; exact And.intro (HK2.out.cell 0) (HK2.out.cell 1)) ?_
  rw [← HW2.out]
  iterate 5 (refine seq_take _ _ rfl (by kernel_rfl) (fun wv hv => by obtain ⟨hv1, hv2⟩ := hv; go_simp; try with_reducible rfl) ?_; simp only [Act.put, List.getElem_toArray, List.getElem_cons_zero, List.getElem_cons_succ, List.setIfInBounds_toArray, List.set_cons_zero, List.set_cons_succ])
  refine seq_act _ rfl (fun K hK => ?_)
  go_simp
  refine (decimal_any (by have := HV.out; omega) (by have := HV.out; omega)).mono ?_
  rintro e w4 ⟨rfl, hb4⟩
  have HB4 := Lib.hid (HB2.out.trans (hb4.mono HB2.out.size))
  have HK4 := Lib.hid (HK2.out.below hb4 HK2.out.lt)
  clear hb4
  go_simp
  refine hK _ _ ((And.intro (HK4.out.cell 0) (HK4.out.cell 1))) ?_
  clear hK K
  have g0 : (Lib.itoa v).length ≤ 21 := Lib.itoa_length_le v (by have := HV.out; omega) (by have := HV.out; omega)
  have g1 : ¬ 9223372036854775807 < 6 + (Lib.itoa v).length := by omega
  have g2 : ¬ 9223372036854775807 < 6 + (Lib.itoa v).length + 1 := by omega
  iterate 2 (refine seq_take _ _ rfl (by kernel_rfl) (fun wv hv => by obtain ⟨hv1, hv2⟩ := hv; go_simp; try with_reducible rfl) ?_; simp only [Act.put, List.getElem_toArray, List.getElem_cons_zero, List.getElem_cons_succ, List.setIfInBounds_toArray, List.set_cons_zero, List.set_cons_succ])
  refine seq_act _ rfl (fun K hK => ?_)
  go_simp
  refine (decimal_any (by omega) (by have := HV.out; omega)).mono ?_
  rintro e w5 ⟨rfl, hb5⟩
  have HB5 := Lib.hid (HB4.out.trans (hb5.mono HB4.out.size))
  have HK5 := Lib.hid (HK4.out.below hb5 HK4.out.lt)
  clear hb5
  go_simp
  refine hK _ _ ((And.intro (HK5.out.cell 0) (HK5.out.cell 1))) ?_
  clear hK K
  have g5 : (Lib.itoa (n : Nat)).length ≤ 21 := Lib.itoa_length_le (n : Nat) (by omega) (by have := HV.out; omega)
  have g3 : ¬ 9223372036854775807 < 6 + (Lib.itoa v).length + 1 + (Lib.itoa (n : Nat)).length := by omega
  have g4 : ¬ 9223372036854775807 < 6 + (Lib.itoa v).length + 1 + (Lib.itoa (n : Nat)).length + 1 := by omega
  iterate 3 (refine seq_take _ _ rfl (by kernel_rfl) (fun wv hv => by obtain ⟨hv1, hv2⟩ := hv; go_simp; try with_reducible rfl) ?_; simp only [Act.put, List.getElem_toArray, List.getElem_cons_zero, List.getElem_cons_succ, List.setIfInBounds_toArray, List.set_cons_zero, List.set_cons_succ])
  refine seq_nil ?_
  clear g0 g1 g2 g3 g4 g5
  have hs : (⟨#[112, 32, 99, 110, 102, 32]⟩ : ByteArray) ++ ⟨(Lib.itoa v).toArray⟩ ++ ⟨#[32]⟩ ++ ⟨(Lib.itoa (n : Nat)).toArray⟩ ++ ⟨#[10]⟩ = ⟨(txH v n).toArray⟩ := by
    show (⟨[112, 32, 99, 110, 102, 32].toArray⟩ : ByteArray) ++ ⟨(Lib.itoa v).toArray⟩ ++ ⟨[32].toArray⟩ ++ ⟨(Lib.itoa (n : Nat)).toArray⟩ ++ ⟨[10].toArray⟩ = _
    simp only [ba_add]; rfl
  rw [hs]
  clear hs
  have q1 := HK5.out.cell 1
  go_wp2_with fail
  clear q1
  go_loopw [3, 4] (fun sv iv wr => ToR w5 v cs sv iv wr) (fun _ iv _ => cs.length - (intOf iv).toNat)
  case atStart => exact ⟨0, Nat.zero_le _, rfl, by rw [HN.out]; simp, Below.refl _ _⟩
  case round =>
    obtain ⟨wo, rfl⟩ : ∃ wo : World, wo = wr := ⟨_, rfl⟩
    obtain ⟨k, hk, rfl, rfl, hb⟩ := hrel
    rw [HN.out] at hk
    rw [HN.out]
    have HBW := Lib.hid hb
    have HB := Lib.hid (HB5.out.trans (hb.mono HB5.out.size))
    have HKr := Lib.hid (HK5.out.below hb HK5.out.lt)
    have hn5 : n ≤ 500000 := HV.out.2.2.1
    obtain ⟨cur, hcur⟩ : ∃ cur, txH v n ++ (cs.take k).flatMap txL = cur := ⟨_, rfl⟩
    rw [hcur]
    have HCUR := Lib.hid hcur
    have c1 := HKr.out.cell 1
    clear hb hcur
    by_cases hk2 : k < n
    · obtain ⟨x, hx⟩ : ∃ x, cs[k]? = some x := ⟨_, List.getElem?_eq_getElem (by have := HN.out; omega)⟩
      obtain ⟨ad, hA, hadb, hc⟩ := HR.out (by have := HN.out; omega)
      subst hA
      obtain ⟨Ax, cx, hcell, hrx⟩ := hc k x hx
      obtain ⟨m, hm⟩ : ∃ m, x.length = m := ⟨_, rfl⟩
      rw [hm] at hcell hrx
      have hm6 : m ≤ 1000000 := by rw [← hm]; exact HLS.out x (List.mem_of_getElem? hx)
      have hfl := flat_le (f := txL) hx
      have hxl : (txL x).length = (x.flatMap txN).length + 2 := by unfold txL; rw [List.length_append]; rfl
      have hpl : cur.length + (txL x).length ≤ 1000000000 := by
        have h := HTX.out
        rw [txF_is, List.length_append, HN.out] at h
        rw [← HCUR.out, List.length_append]; omega
      have hokx : okC v x = true := List.all_eq_true.1 HV.out.2.2.2 x (List.mem_of_getElem? hx)
      have HX := Lib.hid hx
      have HAD := Lib.hid (show ∀ w' : World, Below w.heap.size w w' → w'.cell? (ad.add k) = some (.slice Ax m cx) from fun w' hb => (hb.cell (p := ad.add k) (by rw [block_of_add]; exact Nat.lt_of_lt_of_le hadb HBB.out)).trans hcell)
      have HRX := Lib.hid hrx
      have HM := Lib.hid hm
      have HPL := Lib.hid (And.intro hpl hxl)
      have HOKX := Lib.hid hokx
      clear hx hc hcell hrx hm hfl hxl hpl hokx
      go_wp2_with fail
      clear c1
      go_loopw [3, 5] (fun sv iv wr => ToI w5 cur x sv iv wr) (fun _ iv _ => x.length - (intOf iv).toNat)
      case atStart => exact ⟨0, Nat.zero_le _, rfl, by simp, HBW.out⟩
      case round =>
        obtain ⟨j, hj, rfl, rfl, hb⟩ := hrel
        rw [HM.out] at hj
        have HBWj := Lib.hid hb
        have HBj := Lib.hid (HB5.out.trans (hb.mono HB5.out.size))
        have HKj := Lib.hid (HK5.out.below hb HK5.out.lt)
        have c1 := HKj.out.cell 1
        have ck := HAD.out _ HBj.out
        obtain ⟨cu2, hcu2⟩ : ∃ cu2, cur ++ (x.take j).flatMap txN = cu2 := ⟨_, rfl⟩
        rw [hcu2]
        have HCU2 := Lib.hid hcu2
        clear hb hcu2
        by_cases hj2 : j < m
        · obtain ⟨y, hy⟩ : ∃ y, x[j]? = some y := ⟨_, List.getElem?_eq_getElem (by have := HM.out; omega)⟩
          obtain ⟨ax, hAx, hxb, hcx⟩ := HRX.out.2 (by omega)
          subst hAx
          have cy := (HBj.out.cell (p := ax.add j) (by rw [block_of_add]; exact Nat.lt_of_lt_of_le hxb HBB.out)).trans (hcx j (.int .i64 y) (by unfold litVals; simp [hy]))
          have hyb := okC_in HOKX.out (List.mem_of_getElem? hy)
          have hfj := flat_le (f := txN) hy
          have hlj : cu2.length + (txN y).length ≤ 1000000000 := by rw [← HCU2.out, List.length_append]; have := HPL.out; omega
          have hty : (txN y).length = (Lib.itoa y).length + 1 := by unfold txN; rw [List.length_append]; rfl
          have g1 : ¬ 9223372036854775807 < cu2.length + (Lib.itoa y).length := by omega
          have g2 : ¬ 9223372036854775807 < cu2.length + (Lib.itoa y).length + 1 := by omega
          have CI := Lib.hid (show ∀ W, Calls Tryz.prog 23 #[.int .i64 y] W (DcP W y) from fun W => decimal_any (n := y) (by have := HV.out; omega) (by have := HV.out; omega))
          have HY := Lib.hid hy
          clear hcx hfj hlj hyb hy hty
          go_wp2_with fail
          refine (CI.out _).mono ?_
          rintro e w7 ⟨rfl, hb7⟩
          have HB27 := Lib.hid (HBWj.out.trans (hb7.mono HBWj.out.size))
          clear hb7 cy c1 ck
          go_wp2_with fail
          go_roundw
          case rel =>
            refine ⟨j + 1, by have := HM.out; omega, by go_num, ?_, HB27.out⟩
            have e : cur ++ (x.take (j + 1)).flatMap txN = cu2 ++ Lib.itoa y ++ [32] := by
              rw [Gm.take_one HY.out, List.flatMap_append, ← List.append_assoc, HCU2.out]
              simp [txN]
            rw [e, ← ba_add, ← ba_add]
          case measure => have := HM.out; simp [intOf]; omega
        · obtain rfl : m = j := by omega
          have hfin := HCU2.out
          rw [List.take_of_length_le (by have := HM.out; omega)] at hfin
          have HFIN := Lib.hid hfin
          have hcl : cu2.length + 2 ≤ 1000000000 := by rw [← hfin, List.length_append]; have := HPL.out; omega
          have g1 : ¬ 9223372036854775807 < cu2.length + 2 := by omega
          clear hfin hcl
          go_wp2_with fail
          go_roundw
          case rel =>
            refine ⟨k + 1, by have := HN.out; omega, by go_num, ?_, HBWj.out⟩
            have e : txH v cs.length ++ (cs.take (k + 1)).flatMap txL = cu2 ++ [48, 10] := by
              rw [Gm.take_one HX.out, List.flatMap_append, ← List.append_assoc, HN.out, HCUR.out, ← HFIN.out]
              simp [txL]
            rw [e, ← ba_add]
          case measure => have := HN.out; simp [intOf]; omega
    · obtain rfl : n = k := by omega
      have hfin := HCUR.out
      rw [List.take_of_length_le (by have := HN.out; omega)] at hfin
      have HFIN := Lib.hid (show Rd.txF v cs = cur by rw [txF_is, HN.out]; exact hfin)
      clear hfin
      go_wp2_with fail
      go_ret
      exact ⟨by rw [HFIN.out]; rfl, HB.out⟩
end Go.Proofs.YtaedbnbeelkkcaaGreatDoor
