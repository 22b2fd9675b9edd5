/-
  WALK: cnf.Text of any formula that Check finds right.
-/
import Derived.Test.YtaedbnbeelkkcaaGreatDoorTb
import Derived.Test.YtaedbnbeelkkcaaGreatDoorHs
import Derived.Test.YtaedbnbeelkkcaaGreatDoorRk
import Derived.Test.YtaedbnbeelkkcaaGreatDoorRp
import Derived.Lib.ItoaLen
import Derived.Test.YtaedbnbeelkkcaaGreatDoorSh
namespace Go.Proofs.YtaedbnbeelkkcaaGreatDoor
open Go.RowKit
/-- the table of powers of ten -/
def Tens (w : World) : Prop := Lib.TabIs Tryz.prog w "internal/strconv.uint64pow10" .u64 Lib.pow10Tab
theorem Tens.below {w w' : World} (h : Tens w) (hb : Below w.heap.size w w') : Tens w' := by
  have hg : Tryz.prog.globalNamed "internal/strconv.uint64pow10" = some 10 := by kernel_rfl
  unfold Tens Lib.TabIs World.var? at h ⊢
  rw [hg] at h ⊢
  simp only [Option.bind_some] at h ⊢
  have hlt : 10 < w.heap.size := by
    rcases Nat.lt_or_ge 10 w.heap.size with h' | h'
    · exact h'
    · rw [Array.getElem?_eq_none h'] at h; cases h
  rw [hb.block _ hlt]
  exact h
theorem grow_below (w : World) (k : Nat) (os : Array Obj) : Below w.heap.size w (Sort.grow (w.drewN k) os) :=
  (below_drewN (Below.refl _ w) k).trans ⟨rfl, rfl, rfl, by show (w.drewN k).heap.size ≤ ((w.drewN k).heap ++ os).size; simp, fun i hi => by
    show ((w.drewN k).heap ++ os)[i]? = (w.drewN k).heap[i]?
    exact Array.getElem?_append_left (xs := (w.drewN k).heap) hi⟩
theorem itoa_any {w : World} {n : Int} (ht : Tens w) (h0 : -9223372036854775808 ≤ n) (h1 : n ≤ 9223372036854775807) :
    Calls Tryz.prog 15 #[.int .i64 n] w fun e w' => e = .returned (.string ⟨(Lib.itoa n).toArray⟩) ∧ Below w.heap.size w w' :=
  (Tryz.strconv_Itoa n (by omega) (by omega) w ht).mono fun e w' h => ⟨h.1, by obtain ⟨k, os, rfl⟩ := h.2; exact grow_below w k os⟩
theorem builder_new {T e : TypeId} {B b : Nat} {p : Value} {bs : List Value} {w w' : World} (h : Lib.BuilderAt T e B b p bs w) (hb : Below w.heap.size w w') : Lib.BuilderAt T e B b p bs w' := by
  obtain ⟨h1, v, h2, h3, h4⟩ := h
  exact ⟨h1, v, (hb.block b (lt_of_heap h2)).trans h2, own_chg h3 (S := fun _ _ => False) (.of_new hb) (by simp), h4⟩
theorem isBuilder_new {T e : TypeId} {B b : Nat} {bs : List Value} {w w' : World} (h : Lib.IsBuilder T e B b bs w) (hb : Below w.heap.size w w') : Lib.IsBuilder T e B b bs w' :=
  h.imp (fun h => builder_new h hb) fun h => builder_new h hb
theorem flat_le {α β : Type} {f : α → List β} {l : List α} {k : Nat} {x : α} (h : l[k]? = some x) : ((l.take k).flatMap f).length + (f x).length ≤ (l.flatMap f).length := by
  obtain ⟨hl, hv⟩ := List.getElem?_eq_some_iff.1 h
  have e := List.take_append_drop k l
  have hd := List.drop_eq_getElem_cons hl
  rw [hv] at hd
  rw [hd] at e
  have : l.flatMap f = (l.take k).flatMap f ++ (f x ++ (l.drop (k + 1)).flatMap f) := by
    conv => lhs; rw [← e]
    rw [List.flatMap_append, List.flatMap_cons]
  rw [this]; simp only [List.length_append]; omega
/-- a number and a blank -/
def txN (n : Int) : List UInt8 := Lib.itoa n ++ [32]
/-- a clause's line -/
def txL (c : List Int) : List UInt8 := c.flatMap txN ++ [48, 10]
/-- the first line -/
def txH (v : Int) (m : Nat) : List UInt8 := [112, 32, 99, 110, 102, 32] ++ Lib.itoa v ++ [32] ++ Lib.itoa (m : Int) ++ [10]
theorem txF_is (v : Int) (cs : List (List Int)) : Rd.txF v cs = txH v cs.length ++ cs.flatMap txL := by
  unfold Rd.txF txH
  congr 1
  have : (fun c => Rd.txC c ++ [10]) = txL := by
    funext c
    unfold Rd.txC txL txN
    simp
  rw [this]
theorem byteCells_append (a b : List UInt8) : Lib.byteCells (a ++ b) = Lib.byteCells a ++ Lib.byteCells b := by unfold Lib.byteCells; rw [List.map_append]
theorem strCells_is (l : List UInt8) : Lib.strCells ⟨l.toArray⟩ = Lib.byteCells l := by unfold Lib.strCells Lib.byteCells; simp
theorem ba_add (a b : List UInt8) : (⟨a.toArray⟩ : ByteArray) ++ ⟨b.toArray⟩ = ⟨(a ++ b).toArray⟩ := by
  apply ByteArray.ext
  rw [ByteArray.data_append]
  simp
theorem ba_size (l : List UInt8) : (⟨l.toArray⟩ : ByteArray).size = l.length := by simp [ByteArray.size]
def TxR (W : World) (v : Int) (cs : List (List Int)) (iv : Value) (wr : World) : Prop := ∃ k : Nat, k ≤ cs.length ∧ iv = .int .i64 (k : Nat) ∧ Lib.BuilderAt 47 5 W.heap.size W.heap.size (.pointer (some ⟨W.heap.size, 0, none⟩)) (Lib.byteCells (txH v cs.length ++ (cs.take k).flatMap txL)) wr ∧ Below W.heap.size W wr
def TxI (W : World) (pre : List UInt8) (x : List Int) (iv : Value) (wr : World) : Prop := ∃ j : Nat, j ≤ x.length ∧ iv = .int .i64 (j : Nat) ∧ Lib.BuilderAt 47 5 W.heap.size W.heap.size (.pointer (some ⟨W.heap.size, 0, none⟩)) (Lib.byteCells (pre ++ (x.take j).flatMap txN)) wr ∧ Below W.heap.size W wr
theorem badN_in {v n : Int} (h : badN v n = false) : -v ≤ n ∧ n ≤ v ∧ n ≠ 0 := by
  unfold badN at h
  simp only [Bool.or_eq_false_iff, decide_eq_false_iff_not, beq_eq_false_iff_ne] at h
  omega
theorem okC_in {v : Int} {x : List Int} (h : okC v x = true) {n : Int} (hn : n ∈ x) : -v ≤ n ∧ n ≤ v ∧ n ≠ 0 := by
  unfold okC at h
  simp only [Bool.not_eq_true', List.any_eq_false] at h
  exact badN_in (by simpa using h n hn)
attribute [local irreducible] wpSeq
set_option maxRecDepth 100000 in
set_option maxHeartbeats 8000000 in
theorem text_any {w : World} {B : Nat} {p q : Addr} {v : Int} {A : Option Addr} {n c : Nat} {cs : List (List Int)} (hn : cs.length = n) (he : w.cell? ⟨1, 0, none⟩ = some (.iface 152 (.pointer (some p))))
    (he2 : w.cell? ⟨0, 0, none⟩ = some (.iface 152 (.pointer (some q)))) (ht : Tens w) (hls : ∀ x ∈ cs, x.length ≤ 1000000) (hr : ClsR w B A cs) (hB : B ≤ w.heap.size) (hok : okF v cs = true) (htx : (Rd.txF v cs).length ≤ 1000000000) :
    Calls Tryz.prog 6 #[.agg #[.int .i64 v, .slice A n c]] w fun e w' => e = .returned (.tuple #[.string ⟨(Rd.txF v cs).toArray⟩, .nilIface]) ∧ Below w.heap.size w w' := by
  have hlt := World.block_lt_of_cell? w _ he
  have hlt2 := World.block_lt_of_cell? w _ he2
  obtain ⟨W1, hW1⟩ : ∃ W1, W1 = w.alloc (.cells #[.int .i64 v, .slice A n c] 31) := ⟨_, rfl⟩
  have hb1 : Below w.heap.size w W1 := by rw [hW1]; exact (Below.refl _ _).alloc (Nat.le_refl _) _
  have k1 : Blk W1 w.heap.size 31 #[.int .i64 v, .slice A n c] := by rw [hW1]; exact Blk.new w _ _
  have CK := Lib.hid (check_any (v := v) (c := c) hn ((hb1.cell (p := ⟨1, 0, none⟩) hlt).trans he) ((hb1.cell (p := ⟨0, 0, none⟩) hlt2).trans he2) (fun _ => hls) (hr.below (hb1.mono hB)) (Nat.le_trans hB hb1.size))
  have hv : 0 ≤ v ∧ v ≤ 150000 ∧ n ≤ 500000 ∧ cs.all (okC v) = true := by
    unfold okF at hok
    simp only [Bool.and_eq_true, decide_eq_true_eq] at hok
    exact ⟨hok.1.1.1, hok.1.1.2, by omega, hok.2⟩
  have HW1 := Lib.hid hW1
  have HB1 := Lib.hid hb1
  have HK1 := Lib.hid k1
  have HR := Lib.hid hr
  have HV := Lib.hid hv
  have HT := Lib.hid ht
  have HBB := Lib.hid hB
  have HLS := Lib.hid hls
  have HOK := Lib.hid hok
  have HTX := Lib.hid htx
  have HN := Lib.hid hn
  clear hW1 hb1 k1 he he2 hlt hlt2 hr hv ht hB hls hok htx
  go_enter Tryz.func6, Tryz.ntmps6
  go_upto_region 1 with fail
  rw [← HW1.out]
  have c0 := HK1.out.cell 0
  have c1 := HK1.out.cell 1
  go_wp2_with fail
  refine CK.out.mono ?_
  rintro e w2 ⟨ev, rfl, hb2, hres⟩
  obtain ⟨_, rfl⟩ | ⟨h0, _⟩ := hres
  case inr => exact absurd (HOK.out.symm.trans h0) (by simp)
  have HB2 := Lib.hid (HB1.out.trans (hb2.mono HB1.out.size))
  have k2 := HK1.out.below hb2 HK1.out.lt
  clear c0 c1
  obtain ⟨W3, hW3⟩ : ∃ W3, W3 = (w2.alloc (.cells #[.pointer none, .slice none 0 0] 47)).drew := ⟨_, rfl⟩
  have hb23 : Below w2.heap.size w2 W3 := by rw [hW3]; exact below_drewN ((Below.refl _ _).alloc (Nat.le_refl _) _) 1
  have k3 := k2.below hb23 k2.lt
  have hbu : Lib.IsBuilder 47 5 w2.heap.size w2.heap.size [] W3 := by
    rw [hW3]
    rcases Lib.fresh_isBuilder 47 5 w2 with h | h
    · exact .inl h.drew
    · exact .inr h.drew
  have HB3 := Lib.hid (HB2.out.trans (hb23.mono HB2.out.size))
  have HB23 := Lib.hid hb23
  have HK3 := Lib.hid k3
  have HK2 := Lib.hid k2.lt
  have HBU := Lib.hid hbu
  have HW3 := Lib.hid hW3
  clear hb2 k2 hW3 hb23 k3 hbu
  go_wp2_with fail
  refine wp_region_seq (S := fun w' => w'.cell? ⟨w.heap.size, 0, none⟩ = some (.int .i64 v) ∧ w'.cell? ⟨w.heap.size, 1, none⟩ = some (.slice A n c)) [(0, false), (1, false), (5, false), (6, false), (7, false), (2, true), (3, false), (4, false), (8, true), (9, false), (10, false), (11, true)] (by kernel_rfl) (by kernel_rfl) (by kernel_rfl) (by rw [← HW3.out]; exact And.intro (HK3.out.cell 0) (HK3.out.cell 1)) ?_
  rw [← HW3.out]
  iterate 5 (refine seq_take _ _ rfl (by kernel_rfl) (fun wv hv => by obtain ⟨hv1, hv2⟩ := hv; go_simp; try with_reducible rfl) ?_; simp only [Act.put, List.getElem_toArray, List.getElem_cons_zero, List.getElem_cons_succ, List.setIfInBounds_toArray, List.set_cons_zero, List.set_cons_succ])
  refine seq_act _ rfl (fun K hK => ?_)
  go_simp
  refine (itoa_any (HT.out.below HB3.out) (by have := HV.out; omega) (by have := HV.out; omega)).mono ?_
  rintro e w4 ⟨rfl, hb4⟩
  have HB4 := Lib.hid (HB3.out.trans (hb4.mono HB3.out.size))
  have HK4 := Lib.hid (HK3.out.below hb4 HK3.out.lt)
  have HBU4 := Lib.hid (isBuilder_new HBU.out hb4)
  have HB24 := Lib.hid (HB23.out.trans (hb4.mono HB23.out.size))
  clear hb4
  go_simp
  refine hK _ _ ((And.intro (HK4.out.cell 0) (HK4.out.cell 1))) ?_
  clear hK K
  have g0 : (Lib.itoa v).length ≤ 21 := Lib.itoa_length_le v (by have := HV.out; omega) (by have := HV.out; omega)
  have g1 : ¬ 9223372036854775807 < 6 + (Lib.itoa v).length := by omega
  have g2 : ¬ 9223372036854775807 < 6 + (Lib.itoa v).length + 1 := by omega
  iterate 2 (refine seq_take _ _ rfl (by kernel_rfl) (fun wv hv => by obtain ⟨hv1, hv2⟩ := hv; go_simp; try with_reducible rfl) ?_; simp only [Act.put, List.getElem_toArray, List.getElem_cons_zero, List.getElem_cons_succ, List.setIfInBounds_toArray, List.set_cons_zero, List.set_cons_succ])
  refine seq_act _ rfl (fun K hK => ?_)
  go_simp
  refine (itoa_any (HT.out.below HB4.out) (by omega) (by have := HV.out; omega)).mono ?_
  rintro e w5 ⟨rfl, hb5⟩
  have HB5 := Lib.hid (HB4.out.trans (hb5.mono HB4.out.size))
  have HK5 := Lib.hid (HK4.out.below hb5 HK4.out.lt)
  have HBU5 := Lib.hid (isBuilder_new HBU4.out hb5)
  have HB25 := Lib.hid (HB24.out.trans (hb5.mono HB24.out.size))
  clear hb5
  go_simp
  refine hK _ _ ((And.intro (HK5.out.cell 0) (HK5.out.cell 1))) ?_
  clear hK K
  have g5 : (Lib.itoa (n : Nat)).length ≤ 21 := Lib.itoa_length_le (n : Nat) (by omega) (by have := HV.out; omega)
  have g3 : ¬ 9223372036854775807 < 6 + (Lib.itoa v).length + 1 + (Lib.itoa (n : Nat)).length := by omega
  have g4 : ¬ 9223372036854775807 < 6 + (Lib.itoa v).length + 1 + (Lib.itoa (n : Nat)).length + 1 := by omega
  iterate 2 (refine seq_take _ _ rfl (by kernel_rfl) (fun wv hv => by obtain ⟨hv1, hv2⟩ := hv; go_simp; try with_reducible rfl) ?_; simp only [Act.put, List.getElem_toArray, List.getElem_cons_zero, List.getElem_cons_succ, List.setIfInBounds_toArray, List.set_cons_zero, List.set_cons_succ])
  clear g0 g1 g2 g3 g4 g5
  have hs : (⟨#[112, 32, 99, 110, 102, 32]⟩ : ByteArray) ++ ⟨(Lib.itoa v).toArray⟩ ++ ⟨#[32]⟩ ++ ⟨(Lib.itoa (n : Nat)).toArray⟩ ++ ⟨#[10]⟩ = ⟨(txH v n).toArray⟩ := by
    show (⟨[112, 32, 99, 110, 102, 32].toArray⟩ : ByteArray) ++ ⟨(Lib.itoa v).toArray⟩ ++ ⟨[32].toArray⟩ ++ ⟨(Lib.itoa (n : Nat)).toArray⟩ ++ ⟨[10].toArray⟩ = _
    simp only [ba_add]; rfl
  rw [hs]
  have hlh : (txH v n).length ≤ 1000000000 := by have h := HTX.out; rw [txF_is, List.length_append, HN.out] at h; omega
  clear hs
  refine seq_act _ rfl (fun K hK => ?_)
  go_simp
  refine (writeString_any w2.heap.size w2.heap.size [] ⟨(txH v n).toArray⟩ w5 HBU5.out (by rw [ba_size]; simp; omega) HB25.out.size).mono ?_
  rintro e w6 ⟨rfl, h1, h2⟩
  rw [List.nil_append, strCells_is] at h1
  have HK6 := Lib.hid (HK5.out.below h2 HK2.out)
  have HBU6 := Lib.hid h1
  have HB26 := Lib.hid (HB25.out.trans h2)
  clear h1 h2
  go_simp
  refine hK _ _ ((And.intro (HK6.out.cell 0) (HK6.out.cell 1))) ?_
  clear hK K
  refine seq_nil ?_
  have q0 := HK6.out.cell 0
  have q1 := HK6.out.cell 1
  go_wp2_with fail
  clear q0 q1
  go_loopw [30] (fun iv wr => TxR w2 v cs iv wr) (fun iv _ => cs.length - (intOf iv).toNat)
  case atStart => exact ⟨0, Nat.zero_le _, rfl, by rw [HN.out]; simpa using HBU6.out, HB26.out⟩
  case round =>
    obtain ⟨wo, rfl⟩ : ∃ wo : World, wo = wr := ⟨_, rfl⟩
    obtain ⟨k, hk, rfl, hbd, hb⟩ := hrel
    rw [HN.out] at hk hbd
    have hn5 : n ≤ 500000 := HV.out.2.2.1
    have HBD := Lib.hid hbd
    have HBW := Lib.hid hb
    have HB := Lib.hid (HB2.out.trans (hb.mono HB2.out.size))
    clear hbd hb
    by_cases hk2 : k < n
    · obtain ⟨x, hx⟩ : ∃ x, cs[k]? = some x := ⟨_, List.getElem?_eq_getElem (by have := HN.out; omega)⟩
      obtain ⟨ad, hA, hadb, hc⟩ := HR.out (by have := HN.out; omega)
      subst hA
      obtain ⟨Ax, cx, hcell, hrx⟩ := hc k x hx
      obtain ⟨m, hm⟩ : ∃ m, x.length = m := ⟨_, rfl⟩
      rw [hm] at hcell hrx
      have hm6 : m ≤ 1000000 := by rw [← hm]; exact HLS.out x (List.mem_of_getElem? hx)
      have hc1 := (HB.out.cell (p := ad.add k) (by rw [block_of_add]; exact Nat.lt_of_lt_of_le hadb HBB.out)).trans hcell
      have hfl := flat_le (f := txL) hx
      have hxl : (txL x).length = (x.flatMap txN).length + 2 := by unfold txL; rw [List.length_append]; rfl
      obtain ⟨pre, hpre⟩ : ∃ pre, txH v n ++ (cs.take k).flatMap txL = pre := ⟨_, rfl⟩
      have hpl : pre.length + (txL x).length ≤ 1000000000 := by
        have h := HTX.out
        rw [txF_is, List.length_append, HN.out] at h
        rw [← hpre, List.length_append]; omega
      have hokx : okC v x = true := List.all_eq_true.1 HV.out.2.2.2 x (List.mem_of_getElem? hx)
      rw [hpre] at HBD
      have HX := Lib.hid hx
      have HRX := Lib.hid hrx
      have HM := Lib.hid hm
      have HPRE := Lib.hid hpre
      have HPL := Lib.hid (And.intro hpl hxl)
      have HOKX := Lib.hid hokx
      clear hx hc hcell hrx hm hfl hxl hpre hpl hokx
      go_wp2_with fail
      clear hc1
      go_loopw [36] (fun iv wr => TxI w2 pre x iv wr) (fun iv _ => x.length - (intOf iv).toNat)
      case atStart => exact ⟨0, Nat.zero_le _, rfl, by simpa using HBD.out, HBW.out⟩
      case round =>
        obtain ⟨j, hj, rfl, hbd, hb⟩ := hrel
        rw [HM.out] at hj
        have HBDj := Lib.hid hbd
        have HBWj := Lib.hid hb
        have HBj := Lib.hid (HB2.out.trans (hb.mono HB2.out.size))
        clear hbd hb
        by_cases hj2 : j < m
        · obtain ⟨y, hy⟩ : ∃ y, x[j]? = some y := ⟨_, List.getElem?_eq_getElem (by have := HM.out; omega)⟩
          obtain ⟨ax, hAx, hxb, hcx⟩ := HRX.out.2 (by omega)
          subst hAx
          have cy := (HBj.out.cell (p := ax.add j) (by rw [block_of_add]; exact Nat.lt_of_lt_of_le hxb HBB.out)).trans (hcx j (.int .i64 y) (by unfold litVals; simp [hy]))
          have hyb := okC_in HOKX.out (List.mem_of_getElem? hy)
          have hfj := flat_le (f := txN) hy
          have hlj : (pre ++ (x.take j).flatMap txN).length + (txN y).length ≤ 1000000000 := by rw [List.length_append]; have := HPL.out; omega
          have g1 : ¬ 9223372036854775807 < (Lib.itoa y).length + 1 := by have := Lib.itoa_length_le y (by have := HV.out; omega) (by have := HV.out; omega); omega
          have CI := Lib.hid (itoa_any (n := y) (HT.out.below HBj.out) (by have := HV.out; omega) (by have := HV.out; omega))
          have HY := Lib.hid hy
          have HLJ := Lib.hid hlj
          clear hcx hfj hlj hyb hy
          go_wp2_with fail
          refine CI.out.mono ?_
          rintro e w7 ⟨rfl, hb7⟩
          have HBU7 := Lib.hid (builder_new HBDj.out hb7)
          have HB27 := Lib.hid (HBWj.out.trans (hb7.mono HBWj.out.size))
          clear hb7 cy
          go_wp2_with fail
          rw [show (⟨(Lib.itoa y).toArray⟩ : ByteArray) ++ ⟨#[32]⟩ = ⟨(txN y).toArray⟩ from ba_add _ [32]]
          refine (writeString_any w2.heap.size w2.heap.size _ ⟨(txN y).toArray⟩ w7 (.inr HBU7.out) (by have := HLJ.out; rw [ba_size, Lib.byteCells_length]; omega) HB27.out.size).mono ?_
          rintro e w8 ⟨rfl, h1, h2⟩
          rw [strCells_is, ← byteCells_append] at h1
          have HBU8 := Lib.hid h1
          have HB28 := Lib.hid (HB27.out.trans h2)
          clear h1 h2
          go_wp2_with fail
          go_roundw
          case rel =>
            refine ⟨j + 1, by have := HM.out; omega, by go_num, ?_, HB28.out⟩
            rw [Gm.take_one HY.out, List.flatMap_append, ← List.append_assoc]
            simpa using HBU8.out
          case measure => have := HM.out; simp [intOf]; omega
        · obtain rfl : m = j := by omega
          have hbd := HBDj.out
          rw [List.take_of_length_le (by have := HM.out; omega)] at hbd
          have HBD9 := Lib.hid hbd
          clear hbd
          go_wp2_with fail
          refine (writeString_any w2.heap.size w2.heap.size _ ⟨#[48, 10]⟩ wr (.inr HBD9.out) (by have := HPL.out; rw [Lib.byteCells_length, List.length_append]; show _ + 2 ≤ _; omega) HBWj.out.size).mono ?_
          rintro e w8 ⟨rfl, h1, h2⟩
          rw [show Lib.strCells ⟨#[48, 10]⟩ = Lib.byteCells [48, 10] from rfl, ← byteCells_append] at h1
          have HBU8 := Lib.hid h1
          have HB28 := Lib.hid (HBWj.out.trans h2)
          clear h1 h2
          go_wp2_with fail
          go_roundw
          case rel =>
            refine ⟨k + 1, by have := HN.out; omega, by go_num, ?_, HB28.out⟩
            have e : txH v cs.length ++ (cs.take (k + 1)).flatMap txL = pre ++ x.flatMap txN ++ [48, 10] := by
              rw [Gm.take_one HX.out, List.flatMap_append, ← List.append_assoc, HN.out, HPRE.out]
              simp [txL]
            rw [e]; exact HBU8.out
          case measure => have := HN.out; simp [intOf]; omega
    · obtain rfl : n = k := by omega
      have hbd := HBD.out
      rw [List.take_of_length_le (by have := HN.out; omega)] at hbd
      have CS := Lib.hid (Tryz.Builder_String_any w2.heap.size w2.heap.size _ wo (.inr hbd) HBW.out.size)
      clear hbd
      go_wp2_with fail
      refine CS.out.mono ?_
      rintro e w7 ⟨rfl, hb7⟩
      have HEND := Lib.hid (HB.out.trans (hb7.mono HB2.out.size))
      clear hb7
      go_wp2
      go_ret2
      exact ⟨by rw [txF_is, HN.out]; rfl, HEND.out⟩
end Go.Proofs.YtaedbnbeelkkcaaGreatDoor
