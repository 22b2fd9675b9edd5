/-
  THE WALK of the reference's Eval (lustrumref3.Model): what a literal comes to.
-/
import Derived.Test.YtmbjhpgemphmmaaDoorGc
import Derived.Test.YtmbjhpgemphmmaaDoorGv
import Derived.Test.YtmbjhpgemphmmaaDoorSt
namespace Go.Proofs.YtmbjhpgemphmmaaDoor
open Go.RowKit

def boolRow (l : List Bool) : Array Value := (boolVals l).toArray
theorem boolRow_set (l : List Bool) (i : Nat) (b : Bool) : (boolRow l).setIfInBounds i (.bool b) = boolRow (l.set i b) := by
  unfold boolRow boolVals
  rw [List.setIfInBounds_toArray, List.map_set]
theorem boolRow_get {l : List Bool} {i : Nat} {b : Bool} (h : l[i]? = some b) : (boolRow l)[i]? = some (.bool b) := by
  unfold boolRow boolVals
  simp [h]
theorem infoBool : (Tryd.prog.info? 4).map (fun i => (i.zero, i.size, i.bytes)) = some (some (.bool false), 1, 1) := by kernel_rfl
theorem run_make_bools (n : Nat) (hn : n ≤ 1000000) (w : World) : (Instr.makeSlice 54 (.int .i64 ((n : Int) + 1)) (.int .i64 ((n : Int) + 1))).run Tryd.prog w =
    .ok (.slice (some ⟨w.heap.size, 0, none⟩) (n + 1) (n + 1)) (w.alloc (.cells (boolRow (List.replicate (n + 1) false)) 4)) := by
  obtain ⟨i0, hi, hz0, hz1, hz2⟩ := info_parts infoBool
  have h := run_make_rowN (P := Tryd.prog) 54 4 i0 (.bool false) Tryd.underlying54 hi hz0 .i64 .i64 (n + 1) (n + 1) (Nat.le_refl _) (by rw [hz2]; omega) (by omega) w
  have e : (((n + 1 : Nat) : Int)) = (n : Int) + 1 := by omega
  rw [e, hz1, Nat.mul_one] at h
  rw [h]
  have e2 : madeCells (Value.bool false).cells (n + 1) = boolRow (List.replicate (n + 1) false) := by
    apply Array.ext'
    rw [show (Value.bool false).cells = #[.bool false] from rfl, toList_madeCells_one]
    simp [boolRow, boolVals]
  rw [e2]
def ERel (W : World) (B m : Nat) (inp : List Bool) (gs : List Gm.Gate) (atv iv : Value) (wr : World) : Prop :=
  ∃ k : Nat, k ≤ gs.length ∧ iv = .int .i64 k ∧ atv = .int .i64 (Gm.ins (gs.take k) : Nat) ∧ Blk wr W.heap.size 4 (boolRow (Gm.rowAt inp gs k)) ∧ ModelAt wr B m gs ∧ Below W.heap.size W wr
theorem erel_next {W w1 : World} {B m k : Nat} {inp : List Bool} {gs : List Gm.Gate} {g : Gm.Gate} {b : Bool} (hk : gs[k]? = some g) (hb : Gm.gateV inp (Gm.vals inp (gs.take k)) (Gm.ins (gs.take k)) g = b)
    (h1 : Blk w1 W.heap.size 4 (boolRow (Gm.rowAt inp gs k))) (h2 : ModelAt w1 B m gs) (h3 : Below W.heap.size W w1) (iv : Value) (hi : iv = .int .i64 ((k + 1 : Nat) : Int)) (av : Value) (ha : av = .int .i64 ((Gm.ins (gs.take (k + 1)) : Nat) : Int)) :
    ERel W B m inp gs av iv (w1.setCell ⟨W.heap.size, k + 1, none⟩ (.bool b)) := by
  have hl := (List.getElem?_eq_some_iff.1 hk).1
  have hB := h1.set_ (k + 1) (.bool b)
  rw [boolRow_set, ← hb, Gm.rowAt_set inp hk] at hB
  obtain ⟨sv, q1, q2⟩ := h2.ex
  refine ⟨k + 1, by omega, hi, ha, hb ▸ hB, ⟨h2.len, h2.hb, sv, q1.far (fun e => ?_) _, ?_⟩, h3.setCell (by simp) _⟩
  · exact Blk.ne_ q1 h1 (by decide) e
  · refine q2.kept (w' := w1.setCell ⟨W.heap.size, k + 1, none⟩ (.bool b)) (row := some W.heap.size) ⟨rfl, rfl, rfl, by simp [World.setCell], fun j hj hn => Below.heap_setCell _ _ _ _ (fun e => hn (by rw [e]))⟩ (.inr (own_blk_ne q2 h1 (by decide)))
theorem ERel.drew {W w1 : World} {B m : Nat} {inp : List Bool} {gs : List Gm.Gate} {av iv : Value} (h : ERel W B m inp gs av iv w1) : ERel W B m inp gs av iv w1.drew := by
  obtain ⟨k, h1, h2, h3, h4, h5, h6⟩ := h
  exact ⟨k, h1, h2, h3, h4, h5.drewN 1, below_drewN h6 1⟩
attribute [local irreducible] wpStill
set_option maxRecDepth 100000 in
set_option maxHeartbeats 4000000 in
theorem meval_any {w : World} {B m : Nat} {gs : List Gm.Gate} (hm : ModelAt w B m gs) {inp : List Bool} (hwf : Gm.Wf gs) (hi : Gm.ins gs ≤ inp.length) {A : Option Addr} {c BR : Nat} (hr : Reads w BR 1 A inp.length (boolVals inp)) (hBR : BR ≤ w.heap.size) (hil : inp.length ≤ 1000000) {a : Nat} (ha : Gm.has gs a) :
    Calls Tryd.prog 29 #[.pointer (some ⟨m, 0, none⟩), .slice A inp.length c, .int .i64 a] w fun e w' => e = .returned (.bool (Gm.ev inp gs a)) ∧ Below w.heap.size w w' := by
  have hl := hm.len
  have hmk := run_make_bools gs.length (by omega)
  obtain ⟨Am, cm, c0, _, _⟩ := hm.row
  have HM := Lib.hid hm
  have HW := Lib.hid hwf
  have HI := Lib.hid hi
  have HR := Lib.hid hr
  have HBR := Lib.hid hBR
  have HA := Lib.hid ha
  have HIL := Lib.hid hil
  have ha1 : (a : Int) ≤ 1000000 := by unfold Gm.has at ha; omega
  clear hm hwf hi hr ha hil hBR
  go_enter Tryd.func29, Tryd.ntmps29
  go_wp2
  go_loopw [8, 9] (fun av iv wr => ERel w B m inp gs av iv wr) (fun _ iv _ => gs.length - (intOf iv).toNat)
  case atStart =>
    refine ⟨0, Nat.zero_le _, rfl, rfl, ?_, HM.out.new ((Below.refl _ _).alloc (Nat.le_refl _) _), (Below.refl _ _).alloc (Nat.le_refl _) _⟩
    rw [Gm.rowAt_zero]
    exact Blk.new w _ _
  case round =>
    clear c0 hmk
    obtain ⟨k, hk, rfl, rfl, hB, hM, hb⟩ := hrel
    obtain ⟨Am', cm', c0, _, hrow⟩ := hM.row
    have HB := Lib.hid hB
    have HM' := Lib.hid hM
    have HBl := Lib.hid hb
    clear hM hB hb
    by_cases hkl : k < gs.length
    · obtain ⟨⟨ga, gb, gi⟩, hg⟩ : ∃ g, gs[k]? = some g := ⟨gs[k], List.getElem?_eq_getElem hkl⟩
      obtain ⟨blk, hA, hlt, d0, d1, d2⟩ := hrow k _ hg
      subst hA
      have HG := Lib.hid hg
      obtain ⟨W1, hW1⟩ : ∃ W1, W1 = wr.alloc (.cells #[.int .i64 ga, .int .i64 gb, .bool gi] 126) := ⟨_, rfl⟩
      have hnew : Below wr.heap.size wr W1 := by rw [hW1]; exact (Below.refl _ _).alloc (Nat.le_refl _) _
      have x0 : W1.cell? ⟨wr.heap.size, 0, none⟩ = some (.int .i64 ga) := by rw [hW1, (Blk.new wr _ _).cell 0]; rfl
      have x1 : W1.cell? ⟨wr.heap.size, 1, none⟩ = some (.int .i64 gb) := by rw [hW1, (Blk.new wr _ _).cell 1]; rfl
      have x2 : W1.cell? ⟨wr.heap.size, 2, none⟩ = some (.bool gi) := by rw [hW1, (Blk.new wr _ _).cell 2]; rfl
      have hlt2 := HB.out.lt
      have hB1 : Blk W1 w.heap.size 4 (boolRow (Gm.rowAt inp gs k)) := by rw [hW1]; exact HB.out.alloc _
      have HB1 := Lib.hid hB1
      have HM1 := Lib.hid (HM'.out.new hnew)
      have HBl1 := Lib.hid (HBl.out.trans (hnew.mono HBl.out.size))
      have hfz : W1.frozen? ⟨w.heap.size, k + 1, none⟩ = false := hB1.frozen _
      obtain ⟨bx, hbx⟩ := Gm.rowAt_any (inp := inp) (Nat.le_of_lt hkl) (i := k + 1) (by omega)
      have cv : W1.cell? ⟨w.heap.size, k + 1, none⟩ = some (.bool bx) := by rw [hB1.cell]; exact boolRow_get hbx
      have HWW := Lib.hid hW1
      clear hrow hlt hlt2 hnew hB1 hW1 hbx
      cases gi with
      | true =>
        have hin := Gm.ins_take_lt hg rfl
        obtain ⟨ad, hA, hadb, hcell⟩ := HR.out.2 (by have := HI.out; omega)
        subst hA
        have hb0 : inp[Gm.ins (gs.take k)]? = some (inp.getD (Gm.ins (gs.take k)) false) := by
          rw [List.getD_eq_getElem?_getD, List.getElem?_eq_getElem (by have := HI.out; omega)]; rfl
        obtain ⟨bv, hbv⟩ : ∃ bv, bv = inp.getD (Gm.ins (gs.take k)) false := ⟨_, rfl⟩
        rw [← hbv] at hb0
        have ci := (HBl1.out.cell (p := ad.add (Gm.ins (gs.take k))) (by rw [block_of_add]; have := HBR.out; omega)).trans (hcell (Gm.ins (gs.take k)) (.bool bv) (by unfold boolVals; simp [hb0]))
        obtain ⟨ni, hni⟩ : ∃ ni, ni = Gm.ins (gs.take k) := ⟨_, rfl⟩
        rw [← hni] at ci ⊢
        have hnl : (ni : Int) < (inp.length : Int) := by rw [hni]; have := HI.out; omega
        have hnl2 : (ni : Int) ≤ 1000000 := by have := HIL.out; omega
        have HV := Lib.hid (show Gm.gateV inp (Gm.vals inp (gs.take k)) (Gm.ins (gs.take k)) ⟨ga, gb, true⟩ = bv by rw [hbv]; simp [Gm.gateV])
        have HN := Lib.hid (show ((Gm.ins (gs.take (k + 1)) : Nat) : Int) = (ni : Int) + 1 by rw [Gm.ins_take_succ hg, ← hni]; simp)
        clear hin hg hcell hb0 hbv hni hadb
        go_upto_region 7 with fail
        rw [← HWW.out]
        go_wp2_with fail
        go_roundw
        case rel => exact erel_next HG.out HV.out HB1.out HM1.out HBl1.out _ (by go_num) _ (by rw [HN.out])
        case measure => simp [intOf]; omega
      | false =>
        obtain ⟨a1, a2, a3⟩ := HW.out.ahead k _ hg rfl
        simp only at a1 a2 a3
        obtain ⟨b0, p0, l0⟩ := Gm.lit_row (inp := inp) hk (a := ga) (by omega)
        obtain ⟨b1, p1, l1⟩ := Gm.lit_row (inp := inp) hk (a := gb) (by omega)
        have y0 : W1.cell? ⟨w.heap.size, ga / 2, none⟩ = some (.bool b0) := by rw [HB1.out.cell]; exact boolRow_get p0
        have y1 : W1.cell? ⟨w.heap.size, gb / 2, none⟩ = some (.bool b1) := by rw [HB1.out.cell]; exact boolRow_get p1
        have z0 : (0 : Int) ≤ (ga : Int) / 2 := by omega
        have z1 : (0 : Int) ≤ (gb : Int) / 2 := by omega
        have z2 : (ga : Int) / 2 < (gs.length : Int) + 1 := by omega
        have z3 : (gb : Int) / 2 < (gs.length : Int) + 1 := by omega
        have HV := Lib.hid (show Gm.gateV inp (Gm.vals inp (gs.take k)) (Gm.ins (gs.take k)) ⟨ga, gb, false⟩ = ((b0 != (((ga : Int) % 2) == 1)) && (b1 != (((gb : Int) % 2) == 1))) by simp [Gm.gateV, l0, l1])
        have HN := Lib.hid (show ((Gm.ins (gs.take (k + 1)) : Nat) : Int) = (Gm.ins (gs.take k) : Int) by rw [Gm.ins_take_succ hg]; simp)
        have hbd : (ga : Int) ≤ 1000000 ∧ (gb : Int) ≤ 1000000 := by omega
        clear hg a1 a2 a3 p0 p1 l0 l1
        go_upto_region 7 with fail
        rw [← HWW.out]
        have u0 : IntKind.i64.wrap ((k : Int) + 1) = (k : Int) + 1 := wrap_in (by omega) (by omega)
        have u1 : IntKind.i64.wrap ((ga : Int) / 2) = (ga : Int) / 2 := wrap_in (by omega) (by omega)
        have u2 : IntKind.i64.wrap ((gb : Int) / 2) = (gb : Int) / 2 := wrap_in (by omega) (by omega)
        have u3 : ((ga : Int) / 2).toNat = ga / 2 := by omega
        have u4 : ((gb : Int) / 2).toNat = gb / 2 := by omega
        have u5 : ((k : Int) + 1).toNat = k + 1 := by omega
        have u6 : (k : Int) + 1 < (gs.length : Int) + 1 := by omega
        have u7 : 0 ≤ (k : Int) + 1 := by omega
        obtain ⟨pa, hpa⟩ : ∃ pa, pa = (((ga : Int) % 2) == 1) := ⟨_, rfl⟩
        obtain ⟨pb, hpb⟩ : ∃ pb, pb = (((gb : Int) % 2) == 1) := ⟨_, rfl⟩
        rw [← hpa, ← hpb] at HV
        have u8 : ((ga : Int).tmod 2 == 1) = pa := by rw [hpa, Int.tmod_eq_emod_of_nonneg (by omega)]
        have u9 : ((gb : Int).tmod 2 == 1) = pb := by rw [hpb, Int.tmod_eq_emod_of_nonneg (by omega)]
        clear hpa hpb
        go_wp2_with fail
        cases b0 <;> cases pa
        · refine wp_region_still_tail 28 (by kernel_rfl) (by kernel_rfl) ?_
          simp only [List.take_succ_cons, List.take_zero, List.drop_succ_cons, List.drop_zero]
          iterate 15 (refine still_want rfl (fun K hK => ?_); go_simp; refine hK _ ?_; clear hK K)
          iterate 11 (refine still_skip (by kernel_rfl) ?_; go_simp)
          iterate 2 (refine still_want rfl (fun K hK => ?_); go_simp; refine hK _ ?_; clear hK K)
          refine wpStill_nil ?_
          change wpList _ _ _ _ _ W1.drew
          obtain ⟨W2, hW2⟩ : ∃ W2, W2 = W1.drew := ⟨_, rfl⟩
          have v0 : W2.cell? ⟨w.heap.size, k + 1, none⟩ = some (.bool bx) := by rw [hW2]; exact cv
          have v1 : W2.frozen? ⟨w.heap.size, k + 1, none⟩ = false := by rw [hW2]; exact hfz
          have HB2 := Lib.hid (show Blk W2 w.heap.size 4 (boolRow (Gm.rowAt inp gs k)) by rw [hW2]; exact HB1.out)
          have HM2 := Lib.hid (show ModelAt W2 B m gs by rw [hW2]; exact HM1.out.drewN 1)
          have HBl2 := Lib.hid (show Below w.heap.size w W2 by rw [hW2]; exact below_drewN HBl1.out 1)
          rw [← hW2]
          clear hW2 cv hfz x0 x1 x2 y0 y1
          clear u0 u1 u2 u3 u4 u5 u8 u9
          go_wp2_with fail
          go_roundw
          case rel => exact erel_next HG.out (by rw [HV.out]; rfl) HB2.out HM2.out HBl2.out _ (by go_num) _ (by rw [HN.out])
          case measure => simp [intOf]; omega
        · refine wp_region_still_tail 28 (by kernel_rfl) (by kernel_rfl) ?_
          simp only [List.take_succ_cons, List.take_zero, List.drop_succ_cons, List.drop_zero]
          iterate 15 (refine still_want rfl (fun K hK => ?_); go_simp; refine hK _ ?_; clear hK K)
          iterate 11 (refine still_want (by kernel_rfl) (fun K hK => ?_); go_simp; refine hK _ ?_; clear hK K)
          iterate 2 (refine still_want rfl (fun K hK => ?_); go_simp; refine hK _ ?_; clear hK K)
          refine wpStill_nil ?_
          change wpList _ _ _ _ _ W1.drew
          obtain ⟨W2, hW2⟩ : ∃ W2, W2 = W1.drew := ⟨_, rfl⟩
          have v0 : W2.cell? ⟨w.heap.size, k + 1, none⟩ = some (.bool bx) := by rw [hW2]; exact cv
          have v1 : W2.frozen? ⟨w.heap.size, k + 1, none⟩ = false := by rw [hW2]; exact hfz
          have HB2 := Lib.hid (show Blk W2 w.heap.size 4 (boolRow (Gm.rowAt inp gs k)) by rw [hW2]; exact HB1.out)
          have HM2 := Lib.hid (show ModelAt W2 B m gs by rw [hW2]; exact HM1.out.drewN 1)
          have HBl2 := Lib.hid (show Below w.heap.size w W2 by rw [hW2]; exact below_drewN HBl1.out 1)
          rw [← hW2]
          clear hW2 cv hfz x0 x1 x2 y0 y1
          clear u0 u1 u2 u3 u4 u5 u8 u9
          go_wp2_with fail
          go_roundw
          case rel => exact erel_next HG.out (by rw [HV.out]; rfl) HB2.out HM2.out HBl2.out _ (by go_num) _ (by rw [HN.out])
          case measure => simp [intOf]; omega
        · refine wp_region_still_tail 28 (by kernel_rfl) (by kernel_rfl) ?_
          simp only [List.take_succ_cons, List.take_zero, List.drop_succ_cons, List.drop_zero]
          iterate 15 (refine still_want rfl (fun K hK => ?_); go_simp; refine hK _ ?_; clear hK K)
          iterate 11 (refine still_want (by kernel_rfl) (fun K hK => ?_); go_simp; refine hK _ ?_; clear hK K)
          iterate 2 (refine still_want rfl (fun K hK => ?_); go_simp; refine hK _ ?_; clear hK K)
          refine wpStill_nil ?_
          change wpList _ _ _ _ _ W1.drew
          obtain ⟨W2, hW2⟩ : ∃ W2, W2 = W1.drew := ⟨_, rfl⟩
          have v0 : W2.cell? ⟨w.heap.size, k + 1, none⟩ = some (.bool bx) := by rw [hW2]; exact cv
          have v1 : W2.frozen? ⟨w.heap.size, k + 1, none⟩ = false := by rw [hW2]; exact hfz
          have HB2 := Lib.hid (show Blk W2 w.heap.size 4 (boolRow (Gm.rowAt inp gs k)) by rw [hW2]; exact HB1.out)
          have HM2 := Lib.hid (show ModelAt W2 B m gs by rw [hW2]; exact HM1.out.drewN 1)
          have HBl2 := Lib.hid (show Below w.heap.size w W2 by rw [hW2]; exact below_drewN HBl1.out 1)
          rw [← hW2]
          clear hW2 cv hfz x0 x1 x2 y0 y1
          clear u0 u1 u2 u3 u4 u5 u8 u9
          go_wp2_with fail
          go_roundw
          case rel => exact erel_next HG.out (by rw [HV.out]; rfl) HB2.out HM2.out HBl2.out _ (by go_num) _ (by rw [HN.out])
          case measure => simp [intOf]; omega
        · refine wp_region_still_tail 28 (by kernel_rfl) (by kernel_rfl) ?_
          simp only [List.take_succ_cons, List.take_zero, List.drop_succ_cons, List.drop_zero]
          iterate 15 (refine still_want rfl (fun K hK => ?_); go_simp; refine hK _ ?_; clear hK K)
          iterate 11 (refine still_skip (by kernel_rfl) ?_; go_simp)
          iterate 2 (refine still_want rfl (fun K hK => ?_); go_simp; refine hK _ ?_; clear hK K)
          refine wpStill_nil ?_
          change wpList _ _ _ _ _ W1.drew
          obtain ⟨W2, hW2⟩ : ∃ W2, W2 = W1.drew := ⟨_, rfl⟩
          have v0 : W2.cell? ⟨w.heap.size, k + 1, none⟩ = some (.bool bx) := by rw [hW2]; exact cv
          have v1 : W2.frozen? ⟨w.heap.size, k + 1, none⟩ = false := by rw [hW2]; exact hfz
          have HB2 := Lib.hid (show Blk W2 w.heap.size 4 (boolRow (Gm.rowAt inp gs k)) by rw [hW2]; exact HB1.out)
          have HM2 := Lib.hid (show ModelAt W2 B m gs by rw [hW2]; exact HM1.out.drewN 1)
          have HBl2 := Lib.hid (show Below w.heap.size w W2 by rw [hW2]; exact below_drewN HBl1.out 1)
          rw [← hW2]
          clear hW2 cv hfz x0 x1 x2 y0 y1
          clear u0 u1 u2 u3 u4 u5 u8 u9
          go_wp2_with fail
          go_roundw
          case rel => exact erel_next HG.out (by rw [HV.out]; rfl) HB2.out HM2.out HBl2.out _ (by go_num) _ (by rw [HN.out])
          case measure => simp [intOf]; omega
    · obtain rfl : k = gs.length := by omega
      clear hrow
      have hBa := HB.out
      rw [Gm.rowAt_all] at hBa
      obtain ⟨bv, p0, l0⟩ := Gm.lit_all (inp := inp) HA.out
      have y0 : wr.cell? ⟨w.heap.size, a / 2, none⟩ = some (.bool bv) := by rw [hBa.cell]; exact boolRow_get p0
      have hh := HA.out
      unfold Gm.has at hh
      have z0 : (0 : Int) ≤ (a : Int) / 2 := by omega
      have z1 : (a : Int) / 2 < (gs.length : Int) + 1 := by omega
      have u3 : ((a : Int) / 2).toNat = a / 2 := by omega
      have HL := Lib.hid l0
      clear hBa p0 l0 hh
      go_wp2
      go_ret
      exact ⟨by rw [HL.out]; rfl, HBl.out⟩
end Go.Proofs.YtmbjhpgemphmmaaDoor
