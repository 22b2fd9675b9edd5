/-
  WALK of the reference's Models, of a formula without a model.
-/
import Derived.Test.YtgchepkcjkhmmaaDoorHo
namespace Go.Proofs.YtgchepkcjkhmmaaDoor
open Go.RowKit
theorem infoB_ : (Tryd.prog.info? 4).map (fun i => (i.zero, i.size, i.bytes)) = some (some (.bool false), 1, 1) := by kernel_rfl
set_option maxRecDepth 100000 in
theorem make_boolV (n : Nat) (hn : n ≤ 1000) (w : World) : (Instr.makeSlice 39 (.int .i64 (n : Int)) (.int .i64 (n : Int))).run Tryd.prog w =
    .ok (.slice (some ⟨w.heap.size, 0, none⟩) n n) (w.alloc (.cells (boolVals (List.replicate n false)).toArray 4)) := by
  obtain ⟨i0, hi, hz0, hz1, hz2⟩ := info_parts infoB_
  have h := run_make_rowN (P := Tryd.prog) 39 4 i0 (.bool false) Tryd.underlying39 hi hz0 .i64 .i64 n n (Nat.le_refl _) (by rw [hz2]; omega) (by omega) w
  rw [h]
  congr 3
  rw [hz1, Nat.mul_one]
  have e := toList_madeCells_one (.bool false) n
  have e2 : boolVals (List.replicate n false) = List.replicate n (Value.bool false) := by unfold boolVals; simp
  rw [e2, ← e]; rfl
theorem ClsR.wide {w : World} {B B' : Nat} {A : Option Addr} {cs : List (List Int)} (h : ClsR w B A cs) (hB : B ≤ B') : ClsR w B' A cs := fun hn => by
  obtain ⟨ad, hA, hb, hc⟩ := h hn
  exact ⟨ad, hA, by omega, fun i l hl => by
    obtain ⟨A', c', h1, h2⟩ := hc i l hl
    exact ⟨A', c', h1, h2.1, fun hp => by
      obtain ⟨a, e1, e2, e3⟩ := h2.2 hp
      exact ⟨a, e1, by omega, e3⟩⟩⟩
def MoR (w : World) (v : Value) (g V : Nat) (wr : World) : Prop :=
  ∃ vs : List Bool, vs.length = V ∧ Below w.heap.size w wr ∧ Blk wr w.heap.size 24 #[.int .i64 (V : Nat), v] ∧ Blk wr g 4 (boolVals vs).toArray
set_option maxRecDepth 100000 in
set_option maxHeartbeats 4000000 in
theorem models_none {w : World} {B V : Nat} {A : Option Addr} {n c : Nat} {cs : List (List Int)} (hn : cs.length = n) (hr : ClsR w B A cs) (hB : B ≤ w.heap.size) (hV : V ≤ 12) (hno : ∀ vs : List Bool, vs.length = V → Cn.forH vs cs = false)
    (hl : cs.length ≤ 1000) (hb : ∀ c ∈ cs, c.length ≤ 1000 ∧ ∀ x ∈ c, -(V : Int) ≤ x ∧ x ≤ (V : Int)) :
    Calls Tryd.prog 10 #[.agg #[.int .i64 (V : Nat), .slice A n c]] w fun e w' => e = .returned (.int .i64 0) ∧ Below w.heap.size w w' := by
  obtain ⟨W1, hW1⟩ : ∃ W1, W1 = w.alloc (.cells #[.int .i64 (V : Nat), .slice A n c] 24) := ⟨_, rfl⟩
  have hb1 : Below w.heap.size w W1 := by rw [hW1]; exact (Below.refl _ _).alloc (Nat.le_refl _) _
  have k1 : Blk W1 w.heap.size 24 #[.int .i64 (V : Nat), .slice A n c] := by rw [hW1]; exact Blk.new w _ _
  have c0 := k1.cell 0
  have m1 := make_boolV V (by omega) W1
  have HW1 := Lib.hid hW1
  have HB1 := Lib.hid hb1
  have HK1 := Lib.hid k1
  have HX := Lib.hid (And.intro hr hB)
  have HN := Lib.hid hn
  have HNO := Lib.hid hno
  have HBD := Lib.hid (And.intro hl hb)
  clear hW1 hb1 k1 hr hB hn hno hl hb
  go_enter Tryd.func10, Tryd.ntmps10
  go_upto_region 1 with fail
  rw [← HW1.out]
  obtain ⟨M, hM⟩ : ∃ M : Nat, 2 ^ V = M := ⟨_, rfl⟩
  have hMb : M ≤ 4096 := by rw [← hM]; exact Nat.pow_le_pow_right (by omega) hV
  have w2 : IntKind.i64.wrap ((2 : Int) ^ V) = (M : Int) := by
    have : ((2 : Int) ^ V) = ((2 ^ V : Nat) : Int) := by simp
    rw [this, hM, IntKind.wrap_i64]; omega
  have HM := Lib.hid hM
  obtain ⟨g, hg⟩ : ∃ g, W1.heap.size = g := ⟨_, rfl⟩
  have hgw : w.heap.size < g := by rw [← hg]; exact HK1.out.lt
  have H0 := Lib.hid (show MoR w (.slice A n c) g V (W1.alloc (.cells (boolVals (List.replicate V false)).toArray 4)) from
    ⟨List.replicate V false, by simp, HB1.out.alloc HB1.out.size _, HK1.out.alloc _, by rw [← hg]; exact Blk.new W1 _ _⟩)
  rw [hg] at m1
  clear hM
  go_wp2_with fail
  go_loopw [4, 5] (fun nv kv wr => nv = .int .i64 0 ∧ ∃ k : Nat, k ≤ M ∧ kv = .int .i64 (k : Nat) ∧ MoR w (.slice A n c) g V wr) (fun _ kv _ => M - (intOf kv).toNat)
  case atStart => exact ⟨rfl, 0, Nat.zero_le _, rfl, H0.out⟩
  case round =>
    clear H0 m1 c0
    obtain ⟨e1, k, hk, e2, vs, hvs, hb, kf, kv⟩ := hrel
    subst e1
    subst e2
    have c0 := kf.cell 0
    by_cases hkM : k < M
    · have d1 : decide ((k : Int) < (M : Int)) = true := decide_eq_true (by omega)
      have hkI : (k : Int) < (M : Int) := by omega
      have HI0 := Lib.hid (show MoR w (.slice A n c) g V wr from ⟨vs, hvs, hb, kf, kv⟩)
      clear hvs hb kf kv
      go_wp2_with fail
      go_loopw [6] (fun iv wx => ∃ i : Nat, i ≤ V ∧ iv = .int .i64 (i : Nat) ∧ MoR w (.slice A n c) g V wx) (fun iv _ => V - (intOf iv).toNat)
      case atStart => exact ⟨0, Nat.zero_le _, rfl, HI0.out⟩
      case round =>
        clear HI0 c0
        obtain ⟨i, hi, e2, vs, hvs, hb, kf, kv⟩ := hrel
        subst e2
        have c0 := kf.cell 0
        by_cases hiV : i < V
        · have hiI : (i : Int) < (V : Int) := by omega
          have hiN : i < 64 := by omega
          have w3 : IntKind.i64.wrap ((i : Int) + 1) = (i : Int) + 1 := by rw [IntKind.wrap_i64]; omega
          obtain ⟨x, hx⟩ : ∃ x, vs[i]? = some x := ⟨_, List.getElem?_eq_getElem (by omega)⟩
          have cv : wr.cell? ⟨g, i, none⟩ = some (.bool x) := by rw [Blk.cell kv]; unfold boolVals; simp [hx]
          have fv : wr.frozen? ⟨g, i, none⟩ = false := kv.frozen i
          have HN := Lib.hid (fun (b : Bool) => show MoR w (.slice A n c) g V (wr.setCell ⟨g, i, none⟩ (.bool b)) from
            ⟨vs.set i b, by simp [hvs], hb.setCell (by show w.heap.size ≤ g; omega) _, kf.far (p := ⟨g, i, none⟩) (by show w.heap.size ≠ g; omega) _, by
              have h := kv.set_ i (.bool b)
              have e : (boolVals vs).toArray.setIfInBounds i (.bool b) = (boolVals (vs.set i b)).toArray := by unfold boolVals; simp [List.map_set]
              rw [e] at h; exact h⟩)
          clear hvs hb kf kv hx
          go_wp2_with fail
          go_roundw
          case rel => exact ⟨i + 1, hiV, by go_num, HN.out _⟩
          case measure => simp [intOf]; omega
        · obtain rfl : i = V := by omega
          have hvB := HNO.out vs hvs
          have hrd : Reads wr wr.heap.size 1 (some ⟨g, 0, none⟩) vs.length (boolVals vs) := by
            refine ⟨by unfold boolVals; simp, fun _ => ⟨⟨g, 0, none⟩, rfl, kv.lt, fun j u hu => ?_⟩⟩
            have e : (⟨g, 0, none⟩ : Addr).add j = ⟨g, j, none⟩ := by
              unfold Addr.add; split
              · rename_i h0; rw [h0]
              · simp
            first
              | (rw [e, Blk.cell kv]; simpa using hu)
              | (rw [Blk.cell kv]; simpa using hu)
          obtain ⟨r1, z1⟩ := HX.out
          have CH := Lib.hid (holds_any (q := i) (cc := c) (cv := i) (B := wr.heap.size) ((r1.below (hb.mono z1)).wide (Nat.le_trans z1 hb.size)) hrd (Nat.le_refl _) (by have := HBD.out.1; omega) (by omega) (fun y hy => by
            have := HBD.out.2 y hy
            rw [hvs]; exact this))
          rw [hvs, HN.out, hvB] at CH
          have c1 := kf.cell 1
          have HB := Lib.hid hb
          have KF := Lib.hid kf
          have KV := Lib.hid kv
          have HVS := Lib.hid hvs
          clear hvs hb kf kv hvB hrd r1 z1
          go_wp2_with fail
          refine CH.out.mono ?_
          rintro e w5 ⟨rfl, hb5⟩
          have HN5 := Lib.hid (show MoR w (.slice A n c) g i w5 from ⟨vs, HVS.out, HB.out.trans (hb5.mono HB.out.size), KF.out.below hb5 KF.out.lt, KV.out.below hb5 KV.out.lt⟩)
          clear hb5 c0 c1
          go_wp2_with fail
          go_roundw
          case rel => exact ⟨rfl, k + 1, hkM, by go_num, HN5.out⟩
          case measure => simp [intOf]; omega
    · obtain rfl : k = M := by omega
      go_wp2_with fail
      go_ret
      exact ⟨rfl, hb⟩
end Go.Proofs.YtgchepkcjkhmmaaDoor
