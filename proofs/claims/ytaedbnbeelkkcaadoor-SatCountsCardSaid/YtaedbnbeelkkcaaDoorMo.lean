/-
  WALK of the reference's Holds, clauses of any size (turned from Ch).
  WALK of the reference's Models, of a formula without a model.
-/
import Derived.Test.YtaedbnbeelkkcaaDoorRk
import Derived.Test.YtaedbnbeelkkcaaDoorHs
namespace Go.Proofs.YtaedbnbeelkkcaaDoor
open Go.RowKit
namespace Cn
def litH (vs : List Bool) (n : Int) : Bool := (decide (0 < n) && vs.getD (n.toNat - 1) false) || (decide (n < 0) && !(vs.getD ((-n).toNat - 1) false))
def clH (vs : List Bool) (c : List Int) : Bool := c.any (litH vs)
def forH (vs : List Bool) (cs : List (List Int)) : Bool := cs.all (clH vs)
end Cn
theorem litVals_at {l : List Int} {k : Nat} {a : Int} (h : l[k]? = some a) : (litVals l)[k]? = some (.int .i64 a) := by unfold litVals; simp [h]
theorem take_any {l : List Int} {vs : List Bool} {k : Nat} {n : Int} (h : l[k]? = some n) : (l.take (k + 1)).any (Cn.litH vs) = ((l.take k).any (Cn.litH vs) || Cn.litH vs n) := by
  rw [List.take_add_one, h]; simp [List.any_append]
theorem take_all {cs : List (List Int)} {vs : List Bool} {i : Nat} {l : List Int} (h : cs[i]? = some l) : (cs.take (i + 1)).all (Cn.clH vs) = ((cs.take i).all (Cn.clH vs) && Cn.clH vs l) := by
  rw [List.take_add_one, h]; simp [List.all_append]
theorem all_false {cs : List (List Int)} {vs : List Bool} {i : Nat} {l : List Int} (h : cs[i]? = some l) (hf : Cn.clH vs l = false) : Cn.forH vs cs = false := by
  unfold Cn.forH
  rw [List.all_eq_false]
  exact ⟨l, List.mem_of_getElem? h, by rw [hf]; simp⟩
def HoI (l : List Int) (vs : List Bool) (W1 : World) (sv kv : Value) (wx : World) : Prop := ∃ k : Nat, k ≤ l.length ∧ kv = .int .i64 k ∧ (∃ b, (l.take k).any (Cn.litH vs) = b ∧ sv = .bool b) ∧ W1 = wx
def HoR (cs : List (List Int)) (vs : List Bool) (W1 : World) (iv : Value) (wr : World) : Prop := ∃ i : Nat, i ≤ cs.length ∧ iv = .int .i64 i ∧ (cs.take i).all (Cn.clH vs) = true ∧ W1 = wr
set_option maxRecDepth 100000 in
set_option maxHeartbeats 4000000 in
theorem holds_any {w : World} {Ac Av : Option Addr} {cc cv q B : Nat} {cs : List (List Int)} {vs : List Bool} (hc : ClsR w B Ac cs) (hv : Reads w B 1 Av vs.length (boolVals vs)) (hB : B ≤ w.heap.size) (hl : cs.length ≤ 300000) (hvl : vs.length ≤ 100000)
    (hb : ∀ c ∈ cs, c.length ≤ 1000 ∧ ∀ x ∈ c, -(vs.length : Int) ≤ x ∧ x ≤ (vs.length : Int)) :
    Calls Tryd.prog 24 #[.agg #[.int .i64 (q : Nat), .slice Ac cs.length cc], .slice Av vs.length cv] w fun e w' => e = .returned (.bool (Cn.forH vs cs)) ∧ Below w.heap.size w w' := by
  obtain ⟨W1, hW1⟩ : ∃ W1, W1 = w.alloc (.cells #[.int .i64 (q : Nat), .slice Ac cs.length cc] 24) := ⟨_, rfl⟩
  have hb1 : Below w.heap.size w W1 := by rw [hW1]; exact (Below.refl _ _).alloc (Nat.le_refl _) _
  have k1 : Blk W1 w.heap.size 24 #[.int .i64 (q : Nat), .slice Ac cs.length cc] := by rw [hW1]; exact Blk.new w _ _
  have c1 := k1.cell 1
  have HC := Lib.hid (hc.below (hb1.mono hB))
  have HV := Lib.hid (hv.below (hb1.mono hB))
  have HBD := Lib.hid hb
  have HB1 := Lib.hid hb1
  have HW1 := Lib.hid hW1
  clear hW1 hb1 k1 hc hv hb hB
  go_enter Tryd.func24, Tryd.ntmps24
  go_upto_region 1 with fail
  rw [← HW1.out]
  go_wp2_with fail
  go_loopw [5] (fun iv wr => HoR cs vs W1 iv wr) (fun iv _ => cs.length - (intOf iv).toNat)
  case atStart => exact ⟨0, Nat.zero_le _, rfl, rfl, rfl⟩
  case round =>
    obtain ⟨i, hi, rfl, hall, rfl⟩ := hrel
    have HALL := Lib.hid hall
    clear hall
    by_cases hil : i < cs.length
    · obtain ⟨l, hl'⟩ : ∃ l, cs[i]? = some l := ⟨_, List.getElem?_eq_getElem hil⟩
      obtain ⟨ad, rfl, hadB, hrd⟩ := HC.out (by omega)
      obtain ⟨A, c, ci, hr⟩ := hrd i l hl'
      obtain ⟨h3, hbd⟩ := HBD.out l (List.mem_of_getElem? hl')
      have HL := Lib.hid hl'
      have HR := Lib.hid hr
      have HBL := Lib.hid hbd
      clear hl' hrd hr hbd
      go_wp2_with fail
      go_loopw [6, 7] (fun sv kv wx => HoI l vs W1 sv kv wx) (fun _ kv _ => l.length - (intOf kv).toNat)
      case atStart => exact ⟨0, Nat.zero_le _, rfl, ⟨_, rfl, rfl⟩, rfl⟩
      case round =>
        obtain ⟨k, hk, rfl, ⟨b, hbs, rfl⟩, rfl⟩ := hrel
        by_cases hkl : k < l.length
        · obtain ⟨n, hn⟩ : ∃ n, l[k]? = some n := ⟨_, List.getElem?_eq_getElem hkl⟩
          obtain ⟨al, rfl, _, hcell⟩ := HR.out.2 (by omega)
          have cn := hcell k _ (litVals_at hn)
          obtain ⟨lo, hi2⟩ := HBL.out n (List.mem_of_getElem? hn)
          have HBS := Lib.hid hbs
          have HN := Lib.hid hn
          have HT := Lib.hid (take_any (vs := vs) hn)
          clear hbs hn hcell
          rcases Int.lt_trichotomy n 0 with h0 | h0 | h0
          · obtain ⟨m, hm⟩ : ∃ m : Nat, -n - 1 = (m : Int) := ⟨(-n - 1).toNat, by omega⟩
            have hml : m < vs.length := by omega
            obtain ⟨x, hx⟩ : ∃ x, vs[m]? = some x := ⟨_, List.getElem?_eq_getElem hml⟩
            obtain ⟨av, rfl, _, hvc⟩ := HV.out.2 (by omega)
            have cx := hvc m (.bool x) (by unfold boolVals; simp [hx])
            have e0 : decide ((0 : Int) < n) = false := decide_eq_false (by omega)
            have e1 : decide (n < (0 : Int)) = true := decide_eq_true (by omega)
            have w1 : IntKind.i64.wrap (-n) = -n := by rw [IntKind.wrap_i64]; omega
            have w2 : IntKind.i64.wrap (-n - 1) = (m : Int) := by rw [IntKind.wrap_i64]; omega
            have hmI : (m : Int) < (vs.length : Int) := by omega
            have HE := Lib.hid (show Cn.litH vs n = !x by
              have hx' : vs.getD m false = x := by rw [List.getD, hx]; rfl
              unfold Cn.litH
              rw [e0, e1, show (-n).toNat - 1 = m by omega, hx']; simp)
            clear hx hvc hm h0
            cases x with
            | true =>
              go_wp2_with fail
              go_roundw
              case rel => exact ⟨k + 1, by omega, by go_num, ⟨b, by rw [HT.out, HE.out, HBS.out]; simp, rfl⟩, rfl⟩
              case measure => simp [intOf]; omega
            | false =>
              go_wp2_with fail
              go_roundw
              case rel => exact ⟨k + 1, by omega, by go_num, ⟨true, by rw [HT.out, HE.out]; simp, rfl⟩, rfl⟩
              case measure => simp [intOf]; omega
          · have e0 : decide ((0 : Int) < n) = false := decide_eq_false (by omega)
            have e1 : decide (n < (0 : Int)) = false := decide_eq_false (by omega)
            have HE := Lib.hid (show Cn.litH vs n = false by unfold Cn.litH; rw [e0, e1]; simp)
            clear h0
            go_wp2_with fail
            go_roundw
            case rel => exact ⟨k + 1, by omega, by go_num, ⟨b, by rw [HT.out, HE.out, HBS.out]; simp, rfl⟩, rfl⟩
            case measure => simp [intOf]; omega
          · obtain ⟨m, hm⟩ : ∃ m : Nat, n - 1 = (m : Int) := ⟨(n - 1).toNat, by omega⟩
            have hml : m < vs.length := by omega
            obtain ⟨x, hx⟩ : ∃ x, vs[m]? = some x := ⟨_, List.getElem?_eq_getElem hml⟩
            obtain ⟨av, rfl, _, hvc⟩ := HV.out.2 (by omega)
            have cx := hvc m (.bool x) (by unfold boolVals; simp [hx])
            have e0 : decide ((0 : Int) < n) = true := decide_eq_true (by omega)
            have e1 : decide (n < (0 : Int)) = false := decide_eq_false (by omega)
            have w2 : IntKind.i64.wrap (n - 1) = (m : Int) := by rw [IntKind.wrap_i64]; omega
            have hmI : (m : Int) < (vs.length : Int) := by omega
            have HE := Lib.hid (show Cn.litH vs n = x by
              have hx' : vs.getD m false = x := by rw [List.getD, hx]; rfl
              unfold Cn.litH
              rw [e0, e1, show n.toNat - 1 = m by omega, hx']; simp)
            clear hx hvc hm h0
            cases x with
            | true =>
              go_wp2_with fail
              go_roundw
              case rel => exact ⟨k + 1, by omega, by go_num, ⟨true, by rw [HT.out, HE.out]; simp, rfl⟩, rfl⟩
              case measure => simp [intOf]; omega
            | false =>
              go_wp2_with fail
              go_roundw
              case rel => exact ⟨k + 1, by omega, by go_num, ⟨b, by rw [HT.out, HE.out, HBS.out]; simp, rfl⟩, rfl⟩
              case measure => simp [intOf]; omega
        · obtain rfl : k = l.length := by omega
          rw [List.take_length] at hbs
          have HBS := Lib.hid (show Cn.clH vs l = b from hbs)
          clear hbs
          cases b with
          | false =>
            go_wp2_with fail
            go_ret
            exact ⟨by rw [all_false HL.out HBS.out]; rfl, HB1.out⟩
          | true =>
            go_wp2_with fail
            go_roundw
            case rel => exact ⟨i + 1, by omega, by go_num, by rw [take_all HL.out, HALL.out, HBS.out]; rfl, rfl⟩
            case measure => simp [intOf]; omega
    · obtain rfl : i = cs.length := by omega
      go_wp2_with fail
      go_ret
      refine ⟨?_, HB1.out⟩
      have h := HALL.out
      rw [List.take_length] at h
      unfold Cn.forH
      rw [h]; rfl
end Go.Proofs.YtaedbnbeelkkcaaDoor
namespace Go.Proofs.YtaedbnbeelkkcaaDoor
open Go.RowKit
theorem infoB_ : (Tryd.prog.info? 4).map (fun i => (i.zero, i.size, i.bytes)) = some (some (.bool false), 1, 1) := by kernel_rfl
set_option maxRecDepth 100000 in
theorem make_boolV (n : Nat) (hn : n ≤ 1000) (w : World) : (Instr.makeSlice 43 (.int .i64 (n : Int)) (.int .i64 (n : Int))).run Tryd.prog w =
    .ok (.slice (some ⟨w.heap.size, 0, none⟩) n n) (w.alloc (.cells (boolVals (List.replicate n false)).toArray 4)) := by
  obtain ⟨i0, hi, hz0, hz1, hz2⟩ := info_parts infoB_
  have h := run_make_rowN (P := Tryd.prog) 43 4 i0 (.bool false) Tryd.underlying43 hi hz0 .i64 .i64 n n (Nat.le_refl _) (by rw [hz2]; omega) (by omega) w
  rw [h]
  congr 3
  rw [hz1, Nat.mul_one]
  have e := toList_madeCells_one (.bool false) n
  have e2 : boolVals (List.replicate n false) = List.replicate n (Value.bool false) := by unfold boolVals; simp
  rw [e2, ← e]; rfl
theorem ClsR.wide {w : World} {B B' : Nat} {A : Option Addr} {cs : List (List Int)} (h : ClsR w B A cs) (hB : B ≤ B') : ClsR w B' A cs := fun hn => by
  obtain ⟨ad, hA, hb, hc⟩ := h hn
  exact ⟨ad, hA, by omega, fun i l hl => by
    obtain ⟨A', c', h1, h2⟩ := hc i l hl
    exact ⟨A', c', h1, h2.1, fun hp => by
      obtain ⟨a, e1, e2, e3⟩ := h2.2 hp
      exact ⟨a, e1, by omega, e3⟩⟩⟩
def MoR (w : World) (v : Value) (g V : Nat) (wr : World) : Prop :=
  ∃ vs : List Bool, vs.length = V ∧ Below w.heap.size w wr ∧ Blk wr w.heap.size 24 #[.int .i64 (V : Nat), v] ∧ Blk wr g 4 (boolVals vs).toArray
set_option maxRecDepth 100000 in
set_option maxHeartbeats 4000000 in
theorem models_none {w : World} {B V : Nat} {A : Option Addr} {n c : Nat} {cs : List (List Int)} (hn : cs.length = n) (hr : ClsR w B A cs) (hB : B ≤ w.heap.size) (hV : V ≤ 12) (hno : ∀ vs : List Bool, vs.length = V → Cn.forH vs cs = false)
    (hl : cs.length ≤ 1000) (hb : ∀ c ∈ cs, c.length ≤ 1000 ∧ ∀ x ∈ c, -(V : Int) ≤ x ∧ x ≤ (V : Int)) :
    Calls Tryd.prog 12 #[.agg #[.int .i64 (V : Nat), .slice A n c]] w fun e w' => e = .returned (.int .i64 0) ∧ Below w.heap.size w w' := by
  obtain ⟨W1, hW1⟩ : ∃ W1, W1 = w.alloc (.cells #[.int .i64 (V : Nat), .slice A n c] 24) := ⟨_, rfl⟩
  have hb1 : Below w.heap.size w W1 := by rw [hW1]; exact (Below.refl _ _).alloc (Nat.le_refl _) _
  have k1 : Blk W1 w.heap.size 24 #[.int .i64 (V : Nat), .slice A n c] := by rw [hW1]; exact Blk.new w _ _
  have c0 := k1.cell 0
  have m1 := make_boolV V (by omega) W1
  have HW1 := Lib.hid hW1
  have HB1 := Lib.hid hb1
  have HK1 := Lib.hid k1
  have HX := Lib.hid (And.intro hr hB)
  have HN := Lib.hid hn
  have HNO := Lib.hid hno
  have HBD := Lib.hid (And.intro hl hb)
  clear hW1 hb1 k1 hr hB hn hno hl hb
  go_enter Tryd.func12, Tryd.ntmps12
  go_upto_region 1 with fail
  rw [← HW1.out]
  obtain ⟨M, hM⟩ : ∃ M : Nat, 2 ^ V = M := ⟨_, rfl⟩
  have hMb : M ≤ 4096 := by rw [← hM]; exact Nat.pow_le_pow_right (by omega) hV
  have w2 : IntKind.i64.wrap ((2 : Int) ^ V) = (M : Int) := by
    have : ((2 : Int) ^ V) = ((2 ^ V : Nat) : Int) := by simp
    rw [this, hM, IntKind.wrap_i64]; omega
  have HM := Lib.hid hM
  obtain ⟨g, hg⟩ : ∃ g, W1.heap.size = g := ⟨_, rfl⟩
  have hgw : w.heap.size < g := by rw [← hg]; exact HK1.out.lt
  have H0 := Lib.hid (show MoR w (.slice A n c) g V (W1.alloc (.cells (boolVals (List.replicate V false)).toArray 4)) from
    ⟨List.replicate V false, by simp, HB1.out.alloc HB1.out.size _, HK1.out.alloc _, by rw [← hg]; exact Blk.new W1 _ _⟩)
  rw [hg] at m1
  clear hM
  go_wp2_with fail
  go_loopw [4, 5] (fun nv kv wr => nv = .int .i64 0 ∧ ∃ k : Nat, k ≤ M ∧ kv = .int .i64 (k : Nat) ∧ MoR w (.slice A n c) g V wr) (fun _ kv _ => M - (intOf kv).toNat)
  case atStart => exact ⟨rfl, 0, Nat.zero_le _, rfl, H0.out⟩
  case round =>
    clear H0 m1 c0
    obtain ⟨e1, k, hk, e2, vs, hvs, hb, kf, kv⟩ := hrel
    subst e1
    subst e2
    have c0 := kf.cell 0
    by_cases hkM : k < M
    · have d1 : decide ((k : Int) < (M : Int)) = true := decide_eq_true (by omega)
      have hkI : (k : Int) < (M : Int) := by omega
      have HI0 := Lib.hid (show MoR w (.slice A n c) g V wr from ⟨vs, hvs, hb, kf, kv⟩)
      clear hvs hb kf kv
      go_wp2_with fail
      go_loopw [6] (fun iv wx => ∃ i : Nat, i ≤ V ∧ iv = .int .i64 (i : Nat) ∧ MoR w (.slice A n c) g V wx) (fun iv _ => V - (intOf iv).toNat)
      case atStart => exact ⟨0, Nat.zero_le _, rfl, HI0.out⟩
      case round =>
        clear HI0 c0
        obtain ⟨i, hi, e2, vs, hvs, hb, kf, kv⟩ := hrel
        subst e2
        have c0 := kf.cell 0
        by_cases hiV : i < V
        · have hiI : (i : Int) < (V : Int) := by omega
          have hiN : i < 64 := by omega
          have w3 : IntKind.i64.wrap ((i : Int) + 1) = (i : Int) + 1 := by rw [IntKind.wrap_i64]; omega
          obtain ⟨x, hx⟩ : ∃ x, vs[i]? = some x := ⟨_, List.getElem?_eq_getElem (by omega)⟩
          have cv : wr.cell? ⟨g, i, none⟩ = some (.bool x) := by rw [Blk.cell kv]; unfold boolVals; simp [hx]
          have fv : wr.frozen? ⟨g, i, none⟩ = false := kv.frozen i
          have HN := Lib.hid (fun (b : Bool) => show MoR w (.slice A n c) g V (wr.setCell ⟨g, i, none⟩ (.bool b)) from
            ⟨vs.set i b, by simp [hvs], hb.setCell (by show w.heap.size ≤ g; omega) _, kf.far (p := ⟨g, i, none⟩) (by show w.heap.size ≠ g; omega) _, by
              have h := kv.set_ i (.bool b)
              have e : (boolVals vs).toArray.setIfInBounds i (.bool b) = (boolVals (vs.set i b)).toArray := by unfold boolVals; simp [List.map_set]
              rw [e] at h; exact h⟩)
          clear hvs hb kf kv hx
          go_wp2_with fail
          go_roundw
          case rel => exact ⟨i + 1, hiV, by go_num, HN.out _⟩
          case measure => simp [intOf]; omega
        · obtain rfl : i = V := by omega
          have hvB := HNO.out vs hvs
          have hrd : Reads wr wr.heap.size 1 (some ⟨g, 0, none⟩) vs.length (boolVals vs) := by
            refine ⟨by unfold boolVals; simp, fun _ => ⟨⟨g, 0, none⟩, rfl, kv.lt, fun j u hu => ?_⟩⟩
            have e : (⟨g, 0, none⟩ : Addr).add j = ⟨g, j, none⟩ := by
              unfold Addr.add; split
              · rename_i h0; rw [h0]
              · simp
            first
              | (rw [e, Blk.cell kv]; simpa using hu)
              | (rw [Blk.cell kv]; simpa using hu)
          obtain ⟨r1, z1⟩ := HX.out
          have CH := Lib.hid (holds_any (q := i) (cc := c) (cv := i) (B := wr.heap.size) ((r1.below (hb.mono z1)).wide (Nat.le_trans z1 hb.size)) hrd (Nat.le_refl _) (by have := HBD.out.1; omega) (by omega) (fun y hy => by
            have := HBD.out.2 y hy
            rw [hvs]; exact this))
          rw [hvs, HN.out, hvB] at CH
          have c1 := kf.cell 1
          have HB := Lib.hid hb
          have KF := Lib.hid kf
          have KV := Lib.hid kv
          have HVS := Lib.hid hvs
          clear hvs hb kf kv hvB hrd r1 z1
          go_wp2_with fail
          refine CH.out.mono ?_
          rintro e w5 ⟨rfl, hb5⟩
          have HN5 := Lib.hid (show MoR w (.slice A n c) g i w5 from ⟨vs, HVS.out, HB.out.trans (hb5.mono HB.out.size), KF.out.below hb5 KF.out.lt, KV.out.below hb5 KV.out.lt⟩)
          clear hb5 c0 c1
          go_wp2_with fail
          go_roundw
          case rel => exact ⟨rfl, k + 1, hkM, by go_num, HN5.out⟩
          case measure => simp [intOf]; omega
    · obtain rfl : k = M := by omega
      go_wp2_with fail
      go_ret
      exact ⟨rfl, hb⟩
end Go.Proofs.YtaedbnbeelkkcaaDoor
