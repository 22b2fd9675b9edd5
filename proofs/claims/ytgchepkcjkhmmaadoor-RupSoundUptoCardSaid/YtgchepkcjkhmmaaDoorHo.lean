/-
  WALK of the reference's Holds, clauses of any size (turned from Ch).
-/
import Derived.Test.YtgchepkcjkhmmaaDoorRk
import Derived.Test.YtgchepkcjkhmmaaDoorHs
namespace Go.Proofs.YtgchepkcjkhmmaaDoor
open Go.RowKit
namespace Cn
def litH (vs : List Bool) (n : Int) : Bool := (decide (0 < n) && vs.getD (n.toNat - 1) false) || (decide (n < 0) && !(vs.getD ((-n).toNat - 1) false))
def clH (vs : List Bool) (c : List Int) : Bool := c.any (litH vs)
def forH (vs : List Bool) (cs : List (List Int)) : Bool := cs.all (clH vs)
end Cn
theorem litVals_at {l : List Int} {k : Nat} {a : Int} (h : l[k]? = some a) : (litVals l)[k]? = some (.int .i64 a) := by unfold litVals; simp [h]
theorem take_any {l : List Int} {vs : List Bool} {k : Nat} {n : Int} (h : l[k]? = some n) : (l.take (k + 1)).any (Cn.litH vs) = ((l.take k).any (Cn.litH vs) || Cn.litH vs n) := by
  rw [List.take_add_one, h]; simp [List.any_append]
theorem take_all {cs : List (List Int)} {vs : List Bool} {i : Nat} {l : List Int} (h : cs[i]? = some l) : (cs.take (i + 1)).all (Cn.clH vs) = ((cs.take i).all (Cn.clH vs) && Cn.clH vs l) := by
  rw [List.take_add_one, h]; simp [List.all_append]
theorem all_false {cs : List (List Int)} {vs : List Bool} {i : Nat} {l : List Int} (h : cs[i]? = some l) (hf : Cn.clH vs l = false) : Cn.forH vs cs = false := by
  unfold Cn.forH
  rw [List.all_eq_false]
  exact ⟨l, List.mem_of_getElem? h, by rw [hf]; simp⟩
def HoI (l : List Int) (vs : List Bool) (W1 : World) (sv kv : Value) (wx : World) : Prop := ∃ k : Nat, k ≤ l.length ∧ kv = .int .i64 k ∧ (∃ b, (l.take k).any (Cn.litH vs) = b ∧ sv = .bool b) ∧ W1 = wx
def HoR (cs : List (List Int)) (vs : List Bool) (W1 : World) (iv : Value) (wr : World) : Prop := ∃ i : Nat, i ≤ cs.length ∧ iv = .int .i64 i ∧ (cs.take i).all (Cn.clH vs) = true ∧ W1 = wr
set_option maxRecDepth 100000 in
set_option maxHeartbeats 4000000 in
theorem holds_any {w : World} {Ac Av : Option Addr} {cc cv q B : Nat} {cs : List (List Int)} {vs : List Bool} (hc : ClsR w B Ac cs) (hv : Reads w B 1 Av vs.length (boolVals vs)) (hB : B ≤ w.heap.size) (hl : cs.length ≤ 300000) (hvl : vs.length ≤ 100000)
    (hb : ∀ c ∈ cs, c.length ≤ 1000 ∧ ∀ x ∈ c, -(vs.length : Int) ≤ x ∧ x ≤ (vs.length : Int)) :
    Calls Tryd.prog 14 #[.agg #[.int .i64 (q : Nat), .slice Ac cs.length cc], .slice Av vs.length cv] w fun e w' => e = .returned (.bool (Cn.forH vs cs)) ∧ Below w.heap.size w w' := by
  obtain ⟨W1, hW1⟩ : ∃ W1, W1 = w.alloc (.cells #[.int .i64 (q : Nat), .slice Ac cs.length cc] 24) := ⟨_, rfl⟩
  have hb1 : Below w.heap.size w W1 := by rw [hW1]; exact (Below.refl _ _).alloc (Nat.le_refl _) _
  have k1 : Blk W1 w.heap.size 24 #[.int .i64 (q : Nat), .slice Ac cs.length cc] := by rw [hW1]; exact Blk.new w _ _
  have c1 := k1.cell 1
  have HC := Lib.hid (hc.below (hb1.mono hB))
  have HV := Lib.hid (hv.below (hb1.mono hB))
  have HBD := Lib.hid hb
  have HB1 := Lib.hid hb1
  have HW1 := Lib.hid hW1
  clear hW1 hb1 k1 hc hv hb hB
  go_enter Tryd.func14, Tryd.ntmps14
  go_upto_region 1 with fail
  rw [← HW1.out]
  go_wp2_with fail
  go_loopw [5] (fun iv wr => HoR cs vs W1 iv wr) (fun iv _ => cs.length - (intOf iv).toNat)
  case atStart => exact ⟨0, Nat.zero_le _, rfl, rfl, rfl⟩
  case round =>
    obtain ⟨i, hi, rfl, hall, rfl⟩ := hrel
    have HALL := Lib.hid hall
    clear hall
    by_cases hil : i < cs.length
    · obtain ⟨l, hl'⟩ : ∃ l, cs[i]? = some l := ⟨_, List.getElem?_eq_getElem hil⟩
      obtain ⟨ad, rfl, hadB, hrd⟩ := HC.out (by omega)
      obtain ⟨A, c, ci, hr⟩ := hrd i l hl'
      obtain ⟨h3, hbd⟩ := HBD.out l (List.mem_of_getElem? hl')
      have HL := Lib.hid hl'
      have HR := Lib.hid hr
      have HBL := Lib.hid hbd
      clear hl' hrd hr hbd
      go_wp2_with fail
      go_loopw [6, 7] (fun sv kv wx => HoI l vs W1 sv kv wx) (fun _ kv _ => l.length - (intOf kv).toNat)
      case atStart => exact ⟨0, Nat.zero_le _, rfl, ⟨_, rfl, rfl⟩, rfl⟩
      case round =>
        obtain ⟨k, hk, rfl, ⟨b, hbs, rfl⟩, rfl⟩ := hrel
        by_cases hkl : k < l.length
        · obtain ⟨n, hn⟩ : ∃ n, l[k]? = some n := ⟨_, List.getElem?_eq_getElem hkl⟩
          obtain ⟨al, rfl, _, hcell⟩ := HR.out.2 (by omega)
          have cn := hcell k _ (litVals_at hn)
          obtain ⟨lo, hi2⟩ := HBL.out n (List.mem_of_getElem? hn)
          have HBS := Lib.hid hbs
          have HN := Lib.hid hn
          have HT := Lib.hid (take_any (vs := vs) hn)
          clear hbs hn hcell
          rcases Int.lt_trichotomy n 0 with h0 | h0 | h0
          · obtain ⟨m, hm⟩ : ∃ m : Nat, -n - 1 = (m : Int) := ⟨(-n - 1).toNat, by omega⟩
            have hml : m < vs.length := by omega
            obtain ⟨x, hx⟩ : ∃ x, vs[m]? = some x := ⟨_, List.getElem?_eq_getElem hml⟩
            obtain ⟨av, rfl, _, hvc⟩ := HV.out.2 (by omega)
            have cx := hvc m (.bool x) (by unfold boolVals; simp [hx])
            have e0 : decide ((0 : Int) < n) = false := decide_eq_false (by omega)
            have e1 : decide (n < (0 : Int)) = true := decide_eq_true (by omega)
            have w1 : IntKind.i64.wrap (-n) = -n := by rw [IntKind.wrap_i64]; omega
            have w2 : IntKind.i64.wrap (-n - 1) = (m : Int) := by rw [IntKind.wrap_i64]; omega
            have hmI : (m : Int) < (vs.length : Int) := by omega
            have HE := Lib.hid (show Cn.litH vs n = !x by
              have hx' : vs.getD m false = x := by rw [List.getD, hx]; rfl
              unfold Cn.litH
              rw [e0, e1, show (-n).toNat - 1 = m by omega, hx']; simp)
            clear hx hvc hm h0
            cases x with
            | true =>
              go_wp2_with fail
              go_roundw
              case rel => exact ⟨k + 1, by omega, by go_num, ⟨b, by rw [HT.out, HE.out, HBS.out]; simp, rfl⟩, rfl⟩
              case measure => simp [intOf]; omega
            | false =>
              go_wp2_with fail
              go_roundw
              case rel => exact ⟨k + 1, by omega, by go_num, ⟨true, by rw [HT.out, HE.out]; simp, rfl⟩, rfl⟩
              case measure => simp [intOf]; omega
          · have e0 : decide ((0 : Int) < n) = false := decide_eq_false (by omega)
            have e1 : decide (n < (0 : Int)) = false := decide_eq_false (by omega)
            have HE := Lib.hid (show Cn.litH vs n = false by unfold Cn.litH; rw [e0, e1]; simp)
            clear h0
            go_wp2_with fail
            go_roundw
            case rel => exact ⟨k + 1, by omega, by go_num, ⟨b, by rw [HT.out, HE.out, HBS.out]; simp, rfl⟩, rfl⟩
            case measure => simp [intOf]; omega
          · obtain ⟨m, hm⟩ : ∃ m : Nat, n - 1 = (m : Int) := ⟨(n - 1).toNat, by omega⟩
            have hml : m < vs.length := by omega
            obtain ⟨x, hx⟩ : ∃ x, vs[m]? = some x := ⟨_, List.getElem?_eq_getElem hml⟩
            obtain ⟨av, rfl, _, hvc⟩ := HV.out.2 (by omega)
            have cx := hvc m (.bool x) (by unfold boolVals; simp [hx])
            have e0 : decide ((0 : Int) < n) = true := decide_eq_true (by omega)
            have e1 : decide (n < (0 : Int)) = false := decide_eq_false (by omega)
            have w2 : IntKind.i64.wrap (n - 1) = (m : Int) := by rw [IntKind.wrap_i64]; omega
            have hmI : (m : Int) < (vs.length : Int) := by omega
            have HE := Lib.hid (show Cn.litH vs n = x by
              have hx' : vs.getD m false = x := by rw [List.getD, hx]; rfl
              unfold Cn.litH
              rw [e0, e1, show n.toNat - 1 = m by omega, hx']; simp)
            clear hx hvc hm h0
            cases x with
            | true =>
              go_wp2_with fail
              go_roundw
              case rel => exact ⟨k + 1, by omega, by go_num, ⟨true, by rw [HT.out, HE.out]; simp, rfl⟩, rfl⟩
              case measure => simp [intOf]; omega
            | false =>
              go_wp2_with fail
              go_roundw
              case rel => exact ⟨k + 1, by omega, by go_num, ⟨b, by rw [HT.out, HE.out, HBS.out]; simp, rfl⟩, rfl⟩
              case measure => simp [intOf]; omega
        · obtain rfl : k = l.length := by omega
          rw [List.take_length] at hbs
          have HBS := Lib.hid (show Cn.clH vs l = b from hbs)
          clear hbs
          cases b with
          | false =>
            go_wp2_with fail
            go_ret
            exact ⟨by rw [all_false HL.out HBS.out]; rfl, HB1.out⟩
          | true =>
            go_wp2_with fail
            go_roundw
            case rel => exact ⟨i + 1, by omega, by go_num, by rw [take_all HL.out, HALL.out, HBS.out]; rfl, rfl⟩
            case measure => simp [intOf]; omega
    · obtain rfl : i = cs.length := by omega
      go_wp2_with fail
      go_ret
      refine ⟨?_, HB1.out⟩
      have h := HALL.out
      rw [List.take_length] at h
      unfold Cn.forH
      rw [h]; rfl
end Go.Proofs.YtgchepkcjkhmmaaDoor
