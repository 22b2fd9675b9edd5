/-
  THE WALK of the law GraphUnlike.
-/
import Derived.Test.YtlolfcmnebjpkaaDoorGa
namespace Go.Proofs.YtlolfcmnebjpkaaDoor
open Go.RowKit

set_option maxHeartbeats 1000000 in
theorem gunlike_long {w : World} {A : Option Addr} {c l : Nat} (hl : 60 < l) :
    Calls Tryd.prog 6 #[.slice A l c] w (LPost w) := by
  have e0 : decide ((60 : Int) < (l : Int)) = true := decide_eq_true (by omega)
  have CE := Lib.hid (empty_any w)
  go_enter Tryd.func6, Tryd.ntmps6
  go_wp2_with fail
  refine CE.out.mono ?_
  rintro e w1 ⟨rfl, hb⟩
  have HB := Lib.hid hb
  clear hb
  go_wp2
  go_ret
  exact ⟨rfl, HB.out⟩
theorem gates_ga {w : World} {B b : Nat} {gs : List Gm.Gate} (hg : GA w B b gs) :
    Calls Tryd.prog 27 #[.pointer (some ⟨b, 0, none⟩)] w fun e w' => e = .returned (.int .i64 (1 + (gs.length : Int))) ∧ w = w' := by
  obtain ⟨mb, hg⟩ := hg
  obtain ⟨sv, hblk, hrow⟩ := hg.ex
  obtain ⟨A, c, rfl⟩ := own_form hrow
  exact gates_at hg.len hblk
/-- a graph; what was there is as it was -/
structure One (W : World) (B g : Nat) (gs : List Gm.Gate) (w : World) : Prop where
  ga : GA w B g gs
  bl : Below W.heap.size W w
theorem One.new {W w w' : World} {B g : Nat} {gs : List Gm.Gate} (h : One W B g gs w) (hb : Below w.heap.size w w') : One W B g gs w' := ⟨h.ga.new hb, h.bl.trans (hb.mono h.bl.size)⟩
theorem One.drewN {W w : World} {B g : Nat} {gs : List Gm.Gate} (h : One W B g gs w) (n : Nat) : One W B g gs (w.drewN n) := ⟨h.ga.drewN n, below_drewN h.bl n⟩
def URel (W : World) (B g : Nat) (gs : List Gm.Gate) (m : Nat) (iv : Value) (wr : World) : Prop :=
  ∃ k : Nat, k ≤ m ∧ iv = .int .i64 ((k : Int) + 1) ∧ One W B g gs wr
set_option maxRecDepth 100000 in
set_option maxHeartbeats 2000000 in
theorem gunlike_short {w : World} {ea : Nat → Addr} {BE : Nat} (hE : Errs w ea BE) (hBE : BE ≤ w.heap.size) {l : List Mk} (hl : l.length ≤ 60) (hf : ∀ m ∈ l, m.fits) {A : Option Addr} {c : Nat} (hr : Reads w w.heap.size 4 A l.length (mkVals l)) :
    Calls Tryd.prog 6 #[.slice A l.length c] w (LPost w) := by
  have e0 : decide ((60 : Int) < (l.length : Int)) = false := decide_eq_false (by omega)
  have CE := Lib.hid (empty_any w)
  have HE := Lib.hid hE
  have HBE := Lib.hid hBE
  have HF := Lib.hid hf
  have HR := Lib.hid hr
  have HL := Lib.hid hl
  clear hE hBE hf hr hl
  go_enter Tryd.func6, Tryd.ntmps6
  go_wp2_with fail
  refine CE.out.mono ?_
  rintro e w1 ⟨rfl, hb⟩
  have CB := Lib.hid (build_any (c := c) (HE.out.mem hb HBE.out) (Nat.le_trans HBE.out hb.size) HL.out HF.out ((HR.out.below hb).more hb.size))
  have HB := Lib.hid hb
  clear hb
  go_wp2_with fail
  refine CB.out.mono ?_
  rintro e w2 ⟨rfl, gs, hgl, hg, hm, hb2⟩
  have hgs : gs.length ≤ 180 := by have := HL.out; omega
  have HT := Lib.hid (show One w w1.heap.size w1.heap.size gs w2 from ⟨hg, HB.out.trans (hb2.mono HB.out.size)⟩)
  clear hg hm hb2 hgl
  go_wp2_with fail
  go_loopw [7] (fun i wr => URel w w1.heap.size w1.heap.size gs gs.length i wr) (fun i _ => gs.length + 1 - (intOf i).toNat)
  case atStart => exact ⟨0, Nat.zero_le _, rfl, HT.out⟩
  case round =>
    obtain ⟨k, hk, rfl, ht⟩ := hrel
    have CG := Lib.hid (gates_ga ht.ga)
    have HT' := Lib.hid ht
    clear ht
    by_cases hkl : k < gs.length
    · obtain ⟨g, hg⟩ : ∃ g, gs[k]? = some g := ⟨gs[k], List.getElem?_eq_getElem hkl⟩
      have hw := HT'.out.ga.wf
      have CP := Lib.hid (parts_ga HT'.out.ga hg)
      have e1 : decide ((k : Int) + 1 < 1 + (gs.length : Int)) = true := decide_eq_true (by omega)
      obtain ⟨ga, gb, gi⟩ := g
      have HG := Lib.hid hg
      have HWF := Lib.hid hw
      clear hg hw
      go_wp2_with fail
      refine CG.out.mono ?_
      rintro e w' ⟨rfl, rfl⟩
      go_wp2_with fail
      refine CP.out.mono ?_
      rintro e w3 ⟨rfl, hb3⟩
      have HT3 := Lib.hid (HT'.out.new hb3)
      clear hb3
      cases gi with
      | true =>
        go_wp2_with fail
        go_roundw
        case rel => exact ⟨k + 1, by omega, int_eq (by omega), HT3.out⟩
        case measure => simp [intOf]; omega
      | false =>
        obtain ⟨a1, a2, a3⟩ := HWF.out.ahead k _ HG.out rfl
        simp only at a1 a2 a3
        have e2 : decide (gb ≤ ga) = false := decide_eq_false (by omega)
        have e3 : decide ((ga : Int) < 2) = false := decide_eq_false (by omega)
        have e4 : decide ((k : Int) + 1 ≤ (gb : Int) / 2) = false := decide_eq_false (by omega)
        have hb0 : (0 : Int) ≤ gb ∧ (gb : Int) ≤ 1000000 := by omega
        clear a1 a2 a3
        go_wp2_with fail
        go_loopw [12] (fun i wr => URel w w1.heap.size w1.heap.size gs k i wr) (fun i _ => k + 1 - (intOf i).toNat)
        case atStart => exact ⟨0, Nat.zero_le _, rfl, HT3.out⟩
        case round =>
          obtain ⟨j, hj, rfl, hu⟩ := hrel
          have HU := Lib.hid hu
          clear hu
          by_cases hjk : j < k
          · obtain ⟨⟨ha, hb, hi⟩, hh⟩ : ∃ g, gs[j]? = some g := ⟨gs[j], List.getElem?_eq_getElem (by omega)⟩
            have CQ := Lib.hid (parts_ga HU.out.ga hh)
            have e5 : decide ((j : Int) + 1 < (k : Int) + 1) = true := decide_eq_true (by omega)
            have hone := HWF.out.one j k _ _ hh HG.out
            have HO := Lib.hid hone
            clear hh hone
            cases hi with
            | true =>
              go_wp2_with fail
              refine CQ.out.mono ?_
              rintro e w5 ⟨rfl, hb5⟩
              have HU5 := Lib.hid (HU.out.new hb5)
              clear hb5
              go_wp2_with fail
              go_roundw
              case rel => exact ⟨j + 1, by omega, int_eq (by omega), HU5.out⟩
              case measure => simp [intOf]; omega
            | false =>
              by_cases hab : ha = ga
              · have hbb : hb ≠ gb := fun e => by have := HO.out rfl rfl hab e; omega
                have e6 : ((ha : Int) == (ga : Int)) = true := by simp; omega
                have e7 : ((hb : Int) == (gb : Int)) = false := by simp; omega
                clear hab hbb
                go_wp2_with fail
                refine CQ.out.mono ?_
                rintro e w5 ⟨rfl, hb5⟩
                have HU5 := Lib.hid (HU.out.new hb5)
                clear hb5
                go_wp2_with fail
                go_roundw
                case rel => exact ⟨j + 1, by omega, int_eq (by omega), HU5.out⟩
                case measure => simp [intOf]; omega
              · have e6 : ((ha : Int) == (ga : Int)) = false := by simp; omega
                clear hab
                go_wp2_with fail
                refine CQ.out.mono ?_
                rintro e w5 ⟨rfl, hb5⟩
                have HU5 := Lib.hid (HU.out.new hb5)
                clear hb5
                go_wp2_with fail
                go_roundw
                case rel => exact ⟨j + 1, by omega, int_eq (by omega), HU5.out⟩
                case measure => simp [intOf]; omega
          · obtain rfl : j = k := by omega
            have e5 : decide ((j : Int) + 1 < (j : Int) + 1) = false := decide_eq_false (by omega)
            go_wp2_with fail
            go_roundw
            case rel => exact ⟨j + 1, by omega, int_eq (by omega), HU.out⟩
            case measure => simp [intOf]; omega
    · obtain rfl : k = gs.length := by omega
      have e1 : decide ((gs.length : Int) + 1 < 1 + (gs.length : Int)) = false := decide_eq_false (by omega)
      go_wp2_with fail
      refine CG.out.mono ?_
      rintro e w' ⟨rfl, rfl⟩
      go_wp2
      go_ret
      exact ⟨rfl, HT'.out.bl⟩
end Go.Proofs.YtlolfcmnebjpkaaDoor
