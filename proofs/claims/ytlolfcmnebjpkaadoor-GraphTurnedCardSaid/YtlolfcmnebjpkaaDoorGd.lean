/-
  THE WALK of the law GraphTurned.
-/
import Derived.Test.YtlolfcmnebjpkaaDoorGb
namespace Go.Proofs.YtlolfcmnebjpkaaDoor
open Go.RowKit

namespace Gm
theorem andG_pair {gs gs' : List Gate} {a b : Nat} (he : Ext (andG gs a b).1 gs') : (andG gs' a b).1 = gs' ∧ (andG gs' a b).2 = (andG gs a b).2 := by
  rw [andG_again he]; exact ⟨rfl, rfl⟩
theorem orG_ext (gs : List Gate) (a b : Nat) : Ext gs (orG gs a b).1 := andG_ext ..
theorem orG_pair {gs gs' : List Gate} {a b : Nat} (he : Ext (orG gs a b).1 gs') : (orG gs' a b).1 = gs' ∧ (orG gs' a b).2 = (orG gs a b).2 := by
  obtain ⟨h1, h2⟩ := andG_pair (a := notL a) (b := notL b) (gs := gs) he
  unfold orG
  exact ⟨h1, by rw [h2]⟩
theorem orOf_ext (gs : List Gate) (a b c d : Nat) : Ext gs (orOf gs a b c d).1 :=
  (andG_ext gs a b).trans ((andG_ext (andG gs a b).1 c d).trans (orG_ext _ _ _))
/-- a second time the same four literals are the same one -/
theorem orOf_pair {gs : List Gate} {a b c d : Nat} : (orOf (orOf gs a b c d).1 a b c d).1 = (orOf gs a b c d).1 ∧ (orOf (orOf gs a b c d).1 a b c d).2 = (orOf gs a b c d).2 := by
  obtain ⟨g1, hg1⟩ : ∃ g1, g1 = (orOf gs a b c d).1 := ⟨_, rfl⟩
  have e1 : Ext (andG gs a b).1 g1 := by rw [hg1]; exact (andG_ext (andG gs a b).1 c d).trans (orG_ext _ _ _)
  have e2 : Ext (andG (andG gs a b).1 c d).1 g1 := by rw [hg1]; exact orG_ext _ _ _
  obtain ⟨p1, p2⟩ := andG_pair e1
  obtain ⟨q1, q2⟩ := andG_pair e2
  have e3 : Ext (orG (andG (andG gs a b).1 c d).1 (andG gs a b).2 (andG (andG gs a b).1 c d).2).1 g1 := by rw [hg1]; exact .refl _
  obtain ⟨r1, r2⟩ := orG_pair e3
  have hu : orOf g1 a b c d = orG (andG (andG g1 a b).1 c d).1 (andG g1 a b).2 (andG (andG g1 a b).1 c d).2 := rfl
  rw [← hg1, hu, p1, q1, p2, q2]
  exact ⟨r1, by rw [r2]; rfl⟩
/-- DE MORGAN -/
theorem demorgan (gs : List Gate) (a b : Nat) : (orG (andG gs a b).1 (notL b) (notL a)).1 = (andG gs a b).1 ∧ notL (orG (andG gs a b).1 (notL b) (notL a)).2 = (andG gs a b).2 := by
  unfold orG
  rw [notL_notL, notL_notL, andG_comm, andG_again (.refl _), notL_notL]
  exact ⟨rfl, rfl⟩
end Gm

set_option maxHeartbeats 1000000 in
theorem gturned_long {w : World} {x y : Int} {A : Option Addr} {c l : Nat} (hl : 60 < l) :
    Calls Tryd.prog 4 #[.slice A l c, .int .i64 x, .int .i64 y] w (LPost w) := by
  have e0 : decide ((60 : Int) < (l : Int)) = true := decide_eq_true (by omega)
  have CE := Lib.hid (empty_any w)
  go_enter Tryd.func4, Tryd.ntmps4
  go_wp2_with fail
  refine CE.out.mono ?_
  rintro e w1 ⟨rfl, hb⟩
  have HB := Lib.hid hb
  clear hb
  go_wp2
  go_ret
  exact ⟨rfl, HB.out⟩
theorem not_ga {w : World} {B b : Nat} {gs : List Gm.Gate} (hg : GA w B b gs) {x : Nat} (hx : Gm.has gs x) :
    Calls Tryd.prog 23 #[.int .i64 x] w fun e w' => e = .returned (.int .i64 (Gm.notL x : Nat)) ∧ w = w' :=
  not_any x w (by have := hg.len; unfold Gm.has at hx; omega)
set_option maxRecDepth 100000 in
set_option maxHeartbeats 2000000 in
theorem gturned_short {w : World} {ea : Nat → Addr} {BE : Nat} (hE : Errs w ea BE) (hBE : BE ≤ w.heap.size) {l : List Mk} (hl : l.length ≤ 60) (hf : ∀ m ∈ l, m.fits) {A : Option Addr} {c : Nat} (hr : Reads w w.heap.size 4 A l.length (mkVals l)) {x y : Int} (hx : (Lit.int .i64 x).wf = true) (hy : (Lit.int .i64 y).wf = true) :
    Calls Tryd.prog 4 #[.slice A l.length c, .int .i64 x, .int .i64 y] w (LPost w) := by
  have e0 : decide ((60 : Int) < (l.length : Int)) = false := decide_eq_false (by omega)
  have CE := Lib.hid (empty_any w)
  have HE := Lib.hid hE
  have HBE := Lib.hid hBE
  have HF := Lib.hid hf
  have HR := Lib.hid hr
  have HL := Lib.hid hl
  have HX := Lib.hid hx
  have HY := Lib.hid hy
  clear hE hBE hf hr hl hx hy
  go_enter Tryd.func4, Tryd.ntmps4
  go_wp2_with fail
  refine CE.out.mono ?_
  rintro e w1 ⟨rfl, hb⟩
  have CB := Lib.hid (build_any (c := c) (HE.out.mem hb HBE.out) (Nat.le_trans HBE.out hb.size) HL.out HF.out ((HR.out.below hb).more hb.size))
  have HB := Lib.hid hb
  clear hb
  go_wp2_with fail
  refine CB.out.mono ?_
  rintro e w2 ⟨rfl, gs, hgl, hg, hm, hb2⟩
  have hgs : gs.length ≤ 180 := by have := HL.out; omega
  have CX0 := mhas_at hm x HX.out
  have CY0 := mhas_at hm y HY.out
  obtain ⟨vx, hvx⟩ : ∃ v, v = hasB gs.length x := ⟨_, rfl⟩
  obtain ⟨vy, hvy⟩ : ∃ v, v = hasB gs.length y := ⟨_, rfl⟩
  rw [← hvx] at CX0
  rw [← hvy] at CY0
  have CX := Lib.hid CX0
  have CY := Lib.hid CY0
  have HVX := Lib.hid hvx
  have HVY := Lib.hid hvy
  have HT := Lib.hid (show One w w1.heap.size w1.heap.size gs w2 from ⟨hg, HB.out.trans (hb2.mono HB.out.size)⟩)
  clear hg hm hb2 hgl CX0 CY0 hvx hvy
  go_wp2_with fail
  refine CX.out.mono ?_
  rintro e w' ⟨rfl, rfl⟩
  cases vx with
  | false =>
    go_wp2
    go_ret
    exact ⟨rfl, HT.out.bl⟩
  | true =>
  go_wp2_with fail
  refine CY.out.mono ?_
  rintro e w' ⟨rfl, rfl⟩
  cases vy with
  | false =>
    go_wp2
    go_ret
    exact ⟨rfl, HT.out.bl⟩
  | true =>
  obtain ⟨a, rfl, ha⟩ := has_of HVX.out.symm
  obtain ⟨b, rfl, hb⟩ := has_of HVY.out.symm
  have C1 := Lib.hid (and_ga HT.out.ga (by omega) ha hb)
  obtain ⟨g1, hg1⟩ : ∃ g1, g1 = (Gm.andG gs a b).1 := ⟨_, rfl⟩
  have hx1 : Gm.Ext gs g1 := by rw [hg1]; exact Gm.andG_ext ..
  have hl1 : g1.length ≤ 181 := by rw [hg1]; have := Gm.andG_len gs a b; omega
  have ha1 := hx1.has ha
  have hb1 := hx1.has hb
  have hr1 : Gm.has g1 (Gm.andG gs a b).2 := by rw [hg1]; exact Gm.andG_has ha hb
  have HD := Lib.hid (Gm.demorgan gs a b)
  rw [← hg1] at HD
  obtain ⟨g2, hg2⟩ : ∃ g2, g2 = (Gm.xorG g1 a b).1 := ⟨_, rfl⟩
  have hx2 : Gm.Ext g1 g2 := by rw [hg2]; exact Gm.orOf_ext ..
  have hl2 : g2.length ≤ 184 := by rw [hg2]; have := Gm.orOf_len g1 a (Gm.notL b) (Gm.notL a) b; unfold Gm.xorG; omega
  have HP := Lib.hid (show (Gm.ifG g2 a (Gm.notL b) b).2 = (Gm.xorG g1 a b).2 by rw [hg2]; exact (Gm.orOf_pair (gs := g1) (a := a) (b := Gm.notL b) (c := Gm.notL a) (d := b)).2)
  have HG1 := Lib.hid hg1
  have HG2 := Lib.hid hg2
  have HA := Lib.hid (And.intro ha1 (And.intro hb1 hr1))
  have HA2 := Lib.hid (And.intro (hx2.has ha1) (hx2.has hb1))
  have HL1 := Lib.hid hl1
  have HL2 := Lib.hid hl2
  have HR1 := Lib.hid (hx2.has hr1)
  clear ha hb hg1 hx1 hl1 ha1 hb1 hr1 hg2 hx2 hl2
  go_wp2_with fail
  refine C1.out.mono ?_
  rintro e w3 ⟨rfl, h1, h2⟩
  rw [← HG1.out] at h1
  have N1 := Lib.hid (not_ga h1 HA.out.2.1)
  have N2 := Lib.hid (not_ga h1 HA.out.1)
  have C2 := or_ga h1 (by have := HL1.out; omega) (Gm.has_not HA.out.2.1) (Gm.has_not HA.out.1)
  have H1 := Lib.hid (show One w w1.heap.size w1.heap.size g1 w3 from ⟨h1, HT.out.bl.trans (GT.below h2 HT.out.ga.low |>.mono (by have := HB.out.size; omega))⟩)
  obtain ⟨ro, hro⟩ : ∃ r, r = Gm.orG g1 (Gm.notL b) (Gm.notL a) := ⟨_, rfl⟩
  rw [← hro] at C2
  have HRO := Lib.hid (show ro.1 = g1 ∧ Gm.notL ro.2 = (Gm.andG gs a b).2 by rw [hro]; exact HD.out)
  have HRH := Lib.hid (show Gm.has g1 ro.2 by
    have h := HRO.out.2
    have h2 := Gm.has_not HA.out.2.2
    rwa [← h, Gm.notL_notL] at h2)
  have C2 := Lib.hid C2
  clear h1 h2 hro
  go_wp2_with fail
  refine N1.out.mono ?_
  rintro e w' ⟨rfl, rfl⟩
  go_wp2_with fail
  refine N2.out.mono ?_
  rintro e w' ⟨rfl, rfl⟩
  go_wp2_with fail
  refine C2.out.mono ?_
  rintro e w4 ⟨rfl, h1, h2⟩
  rw [HRO.out.1] at h1
  have C3 := Lib.hid (xor_ga h1 (by have := HL1.out; omega) HA.out.1 HA.out.2.1)
  have H2 := Lib.hid (show One w w1.heap.size w1.heap.size g1 w4 from ⟨h1, H1.out.bl.trans (GT.below h2 H1.out.ga.low |>.mono (by have := HB.out.size; omega))⟩)
  clear h1 h2
  go_wp2_with fail
  refine C3.out.mono ?_
  rintro e w5 ⟨rfl, h1, h2⟩
  rw [← HG2.out] at h1
  have N3 := Lib.hid (not_ga h1 HA2.out.2)
  have C4 := Lib.hid (if_ga h1 (by have := HL2.out; omega) HA2.out.1 (Gm.has_not HA2.out.2) HA2.out.2)
  have H3 := Lib.hid (show One w w1.heap.size w1.heap.size g2 w5 from ⟨h1, H2.out.bl.trans (GT.below h2 H2.out.ga.low |>.mono (by have := HB.out.size; omega))⟩)
  clear h1 h2
  go_wp2_with fail
  refine N3.out.mono ?_
  rintro e w' ⟨rfl, rfl⟩
  go_wp2_with fail
  refine C4.out.mono ?_
  rintro e w6 ⟨rfl, h1, h2⟩
  have H4 := Lib.hid (show Below w.heap.size w w6 from H3.out.bl.trans (GT.below h2 H3.out.ga.low |>.mono (by have := HB.out.size; omega)))
  have N4 := not_any ro.2 w6 (by have := HRH.out; have := HL1.out; unfold Gm.has at *; omega)
  rw [HRO.out.2] at N4
  have N5 := not_any (Gm.andG gs a b).2 w6 (by have := HR1.out; have := HL2.out; unfold Gm.has at *; omega)
  have N6 := not_any (Gm.notL (Gm.andG gs a b).2) w6 (by have := Gm.has_not HR1.out; have := HL2.out; unfold Gm.has at *; omega)
  rw [Gm.notL_notL] at N6
  have hp := HP.out
  rw [hp]
  have N4 := Lib.hid N4
  have N5 := Lib.hid N5
  have N6 := Lib.hid N6
  obtain ⟨ra, hra⟩ : ∃ r, r = (Gm.andG gs a b).2 := ⟨_, rfl⟩
  rw [← hra] at N4 N5 N6 ⊢
  clear h1 h2 hp hra
  go_wp2_with fail
  refine N4.out.mono ?_
  rintro e w' ⟨rfl, rfl⟩
  go_wp2_with fail
  refine N5.out.mono ?_
  rintro e w' ⟨rfl, rfl⟩
  go_wp2_with fail
  refine N6.out.mono ?_
  rintro e w' ⟨rfl, rfl⟩
  go_wp2
  go_ret
  exact ⟨by simp, H4.out⟩
end Go.Proofs.YtlolfcmnebjpkaaDoor
