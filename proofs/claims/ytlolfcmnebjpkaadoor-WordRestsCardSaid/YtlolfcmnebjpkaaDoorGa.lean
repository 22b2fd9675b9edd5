/-
  THE WALK of the law GraphMakes.
-/
import Derived.Test.YtlolfcmnebjpkaaDoorBu
namespace Go.Proofs.YtlolfcmnebjpkaaDoor
open Go.RowKit

theorem int_eq {a b : Int} (h : a = b) : Value.int .i64 a = .int .i64 b := by rw [h]
set_option maxHeartbeats 1000000 in
theorem gmakes_long {w : World} {n : Int} {A : Option Addr} {c l : Nat} (hl : 60 < l) :
    Calls Tryd.prog 5 #[.slice A l c, .int .i64 n] w (LPost w) := by
  have e0 : decide ((60 : Int) < (l : Int)) = true := decide_eq_true (by omega)
  have CE := Lib.hid (empty_any w)
  go_enter Tryd.func5, Tryd.ntmps5
  go_wp2_with fail
  refine CE.out.mono ?_
  rintro e w1 ⟨rfl, hb⟩
  have HB := Lib.hid hb
  clear hb
  go_wp2
  go_ret
  exact ⟨rfl, HB.out⟩
/-- a graph and its model, alike; what was there is as it was -/
structure Two (W : World) (B g m : Nat) (gs : List Gm.Gate) (w : World) : Prop where
  ga : GA w B g gs
  ma : ModelAt w B m gs
  bl : Below W.heap.size W w
theorem Two.new {W w w' : World} {B g m : Nat} {gs : List Gm.Gate} (h : Two W B g m gs w) (hb : Below w.heap.size w w') : Two W B g m gs w' := ⟨h.ga.new hb, h.ma.new hb, h.bl.trans (hb.mono h.bl.size)⟩
theorem Two.drewN {W w : World} {B g m : Nat} {gs : List Gm.Gate} (h : Two W B g m gs w) (n : Nat) : Two W B g m gs (w.drewN n) := ⟨h.ga.drewN n, h.ma.drewN n, below_drewN h.bl n⟩
def MRel (W : World) (B g m : Nat) (gs : List Gm.Gate) (iv : Value) (wr : World) : Prop :=
  ∃ k : Nat, k ≤ gs.length ∧ iv = .int .i64 ((k : Int) + 1) ∧ Two W B g m gs wr
/-- the model's row of gates, all that is read -/
theorem ModelAt.row {w : World} {B b : Nat} {gs : List Gm.Gate} (h : ModelAt w B b gs) :
    ∃ A c, w.cell? ⟨b, 0, none⟩ = some (.slice A gs.length c) ∧ w.cell? ⟨b, 1, none⟩ = some (.int .i64 (Gm.ins gs : Int)) ∧
      ∀ (k : Nat) (g : Gm.Gate), gs[k]? = some g → ∃ blk, A = some ⟨blk, 0, none⟩ ∧ blk < w.heap.size ∧ w.cell? ⟨blk, k * 3, none⟩ = some (.int .i64 g.a) ∧ w.cell? ⟨blk, k * 3 + 1, none⟩ = some (.int .i64 g.b) ∧ w.cell? ⟨blk, k * 3 + 2, none⟩ = some (.bool g.inp) := by
  obtain ⟨sv, hblk, hrow⟩ := h.ex
  obtain ⟨A, c, rfl⟩ := own_form hrow
  refine ⟨A, c, hblk.cell 0, hblk.cell 1, fun k g hg => ?_⟩
  have hl := (List.getElem?_eq_some_iff.1 hg).1
  obtain ⟨blk, c', hv, hcell⟩ := row_cells hrow (by omega)
  obtain ⟨q0, q1, q2⟩ := mCells_at gs k _ hg
  have hA : A = some ⟨blk, 0, none⟩ := by simp only [Value.slice.injEq] at hv; exact hv.1
  exact ⟨blk, hA, World.block_lt_of_cell? w _ (hcell _ _ q0), hcell _ _ q0, hcell _ _ q1, hcell _ _ q2⟩
theorem Errs.at9 {w : World} {ea : Nat → Addr} {BE : Nat} (h : Errs w ea BE) : w.cell? ⟨3, 0, none⟩ = some (.iface 196 (.pointer (some (ea 9)))) := h.var 9 (by omega) (by omega)
def PB (w : World) (ea : Nat → Addr) (e : Ending) (w' : World) : Prop := e = .returned (.tuple #[.int .i64 0, .int .i64 0, .bool false, errV ea 9]) ∧ ∃ n, w' = w.drewN n
theorem parts_nb {w : World} {ea : Nat → Addr} {BE B b : Nat} {gs : List Gm.Gate} (hE : Errs w ea BE) (hg : GA w B b gs) {n : Int} (hn : n < 1 ∨ 1 + (gs.length : Int) ≤ n) :
    Calls Tryd.prog 26 #[.pointer (some ⟨b, 0, none⟩), .int .i64 n] w (PB w ea) := by
  obtain ⟨mb, hg⟩ := hg
  rcases hn with hn | hn
  · exact (parts_low hE.at9 hn).mono fun _ _ x => x
  · exact (parts_high hg hE.at9 hn).mono fun _ _ x => x
theorem parts_ga {w : World} {B b : Nat} {gs : List Gm.Gate} {i : Nat} {g : Gm.Gate} (hg : GA w B b gs) (hi : gs[i]? = some g) :
    Calls Tryd.prog 26 #[.pointer (some ⟨b, 0, none⟩), .int .i64 ((i : Int) + 1)] w (PPost w g) := by
  obtain ⟨mb, hg⟩ := hg
  exact parts_at hg hi
set_option maxRecDepth 100000 in
set_option maxHeartbeats 2000000 in
theorem gmakes_short {w : World} {ea : Nat → Addr} {BE : Nat} (hE : Errs w ea BE) (hBE : BE ≤ w.heap.size) {l : List Mk} (hl : l.length ≤ 60) (hf : ∀ m ∈ l, m.fits) {A : Option Addr} {c : Nat} (hr : Reads w w.heap.size 4 A l.length (mkVals l)) {n : Int} (hn : (Lit.int .i64 n).wf = true) :
    Calls Tryd.prog 5 #[.slice A l.length c, .int .i64 n] w (LPost w) := by
  have hbd : -9223372036854775808 ≤ n ∧ n ≤ 9223372036854775807 := by simpa [Lit.wf, IntKind.min, IntKind.max, IntKind.signed, IntKind.bits] using hn
  have e0 : decide ((60 : Int) < (l.length : Int)) = false := decide_eq_false (by omega)
  have CE := Lib.hid (empty_any w)
  have HE := Lib.hid hE
  have HBE := Lib.hid hBE
  have HF := Lib.hid hf
  have HR := Lib.hid hr
  have HL := Lib.hid hl
  have HBD := Lib.hid hbd
  clear hE hBE hf hr hl hn hbd
  go_enter Tryd.func5, Tryd.ntmps5
  go_wp2_with fail
  refine CE.out.mono ?_
  rintro e w1 ⟨rfl, hb⟩
  have CB := Lib.hid (build_any (c := c) (HE.out.mem hb HBE.out) (Nat.le_trans HBE.out hb.size) HL.out HF.out ((HR.out.below hb).more hb.size))
  have HB := Lib.hid hb
  clear hb
  go_wp2_with fail
  refine CB.out.mono ?_
  rintro e w2 ⟨rfl, gs, hgl, hg, hm, hb2⟩
  have hgs : gs.length ≤ 180 := by have := HL.out; omega
  have HT := Lib.hid (show Two w w1.heap.size w1.heap.size (w1.heap.size + 1) gs w2 from ⟨hg, hm, HB.out.trans (hb2.mono HB.out.size)⟩)
  clear hg hm hb2 hgl
  go_wp2_with fail
  go_loopw [9] (fun i wr => MRel w w1.heap.size w1.heap.size (w1.heap.size + 1) gs i wr) (fun i _ => gs.length + 1 - (intOf i).toNat)
  case atStart => exact ⟨0, Nat.zero_le _, rfl, HT.out⟩
  case round =>
    obtain ⟨k, hk, rfl, ht⟩ := hrel
    obtain ⟨Am, cm, c0, _, hrow⟩ := ht.ma.row
    have HT' := Lib.hid ht
    clear ht
    by_cases hkl : k < gs.length
    · obtain ⟨g, hg⟩ : ∃ g, gs[k]? = some g := ⟨gs[k], List.getElem?_eq_getElem hkl⟩
      obtain ⟨blk, hA, hlt, d0, d1, d2⟩ := hrow k g hg
      subst hA
      have CP := Lib.hid (parts_ga HT'.out.ga hg)
      have e1 : decide ((k : Int) + 1 ≤ (gs.length : Int)) = true := decide_eq_true (by omega)
      have HQ := Lib.hid (show wr.cell? ⟨w1.heap.size + 1, 0, none⟩ = _ ∧ _ ∧ _ ∧ _ from ⟨c0, d0, d1, d2⟩)
      clear hrow hg d0 d1 d2
      go_wp2_with fail
      refine CP.out.mono ?_
      rintro e w3 ⟨rfl, hb3⟩
      have c0' := (hb3.cell (World.block_lt_of_cell? _ _ HQ.out.1)).trans HQ.out.1
      have d0 := (hb3.cell (World.block_lt_of_cell? _ _ HQ.out.2.1)).trans HQ.out.2.1
      have d1 := (hb3.cell (World.block_lt_of_cell? _ _ HQ.out.2.2.1)).trans HQ.out.2.2.1
      have d2 := (hb3.cell (World.block_lt_of_cell? _ _ HQ.out.2.2.2)).trans HQ.out.2.2.2
      have HT3 := Lib.hid (HT'.out.new hb3)
      clear hb3
      go_wp2_with fail
      go_roundw
      case rel => exact ⟨k + 1, by omega, int_eq (by omega), HT3.out.new ((Below.refl _ _).alloc (Nat.le_refl _) _)⟩
      case measure => simp [intOf]; omega
    · obtain rfl : k = gs.length := by omega
      have e1 : decide ((gs.length : Int) + 1 ≤ (gs.length : Int)) = false := decide_eq_false (by omega)
      clear hrow
      by_cases hin : 1 ≤ n ∧ n ≤ gs.length
      · have e2 : decide (1 ≤ n) = true := decide_eq_true hin.1
        have e3 : decide (n ≤ (gs.length : Int)) = true := decide_eq_true hin.2
        clear hin
        go_wp2
        go_ret
        exact ⟨rfl, HT'.out.bl⟩
      · have CP := Lib.hid (parts_nb (HE.out.mem HT'.out.bl HBE.out) HT'.out.ga (n := n) (by omega))
        have hlow := Nat.le_trans HBE.out HT'.out.bl.size
        have CC : ∀ j, Calls Tryd.prog 13 #[errV ea 9, .int .i64 9] (wr.drewN j) fun e w' => e = .returned (.bool true) ∧ Below (wr.drewN j).heap.size (wr.drewN j) w' := fun j => coded_sent (HE.out.mem (below_drewN HT'.out.bl j) HBE.out) hlow (k := 9) (by omega) (by omega)
        have HC := Lib.hid CC
        clear CC hlow
        by_cases h1 : 1 ≤ n
        · have e2 : decide (1 ≤ n) = true := decide_eq_true h1
          have e3 : decide (n ≤ (gs.length : Int)) = false := decide_eq_false (by omega)
          clear hin h1
          go_wp2_with fail
          refine CP.out.mono ?_
          rintro e w3 ⟨rfl, j, rfl⟩
          go_wp2_with fail
          refine (HC.out j).mono ?_
          rintro e w4 ⟨rfl, hb4⟩
          have HB4 := Lib.hid hb4
          clear hb4
          go_wp2
          go_ret
          exact ⟨rfl, (below_drewN HT'.out.bl j).trans (HB4.out.mono HT'.out.bl.size)⟩
        · have e2 : decide (1 ≤ n) = false := decide_eq_false h1
          clear hin h1
          go_wp2_with fail
          refine CP.out.mono ?_
          rintro e w3 ⟨rfl, j, rfl⟩
          go_wp2_with fail
          refine (HC.out j).mono ?_
          rintro e w4 ⟨rfl, hb4⟩
          have HB4 := Lib.hid hb4
          clear hb4
          go_wp2
          go_ret
          exact ⟨rfl, (below_drewN HT'.out.bl j).trans (HB4.out.mono HT'.out.bl.size)⟩
end Go.Proofs.YtlolfcmnebjpkaaDoor
