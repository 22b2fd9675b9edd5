/-
  THE WALK of cnf.Of where a root is no literal of the graph: ErrShape.
-/
import Derived.Test.YtmbjhpgemphmmaaDoorCf
import Derived.Test.YtmbjhpgemphmmaaDoorBu
namespace Go.Proofs.YtmbjhpgemphmmaaDoor
open Go.RowKit
def CbR (W : World) (k0 : Nat) (tv iv : Value) (wr : World) : Prop :=
  ∃ k : Nat, k ≤ k0 ∧ iv = .int .i64 k ∧ (∃ A c, tv = .slice A k c) ∧ Below W.heap.size W wr ∧ Blk wr W.heap.size 36 #[.int .i64 0, .slice none 0 0] ∧ ∃ xs, wr.ownsRow W.heap.size 3 1 tv k xs
attribute [local irreducible] wpSeq
set_option maxRecDepth 100000 in
set_option maxHeartbeats 2000000 in
theorem cof_bad {w : World} {ea : Nat → Addr} {BE B b : Nat} {gs : List Gm.Gate} (hE : Errs w ea BE) (hBE : BE ≤ w.heap.size) (h : GA w B b gs) {A : Option Addr} {c BR k0 : Nat} {ask : List Int} {x : Int} (hr : Reads w BR 1 A ask.length (litVals ask)) (hBR : BR ≤ w.heap.size)
    (hx : ask[k0]? = some x) (hbad : hasB gs.length x = false) (hgood : ∀ i y, i < k0 → ask[i]? = some y → hasB gs.length y = true) (hwf : ∀ a ∈ ask, (Lit.int .i64 a).wf = true) (hl : ask.length ≤ 100) (hg : gs.length ≤ 90000) :
    Calls Tryd.prog 11 #[.pointer (some ⟨b, 0, none⟩), .slice A ask.length c] w fun e w' => e = .returned (.tuple #[.agg #[.int .i64 0, .slice none 0 0], .slice none 0 0, errV ea 3]) ∧ Below w.heap.size w w' := by
  obtain ⟨i0, hi0, hz0, hz1, hz2⟩ := info_parts infoInt_
  have HIN := Lib.hid (show _ ∧ _ ∧ _ ∧ _ from ⟨hi0, hz0, hz1, hz2⟩)
  have hk0 : k0 < ask.length := (List.getElem?_eq_some_iff.1 hx).1
  obtain ⟨ad, rfl, hadb, hcell⟩ := hr.2 (by omega)
  have HCX := Lib.hid (show ∀ k y w', ask[k]? = some y → Below w.heap.size w w' → w'.cell? (ad.add k) = some (.int .i64 y) from fun k y w' hy hb => (hb.cell (p := ad.add k) (by rw [block_of_add]; omega)).trans (hcell k _ (litVals_at hy)))
  have HG := Lib.hid h
  have HE := Lib.hid hE
  have HBE := Lib.hid hBE
  have HX := Lib.hid hx
  have HBAD := Lib.hid hbad
  have HGD := Lib.hid hgood
  have HWF := Lib.hid hwf
  obtain ⟨W1, hW1⟩ : ∃ W1, W1 = w.alloc (.cells #[.int .i64 0, .slice none 0 0] 36) := ⟨_, rfl⟩
  have b1 : Blk W1 w.heap.size 36 #[.int .i64 0, .slice none 0 0] := by rw [hW1]; exact Blk.new w _ _
  have hbw1 : Below w.heap.size w W1 := by rw [hW1]; exact (Below.refl _ _).alloc (Nat.le_refl _) _
  have hmk := run_make_bools1 gs.length (by omega) W1
  have C1 := Lib.hid (gates_ga (h.new hbw1))
  have HW1 := Lib.hid hW1
  have HB1 := Lib.hid b1
  have HBW1 := Lib.hid hbw1
  clear h hr hx hbad hgood hwf hcell hE hBE hi0 hz0 hz1 hz2 hW1 b1 hbw1
  go_enter Tryd.func11, Tryd.ntmps11
  go_upto_region 1 with fail
  rw [← HW1.out]
  go_wp2_with fail
  refine C1.out.mono ?_
  rintro e w' ⟨rfl, rfl⟩
  go_wp2_with fail
  go_loopw [8, 33] (fun tv iv wr => CbR w k0 tv iv wr) (fun _ iv _ => k0 - (intOf iv).toNat)
  case atStart => exact ⟨0, Nat.zero_le _, rfl, ⟨none, 0, rfl⟩, HBW1.out.alloc HBW1.out.size _, HB1.out.alloc _, [], World.ownsRow_nil _ _ _ _⟩
  case round =>
    clear hmk
    obtain ⟨k, hk, rfl, ⟨At, ct, rfl⟩, hb, hbx, xs, hot⟩ := hrel
    have hkI : (k : Int) < (ask.length : Int) := by omega
    by_cases hkl : k < k0
    · obtain ⟨y, hy⟩ : ∃ y, ask[k]? = some y := ⟨_, List.getElem?_eq_getElem (by omega)⟩
      have cx := HCX.out k y _ hy hb
      have hyh := HGD.out k y hkl hy
      have hwy := HWF.out y (List.mem_of_getElem? hy)
      have CX := has_int (HG.out.new hb).choose_spec hwy
      rw [hyh] at CX
      have CX := Lib.hid CX
      obtain ⟨z, hz, hzh⟩ := has_of hyh
      obtain ⟨q, hq⟩ : ∃ q : Nat, z / 2 = q := ⟨_, rfl⟩
      subst hz
      have hzq : (z : Int) / 2 = (q : Int) := by omega
      have hz0 : z ≤ 1000000 := by unfold Gm.has at hzh; omega
      have HB := Lib.hid hb
      have HBX := Lib.hid hbx
      have HOT := Lib.hid hot
      have hsz := hb.size
      clear hy hyh hwy hzh hq hb hbx hot
      go_wp2_with fail
      refine CX.out.mono ?_
      rintro e w' ⟨rfl, rfl⟩
      go_wp2_with (at_builtin; refine wpList_append_sl _ rfl (.tmp 43) (.tmp 46) _ rfl w.heap.size 3 i0 _ 1 8 Tryd.underlying37 HIN.out.1 HIN.out.2.1 HIN.out.2.2.1 HIN.out.2.2.2 rfl (by omega) _ k _ rfl (HOT.out.alloc _) (wr.heap.size + 1) (some ⟨wr.heap.size, 0, none⟩) 1 1 [.int .i64 (q : Int)] rfl (reads_new rfl (by omega) rfl) (ints_one (by simp)) (le_maxLen (by omega)) (le_bytes (by omega) (by omega)) (by simp; omega) ?_; intro A5 c5 w5 hown5 hg5)
      have hg6 : (wr.alloc (.cells #[.int .i64 (q : Int)] 3)).grownBy w5 (Value.slice At k ct).ownBlock := hg5
      have HB5 := Lib.hid (own_grown_below HB.out HOT.out (Nat.le_refl _) hg6)
      have HBX5 := Lib.hid ((HBX.out.alloc _).grown hg6 (own_blk_ne HOT.out HBX.out (by decide)).symm)
      have HOT5 := Lib.hid hown5
      clear hown5 hg5 hg6
      go_wp2_with fail
      go_roundw
      case rel => exact ⟨k + 1, by omega, by go_num, ⟨_, _, rfl⟩, HB5.out, HBX5.out, _, HOT5.out⟩
      case measure => simp [intOf]; omega
    · obtain rfl : k = k0 := by omega
      have cx := HCX.out k x _ HX.out hb
      have CX := has_int (HG.out.new hb).choose_spec (HWF.out x (List.mem_of_getElem? HX.out))
      rw [HBAD.out] at CX
      have CX := Lib.hid CX
      have ce := (HE.out.mem hb HBE.out).at3
      obtain ⟨W9, hW9⟩ : ∃ W9, W9 = ((wr.setCell ⟨w.heap.size, 0, none⟩ (.int .i64 0)).setCell ⟨w.heap.size, 1, none⟩ (.slice none 0 0)).drew := ⟨_, rfl⟩
      have x9 : Blk W9 w.heap.size 36 #[.int .i64 0, .slice none 0 0] := by rw [hW9]; exact ((hbx.set_ 0 _).set_ 1 _).drew
      have hb9 : Below w.heap.size w W9 := by rw [hW9]; exact below_drewN ((hb.setCell (Nat.le_refl _) _).setCell (Nat.le_refl _) _) 1
      have HCE := Lib.hid (HE.out.mem hb9 HBE.out).at3
      have x90 := x9.cell 0
      have x91 := x9.cell 1
      have HB9 := Lib.hid hb9
      have HW9 := Lib.hid hW9
      have cx0 := hbx.cell 0
      have cx1 := hbx.cell 1
      have fx0 := hbx.frozen 0
      have fx1 := hbx.frozen 1
      clear hb hbx hot hW9 x9 hb9
      go_wp2_with fail
      refine CX.out.mono ?_
      rintro e w' ⟨rfl, rfl⟩
      go_wp2_with fail
      refine wp_region_seq (S := fun w' => w'.cell? ⟨0, 0, none⟩ = some (.iface 220 (.pointer (some (ea 3))))) [(0, false), (1, false), (2, true), (3, false), (4, false)] (by kernel_rfl) (by kernel_rfl) (by kernel_rfl) ce ?_
      iterate 2 (refine seq_take _ _ rfl (by kernel_rfl) (fun wv hv => by have hv1 := hv; clear hv; go_simp; try with_reducible rfl) ?_; simp only [Act.put, List.getElem_toArray, List.getElem_cons_zero, List.getElem_cons_succ, List.setIfInBounds_toArray, List.set_cons_zero, List.set_cons_succ])
      refine seq_act _ rfl (fun K hK => ?_)
      go_simp
      rw [← HW9.out]
      go_simp
      refine hK _ _ (HCE.out) ?_
      clear hK K
      iterate 2 (refine seq_take _ _ rfl (by kernel_rfl) (fun wv hv => by go_simp; try with_reducible rfl) ?_; simp only [Act.put, List.getElem_toArray, List.getElem_cons_zero, List.getElem_cons_succ, List.setIfInBounds_toArray, List.set_cons_zero, List.set_cons_succ])
      refine seq_nil ?_
      clear cx0 cx1 fx0 fx1
      go_wp2_with fail
      exact bodyPost_ret (v := .tuple #[.agg #[.int .i64 0, .slice none 0 0], .slice none 0 0, errV ea 3]) (by simp [results, Tryd.results11, go_sem, x90, x91, errV]) rfl ⟨rfl, HB9.out⟩
end Go.Proofs.YtmbjhpgemphmmaaDoor
