/-
  WALKS of Solve for two variables without clauses, and of holds.
-/
import Derived.Test.YtgchepkcjkhmmaaDoorQh
import Derived.Test.YtgchepkcjkhmmaaDoorCx
namespace Go.Proofs.YtgchepkcjkhmmaaDoor.slv
open Go.RowKit
def SvP (w : World) (e : Ending) (w' : World) : Prop := ∃ A c, e = .returned (.tuple #[.agg #[.string ⟨#[121, 101, 115]⟩, .slice A 2 c, .slice none 0 0], .nilIface]) ∧ Below w.heap.size w w'
set_option maxRecDepth 100000 in
set_option maxHeartbeats 4000000 in
theorem solve2 {w : World} {ea : Nat → Addr} (hes : Sen w ea) : Calls Tryd.prog 12 #[.agg #[.int .i64 2, .slice none 0 0], .int .i64 5] w (SvP w) := by
  obtain ⟨W0, hW0⟩ : ∃ W0, W0 = (w.alloc (.cells #[.int .i64 2, .slice none 0 0] 32)).alloc (.cells #[.string ⟨#[]⟩, .slice none 0 0, .slice none 0 0] 41) := ⟨_, rfl⟩
  have hb0 : Below w.heap.size w W0 := by rw [hW0]; exact bal0 (bal0 (Below.refl _ _) _) _
  have k0 : Blk W0 w.heap.size 32 #[.int .i64 2, .slice none 0 0] := by rw [hW0]; exact (Blk.new w _ _).alloc _
  have k1 : Blk W0 (w.heap.size + 1) 41 #[.string ⟨#[]⟩, .slice none 0 0, .slice none 0 0] := by
    rw [hW0]
    have h := Blk.new (w.alloc (.cells #[.int .i64 2, .slice none 0 0] 32)) 41 #[.string ⟨#[]⟩, .slice none 0 0, .slice none 0 0]
    simpa using h
  have CC := Lib.hid (checkc_any (w := W0) (B := 0) (v := 2) (A := none) (n := 0) (c := 0) (cs := []) rfl (hes.below hb0) (fun _ x hx => by cases hx) (fun h => absurd h (by decide)) (Nat.zero_le _))
  have c00 := k0.cell 0
  have c01 := k0.cell 1
  have HW0 := Lib.hid hW0
  have HB0 := Lib.hid hb0
  have K0 := Lib.hid k0
  have K1 := Lib.hid k1
  clear hW0 hb0 k0 k1 hes
  go_enter Tryd.func12, Tryd.ntmps12
  go_upto_region 1 with fail
  rw [← HW0.out]
  go_wp2_with fail
  refine CC.out.mono ?_
  rintro e w1 ⟨ev, cd, pl, rfl, hb1, hfi, hev⟩
  have hev0 : ev = .nilIface := by
    rcases hev.nil_iff with ⟨_, h⟩ | ⟨h, _⟩
    · exact h
    · exfalso
      rcases hfi with ⟨h1, _⟩ | ⟨_, ⟨_, i, x, _, h1, _⟩ | ⟨h1, _⟩⟩
      · unfold Off at h1; simp at h1
      · simp at h1
      · omega
  subst hev0
  have K01 := K0.out.below hb1 K0.out.lt
  have K11 := K1.out.below hb1 K1.out.lt
  have c10 := K01.cell 0
  have c11 := K01.cell 1
  have CN := Lib.hid (show Calls Tryd.prog 16 #[.agg #[.int .i64 2, .slice none 0 0]] w1 (NwP w1 2) from newSolver0 (w := w1) (V := 2) (by omega))
  have HB1 := Lib.hid (HB0.out.trans (hb1.mono HB0.out.size))
  have HK1 := Lib.hid K11
  clear hfi hev hb1 K01 K11 c00 c01
  go_wp2_with fail
  refine CN.out.mono ?_
  rintro e w2 ⟨p, tag, y, rfl, htag, hb2, h2⟩
  have hq : Qi 0 (ini 2 ((List.range 2).map (· + 1)) (0 :: (List.range 2).map (fun (j : Nat) => (j : Int)))) := ⟨rfl, rfl, rfl, rfl, rfl, fun _ => rfl, Nat.le_refl _, rfl⟩
  have CS := Lib.hid (searchQ h2 hq)
  have hk2 := HK1.out.below hb2 HK1.out.lt
  have HB2 := Lib.hid (HB1.out.trans (hb2.mono HB1.out.size))
  have HTAG := Lib.hid htag
  have HK2 := Lib.hid hk2
  have HSZ := Lib.hid (show w1.heap.size ≤ w2.heap.size from hb2.size)
  clear c10 c11 h2 hq hk2 hb2 htag
  go_wp2_with fail
  refine CS.out.mono ?_
  rintro e w3 ⟨A, c, rfl, hg3⟩
  have hb3 : Below w1.heap.size w2 w3 := hg3.below_ (fun g hg hS => by rw [HTAG.out g hg] at hS; exact absurd hS.1 (by decide)) HSZ.out
  have hk3 := HK2.out.below hb3 HK1.out.lt
  obtain ⟨W9, hW9⟩ : ∃ W9, W9 = ((w3.setCell ⟨w.heap.size + 1, 0, none⟩ (.string ⟨#[121, 101, 115]⟩)).setCell ⟨w.heap.size + 1, 1, none⟩ (.slice A 2 c)).setCell ⟨w.heap.size + 1, 2, none⟩ (.slice none 0 0) := ⟨_, rfl⟩
  have x9 : Blk W9 (w.heap.size + 1) 41 #[.string ⟨#[121, 101, 115]⟩, .slice A 2 c, .slice none 0 0] := by rw [hW9]; exact ((hk3.set_ 0 _).set_ 1 _).set_ 2 _
  have HB9 := Lib.hid (show Below w.heap.size w W9 by
    rw [hW9]
    exact (((HB2.out.trans (hb3.mono (HB1.out.size))).setCell (by show w.heap.size ≤ w.heap.size + 1; omega) _).setCell (by show w.heap.size ≤ w.heap.size + 1; omega) _).setCell (by show w.heap.size ≤ w.heap.size + 1; omega) _)
  have x90 := x9.cell 0
  have x91 := x9.cell 1
  have x92 := x9.cell 2
  have r0 := hk3.cell 0
  have r1 := hk3.cell 1
  have r2 := hk3.cell 2
  have fr0 := hk3.frozen 0
  have fr1 := hk3.frozen 1
  have fr2 := hk3.frozen 2
  have HW9 := Lib.hid hW9
  clear hW9 x9 hk3 hb3 hg3
  go_wp2_with fail
  rw [← HW9.out]
  exact bodyPost_ret (v := .tuple #[.agg #[.string ⟨#[121, 101, 115]⟩, .slice A 2 c, .slice none 0 0], .nilIface]) (by simp [results, Tryd.results12, go_sem, x90, x91, x92]) rfl ⟨_, _, rfl, HB9.out⟩
def HoP (w : World) (e : Ending) (w' : World) : Prop := e = .returned (.bool true) ∧ Below w.heap.size w w'
set_option maxRecDepth 100000 in
set_option maxHeartbeats 4000000 in
theorem holds_true {w : World} {ea : Nat → Addr} (hes : Sen w ea) : Calls Tryd.prog 5 #[] w (HoP w) := by
  have CS := Lib.hid (solve2 hes)
  clear hes
  go_enter Tryd.func5, Tryd.ntmps5
  go_wp2_with fail
  refine CS.out.mono ?_
  rintro e w1 ⟨A, c, rfl, hb1⟩
  have HB := Lib.hid (hb1.alloc hb1.size (.cells #[.string ⟨#[121, 101, 115]⟩, .slice A 2 c, .slice none 0 0] 41))
  clear hb1
  go_wp2_with fail
  go_ret
  exact ⟨rfl, HB.out⟩
end Go.Proofs.YtgchepkcjkhmmaaDoor.slv
