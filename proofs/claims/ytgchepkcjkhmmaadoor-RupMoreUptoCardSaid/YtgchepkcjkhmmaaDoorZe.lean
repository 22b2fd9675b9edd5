/-
  WALK of rup.Check.
-/
import Derived.Test.YtgchepkcjkhmmaaDoorZa
namespace Go.Proofs.YtgchepkcjkhmmaaDoor
open Go.RowKit
def RcP (w : World) (ea : Nat → Addr) (v : Int) (cs pf : List (List Int)) (e : Ending) (w' : World) : Prop := ∃ ev c at_, e = .returned ev ∧ Below w.heap.size w w' ∧ PfIs v cs pf c at_ ∧ EvC w' ea ev c at_
set_option maxRecDepth 100000 in
theorem rcheck_any {w : World} {ea : Nat → Addr} {v : Int} {A A2 : Option Addr} {n c n2 c2 base base2 : Nat} {cs pf : List (List Int)} (hes : Sen w ea) (hcs : CsAt w base (.slice A n c) cs) (hn : cs.length = n) (hpf : CsIn w base2 A2 pf) (hn2 : pf.length = n2) (hp4 : n2 ≤ 400000)
    (hls : ∀ x ∈ cs, x.length ≤ 100000) (hls2 : ∀ x ∈ pf, x.length ≤ 100000) :
    Calls Tryd.prog 7 #[.agg #[.int .i64 v, .slice A n c], .slice A2 n2 c2] w (RcP w ea v cs pf) := by
  obtain ⟨W0, hW0⟩ : ∃ W0, W0 = w.alloc (.cells #[.int .i64 v, .slice A n c] 32) := ⟨_, rfl⟩
  have hb0 : Below w.heap.size w W0 := by rw [hW0]; exact (Below.refl _ _).alloc (Nat.le_refl _) _
  have k0 : Blk W0 w.heap.size 32 #[.int .i64 v, .slice A n c] := by rw [hW0]; exact Blk.new w _ _
  have CS := Lib.hid (steps_any (v := v) (c := c) (c2 := c2) (hes.below hb0) (hcs.chg hb0) hn (hpf.chg hb0) hn2 hp4 hls hls2)
  have c00 := k0.cell 0
  have c01 := k0.cell 1
  have HW0 := Lib.hid hW0
  have HB0 := Lib.hid hb0
  clear hW0 hb0 k0 hes hcs hn hpf hn2 hls hls2
  go_enter Tryd.func7, Tryd.ntmps7
  go_upto_region 1 with fail
  rw [← HW0.out]
  go_wp2_with fail
  refine CS.out.mono ?_
  rintro e w1 ⟨cv, en, ev, cd, pl, rfl, hb1, hpi, hev, _⟩
  have HE := Lib.hid (show RcP w ea v cs pf (.returned ev) w1 from ⟨ev, cd, pl, rfl, HB0.out.trans (hb1.mono HB0.out.size), hpi, hev⟩)
  clear hb1 hpi hev
  go_wp2_with fail
  go_ret
  exact HE.out
end Go.Proofs.YtgchepkcjkhmmaaDoor
