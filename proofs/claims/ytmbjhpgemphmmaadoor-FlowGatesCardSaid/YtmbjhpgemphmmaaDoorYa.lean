/-
  WALKS of package word: the maker's gates (and, or, xor, pick), must.
-/
import Derived.Test.YtmbjhpgemphmmaaDoorBs
namespace Go.Proofs.YtmbjhpgemphmmaaDoor
open Go.RowKit

/-- what a maker's gate leaves -/
def RP (w : World) (B b : Nat) (r : List Gm.Gate × Nat) (e : Ending) (w' : World) : Prop :=
  e = .returned (.int .i64 (r.2 : Nat)) ∧ GA w' B b r.1 ∧ Chg (GT B) w w'
theorem must_nil (x : Int) (w : World) : Calls Tryd.prog 110 #[.int .i64 x, .nilIface] w fun e w' => e = .returned (.int .i64 x) ∧ w = w' := by
  go_enter Tryd.func110, Tryd.ntmps110
  go_wp2
  go_ret
  exact ⟨rfl, rfl⟩
set_option maxHeartbeats 400000 in
theorem mkr_and {w : World} {B b : Nat} {gs : List Gm.Gate} (h : GA w B b gs) (hn : gs.length < 99999) {x y : Nat} (hx : Gm.has gs x) (hy : Gm.has gs y) :
    Calls Tryd.prog 81 #[.agg #[.pointer (some ⟨b, 0, none⟩)], .int .i64 x, .int .i64 y] w (RP w B b (Gm.andG gs x y)) := by
  obtain ⟨W1, hW1⟩ : ∃ W1, W1 = w.alloc (.cells #[.pointer (some ⟨b, 0, none⟩)] 106) := ⟨_, rfl⟩
  have hb : Below w.heap.size w W1 := by rw [hW1]; exact (Below.refl _ _).alloc (Nat.le_refl _) _
  have hc : Chg (GT B) w W1 := by rw [hW1]; exact (Chg.refl _ _).alloc _
  have C1 := Lib.hid (and_ga (h.new hb) hn hx hy)
  have HC := Lib.hid hc
  have HW := Lib.hid hW1
  clear h hb hc hW1 hn hx hy
  go_enter Tryd.func81, Tryd.ntmps81
  go_wp2_with fail
  rw [← HW.out]
  refine C1.out.mono ?_
  rintro e w1 ⟨rfl, h1, h2⟩
  have H1 := Lib.hid h1
  have H2 := Lib.hid (HC.out.trans h2)
  clear h1 h2
  go_wp2_with fail
  refine (must_nil _ _).mono ?_
  rintro e w' ⟨rfl, rfl⟩
  go_wp2
  go_ret
  exact ⟨rfl, H1.out, H2.out⟩
set_option maxHeartbeats 400000 in
theorem mkr_or {w : World} {B b : Nat} {gs : List Gm.Gate} (h : GA w B b gs) (hn : gs.length < 99999) {x y : Nat} (hx : Gm.has gs x) (hy : Gm.has gs y) :
    Calls Tryd.prog 83 #[.agg #[.pointer (some ⟨b, 0, none⟩)], .int .i64 x, .int .i64 y] w (RP w B b (Gm.orG gs x y)) := by
  obtain ⟨W1, hW1⟩ : ∃ W1, W1 = w.alloc (.cells #[.pointer (some ⟨b, 0, none⟩)] 106) := ⟨_, rfl⟩
  have hb : Below w.heap.size w W1 := by rw [hW1]; exact (Below.refl _ _).alloc (Nat.le_refl _) _
  have hc : Chg (GT B) w W1 := by rw [hW1]; exact (Chg.refl _ _).alloc _
  have C1 := Lib.hid (or_ga (h.new hb) hn hx hy)
  have HC := Lib.hid hc
  have HW := Lib.hid hW1
  clear h hb hc hW1 hn hx hy
  go_enter Tryd.func83, Tryd.ntmps83
  go_wp2_with fail
  rw [← HW.out]
  refine C1.out.mono ?_
  rintro e w1 ⟨rfl, h1, h2⟩
  have H1 := Lib.hid h1
  have H2 := Lib.hid (HC.out.trans h2)
  clear h1 h2
  go_wp2_with fail
  refine (must_nil _ _).mono ?_
  rintro e w' ⟨rfl, rfl⟩
  go_wp2
  go_ret
  exact ⟨rfl, H1.out, H2.out⟩
set_option maxHeartbeats 400000 in
theorem mkr_xor {w : World} {B b : Nat} {gs : List Gm.Gate} (h : GA w B b gs) (hn : gs.length < 99997) {x y : Nat} (hx : Gm.has gs x) (hy : Gm.has gs y) :
    Calls Tryd.prog 82 #[.agg #[.pointer (some ⟨b, 0, none⟩)], .int .i64 x, .int .i64 y] w (RP w B b (Gm.xorG gs x y)) := by
  obtain ⟨W1, hW1⟩ : ∃ W1, W1 = w.alloc (.cells #[.pointer (some ⟨b, 0, none⟩)] 106) := ⟨_, rfl⟩
  have hb : Below w.heap.size w W1 := by rw [hW1]; exact (Below.refl _ _).alloc (Nat.le_refl _) _
  have hc : Chg (GT B) w W1 := by rw [hW1]; exact (Chg.refl _ _).alloc _
  have C1 := Lib.hid (xor_ga (h.new hb) hn hx hy)
  have HC := Lib.hid hc
  have HW := Lib.hid hW1
  clear h hb hc hW1 hn hx hy
  go_enter Tryd.func82, Tryd.ntmps82
  go_wp2_with fail
  rw [← HW.out]
  refine C1.out.mono ?_
  rintro e w1 ⟨rfl, h1, h2⟩
  have H1 := Lib.hid h1
  have H2 := Lib.hid (HC.out.trans h2)
  clear h1 h2
  go_wp2_with fail
  refine (must_nil _ _).mono ?_
  rintro e w' ⟨rfl, rfl⟩
  go_wp2
  go_ret
  exact ⟨rfl, H1.out, H2.out⟩
set_option maxHeartbeats 400000 in
theorem mkr_pick {w : World} {B b : Nat} {gs : List Gm.Gate} (h : GA w B b gs) (hn : gs.length < 99997) {z x y : Nat} (hz : Gm.has gs z) (hx : Gm.has gs x) (hy : Gm.has gs y) :
    Calls Tryd.prog 80 #[.agg #[.pointer (some ⟨b, 0, none⟩)], .int .i64 z, .int .i64 x, .int .i64 y] w (RP w B b (Gm.ifG gs z x y)) := by
  obtain ⟨W1, hW1⟩ : ∃ W1, W1 = w.alloc (.cells #[.pointer (some ⟨b, 0, none⟩)] 106) := ⟨_, rfl⟩
  have hb : Below w.heap.size w W1 := by rw [hW1]; exact (Below.refl _ _).alloc (Nat.le_refl _) _
  have hc : Chg (GT B) w W1 := by rw [hW1]; exact (Chg.refl _ _).alloc _
  have C1 := Lib.hid (if_ga (h.new hb) hn hz hx hy)
  have HC := Lib.hid hc
  have HW := Lib.hid hW1
  clear h hb hc hW1 hn hz hx hy
  go_enter Tryd.func80, Tryd.ntmps80
  go_wp2_with fail
  rw [← HW.out]
  refine C1.out.mono ?_
  rintro e w1 ⟨rfl, h1, h2⟩
  have H1 := Lib.hid h1
  have H2 := Lib.hid (HC.out.trans h2)
  clear h1 h2
  go_wp2_with fail
  refine (must_nil _ _).mono ?_
  rintro e w' ⟨rfl, rfl⟩
  go_wp2
  go_ret
  exact ⟨rfl, H1.out, H2.out⟩
end Go.Proofs.YtmbjhpgemphmmaaDoor
