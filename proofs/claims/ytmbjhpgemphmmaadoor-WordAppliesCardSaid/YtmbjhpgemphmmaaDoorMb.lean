/-
  WALKS of the reference's model of a graph: And, Or, Xor, If of literals that are there.
-/
import Derived.Test.YtmbjhpgemphmmaaDoorMa
namespace Go.Proofs.YtmbjhpgemphmmaaDoor
open Go.RowKit

theorem mand_any {w : World} {base b : Nat} {gs : List Gm.Gate} (hm : ModelAt w base b gs) (hn : gs.length < 99999) {x y : Nat} (hx : x ≤ 1000000) (hy : y ≤ 1000000) :
    Calls Tryd.prog 57 #[.pointer (some ⟨b, 0, none⟩), .int .i64 x, .int .i64 y] w (MPost w base b (Gm.andG gs x y)) := by
  rcases Nat.lt_or_ge y x with h | h
  · by_cases h0 : y = 0
    · exact mand_zero_b hm h hx h0
    · by_cases h1 : x = y + 1 ∧ y % 2 = 0
      · exact mand_turned_b hm h hx (by omega) h1.1 h1.2
      · by_cases h2 : y = 1
        · exact mand_one_b hm h hx h2 h1
        · exact mand_find_b hm h hx hn (by omega) h h1
  · by_cases h0 : x = 0
    · exact mand_zero_a hm h hy h0
    · by_cases h1 : y = x + 1 ∧ x % 2 = 0
      · exact mand_turned_a hm h hy (by omega) h1.1 h1.2
      · by_cases h2 : x = 1
        · exact mand_one_a hm h hy h2 h1
        · by_cases h3 : x = y
          · exact mand_same_a hm h hy (by omega) h3
          · exact mand_find_a hm h hy hn (by omega) (by omega) h1
theorem mhas_small {w : World} {base b : Nat} {gs : List Gm.Gate} (hm : ModelAt w base b gs) {x : Nat} (hx : Gm.has gs x) : x ≤ 1000000 := by
  have := hm.len
  unfold Gm.has at hx
  omega
set_option maxHeartbeats 400000 in
theorem mor_any {w : World} {base b : Nat} {gs : List Gm.Gate} (hm : ModelAt w base b gs) (hn : gs.length < 99999) {x y : Nat} (hx : Gm.has gs x) (hy : Gm.has gs y) :
    Calls Tryd.prog 59 #[.pointer (some ⟨b, 0, none⟩), .int .i64 x, .int .i64 y] w (MPost w base b (Gm.orG gs x y)) := by
  have N1 := Lib.hid (turn_any x w (mhas_small hm hx))
  have N2 := Lib.hid (turn_any y w (mhas_small hm hy))
  have A1 := Lib.hid (mand_any hm hn (mhas_small hm (Gm.has_not hx)) (mhas_small hm (Gm.has_not hy)))
  have AH := Lib.hid (Gm.andG_has (Gm.has_not hx) (Gm.has_not hy))
  clear hm hn hx hy
  go_enter Tryd.func59, Tryd.ntmps59
  go_wp2_with fail
  refine N1.out.mono ?_
  rintro e w' ⟨rfl, rfl⟩
  go_wp2_with fail
  refine N2.out.mono ?_
  rintro e w' ⟨rfl, rfl⟩
  go_wp2_with fail
  refine A1.out.mono ?_
  rintro e w1 ⟨rfl, h1, h2⟩
  have N3 := Lib.hid (turn_any _ w1 (mhas_small h1 AH.out))
  have H1 := Lib.hid h1
  have H2 := Lib.hid h2
  clear h1 h2
  go_wp2_with fail
  refine N3.out.mono ?_
  rintro e w' ⟨rfl, rfl⟩
  go_wp2
  go_ret
  exact ⟨rfl, H1.out, H2.out⟩
set_option maxHeartbeats 400000 in
theorem mxor_any {w : World} {base b : Nat} {gs : List Gm.Gate} (hm : ModelAt w base b gs) (hn : gs.length < 99997) {x y : Nat} (hx : Gm.has gs x) (hy : Gm.has gs y) :
    Calls Tryd.prog 61 #[.pointer (some ⟨b, 0, none⟩), .int .i64 x, .int .i64 y] w (MPost w base b (Gm.xorG gs x y)) := by
  have l1 := Gm.andG_len gs x (Gm.notL y)
  have e1 := Gm.andG_ext gs x (Gm.notL y)
  have N1 := Lib.hid (turn_any y w (mhas_small hm hy))
  have A1 := Lib.hid (mand_any hm (by omega) (mhas_small hm hx) (mhas_small hm (Gm.has_not hy)))
  have X1 := Lib.hid (e1.has (Gm.has_not hx))
  have X2 := Lib.hid (e1.has hy)
  have X3 := Lib.hid (Gm.andG_has hx (Gm.has_not hy))
  have X0 := Lib.hid (mhas_small hm hx)
  have L1 := Lib.hid l1
  have HN := Lib.hid hn
  clear hm hn hx hy l1 e1
  go_enter Tryd.func61, Tryd.ntmps61
  go_wp2_with fail
  refine N1.out.mono ?_
  rintro e w' ⟨rfl, rfl⟩
  go_wp2_with fail
  refine A1.out.mono ?_
  rintro e w1 ⟨rfl, h1, h2⟩
  have N2 := Lib.hid (turn_any x w1 X0.out)
  have A2 := Lib.hid (mand_any h1 (by have := L1.out; have := HN.out; omega) (mhas_small h1 X1.out) (mhas_small h1 X2.out))
  have H1 := Lib.hid h1
  have H2 := Lib.hid h2
  clear h1 h2
  go_wp2_with fail
  refine N2.out.mono ?_
  rintro e w' ⟨rfl, rfl⟩
  go_wp2_with fail
  refine A2.out.mono ?_
  rintro e w2 ⟨rfl, h1, h2⟩
  have l2 := Gm.andG_len (Gm.andG gs x (Gm.notL y)).1 (Gm.notL x) y
  have A3 := Lib.hid (mor_any h1 (by have := L1.out; have := HN.out; omega) ((Gm.andG_ext (Gm.andG gs x (Gm.notL y)).1 (Gm.notL x) y).has X3.out) (Gm.andG_has X1.out X2.out))
  have H5 := Lib.hid (H2.out.trans h2)
  clear h1 h2 l2
  go_wp2_with fail
  refine A3.out.mono ?_
  rintro e w3 ⟨rfl, h1, h2⟩
  have H7 := Lib.hid h1
  have H8 := Lib.hid (H5.out.trans h2)
  clear h1 h2
  go_wp2
  go_ret
  exact ⟨rfl, H7.out, H8.out⟩
set_option maxHeartbeats 400000 in
theorem mif_any {w : World} {base b : Nat} {gs : List Gm.Gate} (hm : ModelAt w base b gs) (hn : gs.length < 99997) {z x y : Nat} (hz : Gm.has gs z) (hx : Gm.has gs x) (hy : Gm.has gs y) :
    Calls Tryd.prog 63 #[.pointer (some ⟨b, 0, none⟩), .int .i64 z, .int .i64 x, .int .i64 y] w (MPost w base b (Gm.ifG gs z x y)) := by
  have l1 := Gm.andG_len gs z x
  have e1 := Gm.andG_ext gs z x
  have A1 := Lib.hid (mand_any hm (by omega) (mhas_small hm hz) (mhas_small hm hx))
  have X1 := Lib.hid (e1.has (Gm.has_not hz))
  have X2 := Lib.hid (e1.has hy)
  have X3 := Lib.hid (Gm.andG_has hz hx)
  have X0 := Lib.hid (mhas_small hm hz)
  have L1 := Lib.hid l1
  have HN := Lib.hid hn
  clear hm hn hx hy hz l1 e1
  go_enter Tryd.func63, Tryd.ntmps63
  go_wp2_with fail
  refine A1.out.mono ?_
  rintro e w1 ⟨rfl, h1, h2⟩
  have N2 := Lib.hid (turn_any z w1 X0.out)
  have A2 := Lib.hid (mand_any h1 (by have := L1.out; have := HN.out; omega) (mhas_small h1 X1.out) (mhas_small h1 X2.out))
  have H1 := Lib.hid h1
  have H2 := Lib.hid h2
  clear h1 h2
  go_wp2_with fail
  refine N2.out.mono ?_
  rintro e w' ⟨rfl, rfl⟩
  go_wp2_with fail
  refine A2.out.mono ?_
  rintro e w2 ⟨rfl, h1, h2⟩
  have l2 := Gm.andG_len (Gm.andG gs z x).1 (Gm.notL z) y
  have A3 := Lib.hid (mor_any h1 (by have := L1.out; have := HN.out; omega) ((Gm.andG_ext (Gm.andG gs z x).1 (Gm.notL z) y).has X3.out) (Gm.andG_has X1.out X2.out))
  have H5 := Lib.hid (H2.out.trans h2)
  clear h1 h2 l2
  go_wp2_with fail
  refine A3.out.mono ?_
  rintro e w3 ⟨rfl, h1, h2⟩
  have H7 := Lib.hid h1
  have H8 := Lib.hid (H5.out.trans h2)
  clear h1 h2
  go_wp2
  go_ret
  exact ⟨rfl, H7.out, H8.out⟩
end Go.Proofs.YtmbjhpgemphmmaaDoor
