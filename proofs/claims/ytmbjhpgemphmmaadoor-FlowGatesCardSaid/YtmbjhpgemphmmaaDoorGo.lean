/-
  WALKS of package graph (chapter 9): And, Or, Xor, If of literals that are there; what is none of a graph's; Parts.
-/
import Derived.Test.YtmbjhpgemphmmaaDoorGt
namespace Go.Proofs.YtmbjhpgemphmmaaDoor
open Go.RowKit

theorem GraphAt.low {w : World} {base b : Nat} {mb : Option Nat} {gs : List Gm.Gate} (hg : GraphAt w base b mb gs) : base ≤ w.heap.size := by
  obtain ⟨sv, h, _⟩ := hg.ex
  have := h.lt
  have := hg.hb
  omega

theorem and_any {w : World} {base b : Nat} {mb : Option Nat} {gs : List Gm.Gate} (hg : GraphAt w base b mb gs) (hn : gs.length < 99999) {x y : Nat} (hx : Gm.has gs x) (hy : Gm.has gs y) :
    Calls Tryd.prog 56 #[.pointer (some ⟨b, 0, none⟩), .int .i64 x, .int .i64 y] w (GPost w base b mb (Gm.andG gs x y)) := by
  have key : ∀ lo hi : Nat, Gm.has gs lo → Gm.has gs hi → lo < hi → ((x = lo ∧ y = hi) ∨ (x = hi ∧ y = lo)) →
      Calls Tryd.prog 56 #[.pointer (some ⟨b, 0, none⟩), .int .i64 x, .int .i64 y] w (GPost w base b mb (Gm.andG gs x y)) := by
    intro lo hi hlo hhi hlt ho
    have hmin : min x y = lo := by omega
    have hmax : max x y = hi := by omega
    have hnot := notL_eq (Nat.le_of_lt hlt)
    by_cases h0 : lo = 0
    · rw [andG_zero (by rw [hmin]; exact .inl h0)]
      rcases ho with ⟨rfl, rfl⟩ | ⟨rfl, rfl⟩
      · exact and_zero_a hg hlo hhi hlt h0
      · exact and_zero_b hg hlo hhi hlt h0
    · by_cases h1 : lo = Gm.notL hi
      · rw [andG_zero (by rw [hmin, hmax]; exact .inr (hnot.1 h1))]
        rcases ho with ⟨rfl, rfl⟩ | ⟨rfl, rfl⟩
        · exact and_turned_a hg hlo hhi hlt (by omega) h1
        · exact and_turned_b hg hlo hhi hlt (by omega) h1
      · have h2 : ¬ (min x y = 0 ∨ (max x y = min x y + 1 ∧ min x y % 2 = 0)) := by
          rw [hmin, hmax]
          rintro (h | h)
          · exact h0 h
          · exact h1 (hnot.2 h)
        by_cases h3 : lo = 1
        · rw [andG_one h2 (by rw [hmin]; exact .inl h3), hmax]
          rcases ho with ⟨rfl, rfl⟩ | ⟨rfl, rfl⟩
          · exact and_one_a hg hlo hhi hlt h3 h1
          · exact and_one_b hg hlo hhi hlt h3 h1
        · have h4 : ¬ (min x y = 1 ∨ min x y = max x y) := by rw [hmin, hmax]; omega
          cases hf : Gm.find lo hi gs with
          | some k =>
            rw [andG_some h2 h4 (by rw [hmin, hmax]; exact hf)]
            cases mb with
            | none => exact (zero_of_find hg hf).elim
            | some m =>
              rcases ho with ⟨rfl, rfl⟩ | ⟨rfl, rfl⟩
              · exact and_found_a hg hlo hhi hlt (by omega) h1 hf
              · exact and_found_b hg hlo hhi hlt (by omega) h1 hf
          | none =>
            rw [andG_none h2 h4 (by rw [hmin, hmax]; exact hf), hmin, hmax]
            cases mb with
            | none =>
              rcases ho with ⟨rfl, rfl⟩ | ⟨rfl, rfl⟩
              · exact and_none_a hg hg.low hn hlo hhi hlt (by omega) h1
              · exact and_none_b hg hg.low hn hlo hhi hlt (by omega) h1
            | some m =>
              rcases ho with ⟨rfl, rfl⟩ | ⟨rfl, rfl⟩
              · exact and_some_a hg hn hlo hhi hlt (by omega) h1 hf
              · exact and_some_b hg hn hlo hhi hlt (by omega) h1 hf
  rcases Nat.lt_trichotomy x y with h | h | h
  · exact key x y hx hy h (.inl ⟨rfl, rfl⟩)
  · subst h
    by_cases h0 : x = 0
    · subst h0
      rw [andG_zero (by simp)]
      exact and_same0 hg hx
    · by_cases h1 : (min x x = 0 ∨ (max x x = min x x + 1 ∧ min x x % 2 = 0))
      · omega
      · rw [andG_one h1 (by omega), Nat.max_self]
        exact and_same hg hx (by omega)
  · exact key y x hy hx h (.inr ⟨rfl, rfl⟩)

theorem has_small {w : World} {base b : Nat} {mb : Option Nat} {gs : List Gm.Gate} (hg : GraphAt w base b mb gs) {x : Nat} (hx : Gm.has gs x) : x ≤ 1000000 := by
  have := hg.len
  unfold Gm.has at hx
  omega

set_option maxHeartbeats 400000 in
theorem or_any {w : World} {base b : Nat} {mb : Option Nat} {gs : List Gm.Gate} (hg : GraphAt w base b mb gs) (hn : gs.length < 99999) {x y : Nat} (hx : Gm.has gs x) (hy : Gm.has gs y) :
    Calls Tryd.prog 58 #[.pointer (some ⟨b, 0, none⟩), .int .i64 x, .int .i64 y] w (GPost w base b mb (Gm.orG gs x y)) := by
  have C1 := Lib.hid (has_yes hg hx)
  have C2 := Lib.hid (has_yes hg hy)
  have N1 := Lib.hid (not_any x w (has_small hg hx))
  have N2 := Lib.hid (not_any y w (has_small hg hy))
  have A1 := Lib.hid (and_any hg hn (Gm.has_not hx) (Gm.has_not hy))
  have AH := Lib.hid (Gm.andG_has (Gm.has_not hx) (Gm.has_not hy))
  clear hg hn hx hy
  go_enter Tryd.func58, Tryd.ntmps58
  go_wp2_with fail
  refine C1.out.mono ?_
  rintro e w' ⟨rfl, rfl⟩
  go_wp2_with fail
  refine C2.out.mono ?_
  rintro e w' ⟨rfl, rfl⟩
  go_wp2_with fail
  refine N1.out.mono ?_
  rintro e w' ⟨rfl, rfl⟩
  go_wp2_with fail
  refine N2.out.mono ?_
  rintro e w' ⟨rfl, rfl⟩
  go_wp2_with fail
  refine A1.out.mono ?_
  rintro e w1 ⟨rfl, mb1, h1, h2, h3⟩
  have N3 := Lib.hid (not_any _ w1 (has_small h1 AH.out))
  have H1 := Lib.hid h1
  have H2 := Lib.hid h2
  have H3 := Lib.hid h3
  clear h1 h2 h3
  go_wp2_with fail
  refine N3.out.mono ?_
  rintro e w' ⟨rfl, rfl⟩
  go_wp2
  go_ret2
  exact ⟨rfl, mb1, H1.out, H2.out, H3.out⟩

set_option maxHeartbeats 400000 in
theorem orOf_any {w : World} {base b : Nat} {mb : Option Nat} {gs : List Gm.Gate} (hg : GraphAt w base b mb gs) (hn : gs.length < 99997) {x y u v : Nat} (hx : Gm.has gs x) (hy : Gm.has gs y) (hu : Gm.has gs u) (hv : Gm.has gs v) :
    Calls Tryd.prog 92 #[.pointer (some ⟨b, 0, none⟩), .int .i64 x, .int .i64 y, .int .i64 u, .int .i64 v] w (GPost w base b mb (Gm.orOf gs x y u v)) := by
  have l1 := Gm.andG_len gs x y
  have e1 := Gm.andG_ext gs x y
  have HN := Lib.hid hn
  have A1 := Lib.hid (and_any hg (by omega) hx hy)
  have X1 := Lib.hid (e1.has hu)
  have X2 := Lib.hid (e1.has hv)
  have X3 := Lib.hid (Gm.andG_has hx hy)
  have L1 := Lib.hid l1
  clear hg hn hx hy hu hv l1 e1
  go_enter Tryd.func92, Tryd.ntmps92
  go_wp2_with fail
  refine A1.out.mono ?_
  rintro e w1 ⟨rfl, mb1, h1, h2, h3⟩
  have A2 := Lib.hid (and_any h1 (by have := L1.out; have := HN.out; omega) X1.out X2.out)
  have H1 := Lib.hid h1
  have H2 := Lib.hid h2
  have H3 := Lib.hid h3
  clear h1 h2 h3
  go_wp2_with fail
  refine A2.out.mono ?_
  rintro e w2 ⟨rfl, mb2, h1, h2, h3⟩
  have l2 := Gm.andG_len (Gm.andG gs x y).1 u v
  have A3 := Lib.hid (or_any h1 (by have := L1.out; have := HN.out; omega) ((Gm.andG_ext (Gm.andG gs x y).1 u v).has X3.out) (Gm.andG_has X1.out X2.out))
  have H4 := Lib.hid h1
  have H5 := Lib.hid (GS_trans H2.out H3.out h2)
  have H6 := Lib.hid (mb_trans H2.out.size H3.out h3)
  clear h1 h2 h3 l2
  go_wp2_with fail
  refine A3.out.mono ?_
  rintro e w3 ⟨rfl, mb3, h1, h2, h3⟩
  have H7 := Lib.hid h1
  have H8 := Lib.hid (GS_trans H5.out H6.out h2)
  have H9 := Lib.hid (mb_trans H5.out.size H6.out h3)
  clear h1 h2 h3
  go_wp2
  go_ret2
  exact ⟨rfl, mb3, H7.out, H8.out, H9.out⟩

set_option maxHeartbeats 400000 in
theorem xor_any {w : World} {base b : Nat} {mb : Option Nat} {gs : List Gm.Gate} (hg : GraphAt w base b mb gs) (hn : gs.length < 99997) {x y : Nat} (hx : Gm.has gs x) (hy : Gm.has gs y) :
    Calls Tryd.prog 60 #[.pointer (some ⟨b, 0, none⟩), .int .i64 x, .int .i64 y] w (GPost w base b mb (Gm.xorG gs x y)) := by
  have C1 := Lib.hid (has_yes hg hx)
  have C2 := Lib.hid (has_yes hg hy)
  have N1 := Lib.hid (not_any x w (has_small hg hx))
  have N2 := Lib.hid (not_any y w (has_small hg hy))
  have A1 := Lib.hid (orOf_any hg hn hx (Gm.has_not hy) (Gm.has_not hx) hy)
  clear hg hn hx hy
  go_enter Tryd.func60, Tryd.ntmps60
  go_wp2_with fail
  refine C1.out.mono ?_
  rintro e w' ⟨rfl, rfl⟩
  go_wp2_with fail
  refine C2.out.mono ?_
  rintro e w' ⟨rfl, rfl⟩
  go_wp2_with fail
  refine N2.out.mono ?_
  rintro e w' ⟨rfl, rfl⟩
  go_wp2_with fail
  refine N1.out.mono ?_
  rintro e w' ⟨rfl, rfl⟩
  go_wp2_with fail
  refine A1.out.mono ?_
  rintro e w1 ⟨rfl, mb1, h1, h2, h3⟩
  have H1 := Lib.hid h1
  have H2 := Lib.hid h2
  have H3 := Lib.hid h3
  clear h1 h2 h3
  go_wp2
  go_ret2
  exact ⟨rfl, mb1, H1.out, H2.out, H3.out⟩

set_option maxHeartbeats 400000 in
theorem if_any {w : World} {base b : Nat} {mb : Option Nat} {gs : List Gm.Gate} (hg : GraphAt w base b mb gs) (hn : gs.length < 99997) {z x y : Nat} (hz : Gm.has gs z) (hx : Gm.has gs x) (hy : Gm.has gs y) :
    Calls Tryd.prog 62 #[.pointer (some ⟨b, 0, none⟩), .int .i64 z, .int .i64 x, .int .i64 y] w (GPost w base b mb (Gm.ifG gs z x y)) := by
  have C0 := Lib.hid (has_yes hg hz)
  have C1 := Lib.hid (has_yes hg hx)
  have C2 := Lib.hid (has_yes hg hy)
  have N1 := Lib.hid (not_any z w (has_small hg hz))
  have A1 := Lib.hid (orOf_any hg hn hz hx (Gm.has_not hz) hy)
  clear hg hn hz hx hy
  go_enter Tryd.func62, Tryd.ntmps62
  go_wp2_with fail
  refine C0.out.mono ?_
  rintro e w' ⟨rfl, rfl⟩
  go_wp2_with fail
  refine C1.out.mono ?_
  rintro e w' ⟨rfl, rfl⟩
  go_wp2_with fail
  refine C2.out.mono ?_
  rintro e w' ⟨rfl, rfl⟩
  go_wp2_with fail
  refine N1.out.mono ?_
  rintro e w' ⟨rfl, rfl⟩
  go_wp2_with fail
  refine A1.out.mono ?_
  rintro e w1 ⟨rfl, mb1, h1, h2, h3⟩
  have H1 := Lib.hid h1
  have H2 := Lib.hid h2
  have H3 := Lib.hid h3
  clear h1 h2 h3
  go_wp2
  go_ret2
  exact ⟨rfl, mb1, H1.out, H2.out, H3.out⟩
end Go.Proofs.YtmbjhpgemphmmaaDoor
