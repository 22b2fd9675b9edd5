/-
  WALKS of package graph (chapter 9): And, Or, Xor, If, Parts.
-/
import Derived.Test.YtmbjhpgemphmmaaDoorGr
namespace Go.Proofs.YtmbjhpgemphmmaaDoor
open Go.RowKit

theorem wf_small {n : Nat} (h : n ≤ 1000000) : (Lit.int .i64 (n : Int)).wf = true := by
  simp [Lit.wf, IntKind.min, IntKind.max, IntKind.signed, IntKind.bits]; omega
theorem hasB_nat {n a : Nat} : hasB n (a : Int) = decide (a < 2 * n + 2) := by
  unfold hasB
  rw [decide_eq_true (show (0 : Int) ≤ a by omega), Bool.true_and]
  by_cases h : a < 2 * n + 2
  · rw [decide_eq_true h, decide_eq_true (by omega)]
  · rw [decide_eq_false h, decide_eq_false (by omega)]
theorem has_yes {w : World} {base b : Nat} {mb : Option Nat} {gs : List Gm.Gate} (hg : GraphAt w base b mb gs) {a : Nat} (ha : Gm.has gs a) :
    Calls Tryd.prog 34 #[.pointer (some ⟨b, 0, none⟩), .int .i64 a] w fun e w' => e = .returned (.bool true) ∧ w = w' := by
  obtain ⟨sv, hblk, hrow⟩ := hg.ex
  obtain ⟨A, c, rfl⟩ := own_form hrow
  have hl := hg.len
  unfold Gm.has at ha
  have h := has_at (a : Int) (wf_small (by omega)) hl hblk
  rw [hasB_nat, decide_eq_true ha] at h
  exact h
theorem has_no {w : World} {base b : Nat} {mb : Option Nat} {gs : List Gm.Gate} (hg : GraphAt w base b mb gs) {a : Int} (hw : (Lit.int .i64 a).wf = true) (ha : hasB gs.length a = false) :
    Calls Tryd.prog 34 #[.pointer (some ⟨b, 0, none⟩), .int .i64 a] w fun e w' => e = .returned (.bool false) ∧ w = w' := by
  obtain ⟨sv, hblk, hrow⟩ := hg.ex
  obtain ⟨A, c, rfl⟩ := own_form hrow
  have h := has_at a hw hg.len hblk
  rw [ha] at h
  exact h

theorem post_same {w : World} {base b : Nat} {mb : Option Nat} {gs : List Gm.Gate} (hg : GraphAt w base b mb gs) {l : Nat} {i : Int} (hi : i = (l : Int)) : GPost w base b mb (gs, l) (.returned (.tuple #[.int .i64 i, .nilIface])) w := by
  subst hi
  exact ⟨rfl, mb, hg, Chg.refl _ _, .inl rfl⟩

/-- what And meets, of two literals lo ≤ hi -/
theorem andG_zero {gs : List Gm.Gate} {x y : Nat} (h : min x y = 0 ∨ (max x y = min x y + 1 ∧ min x y % 2 = 0)) : Gm.andG gs x y = (gs, 0) := by
  unfold Gm.andG; rw [if_pos h]
theorem andG_one {gs : List Gm.Gate} {x y : Nat} (h0 : ¬ (min x y = 0 ∨ (max x y = min x y + 1 ∧ min x y % 2 = 0))) (h : min x y = 1 ∨ min x y = max x y) : Gm.andG gs x y = (gs, max x y) := by
  unfold Gm.andG; rw [if_neg h0, if_pos h]
theorem andG_some {gs : List Gm.Gate} {x y k : Nat} (h0 : ¬ (min x y = 0 ∨ (max x y = min x y + 1 ∧ min x y % 2 = 0))) (h : ¬ (min x y = 1 ∨ min x y = max x y)) (hk : Gm.find (min x y) (max x y) gs = some k) : Gm.andG gs x y = (gs, 2 * k + 2) := by
  unfold Gm.andG; rw [if_neg h0, if_neg h, hk]
theorem andG_none {gs : List Gm.Gate} {x y : Nat} (h0 : ¬ (min x y = 0 ∨ (max x y = min x y + 1 ∧ min x y % 2 = 0))) (h : ¬ (min x y = 1 ∨ min x y = max x y)) (hk : Gm.find (min x y) (max x y) gs = none) : Gm.andG gs x y = (gs ++ [⟨min x y, max x y, false⟩], 2 * gs.length + 2) := by
  unfold Gm.andG; rw [if_neg h0, if_neg h, hk]
theorem notL_eq {x y : Nat} (h : x ≤ y) : x = Gm.notL y ↔ (y = x + 1 ∧ x % 2 = 0) := by
  unfold Gm.notL; split <;> omega

set_option maxHeartbeats 400000 in
theorem and_zero_a {w : World} {base b : Nat} {mb : Option Nat} {gs : List Gm.Gate} (hg : GraphAt w base b mb gs) {lo hi : Nat} (hlo : Gm.has gs lo) (hhi : Gm.has gs hi) (hlt : lo < hi) (h0 : lo = 0) :
    Calls Tryd.prog 56 #[.pointer (some ⟨b, 0, none⟩), .int .i64 lo, .int .i64 hi] w (GPost w base b mb (gs, 0)) := by
  have hl := hg.len
  have C1 := Lib.hid (has_yes hg hlo)
  have C2 := Lib.hid (has_yes hg hhi)
  have HG := Lib.hid hg
  have e0 : ((lo : Int) == 0) = true := by simp [h0]
  clear hg hlo hhi h0
  go_enter Tryd.func56, Tryd.ntmps56
  go_wp2_with fail
  refine C1.out.mono ?_
  rintro e w' ⟨rfl, rfl⟩
  go_wp2_with fail
  refine C2.out.mono ?_
  rintro e w' ⟨rfl, rfl⟩
  go_wp2
  go_ret2
  exact post_same HG.out rfl
set_option maxHeartbeats 400000 in
theorem and_turned_a {w : World} {base b : Nat} {mb : Option Nat} {gs : List Gm.Gate} (hg : GraphAt w base b mb gs) {lo hi : Nat} (hlo : Gm.has gs lo) (hhi : Gm.has gs hi) (hlt : lo < hi) (h0 : 0 < lo) (h1 : lo = Gm.notL hi) :
    Calls Tryd.prog 56 #[.pointer (some ⟨b, 0, none⟩), .int .i64 lo, .int .i64 hi] w (GPost w base b mb (gs, 0)) := by
  have hl := hg.len
  have C1 := Lib.hid (has_yes hg hlo)
  have C2 := Lib.hid (has_yes hg hhi)
  have HG := Lib.hid hg
  have e0 : ((lo : Int) == 0) = false := by simp; omega
  obtain ⟨nh, hnh⟩ : ∃ nh, nh = Gm.notL hi := ⟨_, rfl⟩
  have C3 := Lib.hid (not_any hi w (by unfold Gm.has at hhi; omega))
  rw [← hnh] at C3 h1
  have e1 : ((lo : Int) == (nh : Int)) = true := by simp [h1]
  clear hg hlo hhi h1 hnh hl
  go_enter Tryd.func56, Tryd.ntmps56
  go_wp2_with fail
  refine C1.out.mono ?_
  rintro e w' ⟨rfl, rfl⟩
  go_wp2_with fail
  refine C2.out.mono ?_
  rintro e w' ⟨rfl, rfl⟩
  go_wp2_with fail
  refine C3.out.mono ?_
  rintro e w' ⟨rfl, rfl⟩
  go_wp2
  go_ret2
  exact post_same HG.out rfl
set_option maxHeartbeats 400000 in
theorem and_one_a {w : World} {base b : Nat} {mb : Option Nat} {gs : List Gm.Gate} (hg : GraphAt w base b mb gs) {lo hi : Nat} (hlo : Gm.has gs lo) (hhi : Gm.has gs hi) (hlt : lo < hi) (h0 : lo = 1) (h1 : lo ≠ Gm.notL hi) :
    Calls Tryd.prog 56 #[.pointer (some ⟨b, 0, none⟩), .int .i64 lo, .int .i64 hi] w (GPost w base b mb (gs, hi)) := by
  have hl := hg.len
  have C1 := Lib.hid (has_yes hg hlo)
  have C2 := Lib.hid (has_yes hg hhi)
  have HG := Lib.hid hg
  have e0 : ((lo : Int) == 0) = false := by simp; omega
  have e2 : ((lo : Int) == 1) = true := by simp [h0]
  obtain ⟨nh, hnh⟩ : ∃ nh, nh = Gm.notL hi := ⟨_, rfl⟩
  have C3 := Lib.hid (not_any hi w (by unfold Gm.has at hhi; omega))
  rw [← hnh] at C3 h1
  have e1 : ((lo : Int) == (nh : Int)) = false := by simp; omega
  clear hg hlo hhi h1 hnh hl h0
  go_enter Tryd.func56, Tryd.ntmps56
  go_wp2_with fail
  refine C1.out.mono ?_
  rintro e w' ⟨rfl, rfl⟩
  go_wp2_with fail
  refine C2.out.mono ?_
  rintro e w' ⟨rfl, rfl⟩
  go_wp2_with fail
  refine C3.out.mono ?_
  rintro e w' ⟨rfl, rfl⟩
  go_wp2
  go_ret2
  exact post_same HG.out rfl
set_option maxHeartbeats 400000 in
theorem and_zero_b {w : World} {base b : Nat} {mb : Option Nat} {gs : List Gm.Gate} (hg : GraphAt w base b mb gs) {lo hi : Nat} (hlo : Gm.has gs lo) (hhi : Gm.has gs hi) (hlt : lo < hi) (h0 : lo = 0) :
    Calls Tryd.prog 56 #[.pointer (some ⟨b, 0, none⟩), .int .i64 hi, .int .i64 lo] w (GPost w base b mb (gs, 0)) := by
  have hl := hg.len
  have C1 := Lib.hid (has_yes hg hlo)
  have C2 := Lib.hid (has_yes hg hhi)
  have HG := Lib.hid hg
  have e0 : ((lo : Int) == 0) = true := by simp [h0]
  clear hg hlo hhi h0
  go_enter Tryd.func56, Tryd.ntmps56
  go_wp2_with fail
  refine C2.out.mono ?_
  rintro e w' ⟨rfl, rfl⟩
  go_wp2_with fail
  refine C1.out.mono ?_
  rintro e w' ⟨rfl, rfl⟩
  go_wp2
  go_ret2
  exact post_same HG.out rfl
set_option maxHeartbeats 400000 in
theorem and_turned_b {w : World} {base b : Nat} {mb : Option Nat} {gs : List Gm.Gate} (hg : GraphAt w base b mb gs) {lo hi : Nat} (hlo : Gm.has gs lo) (hhi : Gm.has gs hi) (hlt : lo < hi) (h0 : 0 < lo) (h1 : lo = Gm.notL hi) :
    Calls Tryd.prog 56 #[.pointer (some ⟨b, 0, none⟩), .int .i64 hi, .int .i64 lo] w (GPost w base b mb (gs, 0)) := by
  have hl := hg.len
  have C1 := Lib.hid (has_yes hg hlo)
  have C2 := Lib.hid (has_yes hg hhi)
  have HG := Lib.hid hg
  have e0 : ((lo : Int) == 0) = false := by simp; omega
  obtain ⟨nh, hnh⟩ : ∃ nh, nh = Gm.notL hi := ⟨_, rfl⟩
  have C3 := Lib.hid (not_any hi w (by unfold Gm.has at hhi; omega))
  rw [← hnh] at C3 h1
  have e1 : ((lo : Int) == (nh : Int)) = true := by simp [h1]
  clear hg hlo hhi h1 hnh hl
  go_enter Tryd.func56, Tryd.ntmps56
  go_wp2_with fail
  refine C2.out.mono ?_
  rintro e w' ⟨rfl, rfl⟩
  go_wp2_with fail
  refine C1.out.mono ?_
  rintro e w' ⟨rfl, rfl⟩
  go_wp2_with fail
  refine C3.out.mono ?_
  rintro e w' ⟨rfl, rfl⟩
  go_wp2
  go_ret2
  exact post_same HG.out rfl
set_option maxHeartbeats 400000 in
theorem and_one_b {w : World} {base b : Nat} {mb : Option Nat} {gs : List Gm.Gate} (hg : GraphAt w base b mb gs) {lo hi : Nat} (hlo : Gm.has gs lo) (hhi : Gm.has gs hi) (hlt : lo < hi) (h0 : lo = 1) (h1 : lo ≠ Gm.notL hi) :
    Calls Tryd.prog 56 #[.pointer (some ⟨b, 0, none⟩), .int .i64 hi, .int .i64 lo] w (GPost w base b mb (gs, hi)) := by
  have hl := hg.len
  have C1 := Lib.hid (has_yes hg hlo)
  have C2 := Lib.hid (has_yes hg hhi)
  have HG := Lib.hid hg
  have e0 : ((lo : Int) == 0) = false := by simp; omega
  have e2 : ((lo : Int) == 1) = true := by simp [h0]
  obtain ⟨nh, hnh⟩ : ∃ nh, nh = Gm.notL hi := ⟨_, rfl⟩
  have C3 := Lib.hid (not_any hi w (by unfold Gm.has at hhi; omega))
  rw [← hnh] at C3 h1
  have e1 : ((lo : Int) == (nh : Int)) = false := by simp; omega
  clear hg hlo hhi h1 hnh hl h0
  go_enter Tryd.func56, Tryd.ntmps56
  go_wp2_with fail
  refine C2.out.mono ?_
  rintro e w' ⟨rfl, rfl⟩
  go_wp2_with fail
  refine C1.out.mono ?_
  rintro e w' ⟨rfl, rfl⟩
  go_wp2_with fail
  refine C3.out.mono ?_
  rintro e w' ⟨rfl, rfl⟩
  go_wp2
  go_ret2
  exact post_same HG.out rfl
set_option maxHeartbeats 400000 in
theorem and_same0 {w : World} {base b : Nat} {mb : Option Nat} {gs : List Gm.Gate} (hg : GraphAt w base b mb gs) (h : Gm.has gs 0) :
    Calls Tryd.prog 56 #[.pointer (some ⟨b, 0, none⟩), .int .i64 ((0 : Nat) : Int), .int .i64 ((0 : Nat) : Int)] w (GPost w base b mb (gs, 0)) := by
  have C1 := Lib.hid (has_yes hg h)
  have HG := Lib.hid hg
  clear hg h
  go_enter Tryd.func56, Tryd.ntmps56
  go_wp2_with fail
  refine C1.out.mono ?_
  rintro e w' ⟨rfl, rfl⟩
  go_wp2_with fail
  refine C1.out.mono ?_
  rintro e w' ⟨rfl, rfl⟩
  go_wp2
  go_ret2
  exact post_same HG.out rfl
set_option maxHeartbeats 400000 in
theorem and_same {w : World} {base b : Nat} {mb : Option Nat} {gs : List Gm.Gate} (hg : GraphAt w base b mb gs) {x : Nat} (h : Gm.has gs x) (h0 : 0 < x) :
    Calls Tryd.prog 56 #[.pointer (some ⟨b, 0, none⟩), .int .i64 x, .int .i64 x] w (GPost w base b mb (gs, x)) := by
  have hl := hg.len
  have C1 := Lib.hid (has_yes hg h)
  have HG := Lib.hid hg
  have e0 : ((x : Int) == 0) = false := by simp; omega
  obtain ⟨nh, hnh⟩ : ∃ nh, nh = Gm.notL x := ⟨_, rfl⟩
  have C3 := Lib.hid (not_any x w (by unfold Gm.has at h; omega))
  have h1 : x ≠ nh := by rw [hnh]; unfold Gm.notL; split <;> omega
  rw [← hnh] at C3
  have e1 : ((x : Int) == (nh : Int)) = false := by simp; omega
  by_cases h2 : x = 1
  · have e2 : ((x : Int) == 1) = true := by simp [h2]
    clear hg h h1 hnh hl h2
    go_enter Tryd.func56, Tryd.ntmps56
    go_wp2_with fail
    refine C1.out.mono ?_
    rintro e w' ⟨rfl, rfl⟩
    go_wp2_with fail
    refine C1.out.mono ?_
    rintro e w' ⟨rfl, rfl⟩
    go_wp2_with fail
    refine C3.out.mono ?_
    rintro e w' ⟨rfl, rfl⟩
    go_wp2
    go_ret2
    exact post_same HG.out rfl
  · have e2 : ((x : Int) == 1) = false := by simp; omega
    clear hg h h1 hnh hl h2
    go_enter Tryd.func56, Tryd.ntmps56
    go_wp2_with fail
    refine C1.out.mono ?_
    rintro e w' ⟨rfl, rfl⟩
    go_wp2_with fail
    refine C1.out.mono ?_
    rintro e w' ⟨rfl, rfl⟩
    go_wp2_with fail
    refine C3.out.mono ?_
    rintro e w' ⟨rfl, rfl⟩
    go_wp2
    go_ret2
    exact post_same HG.out rfl
end Go.Proofs.YtmbjhpgemphmmaaDoor
