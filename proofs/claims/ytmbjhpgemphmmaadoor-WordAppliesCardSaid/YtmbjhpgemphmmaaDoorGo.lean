/-
  WALKS of package graph (chapter 9): And, Or, Xor, If, Parts.
  WALKS of package graph (chapter 9): And where the gate is there already, and where it is new.
  WALKS of package graph (chapter 9): And, Or, Xor, If of literals that are there; what is none of a graph's; Parts.
-/
import Derived.Test.YtmbjhpgemphmmaaDoorGr
namespace Go.Proofs.YtmbjhpgemphmmaaDoor
open Go.RowKit

theorem wf_small {n : Nat} (h : n ≤ 1000000) : (Lit.int .i64 (n : Int)).wf = true := by
  simp [Lit.wf, IntKind.min, IntKind.max, IntKind.signed, IntKind.bits]; omega
theorem hasB_nat {n a : Nat} : hasB n (a : Int) = decide (a < 2 * n + 2) := by
  unfold hasB
  rw [decide_eq_true (show (0 : Int) ≤ a by omega), Bool.true_and]
  by_cases h : a < 2 * n + 2
  · rw [decide_eq_true h, decide_eq_true (by omega)]
  · rw [decide_eq_false h, decide_eq_false (by omega)]
theorem has_yes {w : World} {base b : Nat} {mb : Option Nat} {gs : List Gm.Gate} (hg : GraphAt w base b mb gs) {a : Nat} (ha : Gm.has gs a) :
    Calls Tryd.prog 34 #[.pointer (some ⟨b, 0, none⟩), .int .i64 a] w fun e w' => e = .returned (.bool true) ∧ w = w' := by
  obtain ⟨sv, hblk, hrow⟩ := hg.ex
  obtain ⟨A, c, rfl⟩ := own_form hrow
  have hl := hg.len
  unfold Gm.has at ha
  have h := has_at (a : Int) (wf_small (by omega)) hl hblk
  rw [hasB_nat, decide_eq_true ha] at h
  exact h
theorem has_no {w : World} {base b : Nat} {mb : Option Nat} {gs : List Gm.Gate} (hg : GraphAt w base b mb gs) {a : Int} (hw : (Lit.int .i64 a).wf = true) (ha : hasB gs.length a = false) :
    Calls Tryd.prog 34 #[.pointer (some ⟨b, 0, none⟩), .int .i64 a] w fun e w' => e = .returned (.bool false) ∧ w = w' := by
  obtain ⟨sv, hblk, hrow⟩ := hg.ex
  obtain ⟨A, c, rfl⟩ := own_form hrow
  have h := has_at a hw hg.len hblk
  rw [ha] at h
  exact h

theorem post_same {w : World} {base b : Nat} {mb : Option Nat} {gs : List Gm.Gate} (hg : GraphAt w base b mb gs) {l : Nat} {i : Int} (hi : i = (l : Int)) : GPost w base b mb (gs, l) (.returned (.tuple #[.int .i64 i, .nilIface])) w := by
  subst hi
  exact ⟨rfl, mb, hg, Chg.refl _ _, .inl rfl⟩

/-- what And meets, of two literals lo ≤ hi -/
theorem andG_zero {gs : List Gm.Gate} {x y : Nat} (h : min x y = 0 ∨ (max x y = min x y + 1 ∧ min x y % 2 = 0)) : Gm.andG gs x y = (gs, 0) := by
  unfold Gm.andG; rw [if_pos h]
theorem andG_one {gs : List Gm.Gate} {x y : Nat} (h0 : ¬ (min x y = 0 ∨ (max x y = min x y + 1 ∧ min x y % 2 = 0))) (h : min x y = 1 ∨ min x y = max x y) : Gm.andG gs x y = (gs, max x y) := by
  unfold Gm.andG; rw [if_neg h0, if_pos h]
theorem andG_some {gs : List Gm.Gate} {x y k : Nat} (h0 : ¬ (min x y = 0 ∨ (max x y = min x y + 1 ∧ min x y % 2 = 0))) (h : ¬ (min x y = 1 ∨ min x y = max x y)) (hk : Gm.find (min x y) (max x y) gs = some k) : Gm.andG gs x y = (gs, 2 * k + 2) := by
  unfold Gm.andG; rw [if_neg h0, if_neg h, hk]
theorem andG_none {gs : List Gm.Gate} {x y : Nat} (h0 : ¬ (min x y = 0 ∨ (max x y = min x y + 1 ∧ min x y % 2 = 0))) (h : ¬ (min x y = 1 ∨ min x y = max x y)) (hk : Gm.find (min x y) (max x y) gs = none) : Gm.andG gs x y = (gs ++ [⟨min x y, max x y, false⟩], 2 * gs.length + 2) := by
  unfold Gm.andG; rw [if_neg h0, if_neg h, hk]
theorem notL_eq {x y : Nat} (h : x ≤ y) : x = Gm.notL y ↔ (y = x + 1 ∧ x % 2 = 0) := by
  unfold Gm.notL; split <;> omega

set_option maxHeartbeats 400000 in
theorem and_zero_a {w : World} {base b : Nat} {mb : Option Nat} {gs : List Gm.Gate} (hg : GraphAt w base b mb gs) {lo hi : Nat} (hlo : Gm.has gs lo) (hhi : Gm.has gs hi) (hlt : lo < hi) (h0 : lo = 0) :
    Calls Tryd.prog 56 #[.pointer (some ⟨b, 0, none⟩), .int .i64 lo, .int .i64 hi] w (GPost w base b mb (gs, 0)) := by
  have hl := hg.len
  have C1 := Lib.hid (has_yes hg hlo)
  have C2 := Lib.hid (has_yes hg hhi)
  have HG := Lib.hid hg
  have e0 : ((lo : Int) == 0) = true := by simp [h0]
  clear hg hlo hhi h0
  go_enter Tryd.func56, Tryd.ntmps56
  go_wp2_with fail
  refine C1.out.mono ?_
  rintro e w' ⟨rfl, rfl⟩
  go_wp2_with fail
  refine C2.out.mono ?_
  rintro e w' ⟨rfl, rfl⟩
  go_wp2
  go_ret2
  exact post_same HG.out rfl
set_option maxHeartbeats 400000 in
theorem and_turned_a {w : World} {base b : Nat} {mb : Option Nat} {gs : List Gm.Gate} (hg : GraphAt w base b mb gs) {lo hi : Nat} (hlo : Gm.has gs lo) (hhi : Gm.has gs hi) (hlt : lo < hi) (h0 : 0 < lo) (h1 : lo = Gm.notL hi) :
    Calls Tryd.prog 56 #[.pointer (some ⟨b, 0, none⟩), .int .i64 lo, .int .i64 hi] w (GPost w base b mb (gs, 0)) := by
  have hl := hg.len
  have C1 := Lib.hid (has_yes hg hlo)
  have C2 := Lib.hid (has_yes hg hhi)
  have HG := Lib.hid hg
  have e0 : ((lo : Int) == 0) = false := by simp; omega
  obtain ⟨nh, hnh⟩ : ∃ nh, nh = Gm.notL hi := ⟨_, rfl⟩
  have C3 := Lib.hid (not_any hi w (by unfold Gm.has at hhi; omega))
  rw [← hnh] at C3 h1
  have e1 : ((lo : Int) == (nh : Int)) = true := by simp [h1]
  clear hg hlo hhi h1 hnh hl
  go_enter Tryd.func56, Tryd.ntmps56
  go_wp2_with fail
  refine C1.out.mono ?_
  rintro e w' ⟨rfl, rfl⟩
  go_wp2_with fail
  refine C2.out.mono ?_
  rintro e w' ⟨rfl, rfl⟩
  go_wp2_with fail
  refine C3.out.mono ?_
  rintro e w' ⟨rfl, rfl⟩
  go_wp2
  go_ret2
  exact post_same HG.out rfl
set_option maxHeartbeats 400000 in
theorem and_one_a {w : World} {base b : Nat} {mb : Option Nat} {gs : List Gm.Gate} (hg : GraphAt w base b mb gs) {lo hi : Nat} (hlo : Gm.has gs lo) (hhi : Gm.has gs hi) (hlt : lo < hi) (h0 : lo = 1) (h1 : lo ≠ Gm.notL hi) :
    Calls Tryd.prog 56 #[.pointer (some ⟨b, 0, none⟩), .int .i64 lo, .int .i64 hi] w (GPost w base b mb (gs, hi)) := by
  have hl := hg.len
  have C1 := Lib.hid (has_yes hg hlo)
  have C2 := Lib.hid (has_yes hg hhi)
  have HG := Lib.hid hg
  have e0 : ((lo : Int) == 0) = false := by simp; omega
  have e2 : ((lo : Int) == 1) = true := by simp [h0]
  obtain ⟨nh, hnh⟩ : ∃ nh, nh = Gm.notL hi := ⟨_, rfl⟩
  have C3 := Lib.hid (not_any hi w (by unfold Gm.has at hhi; omega))
  rw [← hnh] at C3 h1
  have e1 : ((lo : Int) == (nh : Int)) = false := by simp; omega
  clear hg hlo hhi h1 hnh hl h0
  go_enter Tryd.func56, Tryd.ntmps56
  go_wp2_with fail
  refine C1.out.mono ?_
  rintro e w' ⟨rfl, rfl⟩
  go_wp2_with fail
  refine C2.out.mono ?_
  rintro e w' ⟨rfl, rfl⟩
  go_wp2_with fail
  refine C3.out.mono ?_
  rintro e w' ⟨rfl, rfl⟩
  go_wp2
  go_ret2
  exact post_same HG.out rfl
set_option maxHeartbeats 400000 in
theorem and_zero_b {w : World} {base b : Nat} {mb : Option Nat} {gs : List Gm.Gate} (hg : GraphAt w base b mb gs) {lo hi : Nat} (hlo : Gm.has gs lo) (hhi : Gm.has gs hi) (hlt : lo < hi) (h0 : lo = 0) :
    Calls Tryd.prog 56 #[.pointer (some ⟨b, 0, none⟩), .int .i64 hi, .int .i64 lo] w (GPost w base b mb (gs, 0)) := by
  have hl := hg.len
  have C1 := Lib.hid (has_yes hg hlo)
  have C2 := Lib.hid (has_yes hg hhi)
  have HG := Lib.hid hg
  have e0 : ((lo : Int) == 0) = true := by simp [h0]
  clear hg hlo hhi h0
  go_enter Tryd.func56, Tryd.ntmps56
  go_wp2_with fail
  refine C2.out.mono ?_
  rintro e w' ⟨rfl, rfl⟩
  go_wp2_with fail
  refine C1.out.mono ?_
  rintro e w' ⟨rfl, rfl⟩
  go_wp2
  go_ret2
  exact post_same HG.out rfl
set_option maxHeartbeats 400000 in
theorem and_turned_b {w : World} {base b : Nat} {mb : Option Nat} {gs : List Gm.Gate} (hg : GraphAt w base b mb gs) {lo hi : Nat} (hlo : Gm.has gs lo) (hhi : Gm.has gs hi) (hlt : lo < hi) (h0 : 0 < lo) (h1 : lo = Gm.notL hi) :
    Calls Tryd.prog 56 #[.pointer (some ⟨b, 0, none⟩), .int .i64 hi, .int .i64 lo] w (GPost w base b mb (gs, 0)) := by
  have hl := hg.len
  have C1 := Lib.hid (has_yes hg hlo)
  have C2 := Lib.hid (has_yes hg hhi)
  have HG := Lib.hid hg
  have e0 : ((lo : Int) == 0) = false := by simp; omega
  obtain ⟨nh, hnh⟩ : ∃ nh, nh = Gm.notL hi := ⟨_, rfl⟩
  have C3 := Lib.hid (not_any hi w (by unfold Gm.has at hhi; omega))
  rw [← hnh] at C3 h1
  have e1 : ((lo : Int) == (nh : Int)) = true := by simp [h1]
  clear hg hlo hhi h1 hnh hl
  go_enter Tryd.func56, Tryd.ntmps56
  go_wp2_with fail
  refine C2.out.mono ?_
  rintro e w' ⟨rfl, rfl⟩
  go_wp2_with fail
  refine C1.out.mono ?_
  rintro e w' ⟨rfl, rfl⟩
  go_wp2_with fail
  refine C3.out.mono ?_
  rintro e w' ⟨rfl, rfl⟩
  go_wp2
  go_ret2
  exact post_same HG.out rfl
set_option maxHeartbeats 400000 in
theorem and_one_b {w : World} {base b : Nat} {mb : Option Nat} {gs : List Gm.Gate} (hg : GraphAt w base b mb gs) {lo hi : Nat} (hlo : Gm.has gs lo) (hhi : Gm.has gs hi) (hlt : lo < hi) (h0 : lo = 1) (h1 : lo ≠ Gm.notL hi) :
    Calls Tryd.prog 56 #[.pointer (some ⟨b, 0, none⟩), .int .i64 hi, .int .i64 lo] w (GPost w base b mb (gs, hi)) := by
  have hl := hg.len
  have C1 := Lib.hid (has_yes hg hlo)
  have C2 := Lib.hid (has_yes hg hhi)
  have HG := Lib.hid hg
  have e0 : ((lo : Int) == 0) = false := by simp; omega
  have e2 : ((lo : Int) == 1) = true := by simp [h0]
  obtain ⟨nh, hnh⟩ : ∃ nh, nh = Gm.notL hi := ⟨_, rfl⟩
  have C3 := Lib.hid (not_any hi w (by unfold Gm.has at hhi; omega))
  rw [← hnh] at C3 h1
  have e1 : ((lo : Int) == (nh : Int)) = false := by simp; omega
  clear hg hlo hhi h1 hnh hl h0
  go_enter Tryd.func56, Tryd.ntmps56
  go_wp2_with fail
  refine C2.out.mono ?_
  rintro e w' ⟨rfl, rfl⟩
  go_wp2_with fail
  refine C1.out.mono ?_
  rintro e w' ⟨rfl, rfl⟩
  go_wp2_with fail
  refine C3.out.mono ?_
  rintro e w' ⟨rfl, rfl⟩
  go_wp2
  go_ret2
  exact post_same HG.out rfl
set_option maxHeartbeats 400000 in
theorem and_same0 {w : World} {base b : Nat} {mb : Option Nat} {gs : List Gm.Gate} (hg : GraphAt w base b mb gs) (h : Gm.has gs 0) :
    Calls Tryd.prog 56 #[.pointer (some ⟨b, 0, none⟩), .int .i64 ((0 : Nat) : Int), .int .i64 ((0 : Nat) : Int)] w (GPost w base b mb (gs, 0)) := by
  have C1 := Lib.hid (has_yes hg h)
  have HG := Lib.hid hg
  clear hg h
  go_enter Tryd.func56, Tryd.ntmps56
  go_wp2_with fail
  refine C1.out.mono ?_
  rintro e w' ⟨rfl, rfl⟩
  go_wp2_with fail
  refine C1.out.mono ?_
  rintro e w' ⟨rfl, rfl⟩
  go_wp2
  go_ret2
  exact post_same HG.out rfl
set_option maxHeartbeats 400000 in
theorem and_same {w : World} {base b : Nat} {mb : Option Nat} {gs : List Gm.Gate} (hg : GraphAt w base b mb gs) {x : Nat} (h : Gm.has gs x) (h0 : 0 < x) :
    Calls Tryd.prog 56 #[.pointer (some ⟨b, 0, none⟩), .int .i64 x, .int .i64 x] w (GPost w base b mb (gs, x)) := by
  have hl := hg.len
  have C1 := Lib.hid (has_yes hg h)
  have HG := Lib.hid hg
  have e0 : ((x : Int) == 0) = false := by simp; omega
  obtain ⟨nh, hnh⟩ : ∃ nh, nh = Gm.notL x := ⟨_, rfl⟩
  have C3 := Lib.hid (not_any x w (by unfold Gm.has at h; omega))
  have h1 : x ≠ nh := by rw [hnh]; unfold Gm.notL; split <;> omega
  rw [← hnh] at C3
  have e1 : ((x : Int) == (nh : Int)) = false := by simp; omega
  by_cases h2 : x = 1
  · have e2 : ((x : Int) == 1) = true := by simp [h2]
    clear hg h h1 hnh hl h2
    go_enter Tryd.func56, Tryd.ntmps56
    go_wp2_with fail
    refine C1.out.mono ?_
    rintro e w' ⟨rfl, rfl⟩
    go_wp2_with fail
    refine C1.out.mono ?_
    rintro e w' ⟨rfl, rfl⟩
    go_wp2_with fail
    refine C3.out.mono ?_
    rintro e w' ⟨rfl, rfl⟩
    go_wp2
    go_ret2
    exact post_same HG.out rfl
  · have e2 : ((x : Int) == 1) = false := by simp; omega
    clear hg h h1 hnh hl h2
    go_enter Tryd.func56, Tryd.ntmps56
    go_wp2_with fail
    refine C1.out.mono ?_
    rintro e w' ⟨rfl, rfl⟩
    go_wp2_with fail
    refine C1.out.mono ?_
    rintro e w' ⟨rfl, rfl⟩
    go_wp2_with fail
    refine C3.out.mono ?_
    rintro e w' ⟨rfl, rfl⟩
    go_wp2
    go_ret2
    exact post_same HG.out rfl
end Go.Proofs.YtmbjhpgemphmmaaDoor
namespace Go.Proofs.YtmbjhpgemphmmaaDoor
open Go.RowKit

theorem zero_of_find {w : World} {base b : Nat} {gs : List Gm.Gate} (hg : GraphAt w base b none gs) {lo hi k : Nat} (h : Gm.find lo hi gs = some k) : False := by
  have := hg.hm lo hi; rw [h] at this; cases this
set_option maxHeartbeats 400000 in
theorem and_found_a {w : World} {base b m : Nat} {gs : List Gm.Gate} (hg : GraphAt w base b (some m) gs) {lo hi k : Nat} (hlo : Gm.has gs lo) (hhi : Gm.has gs hi) (hlt : lo < hi) (h0 : 1 < lo) (h1 : lo ≠ Gm.notL hi) (hf : Gm.find lo hi gs = some k) :
    Calls Tryd.prog 56 #[.pointer (some ⟨b, 0, none⟩), .int .i64 lo, .int .i64 hi] w (GPost w base b (some m) (gs, 2 * k + 2)) := by
  have hl := hg.len
  have hbl : (lo : Int) ≤ 1000000 ∧ (hi : Int) ≤ 1000000 := by unfold Gm.has at hlo hhi; omega
  obtain ⟨nh, hnh⟩ : ∃ nh, nh = Gm.notL hi := ⟨_, rfl⟩
  have hkey := keyOf_two lo hi (wf_small (by omega)) (wf_small (by omega))
  have hkl := Gm.find_lt hf
  obtain ⟨sv, hblk, hrow⟩ := hg.ex
  have c2 : w.cell? ⟨b, 2, none⟩ = some (.map (some m)) := hblk.cell 2
  obtain ⟨_, D, hD, hh⟩ := hg.hm
  obtain ⟨hD1, hD2⟩ := (hh lo hi (by omega) (by omega)).2 k hf
  have HD := Lib.hid hD
  have H2 := Lib.hid hD2
  have hW : wrap64 (2 * ((k : Int) + 1)) = ((2 * k + 2 : Nat) : Int) := (wrap64_id (by omega) (by omega)).trans (by omega)
  have HW := Lib.hid hW
  have HG := Lib.hid hg
  have HK := Lib.hid hkey
  have C1 := Lib.hid (has_yes hg hlo)
  have C2 := Lib.hid (has_yes hg hhi)
  have C3 := Lib.hid (not_any hi w (by omega))
  rw [← hnh] at C3 h1
  have e0 : ((lo : Int) == 0) = false := by simp; omega
  have e1 : ((lo : Int) == (nh : Int)) = false := by simp; omega
  have e2 : ((lo : Int) == 1) = false := by simp; omega
  have e3 : ((lo : Int) == (hi : Int)) = false := by simp; omega
  clear hg hlo hhi h1 hnh hl h0 hkey hbl hblk hrow hD hh hD2 hf hkl hW
  go_enter Tryd.func56, Tryd.ntmps56
  go_wp2_with fail
  refine C1.out.mono ?_
  rintro e w' ⟨rfl, rfl⟩
  go_wp2_with fail
  refine C2.out.mono ?_
  rintro e w' ⟨rfl, rfl⟩
  go_wp2_with fail
  refine C3.out.mono ?_
  rintro e w' ⟨rfl, rfl⟩
  go_wp2_with (at_lookup; refine wpList_lookup_own_ok_int _ rfl _ _ 25 rfl 164 3 .i64 lawKey Tryd.underlying25 Tryd.underlying3 (zeroInt _) m _ D rfl HD.out _ _ rfl HK.out ?_; intro c hat hwc)
  go_ret2
  have hc : c = (k : Int) + 1 := by
    have h := H2.out.symm.trans hat
    simp only [DataW.lit.injEq, Lit.int.injEq, true_and] at h
    exact h.symm
  refine post_same HG.out ?_
  rw [hc]; exact HW.out
set_option maxHeartbeats 400000 in
theorem and_found_b {w : World} {base b m : Nat} {gs : List Gm.Gate} (hg : GraphAt w base b (some m) gs) {lo hi k : Nat} (hlo : Gm.has gs lo) (hhi : Gm.has gs hi) (hlt : lo < hi) (h0 : 1 < lo) (h1 : lo ≠ Gm.notL hi) (hf : Gm.find lo hi gs = some k) :
    Calls Tryd.prog 56 #[.pointer (some ⟨b, 0, none⟩), .int .i64 hi, .int .i64 lo] w (GPost w base b (some m) (gs, 2 * k + 2)) := by
  have hl := hg.len
  have hbl : (lo : Int) ≤ 1000000 ∧ (hi : Int) ≤ 1000000 := by unfold Gm.has at hlo hhi; omega
  obtain ⟨nh, hnh⟩ : ∃ nh, nh = Gm.notL hi := ⟨_, rfl⟩
  have hkey := keyOf_two lo hi (wf_small (by omega)) (wf_small (by omega))
  have hkl := Gm.find_lt hf
  obtain ⟨sv, hblk, hrow⟩ := hg.ex
  have c2 : w.cell? ⟨b, 2, none⟩ = some (.map (some m)) := hblk.cell 2
  obtain ⟨_, D, hD, hh⟩ := hg.hm
  obtain ⟨hD1, hD2⟩ := (hh lo hi (by omega) (by omega)).2 k hf
  have HD := Lib.hid hD
  have H2 := Lib.hid hD2
  have hW : wrap64 (2 * ((k : Int) + 1)) = ((2 * k + 2 : Nat) : Int) := (wrap64_id (by omega) (by omega)).trans (by omega)
  have HW := Lib.hid hW
  have HG := Lib.hid hg
  have HK := Lib.hid hkey
  have C1 := Lib.hid (has_yes hg hlo)
  have C2 := Lib.hid (has_yes hg hhi)
  have C3 := Lib.hid (not_any hi w (by omega))
  rw [← hnh] at C3 h1
  have e0 : ((lo : Int) == 0) = false := by simp; omega
  have e1 : ((lo : Int) == (nh : Int)) = false := by simp; omega
  have e2 : ((lo : Int) == 1) = false := by simp; omega
  have e3 : ((lo : Int) == (hi : Int)) = false := by simp; omega
  clear hg hlo hhi h1 hnh hl h0 hkey hbl hblk hrow hD hh hD2 hf hkl hW
  go_enter Tryd.func56, Tryd.ntmps56
  go_wp2_with fail
  refine C2.out.mono ?_
  rintro e w' ⟨rfl, rfl⟩
  go_wp2_with fail
  refine C1.out.mono ?_
  rintro e w' ⟨rfl, rfl⟩
  go_wp2_with fail
  refine C3.out.mono ?_
  rintro e w' ⟨rfl, rfl⟩
  go_wp2_with (at_lookup; refine wpList_lookup_own_ok_int _ rfl _ _ 25 rfl 164 3 .i64 lawKey Tryd.underlying25 Tryd.underlying3 (zeroInt _) m _ D rfl HD.out _ _ rfl HK.out ?_; intro c hat hwc)
  go_ret2
  have hc : c = (k : Int) + 1 := by
    have h := H2.out.symm.trans hat
    simp only [DataW.lit.injEq, Lit.int.injEq, true_and] at h
    exact h.symm
  refine post_same HG.out ?_
  rw [hc]; exact HW.out

/-- a map's datum tells which gates there are -/
def Tells (D : DataW Unit) (gs : List Gm.Gate) : Prop := ∀ a b : Nat, a ≤ 1000000 → b ≤ 1000000 →
  (Gm.find a b gs = none → Maps.has D (kl a b) = false) ∧ (∀ k, Gm.find a b gs = some k → Maps.has D (kl a b) = true ∧ D.atKey (kl a b) (.lit (.int .i64 0)) = .lit (.int .i64 ((k : Int) + 1)))
theorem Tells.none {gs : List Gm.Gate} (h : ∀ a b, Gm.find a b gs = none) : Tells (.map []) gs := fun a b _ _ => ⟨fun _ => rfl, fun k hk => by rw [h] at hk; cases hk⟩
theorem isKey_kl {a b : Nat} (ha : a ≤ 1000000) (hb : b ≤ 1000000) : WideAt.IsKeyLit (kl a b) := lawKey.key (keyOf_two a b (wf_small ha) (wf_small hb))
theorem Tells.put {D : DataW Unit} {gs : List Gm.Gate} (h : Tells D gs) (hD : Maps.IsMap D) {lo hi : Nat} (hlo : lo ≤ 1000000) (hhi : hi ≤ 1000000) (hf : Gm.find lo hi gs = .none) :
    Tells (D.put (kl lo hi) (.lit (.int .i64 ((gs.length : Int) + 1)))) (gs ++ [⟨lo, hi, false⟩]) := by
  intro a b ha hb
  have hk := isKey_kl hlo hhi
  by_cases hab : a = lo ∧ b = hi
  · obtain ⟨rfl, rfl⟩ := hab
    have hfn : Gm.find a b (gs ++ [⟨a, b, false⟩]) = some gs.length := by rw [Gm.find_append, hf]; simp [Gm.find]
    rw [hfn]
    refine ⟨(fun h => by cases h), fun k hk' => ?_⟩
    simp only [Option.some.injEq] at hk'
    subst hk'
    exact ⟨Maps.has_put_same hD hk _, Maps.atKey_put_same hD hk _ _⟩
  · have hne : kl a b ≠ kl lo hi := fun e => hab (by
      have := kl_inj (wf_small ha) (wf_small hb) (wf_small hlo) (wf_small hhi) e
      omega)
    have hfn : Gm.find a b (gs ++ [⟨lo, hi, false⟩]) = Gm.find a b gs := by
      rw [Gm.find_append]
      cases Gm.find a b gs with
      | some k => rfl
      | none =>
        have : ¬ (lo = a ∧ hi = b) := fun e => hab ⟨e.1.symm, e.2.symm⟩
        simp [Gm.find, this]
    rw [hfn, Maps.has_put_other hne, Maps.atKey_put_other hne]
    exact h a b ha hb

theorem new_end {w w3 : World} {base b m : Nat} {mb : Option Nat} {gs : List Gm.Gate} {sv1 : Value} {D : DataW Unit} {n : Nat} {lo hi : Nat} (hg : GraphAt w base b mb gs) (hn : gs.length < 99999)
    (hlo : Gm.has gs lo) (hhi : Gm.has gs hi) (hlt : lo < hi) (h0 : 1 < lo) (h1 : lo ≠ Gm.notL hi) (hf : Gm.find lo hi gs = none)
    (hB : Blk w3 b 27 #[sv1, .int .i64 (Gm.ins gs : Int), .map (some m)]) (hR : w3.ownsRow base 89 3 sv1 (gs.length + 1) (gateCells 0 gs ++ [.int .i64 lo, .int .i64 hi, .int .i64 0]))
    (hM : w3.ownsMap Tryd.prog 164 (plainElem Tryd.prog 3) m n (D.put (kl lo hi) (.lit (.int .i64 ((gs.length : Int) + 1))))) (hnn : n ≤ gs.length + 1) (hT : Tells D gs) (hD : Maps.IsMap D) (hbm : base ≤ m)
    (hC : Chg (GS base b mb) w w3) (hmb : some m = mb ∨ ∃ m', some m = some m' ∧ w.heap.size ≤ m') :
    GPost w base b mb (gs ++ [⟨lo, hi, false⟩], 2 * gs.length + 2) (.returned (.tuple #[.int .i64 (2 * (gs.length + 1 : Nat)), .nilIface])) w3 := by
  have hl := hg.len
  have he : Gm.andG gs lo hi = (gs ++ [⟨lo, hi, false⟩], 2 * gs.length + 2) := by
    have e1 : min lo hi = lo := Nat.min_eq_left (by omega)
    have e2 : max lo hi = hi := Nat.max_eq_right (by omega)
    have h2 : ¬ (hi = lo + 1 ∧ lo % 2 = 0) := fun e => h1 ((notL_eq (Nat.le_of_lt hlt)).2 e)
    rw [andG_none (by rw [e1, e2]; omega) (by rw [e1, e2]; omega) (by rw [e1, e2]; exact hf), e1, e2]
  have hwf := Gm.andG_wf hg.wf hlo hhi
  have hins := Gm.ins_and gs lo hi
  rw [he] at hwf hins
  unfold Gm.has at hlo hhi
  refine ⟨by simp; omega, some m, ⟨hwf, by simp; omega, hg.hb, ⟨sv1, ?_, ?_⟩, hbm, _, hM.mono (by simpa using hnn), ?_⟩, hC, hmb⟩
  · rw [hins]; exact hB
  · simpa [gateCells_append, gateCells] using hR
  · exact hT.put hD (by omega) (by omega) hf

theorem run_eql_map (w : World) (m : Nat) : (binOp .eql 25 (.map (some m)) (.map none)).run Tryd.prog w = .ok (.bool false) w := by
  simpa using run_eql_map_nil (P := Tryd.prog) w _ _ _ (some m) Tryd.underlying25
theorem run_eql_map_none (w : World) : (binOp .eql 25 (.map none) (.map none)).run Tryd.prog w = .ok (.bool true) w := by
  simpa using run_eql_map_nil (P := Tryd.prog) w _ _ _ none Tryd.underlying25

theorem none_row {w1 w2 : World} {base b n : Nat} {sv1 y z u : Value} {v : Obj} {xs : List Value} (h1 : Blk w1 b 27 #[sv1, y, z]) (h2 : w1.ownsRow base 89 3 sv1 n xs)
    (hg : ((w1.setCell ⟨b, 2, none⟩ u).alloc v).grownBy w2 (some w1.heap.size)) : w2.ownsRow base 89 3 sv1 n xs := by
  have hne := own_blk_ne h2 h1 (by decide)
  have h3 : (w1.setCell ⟨b, 2, none⟩ u).ownsRow base 89 3 sv1 n xs :=
    h2.kept (row := some b) ⟨rfl, rfl, rfl, by simp [World.setCell], fun k hk hn => Below.heap_setCell _ _ _ _ (fun e => hn (by rw [e]))⟩ (.inr hne)
  refine (h3.alloc v).kept hg (.inr fun e => ?_)
  have := (h2.lt _ e).2
  omega
set_option maxHeartbeats 400000 in
theorem and_some_a {w : World} {base b m : Nat} {gs : List Gm.Gate} (hg : GraphAt w base b (some m) gs) (hn : gs.length < 99999) {lo hi : Nat} (hlo : Gm.has gs lo) (hhi : Gm.has gs hi) (hlt : lo < hi) (h0 : 1 < lo) (h1 : lo ≠ Gm.notL hi) (hf : Gm.find lo hi gs = none) :
    Calls Tryd.prog 56 #[.pointer (some ⟨b, 0, none⟩), .int .i64 lo, .int .i64 hi] w (GPost w base b (some m) (gs ++ [⟨lo, hi, false⟩], 2 * gs.length + 2)) := by
  have hl := hg.len
  have hbl : (lo : Int) ≤ 1000000 ∧ (hi : Int) ≤ 1000000 := by unfold Gm.has at hlo hhi; omega
  obtain ⟨nh, hnh⟩ : ∃ nh, nh = Gm.notL hi := ⟨_, rfl⟩
  have hkey := keyOf_two lo hi (wf_small (by omega)) (wf_small (by omega))
  obtain ⟨sv, hblk, hrow⟩ := hg.ex
  have c2 : w.cell? ⟨b, 2, none⟩ = some (.map (some m)) := hblk.cell 2
  obtain ⟨hbm, D, hD, hh⟩ := hg.hm
  have hD1 := (hh lo hi (by omega) (by omega)).1 hf
  have HH := Lib.hid (show Tells D gs from hh)
  have HD := Lib.hid hD
  have HB := Lib.hid hblk
  have HR := Lib.hid hrow
  have HN := Lib.hid hn
  have HE := Lib.hid (fun w3 sv1 n (a1 : Blk w3 b 27 #[sv1, .int .i64 (Gm.ins gs : Int), .map (some m)]) a2 a3 a4 a5 => new_end (w3 := w3) (sv1 := sv1) (n := n) hg hn hlo hhi hlt h0 h1 hf a1 a2 (D := D) a3 a4 hh hD.isMap hbm a5 (.inl rfl))
  have em := run_eql_map
  have HX := Lib.hid (wrap64_id (x := (gs.length : Int) + 1) (by omega) (by omega))
  have HG := Lib.hid hg
  have HK := Lib.hid hkey
  have C1 := Lib.hid (has_yes hg hlo)
  have C2 := Lib.hid (has_yes hg hhi)
  have C3 := Lib.hid (not_any hi w (by omega))
  rw [← hnh] at C3 h1
  have e0 : ((lo : Int) == 0) = false := by simp; omega
  have e1 : ((lo : Int) == (nh : Int)) = false := by simp; omega
  have e2 : ((lo : Int) == 1) = false := by simp; omega
  have e3 : ((lo : Int) == (hi : Int)) = false := by simp; omega
  clear hg hlo hhi h1 hnh hl h0 hkey hbl hblk hrow hD hh hf hn
  go_enter Tryd.func56, Tryd.ntmps56
  go_wp2_with fail
  refine C1.out.mono ?_
  rintro e w' ⟨rfl, rfl⟩
  go_wp2_with fail
  refine C2.out.mono ?_
  rintro e w' ⟨rfl, rfl⟩
  go_wp2_with fail
  refine C3.out.mono ?_
  rintro e w' ⟨rfl, rfl⟩
  go_wp2_with (first | (at_lookup; refine wpList_lookup_own_ok_int _ rfl _ _ 25 rfl 164 3 .i64 lawKey Tryd.underlying25 Tryd.underlying3 (zeroInt _) m _ D rfl HD.out _ _ rfl HK.out ?_; intro c hat hwc) | fail)
  refine (add_room lo hi 0 HG.out.hb HB.out HR.out HN.out).mono ?_
  rintro e w1 ⟨rfl, sv1, h1, h2, h3⟩
  have k2 : w1.cell? ⟨b, 2, none⟩ = some (.map (some m)) := h1.cell 2
  have H1 := Lib.hid h1
  have H2 := Lib.hid h2
  have H3 := Lib.hid h3
  have hD' := ownsMap_chg HD.out h3 (fun es c hs => by
    rcases hs with hs | hs | hs
    · exact map_ne_blk HD.out HB.out hs
    · cases hs
    · cases hs.2)
  have HD1 := Lib.hid hD'
  clear h1 h2 h3 hD'
  have Hm : Hid (gs.length < maxLen) := Nat.lt_trans HN.out (by unfold maxLen; omega)
  go_wp2_with (at_mapUpdate; refine wpList_mapUpdate_own _ rfl _ _ _ 25 rfl 164 3 lawKey Tryd.underlying25 _ m _ D rfl HD1.out Hm.out _ _ _ rfl rfl HK.out _ [] (plainElem_int Tryd.underlying3 (wrap64_wf _)) ?_; intro w2 hown2 hgrow2)
  go_ret2
  rw [HX.out] at hown2
  have hne := map_ne_blk HD1.out H1.out
  refine HE.out w2 sv1 _ (H1.out.grown hgrow2 (fun e => hne (Option.some.inj e).symm)) (H2.out.kept hgrow2 (.inr (map_ne_own HD1.out H2.out))) hown2 (Nat.le_refl _) ?_
  refine Chg.grown (H3.out.mono fun k o _ hs => ?_) hgrow2 (fun k o hk _ => .inr (.inl hk.symm))
  rcases hs with hs | hs | hs
  · exact .inl hs
  · cases hs
  · exact .inr (.inr hs)
set_option maxHeartbeats 400000 in
theorem and_some_b {w : World} {base b m : Nat} {gs : List Gm.Gate} (hg : GraphAt w base b (some m) gs) (hn : gs.length < 99999) {lo hi : Nat} (hlo : Gm.has gs lo) (hhi : Gm.has gs hi) (hlt : lo < hi) (h0 : 1 < lo) (h1 : lo ≠ Gm.notL hi) (hf : Gm.find lo hi gs = none) :
    Calls Tryd.prog 56 #[.pointer (some ⟨b, 0, none⟩), .int .i64 hi, .int .i64 lo] w (GPost w base b (some m) (gs ++ [⟨lo, hi, false⟩], 2 * gs.length + 2)) := by
  have hl := hg.len
  have hbl : (lo : Int) ≤ 1000000 ∧ (hi : Int) ≤ 1000000 := by unfold Gm.has at hlo hhi; omega
  obtain ⟨nh, hnh⟩ : ∃ nh, nh = Gm.notL hi := ⟨_, rfl⟩
  have hkey := keyOf_two lo hi (wf_small (by omega)) (wf_small (by omega))
  obtain ⟨sv, hblk, hrow⟩ := hg.ex
  have c2 : w.cell? ⟨b, 2, none⟩ = some (.map (some m)) := hblk.cell 2
  obtain ⟨hbm, D, hD, hh⟩ := hg.hm
  have hD1 := (hh lo hi (by omega) (by omega)).1 hf
  have HH := Lib.hid (show Tells D gs from hh)
  have HD := Lib.hid hD
  have HB := Lib.hid hblk
  have HR := Lib.hid hrow
  have HN := Lib.hid hn
  have HE := Lib.hid (fun w3 sv1 n (a1 : Blk w3 b 27 #[sv1, .int .i64 (Gm.ins gs : Int), .map (some m)]) a2 a3 a4 a5 => new_end (w3 := w3) (sv1 := sv1) (n := n) hg hn hlo hhi hlt h0 h1 hf a1 a2 (D := D) a3 a4 hh hD.isMap hbm a5 (.inl rfl))
  have em := run_eql_map
  have HX := Lib.hid (wrap64_id (x := (gs.length : Int) + 1) (by omega) (by omega))
  have HG := Lib.hid hg
  have HK := Lib.hid hkey
  have C1 := Lib.hid (has_yes hg hlo)
  have C2 := Lib.hid (has_yes hg hhi)
  have C3 := Lib.hid (not_any hi w (by omega))
  rw [← hnh] at C3 h1
  have e0 : ((lo : Int) == 0) = false := by simp; omega
  have e1 : ((lo : Int) == (nh : Int)) = false := by simp; omega
  have e2 : ((lo : Int) == 1) = false := by simp; omega
  have e3 : ((lo : Int) == (hi : Int)) = false := by simp; omega
  clear hg hlo hhi h1 hnh hl h0 hkey hbl hblk hrow hD hh hf hn
  go_enter Tryd.func56, Tryd.ntmps56
  go_wp2_with fail
  refine C2.out.mono ?_
  rintro e w' ⟨rfl, rfl⟩
  go_wp2_with fail
  refine C1.out.mono ?_
  rintro e w' ⟨rfl, rfl⟩
  go_wp2_with fail
  refine C3.out.mono ?_
  rintro e w' ⟨rfl, rfl⟩
  go_wp2_with (first | (at_lookup; refine wpList_lookup_own_ok_int _ rfl _ _ 25 rfl 164 3 .i64 lawKey Tryd.underlying25 Tryd.underlying3 (zeroInt _) m _ D rfl HD.out _ _ rfl HK.out ?_; intro c hat hwc) | fail)
  refine (add_room lo hi 0 HG.out.hb HB.out HR.out HN.out).mono ?_
  rintro e w1 ⟨rfl, sv1, h1, h2, h3⟩
  have k2 : w1.cell? ⟨b, 2, none⟩ = some (.map (some m)) := h1.cell 2
  have H1 := Lib.hid h1
  have H2 := Lib.hid h2
  have H3 := Lib.hid h3
  have hD' := ownsMap_chg HD.out h3 (fun es c hs => by
    rcases hs with hs | hs | hs
    · exact map_ne_blk HD.out HB.out hs
    · cases hs
    · cases hs.2)
  have HD1 := Lib.hid hD'
  clear h1 h2 h3 hD'
  have Hm : Hid (gs.length < maxLen) := Nat.lt_trans HN.out (by unfold maxLen; omega)
  go_wp2_with (at_mapUpdate; refine wpList_mapUpdate_own _ rfl _ _ _ 25 rfl 164 3 lawKey Tryd.underlying25 _ m _ D rfl HD1.out Hm.out _ _ _ rfl rfl HK.out _ [] (plainElem_int Tryd.underlying3 (wrap64_wf _)) ?_; intro w2 hown2 hgrow2)
  go_ret2
  rw [HX.out] at hown2
  have hne := map_ne_blk HD1.out H1.out
  refine HE.out w2 sv1 _ (H1.out.grown hgrow2 (fun e => hne (Option.some.inj e).symm)) (H2.out.kept hgrow2 (.inr (map_ne_own HD1.out H2.out))) hown2 (Nat.le_refl _) ?_
  refine Chg.grown (H3.out.mono fun k o _ hs => ?_) hgrow2 (fun k o hk _ => .inr (.inl hk.symm))
  rcases hs with hs | hs | hs
  · exact .inl hs
  · cases hs
  · exact .inr (.inr hs)
set_option maxHeartbeats 400000 in
theorem and_none_a {w : World} {base b : Nat} {gs : List Gm.Gate} (hg : GraphAt w base b none gs) (hbase : base ≤ w.heap.size) (hn : gs.length < 99999) {lo hi : Nat} (hlo : Gm.has gs lo) (hhi : Gm.has gs hi) (hlt : lo < hi) (h0 : 1 < lo) (h1 : lo ≠ Gm.notL hi) :
    Calls Tryd.prog 56 #[.pointer (some ⟨b, 0, none⟩), .int .i64 lo, .int .i64 hi] w (GPost w base b none (gs ++ [⟨lo, hi, false⟩], 2 * gs.length + 2)) := by
  have hl := hg.len
  have hbl : (lo : Int) ≤ 1000000 ∧ (hi : Int) ≤ 1000000 := by unfold Gm.has at hlo hhi; omega
  obtain ⟨nh, hnh⟩ : ∃ nh, nh = Gm.notL hi := ⟨_, rfl⟩
  have hkey := keyOf_two lo hi (wf_small (by omega)) (wf_small (by omega))
  obtain ⟨sv, hblk, hrow⟩ := hg.ex
  have c2 : w.cell? ⟨b, 2, none⟩ = some (.map none) := hblk.cell 2
  have hf := hg.hm lo hi
  have HT := Lib.hid (Tells.none hg.hm)
  have HB := Lib.hid hblk
  have HR := Lib.hid hrow
  have HN := Lib.hid hn
  have HBS := Lib.hid hbase
  have HE := Lib.hid (fun w3 m sv1 n (a1 : Blk w3 b 27 #[sv1, .int .i64 (Gm.ins gs : Int), .map (some m)]) a2 a3 a4 a5 a6 a7 => new_end (w3 := w3) (m := m) (sv1 := sv1) (n := n) hg hn hlo hhi hlt h0 h1 hf a1 a2 (D := .map []) a3 a4 (Tells.none hg.hm) Maps.isMap_empty a7 a5 a6)
  have em := run_eql_map_none
  have hmm := @run_makeMap Tryd.prog
  have look := fun W : World => Maps.look_nil (w := W) true lawKey Tryd.underlying25 (zeroInt W) hkey
  simp only [if_true] at look
  have HX := Lib.hid (wrap64_id (x := (gs.length : Int) + 1) (by omega) (by omega))
  have HG := Lib.hid hg
  have HK := Lib.hid hkey
  have C1 := Lib.hid (has_yes hg hlo)
  have C2 := Lib.hid (has_yes hg hhi)
  have C3 := Lib.hid (not_any hi w (by omega))
  rw [← hnh] at C3 h1
  have e0 : ((lo : Int) == 0) = false := by simp; omega
  have e1 : ((lo : Int) == (nh : Int)) = false := by simp; omega
  have e2 : ((lo : Int) == 1) = false := by simp; omega
  have e3 : ((lo : Int) == (hi : Int)) = false := by simp; omega
  clear hg hlo hhi h1 hnh hl h0 hkey hbl hblk hrow hf hn hbase
  go_enter Tryd.func56, Tryd.ntmps56
  go_wp2_with fail
  refine C1.out.mono ?_
  rintro e w' ⟨rfl, rfl⟩
  go_wp2_with fail
  refine C2.out.mono ?_
  rintro e w' ⟨rfl, rfl⟩
  go_wp2_with fail
  refine C3.out.mono ?_
  rintro e w' ⟨rfl, rfl⟩
  go_wp2_with fail
  refine (add_room lo hi 0 HG.out.hb HB.out HR.out HN.out).mono ?_
  rintro e w1 ⟨rfl, sv1, h1, h2, h3⟩
  have k2 : w1.cell? ⟨b, 2, none⟩ = some (.map none) := h1.cell 2
  have k3 : w1.frozen? ⟨b, 2, none⟩ = false := h1.frozen 2
  have hbl := h1.lt
  have H1 := Lib.hid h1
  have H2 := Lib.hid h2
  have H3 := Lib.hid h3
  clear h1 h2 h3
  have HD1 := Lib.hid (show ((w1.setCell ⟨b, 2, none⟩ (.map (some w1.heap.size))).alloc (.map #[] 0)).ownsMap Tryd.prog 164 (plainElem (H := Unit) Tryd.prog 3) w1.heap.size 0 (.map []) by
    have h := World.ownsMap_made (w1.setCell ⟨b, 2, none⟩ (.map (some w1.heap.size))) Tryd.prog 164 (plainElem (H := Unit) Tryd.prog 3)
    rwa [show (w1.setCell ⟨b, 2, none⟩ (.map (some w1.heap.size))).heap.size = w1.heap.size from by simp [World.setCell]] at h)
  have Hm : Hid (0 < maxLen) := by unfold maxLen; exact Nat.zero_lt_succ _
  go_wp2_with (at_mapUpdate; refine wpList_mapUpdate_own _ rfl _ _ _ 25 rfl 164 3 lawKey Tryd.underlying25 _ w1.heap.size _ (.map []) rfl HD1.out Hm.out _ _ _ rfl rfl HK.out _ [] (plainElem_int Tryd.underlying3 (wrap64_wf _)) ?_; intro w2 hown2 hgrow2)
  go_ret2
  rw [HX.out] at hown2
  have hsz := H3.out.size
  have hbs := HBS.out
  refine HE.out w2 w1.heap.size sv1 _ (((H1.out.set_ 2 (.map (some w1.heap.size))).alloc (.map #[] 0)).grown hgrow2 (fun e => Nat.ne_of_lt hbl (Option.some.inj e))) (none_row H1.out H2.out hgrow2) hown2 (Nat.le_add_left _ _) ?_ (.inr ⟨_, rfl, hsz⟩) (Nat.le_trans hbs hsz)
  refine Chg.grown ((H3.out.setCell (.inr fun o => .inl rfl) _).alloc (.map #[] 0)) hgrow2 (fun k o hk ho => ?_)
  have := lt_of_heap ho
  have := Option.some.inj hk
  omega
set_option maxHeartbeats 400000 in
theorem and_none_b {w : World} {base b : Nat} {gs : List Gm.Gate} (hg : GraphAt w base b none gs) (hbase : base ≤ w.heap.size) (hn : gs.length < 99999) {lo hi : Nat} (hlo : Gm.has gs lo) (hhi : Gm.has gs hi) (hlt : lo < hi) (h0 : 1 < lo) (h1 : lo ≠ Gm.notL hi) :
    Calls Tryd.prog 56 #[.pointer (some ⟨b, 0, none⟩), .int .i64 hi, .int .i64 lo] w (GPost w base b none (gs ++ [⟨lo, hi, false⟩], 2 * gs.length + 2)) := by
  have hl := hg.len
  have hbl : (lo : Int) ≤ 1000000 ∧ (hi : Int) ≤ 1000000 := by unfold Gm.has at hlo hhi; omega
  obtain ⟨nh, hnh⟩ : ∃ nh, nh = Gm.notL hi := ⟨_, rfl⟩
  have hkey := keyOf_two lo hi (wf_small (by omega)) (wf_small (by omega))
  obtain ⟨sv, hblk, hrow⟩ := hg.ex
  have c2 : w.cell? ⟨b, 2, none⟩ = some (.map none) := hblk.cell 2
  have hf := hg.hm lo hi
  have HT := Lib.hid (Tells.none hg.hm)
  have HB := Lib.hid hblk
  have HR := Lib.hid hrow
  have HN := Lib.hid hn
  have HBS := Lib.hid hbase
  have HE := Lib.hid (fun w3 m sv1 n (a1 : Blk w3 b 27 #[sv1, .int .i64 (Gm.ins gs : Int), .map (some m)]) a2 a3 a4 a5 a6 a7 => new_end (w3 := w3) (m := m) (sv1 := sv1) (n := n) hg hn hlo hhi hlt h0 h1 hf a1 a2 (D := .map []) a3 a4 (Tells.none hg.hm) Maps.isMap_empty a7 a5 a6)
  have em := run_eql_map_none
  have hmm := @run_makeMap Tryd.prog
  have look := fun W : World => Maps.look_nil (w := W) true lawKey Tryd.underlying25 (zeroInt W) hkey
  simp only [if_true] at look
  have HX := Lib.hid (wrap64_id (x := (gs.length : Int) + 1) (by omega) (by omega))
  have HG := Lib.hid hg
  have HK := Lib.hid hkey
  have C1 := Lib.hid (has_yes hg hlo)
  have C2 := Lib.hid (has_yes hg hhi)
  have C3 := Lib.hid (not_any hi w (by omega))
  rw [← hnh] at C3 h1
  have e0 : ((lo : Int) == 0) = false := by simp; omega
  have e1 : ((lo : Int) == (nh : Int)) = false := by simp; omega
  have e2 : ((lo : Int) == 1) = false := by simp; omega
  have e3 : ((lo : Int) == (hi : Int)) = false := by simp; omega
  clear hg hlo hhi h1 hnh hl h0 hkey hbl hblk hrow hf hn hbase
  go_enter Tryd.func56, Tryd.ntmps56
  go_wp2_with fail
  refine C2.out.mono ?_
  rintro e w' ⟨rfl, rfl⟩
  go_wp2_with fail
  refine C1.out.mono ?_
  rintro e w' ⟨rfl, rfl⟩
  go_wp2_with fail
  refine C3.out.mono ?_
  rintro e w' ⟨rfl, rfl⟩
  go_wp2_with fail
  refine (add_room lo hi 0 HG.out.hb HB.out HR.out HN.out).mono ?_
  rintro e w1 ⟨rfl, sv1, h1, h2, h3⟩
  have k2 : w1.cell? ⟨b, 2, none⟩ = some (.map none) := h1.cell 2
  have k3 : w1.frozen? ⟨b, 2, none⟩ = false := h1.frozen 2
  have hbl := h1.lt
  have H1 := Lib.hid h1
  have H2 := Lib.hid h2
  have H3 := Lib.hid h3
  clear h1 h2 h3
  have HD1 := Lib.hid (show ((w1.setCell ⟨b, 2, none⟩ (.map (some w1.heap.size))).alloc (.map #[] 0)).ownsMap Tryd.prog 164 (plainElem (H := Unit) Tryd.prog 3) w1.heap.size 0 (.map []) by
    have h := World.ownsMap_made (w1.setCell ⟨b, 2, none⟩ (.map (some w1.heap.size))) Tryd.prog 164 (plainElem (H := Unit) Tryd.prog 3)
    rwa [show (w1.setCell ⟨b, 2, none⟩ (.map (some w1.heap.size))).heap.size = w1.heap.size from by simp [World.setCell]] at h)
  have Hm : Hid (0 < maxLen) := by unfold maxLen; exact Nat.zero_lt_succ _
  go_wp2_with (at_mapUpdate; refine wpList_mapUpdate_own _ rfl _ _ _ 25 rfl 164 3 lawKey Tryd.underlying25 _ w1.heap.size _ (.map []) rfl HD1.out Hm.out _ _ _ rfl rfl HK.out _ [] (plainElem_int Tryd.underlying3 (wrap64_wf _)) ?_; intro w2 hown2 hgrow2)
  go_ret2
  rw [HX.out] at hown2
  have hsz := H3.out.size
  have hbs := HBS.out
  refine HE.out w2 w1.heap.size sv1 _ (((H1.out.set_ 2 (.map (some w1.heap.size))).alloc (.map #[] 0)).grown hgrow2 (fun e => Nat.ne_of_lt hbl (Option.some.inj e))) (none_row H1.out H2.out hgrow2) hown2 (Nat.le_add_left _ _) ?_ (.inr ⟨_, rfl, hsz⟩) (Nat.le_trans hbs hsz)
  refine Chg.grown ((H3.out.setCell (.inr fun o => .inl rfl) _).alloc (.map #[] 0)) hgrow2 (fun k o hk ho => ?_)
  have := lt_of_heap ho
  have := Option.some.inj hk
  omega
end Go.Proofs.YtmbjhpgemphmmaaDoor
namespace Go.Proofs.YtmbjhpgemphmmaaDoor
open Go.RowKit

theorem GraphAt.low {w : World} {base b : Nat} {mb : Option Nat} {gs : List Gm.Gate} (hg : GraphAt w base b mb gs) : base ≤ w.heap.size := by
  obtain ⟨sv, h, _⟩ := hg.ex
  have := h.lt
  have := hg.hb
  omega

theorem and_any {w : World} {base b : Nat} {mb : Option Nat} {gs : List Gm.Gate} (hg : GraphAt w base b mb gs) (hn : gs.length < 99999) {x y : Nat} (hx : Gm.has gs x) (hy : Gm.has gs y) :
    Calls Tryd.prog 56 #[.pointer (some ⟨b, 0, none⟩), .int .i64 x, .int .i64 y] w (GPost w base b mb (Gm.andG gs x y)) := by
  have key : ∀ lo hi : Nat, Gm.has gs lo → Gm.has gs hi → lo < hi → ((x = lo ∧ y = hi) ∨ (x = hi ∧ y = lo)) →
      Calls Tryd.prog 56 #[.pointer (some ⟨b, 0, none⟩), .int .i64 x, .int .i64 y] w (GPost w base b mb (Gm.andG gs x y)) := by
    intro lo hi hlo hhi hlt ho
    have hmin : min x y = lo := by omega
    have hmax : max x y = hi := by omega
    have hnot := notL_eq (Nat.le_of_lt hlt)
    by_cases h0 : lo = 0
    · rw [andG_zero (by rw [hmin]; exact .inl h0)]
      rcases ho with ⟨rfl, rfl⟩ | ⟨rfl, rfl⟩
      · exact and_zero_a hg hlo hhi hlt h0
      · exact and_zero_b hg hlo hhi hlt h0
    · by_cases h1 : lo = Gm.notL hi
      · rw [andG_zero (by rw [hmin, hmax]; exact .inr (hnot.1 h1))]
        rcases ho with ⟨rfl, rfl⟩ | ⟨rfl, rfl⟩
        · exact and_turned_a hg hlo hhi hlt (by omega) h1
        · exact and_turned_b hg hlo hhi hlt (by omega) h1
      · have h2 : ¬ (min x y = 0 ∨ (max x y = min x y + 1 ∧ min x y % 2 = 0)) := by
          rw [hmin, hmax]
          rintro (h | h)
          · exact h0 h
          · exact h1 (hnot.2 h)
        by_cases h3 : lo = 1
        · rw [andG_one h2 (by rw [hmin]; exact .inl h3), hmax]
          rcases ho with ⟨rfl, rfl⟩ | ⟨rfl, rfl⟩
          · exact and_one_a hg hlo hhi hlt h3 h1
          · exact and_one_b hg hlo hhi hlt h3 h1
        · have h4 : ¬ (min x y = 1 ∨ min x y = max x y) := by rw [hmin, hmax]; omega
          cases hf : Gm.find lo hi gs with
          | some k =>
            rw [andG_some h2 h4 (by rw [hmin, hmax]; exact hf)]
            cases mb with
            | none => exact (zero_of_find hg hf).elim
            | some m =>
              rcases ho with ⟨rfl, rfl⟩ | ⟨rfl, rfl⟩
              · exact and_found_a hg hlo hhi hlt (by omega) h1 hf
              · exact and_found_b hg hlo hhi hlt (by omega) h1 hf
          | none =>
            rw [andG_none h2 h4 (by rw [hmin, hmax]; exact hf), hmin, hmax]
            cases mb with
            | none =>
              rcases ho with ⟨rfl, rfl⟩ | ⟨rfl, rfl⟩
              · exact and_none_a hg hg.low hn hlo hhi hlt (by omega) h1
              · exact and_none_b hg hg.low hn hlo hhi hlt (by omega) h1
            | some m =>
              rcases ho with ⟨rfl, rfl⟩ | ⟨rfl, rfl⟩
              · exact and_some_a hg hn hlo hhi hlt (by omega) h1 hf
              · exact and_some_b hg hn hlo hhi hlt (by omega) h1 hf
  rcases Nat.lt_trichotomy x y with h | h | h
  · exact key x y hx hy h (.inl ⟨rfl, rfl⟩)
  · subst h
    by_cases h0 : x = 0
    · subst h0
      rw [andG_zero (by simp)]
      exact and_same0 hg hx
    · by_cases h1 : (min x x = 0 ∨ (max x x = min x x + 1 ∧ min x x % 2 = 0))
      · omega
      · rw [andG_one h1 (by omega), Nat.max_self]
        exact and_same hg hx (by omega)
  · exact key y x hy hx h (.inr ⟨rfl, rfl⟩)

theorem has_small {w : World} {base b : Nat} {mb : Option Nat} {gs : List Gm.Gate} (hg : GraphAt w base b mb gs) {x : Nat} (hx : Gm.has gs x) : x ≤ 1000000 := by
  have := hg.len
  unfold Gm.has at hx
  omega

set_option maxHeartbeats 400000 in
theorem or_any {w : World} {base b : Nat} {mb : Option Nat} {gs : List Gm.Gate} (hg : GraphAt w base b mb gs) (hn : gs.length < 99999) {x y : Nat} (hx : Gm.has gs x) (hy : Gm.has gs y) :
    Calls Tryd.prog 58 #[.pointer (some ⟨b, 0, none⟩), .int .i64 x, .int .i64 y] w (GPost w base b mb (Gm.orG gs x y)) := by
  have C1 := Lib.hid (has_yes hg hx)
  have C2 := Lib.hid (has_yes hg hy)
  have N1 := Lib.hid (not_any x w (has_small hg hx))
  have N2 := Lib.hid (not_any y w (has_small hg hy))
  have A1 := Lib.hid (and_any hg hn (Gm.has_not hx) (Gm.has_not hy))
  have AH := Lib.hid (Gm.andG_has (Gm.has_not hx) (Gm.has_not hy))
  clear hg hn hx hy
  go_enter Tryd.func58, Tryd.ntmps58
  go_wp2_with fail
  refine C1.out.mono ?_
  rintro e w' ⟨rfl, rfl⟩
  go_wp2_with fail
  refine C2.out.mono ?_
  rintro e w' ⟨rfl, rfl⟩
  go_wp2_with fail
  refine N1.out.mono ?_
  rintro e w' ⟨rfl, rfl⟩
  go_wp2_with fail
  refine N2.out.mono ?_
  rintro e w' ⟨rfl, rfl⟩
  go_wp2_with fail
  refine A1.out.mono ?_
  rintro e w1 ⟨rfl, mb1, h1, h2, h3⟩
  have N3 := Lib.hid (not_any _ w1 (has_small h1 AH.out))
  have H1 := Lib.hid h1
  have H2 := Lib.hid h2
  have H3 := Lib.hid h3
  clear h1 h2 h3
  go_wp2_with fail
  refine N3.out.mono ?_
  rintro e w' ⟨rfl, rfl⟩
  go_wp2
  go_ret2
  exact ⟨rfl, mb1, H1.out, H2.out, H3.out⟩

set_option maxHeartbeats 400000 in
theorem orOf_any {w : World} {base b : Nat} {mb : Option Nat} {gs : List Gm.Gate} (hg : GraphAt w base b mb gs) (hn : gs.length < 99997) {x y u v : Nat} (hx : Gm.has gs x) (hy : Gm.has gs y) (hu : Gm.has gs u) (hv : Gm.has gs v) :
    Calls Tryd.prog 92 #[.pointer (some ⟨b, 0, none⟩), .int .i64 x, .int .i64 y, .int .i64 u, .int .i64 v] w (GPost w base b mb (Gm.orOf gs x y u v)) := by
  have l1 := Gm.andG_len gs x y
  have e1 := Gm.andG_ext gs x y
  have HN := Lib.hid hn
  have A1 := Lib.hid (and_any hg (by omega) hx hy)
  have X1 := Lib.hid (e1.has hu)
  have X2 := Lib.hid (e1.has hv)
  have X3 := Lib.hid (Gm.andG_has hx hy)
  have L1 := Lib.hid l1
  clear hg hn hx hy hu hv l1 e1
  go_enter Tryd.func92, Tryd.ntmps92
  go_wp2_with fail
  refine A1.out.mono ?_
  rintro e w1 ⟨rfl, mb1, h1, h2, h3⟩
  have A2 := Lib.hid (and_any h1 (by have := L1.out; have := HN.out; omega) X1.out X2.out)
  have H1 := Lib.hid h1
  have H2 := Lib.hid h2
  have H3 := Lib.hid h3
  clear h1 h2 h3
  go_wp2_with fail
  refine A2.out.mono ?_
  rintro e w2 ⟨rfl, mb2, h1, h2, h3⟩
  have l2 := Gm.andG_len (Gm.andG gs x y).1 u v
  have A3 := Lib.hid (or_any h1 (by have := L1.out; have := HN.out; omega) ((Gm.andG_ext (Gm.andG gs x y).1 u v).has X3.out) (Gm.andG_has X1.out X2.out))
  have H4 := Lib.hid h1
  have H5 := Lib.hid (GS_trans H2.out H3.out h2)
  have H6 := Lib.hid (mb_trans H2.out.size H3.out h3)
  clear h1 h2 h3 l2
  go_wp2_with fail
  refine A3.out.mono ?_
  rintro e w3 ⟨rfl, mb3, h1, h2, h3⟩
  have H7 := Lib.hid h1
  have H8 := Lib.hid (GS_trans H5.out H6.out h2)
  have H9 := Lib.hid (mb_trans H5.out.size H6.out h3)
  clear h1 h2 h3
  go_wp2
  go_ret2
  exact ⟨rfl, mb3, H7.out, H8.out, H9.out⟩

set_option maxHeartbeats 400000 in
theorem xor_any {w : World} {base b : Nat} {mb : Option Nat} {gs : List Gm.Gate} (hg : GraphAt w base b mb gs) (hn : gs.length < 99997) {x y : Nat} (hx : Gm.has gs x) (hy : Gm.has gs y) :
    Calls Tryd.prog 60 #[.pointer (some ⟨b, 0, none⟩), .int .i64 x, .int .i64 y] w (GPost w base b mb (Gm.xorG gs x y)) := by
  have C1 := Lib.hid (has_yes hg hx)
  have C2 := Lib.hid (has_yes hg hy)
  have N1 := Lib.hid (not_any x w (has_small hg hx))
  have N2 := Lib.hid (not_any y w (has_small hg hy))
  have A1 := Lib.hid (orOf_any hg hn hx (Gm.has_not hy) (Gm.has_not hx) hy)
  clear hg hn hx hy
  go_enter Tryd.func60, Tryd.ntmps60
  go_wp2_with fail
  refine C1.out.mono ?_
  rintro e w' ⟨rfl, rfl⟩
  go_wp2_with fail
  refine C2.out.mono ?_
  rintro e w' ⟨rfl, rfl⟩
  go_wp2_with fail
  refine N2.out.mono ?_
  rintro e w' ⟨rfl, rfl⟩
  go_wp2_with fail
  refine N1.out.mono ?_
  rintro e w' ⟨rfl, rfl⟩
  go_wp2_with fail
  refine A1.out.mono ?_
  rintro e w1 ⟨rfl, mb1, h1, h2, h3⟩
  have H1 := Lib.hid h1
  have H2 := Lib.hid h2
  have H3 := Lib.hid h3
  clear h1 h2 h3
  go_wp2
  go_ret2
  exact ⟨rfl, mb1, H1.out, H2.out, H3.out⟩

set_option maxHeartbeats 400000 in
theorem if_any {w : World} {base b : Nat} {mb : Option Nat} {gs : List Gm.Gate} (hg : GraphAt w base b mb gs) (hn : gs.length < 99997) {z x y : Nat} (hz : Gm.has gs z) (hx : Gm.has gs x) (hy : Gm.has gs y) :
    Calls Tryd.prog 62 #[.pointer (some ⟨b, 0, none⟩), .int .i64 z, .int .i64 x, .int .i64 y] w (GPost w base b mb (Gm.ifG gs z x y)) := by
  have C0 := Lib.hid (has_yes hg hz)
  have C1 := Lib.hid (has_yes hg hx)
  have C2 := Lib.hid (has_yes hg hy)
  have N1 := Lib.hid (not_any z w (has_small hg hz))
  have A1 := Lib.hid (orOf_any hg hn hz hx (Gm.has_not hz) hy)
  clear hg hn hz hx hy
  go_enter Tryd.func62, Tryd.ntmps62
  go_wp2_with fail
  refine C0.out.mono ?_
  rintro e w' ⟨rfl, rfl⟩
  go_wp2_with fail
  refine C1.out.mono ?_
  rintro e w' ⟨rfl, rfl⟩
  go_wp2_with fail
  refine C2.out.mono ?_
  rintro e w' ⟨rfl, rfl⟩
  go_wp2_with fail
  refine N1.out.mono ?_
  rintro e w' ⟨rfl, rfl⟩
  go_wp2_with fail
  refine A1.out.mono ?_
  rintro e w1 ⟨rfl, mb1, h1, h2, h3⟩
  have H1 := Lib.hid h1
  have H2 := Lib.hid h2
  have H3 := Lib.hid h3
  clear h1 h2 h3
  go_wp2
  go_ret2
  exact ⟨rfl, mb1, H1.out, H2.out, H3.out⟩
end Go.Proofs.YtmbjhpgemphmmaaDoor
