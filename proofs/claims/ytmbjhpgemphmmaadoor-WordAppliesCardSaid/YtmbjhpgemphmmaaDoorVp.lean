/-
  PLAIN: bits of values; what signed division by gates tells, told by the program's own division.
-/
import Derived.Test.YtmbjhpgemphmmaaDoorYp
import Derived.Test.YtmbjhpgemphmmaaDoorYf
import Derived.Test.YtmbjhpgemphmmaaDoorWr
namespace Go.Proofs.YtmbjhpgemphmmaaDoor
open Go.RowKit
def small8 (a : Int) : Prop := -128 ≤ a ∧ a ≤ 127
def i8 (n : Int) : Int := (n + 128) % 256 - 128
theorem lt_geI (a b : Int) : a < b ∨ b ≤ a := by omega
def cbits (n : Int) : List Nat := (List.range 8).map fun i => (n / 2 ^ i % 2).toNat
theorem cbits_len (n : Int) : (cbits n).length = 8 := by unfold cbits; simp
theorem cbits_lit (n : Int) : natVals (cbits n) = litVals (bitsTo n 8) := by
  unfold natVals cbits bitsTo litVals
  rw [List.map_map, List.map_map, List.map_map]
  refine List.map_congr_left fun i _ => ?_
  have h := Int.emod_nonneg (n / 2 ^ i) (show (2 : Int) ≠ 0 by omega)
  simp only [Function.comp]
  congr 1
  omega
theorem cbits_has (n : Int) (gs : List Gm.Gate) : AllHas gs (cbits n) := fun x hx => by
  unfold cbits at hx
  obtain ⟨i, _, rfl⟩ := List.mem_map.1 hx
  have h := Int.emod_lt_of_pos (n / 2 ^ i) (show (0 : Int) < 2 by omega)
  unfold Gm.has
  omega
theorem cbits_ev (inp : List Bool) (gs : List Gm.Gate) (n : Int) : evs inp gs (cbits n) = bitsB n 8 := by
  unfold evs cbits bitsB
  rw [List.map_map]
  refine List.map_congr_left fun i _ => ?_
  simp only [Function.comp]
  have h0 := Int.emod_nonneg (n / 2 ^ i) (show (2 : Int) ≠ 0 by omega)
  have h1 := Int.emod_lt_of_pos (n / 2 ^ i) (show (0 : Int) < 2 by omega)
  rcases (by omega : n / 2 ^ i % 2 = 0 ∨ n / 2 ^ i % 2 = 1) with h | h
  · rw [h]; exact Gm.ev_zero inp gs
  · rw [h]; exact Gm.ev_one inp gs
theorem nu_bitsB (n : Int) : ∀ k, (Wp.nu (bitsB n k) : Int) = n % 2 ^ k
  | 0 => by simp [bitsB, Wp.nu]
  | k + 1 => by
    rw [bitsB_succ, Wp.nu_append, bitsB_len]
    have ih := nu_bitsB n k
    have h0 := Int.emod_nonneg (n / 2 ^ k) (show (2 : Int) ≠ 0 by omega)
    have h1 := Int.emod_lt_of_pos (n / 2 ^ k) (show (0 : Int) < 2 by omega)
    have hp : (0 : Int) < 2 ^ k := Int.pow_pos (by omega)
    have hd := Int.mul_ediv_add_emod n (2 ^ k)
    have hd2 := Int.mul_ediv_add_emod (n / 2 ^ k) 2
    have hs : n % 2 ^ (k + 1) = n % 2 ^ k + 2 ^ k * (n / 2 ^ k % 2) := by
      rw [Int.pow_succ]
      rw [Int.emod_def, Int.emod_def n (2 ^ k), Int.emod_def (n / 2 ^ k) 2, Int.ediv_ediv_of_nonneg (Int.le_of_lt hp), Int.mul_sub, Int.mul_assoc]
      omega
    rw [hs, Int.natCast_add, ih, Int.natCast_mul]
    have hc : ((2 ^ k : Nat) : Int) = 2 ^ k := by simp
    rw [hc]
    congr 2
    rcases (by omega : n / 2 ^ k % 2 = 0 ∨ n / 2 ^ k % 2 = 1) with h | h <;> rw [h] <;> rfl
theorem rep_bits (n : Int) : Wp.Rep 8 (bitsB n 8) n := ⟨bitsB_len n 8, by
  rw [nu_bitsB]
  have := Int.emod_def n (2 ^ 8)
  rw [this]
  exact ⟨-(n / 2 ^ 8), by rw [Int.mul_neg]; omega⟩⟩
theorem top_bits {n : Int} (h : small8 n) : Wp.topB (bitsB n 8) = decide (n < 0) := by
  unfold Wp.topB
  rw [bitsB_len]
  have : (bitsB n 8).getD 7 false = (n / 2 ^ 7 % 2 == 1) := by
    unfold bitsB; simp
  rw [show 8 - 1 = 7 by rfl, this]
  unfold small8 at h
  rcases lt_geI n 0 with h0 | h0
  · rw [decide_eq_true h0]; simp; omega
  · rw [decide_eq_false (by omega)]; simp; omega
theorem rep_small {l : List Bool} {x : Int} (h : Wp.Rep 8 l x) (h0 : 0 ≤ x) (h1 : x < 256) : (Wp.nu l : Int) = x := by
  obtain ⟨hl, k, hk⟩ := h
  have := Wp.nu_lt l
  rw [hl] at this
  have h2 : (2 : Int) ^ 8 = 256 := rfl
  have h3 : (2 : Nat) ^ 8 = 256 := rfl
  rw [h2] at hk
  rw [h3] at this
  omega
theorem abs_bits {n : Int} (h : small8 n) : Wp.nu (Wp.absB (bitsB n 8)) = n.natAbs := by
  unfold Wp.absB Wp.pickB
  rw [top_bits h]
  unfold small8 at h
  rcases lt_geI n 0 with h0 | h0
  · rw [decide_eq_true h0, if_pos rfl]
    have := rep_small (Wp.rep_neg (rep_bits n)) (by omega) (by omega)
    omega
  · rw [decide_eq_false (by omega), if_neg (by simp)]
    have := rep_small (rep_bits n) h0 (by omega)
    omega
theorem sg_quo (a b : Int) : Wp.sg (decide (a < 0) != decide (b < 0)) ((a.natAbs / b.natAbs : Nat) : Int) = a.tdiv b := by
  unfold Wp.sg
  rcases lt_geI a 0 with ha | ha <;> rcases lt_geI b 0 with hb | hb
  · obtain ⟨m, rfl⟩ : ∃ m : Nat, a = -(m : Int) := ⟨a.natAbs, by omega⟩
    obtain ⟨k, rfl⟩ : ∃ k : Nat, b = -(k : Int) := ⟨b.natAbs, by omega⟩
    rw [decide_eq_true ha, decide_eq_true hb, Int.neg_tdiv, Int.tdiv_neg, Int.neg_neg]
    simp
  · obtain ⟨m, rfl⟩ : ∃ m : Nat, a = -(m : Int) := ⟨a.natAbs, by omega⟩
    obtain ⟨k, rfl⟩ : ∃ k : Nat, b = (k : Int) := ⟨b.natAbs, by omega⟩
    rw [decide_eq_true ha, decide_eq_false (by omega), Int.neg_tdiv]
    simp
  · obtain ⟨m, rfl⟩ : ∃ m : Nat, a = (m : Int) := ⟨a.natAbs, by omega⟩
    obtain ⟨k, rfl⟩ : ∃ k : Nat, b = -(k : Int) := ⟨b.natAbs, by omega⟩
    rw [decide_eq_false (by omega), decide_eq_true hb, Int.tdiv_neg]
    simp
  · obtain ⟨m, rfl⟩ : ∃ m : Nat, a = (m : Int) := ⟨a.natAbs, by omega⟩
    obtain ⟨k, rfl⟩ : ∃ k : Nat, b = (k : Int) := ⟨b.natAbs, by omega⟩
    rw [decide_eq_false (by omega), decide_eq_false (by omega)]
    simp
theorem sg_rest (a b : Int) : Wp.sg (decide (a < 0)) ((a.natAbs % b.natAbs : Nat) : Int) = a.tmod b := by
  have hb : a.tmod b = a.tmod (b.natAbs : Int) := by
    rcases lt_geI b 0 with hb | hb
    · obtain ⟨k, rfl⟩ : ∃ k : Nat, b = -(k : Int) := ⟨b.natAbs, by omega⟩
      rw [Int.tmod_neg]; simp
    · rw [Int.natAbs_of_nonneg hb]
  rw [hb]
  unfold Wp.sg
  rcases lt_geI a 0 with ha | ha
  · obtain ⟨m, rfl⟩ : ∃ m : Nat, a = -(m : Int) := ⟨a.natAbs, by omega⟩
    rw [decide_eq_true ha, Int.neg_tmod, Int.tmod_eq_emod_of_nonneg (a := (m : Int)) (by omega)]
    simp
  · obtain ⟨m, rfl⟩ : ∃ m : Nat, a = (m : Int) := ⟨a.natAbs, by omega⟩
    rw [decide_eq_false (by omega), Int.tmod_eq_emod_of_nonneg (a := (m : Int)) (by omega)]
    simp
theorem quo_rep {a b : Int} (ha : small8 a) (hb : small8 b) (h0 : b ≠ 0) : Wp.Rep 8 (Wp.sQuo (bitsB a 8) (bitsB b 8)) (a.tdiv b) := by
  have h := Wp.rep_sQuo (a := bitsB a 8) (b := bitsB b 8) (by rw [bitsB_len, bitsB_len]) (by rw [abs_bits hb]; omega)
  rw [bitsB_len, top_bits ha, top_bits hb, abs_bits ha, abs_bits hb, sg_quo] at h
  exact h
theorem rest_rep {a b : Int} (ha : small8 a) (hb : small8 b) (h0 : b ≠ 0) : Wp.Rep 8 (Wp.sRem (bitsB a 8) (bitsB b 8)) (a.tmod b) := by
  have h := Wp.rep_sRem (a := bitsB a 8) (b := bitsB b 8) (by rw [bitsB_len, bitsB_len]) (by rw [abs_bits hb]; omega)
  rw [bitsB_len, top_bits ha, abs_bits ha, abs_bits hb, sg_rest] at h
  exact h
theorem zero_bits {b : Int} (hb : small8 b) : Wp.sameB (bitsB b 8) (List.replicate 8 false) = (b == 0) := by
  have hn := nu_bitsB b 8
  unfold small8 at hb
  have h2 : (2 : Int) ^ 8 = 256 := rfl
  rw [h2] at hn
  by_cases h0 : b = 0
  · subst h0
    rw [show ((0 : Int) == 0) = true from rfl]
    rw [Wp.sameB_iff (by rw [bitsB_len]; simp)]
    have := (Wp.nu_zero (a := bitsB 0 8)).1 (by omega)
    rw [bitsB_len] at this
    exact this
  · rw [show (b == 0) = false by simpa using h0]
    cases hs : Wp.sameB (bitsB b 8) (List.replicate 8 false) with
    | false => rfl
    | true =>
      have h1 := (Wp.sameB_iff (by rw [bitsB_len]; simp)).1 hs
      rw [h1, Wp.nu_zeros] at hn
      omega
theorem num_nu : ∀ l : List Bool, num l = Wp.nu l
  | [] => rfl
  | b :: l => by unfold num Wp.nu Wp.bit; rw [num_nu l]
theorem val_rep {l : List Bool} {x : Int} (h : Wp.Rep 8 l x) : valOf l = (2, i8 x) := by
  obtain ⟨hl, k, hk⟩ := h
  unfold valOf
  rw [if_neg (by omega), if_pos hl, num_nu]
  have hlt := Wp.nu_lt l
  rw [hl] at hlt
  have h2 : (2 : Int) ^ 8 = 256 := rfl
  have h3 : (2 : Nat) ^ 8 = 256 := rfl
  rw [h2] at hk
  rw [h3] at hlt
  congr 1
  unfold signed i8
  split <;> omega
def truthN (b : Bool) : Int := if b then 1 else 0
theorem valOf_one (b : Bool) : valOf [b] = (1, truthN b) := by cases b <;> rfl
/-! ### order, equality -/
theorem flip_all : ∀ k : Fin 256, Wp.nu (Wp.flipB (bitsB ((k.val : Int) - 128) 8)) = k.val := by decide +kernel
theorem flip_bits {n : Int} (h : small8 n) : (Wp.nu (Wp.flipB (bitsB n 8)) : Int) = n + 128 := by
  unfold small8 at h
  obtain ⟨k, hk⟩ : ∃ k : Nat, (k : Int) = n + 128 := ⟨(n + 128).toNat, by omega⟩
  have h1 := flip_all ⟨k, by omega⟩
  have e : ((k : Int) - 128) = n := by omega
  simp only [e] at h1
  omega
theorem less_bits {a b : Int} (ha : small8 a) (hb : small8 b) : Wp.lessB (bitsB a 8) (bitsB b 8) = decide (a < b) := by
  have h1 := flip_bits ha
  have h2 := flip_bits hb
  have hl : (Wp.flipB (bitsB a 8)).length = (Wp.flipB (bitsB b 8)).length := by unfold Wp.flipB; simp [bitsB_len]
  unfold Wp.lessB
  rw [Wp.geB_iff hl]
  by_cases h : a < b
  · rw [decide_eq_true h, decide_eq_false (by omega)]; rfl
  · rw [decide_eq_false h, decide_eq_true (by omega)]; rfl
theorem same_bits {a b : Int} (ha : small8 a) (hb : small8 b) : Wp.sameB (bitsB a 8) (bitsB b 8) = (a == b) := by
  have hl : (bitsB a 8).length = (bitsB b 8).length := by rw [bitsB_len, bitsB_len]
  have h1 := nu_bitsB a 8
  have h2 := nu_bitsB b 8
  have e2 : (2 : Int) ^ 8 = 256 := rfl
  rw [e2] at h1 h2
  unfold small8 at ha hb
  rw [Bool.eq_iff_iff, Wp.sameB_iff hl, beq_iff_eq]
  constructor
  · intro h
    rw [h] at h1
    omega
  · rintro rfl; rfl
end Go.Proofs.YtmbjhpgemphmmaaDoor
