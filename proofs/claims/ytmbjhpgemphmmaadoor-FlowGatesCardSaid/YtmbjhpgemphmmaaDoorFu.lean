/-
  PLAIN: a constant's bits; what signed division by gates tells, told by the program's own division.
  THE WALK of the law FlowGates.
-/
import Derived.Test.YtmbjhpgemphmmaaDoorYp
import Derived.Test.YtmbjhpgemphmmaaDoorYc
import Derived.Test.YtmbjhpgemphmmaaDoorWb
import Derived.Test.YtmbjhpgemphmmaaDoorFp
import Derived.Test.YtmbjhpgemphmmaaDoorFr
import Derived.Test.YtmbjhpgemphmmaaDoorYt
import Derived.Test.YtmbjhpgemphmmaaDoorWr
import Derived.Test.YtmbjhpgemphmmaaDoorGh
import Derived.Outline
namespace Go.Proofs.YtmbjhpgemphmmaaDoor
open Go.RowKit
theorem lt_geI (a b : Int) : a < b ∨ b ≤ a := by omega
def cbits (n : Int) : List Nat := (List.range 8).map fun i => (n / 2 ^ i % 2).toNat
theorem cbits_len (n : Int) : (cbits n).length = 8 := by unfold cbits; simp
theorem cbits_lit (n : Int) : natVals (cbits n) = litVals (bitsTo n 8) := by
  unfold natVals cbits bitsTo litVals
  rw [List.map_map, List.map_map, List.map_map]
  refine List.map_congr_left fun i _ => ?_
  have h := Int.emod_nonneg (n / 2 ^ i) (show (2 : Int) ≠ 0 by omega)
  simp only [Function.comp]
  congr 1
  omega
theorem cbits_has (n : Int) (gs : List Gm.Gate) : AllHas gs (cbits n) := fun x hx => by
  unfold cbits at hx
  obtain ⟨i, _, rfl⟩ := List.mem_map.1 hx
  have h := Int.emod_lt_of_pos (n / 2 ^ i) (show (0 : Int) < 2 by omega)
  unfold Gm.has
  omega
theorem cbits_ev (inp : List Bool) (gs : List Gm.Gate) (n : Int) : evs inp gs (cbits n) = bitsB n 8 := by
  unfold evs cbits bitsB
  rw [List.map_map]
  refine List.map_congr_left fun i _ => ?_
  simp only [Function.comp]
  have h0 := Int.emod_nonneg (n / 2 ^ i) (show (2 : Int) ≠ 0 by omega)
  have h1 := Int.emod_lt_of_pos (n / 2 ^ i) (show (0 : Int) < 2 by omega)
  rcases (by omega : n / 2 ^ i % 2 = 0 ∨ n / 2 ^ i % 2 = 1) with h | h
  · rw [h]; exact Gm.ev_zero inp gs
  · rw [h]; exact Gm.ev_one inp gs
theorem nu_bitsB (n : Int) : ∀ k, (Wp.nu (bitsB n k) : Int) = n % 2 ^ k
  | 0 => by simp [bitsB, Wp.nu]
  | k + 1 => by
    rw [bitsB_succ, Wp.nu_append, bitsB_len]
    have ih := nu_bitsB n k
    have h0 := Int.emod_nonneg (n / 2 ^ k) (show (2 : Int) ≠ 0 by omega)
    have h1 := Int.emod_lt_of_pos (n / 2 ^ k) (show (0 : Int) < 2 by omega)
    have hp : (0 : Int) < 2 ^ k := Int.pow_pos (by omega)
    have hd := Int.mul_ediv_add_emod n (2 ^ k)
    have hd2 := Int.mul_ediv_add_emod (n / 2 ^ k) 2
    have hs : n % 2 ^ (k + 1) = n % 2 ^ k + 2 ^ k * (n / 2 ^ k % 2) := by
      rw [Int.pow_succ]
      rw [Int.emod_def, Int.emod_def n (2 ^ k), Int.emod_def (n / 2 ^ k) 2, Int.ediv_ediv_of_nonneg (Int.le_of_lt hp), Int.mul_sub, Int.mul_assoc]
      omega
    rw [hs, Int.natCast_add, ih, Int.natCast_mul]
    have hc : ((2 ^ k : Nat) : Int) = 2 ^ k := by simp
    rw [hc]
    congr 2
    rcases (by omega : n / 2 ^ k % 2 = 0 ∨ n / 2 ^ k % 2 = 1) with h | h <;> rw [h] <;> rfl
theorem rep_bits (n : Int) : Wp.Rep 8 (bitsB n 8) n := ⟨bitsB_len n 8, by
  rw [nu_bitsB]
  have := Int.emod_def n (2 ^ 8)
  rw [this]
  exact ⟨-(n / 2 ^ 8), by rw [Int.mul_neg]; omega⟩⟩
theorem top_bits {n : Int} (h : small8 n) : Wp.topB (bitsB n 8) = decide (n < 0) := by
  unfold Wp.topB
  rw [bitsB_len]
  have : (bitsB n 8).getD 7 false = (n / 2 ^ 7 % 2 == 1) := by
    unfold bitsB; simp
  rw [show 8 - 1 = 7 by rfl, this]
  unfold small8 at h
  rcases lt_geI n 0 with h0 | h0
  · rw [decide_eq_true h0]; simp; omega
  · rw [decide_eq_false (by omega)]; simp; omega
theorem rep_small {l : List Bool} {x : Int} (h : Wp.Rep 8 l x) (h0 : 0 ≤ x) (h1 : x < 256) : (Wp.nu l : Int) = x := by
  obtain ⟨hl, k, hk⟩ := h
  have := Wp.nu_lt l
  rw [hl] at this
  have h2 : (2 : Int) ^ 8 = 256 := rfl
  have h3 : (2 : Nat) ^ 8 = 256 := rfl
  rw [h2] at hk
  rw [h3] at this
  omega
theorem abs_bits {n : Int} (h : small8 n) : Wp.nu (Wp.absB (bitsB n 8)) = n.natAbs := by
  unfold Wp.absB Wp.pickB
  rw [top_bits h]
  unfold small8 at h
  rcases lt_geI n 0 with h0 | h0
  · rw [decide_eq_true h0, if_pos rfl]
    have := rep_small (Wp.rep_neg (rep_bits n)) (by omega) (by omega)
    omega
  · rw [decide_eq_false (by omega), if_neg (by simp)]
    have := rep_small (rep_bits n) h0 (by omega)
    omega
theorem sg_quo (a b : Int) : Wp.sg (decide (a < 0) != decide (b < 0)) ((a.natAbs / b.natAbs : Nat) : Int) = a.tdiv b := by
  unfold Wp.sg
  rcases lt_geI a 0 with ha | ha <;> rcases lt_geI b 0 with hb | hb
  · obtain ⟨m, rfl⟩ : ∃ m : Nat, a = -(m : Int) := ⟨a.natAbs, by omega⟩
    obtain ⟨k, rfl⟩ : ∃ k : Nat, b = -(k : Int) := ⟨b.natAbs, by omega⟩
    rw [decide_eq_true ha, decide_eq_true hb, Int.neg_tdiv, Int.tdiv_neg, Int.neg_neg]
    simp
  · obtain ⟨m, rfl⟩ : ∃ m : Nat, a = -(m : Int) := ⟨a.natAbs, by omega⟩
    obtain ⟨k, rfl⟩ : ∃ k : Nat, b = (k : Int) := ⟨b.natAbs, by omega⟩
    rw [decide_eq_true ha, decide_eq_false (by omega), Int.neg_tdiv]
    simp
  · obtain ⟨m, rfl⟩ : ∃ m : Nat, a = (m : Int) := ⟨a.natAbs, by omega⟩
    obtain ⟨k, rfl⟩ : ∃ k : Nat, b = -(k : Int) := ⟨b.natAbs, by omega⟩
    rw [decide_eq_false (by omega), decide_eq_true hb, Int.tdiv_neg]
    simp
  · obtain ⟨m, rfl⟩ : ∃ m : Nat, a = (m : Int) := ⟨a.natAbs, by omega⟩
    obtain ⟨k, rfl⟩ : ∃ k : Nat, b = (k : Int) := ⟨b.natAbs, by omega⟩
    rw [decide_eq_false (by omega), decide_eq_false (by omega)]
    simp
theorem sg_rest (a b : Int) : Wp.sg (decide (a < 0)) ((a.natAbs % b.natAbs : Nat) : Int) = a.tmod b := by
  have hb : a.tmod b = a.tmod (b.natAbs : Int) := by
    rcases lt_geI b 0 with hb | hb
    · obtain ⟨k, rfl⟩ : ∃ k : Nat, b = -(k : Int) := ⟨b.natAbs, by omega⟩
      rw [Int.tmod_neg]; simp
    · rw [Int.natAbs_of_nonneg hb]
  rw [hb]
  unfold Wp.sg
  rcases lt_geI a 0 with ha | ha
  · obtain ⟨m, rfl⟩ : ∃ m : Nat, a = -(m : Int) := ⟨a.natAbs, by omega⟩
    rw [decide_eq_true ha, Int.neg_tmod, Int.tmod_eq_emod_of_nonneg (a := (m : Int)) (by omega)]
    simp
  · obtain ⟨m, rfl⟩ : ∃ m : Nat, a = (m : Int) := ⟨a.natAbs, by omega⟩
    rw [decide_eq_false (by omega), Int.tmod_eq_emod_of_nonneg (a := (m : Int)) (by omega)]
    simp
theorem quo_rep {a b : Int} (ha : small8 a) (hb : small8 b) (h0 : b ≠ 0) : Wp.Rep 8 (Wp.sQuo (bitsB a 8) (bitsB b 8)) (a.tdiv b) := by
  have h := Wp.rep_sQuo (a := bitsB a 8) (b := bitsB b 8) (by rw [bitsB_len, bitsB_len]) (by rw [abs_bits hb]; omega)
  rw [bitsB_len, top_bits ha, top_bits hb, abs_bits ha, abs_bits hb, sg_quo] at h
  exact h
theorem rest_rep {a b : Int} (ha : small8 a) (hb : small8 b) (h0 : b ≠ 0) : Wp.Rep 8 (Wp.sRem (bitsB a 8) (bitsB b 8)) (a.tmod b) := by
  have h := Wp.rep_sRem (a := bitsB a 8) (b := bitsB b 8) (by rw [bitsB_len, bitsB_len]) (by rw [abs_bits hb]; omega)
  rw [bitsB_len, top_bits ha, abs_bits ha, abs_bits hb, sg_rest] at h
  exact h
theorem zero_bits {b : Int} (hb : small8 b) : Wp.sameB (bitsB b 8) (List.replicate 8 false) = (b == 0) := by
  have hn := nu_bitsB b 8
  unfold small8 at hb
  have h2 : (2 : Int) ^ 8 = 256 := rfl
  rw [h2] at hn
  by_cases h0 : b = 0
  · subst h0
    rw [show ((0 : Int) == 0) = true from rfl]
    rw [Wp.sameB_iff (by rw [bitsB_len]; simp)]
    have := (Wp.nu_zero (a := bitsB 0 8)).1 (by omega)
    rw [bitsB_len] at this
    exact this
  · rw [show (b == 0) = false by simpa using h0]
    cases hs : Wp.sameB (bitsB b 8) (List.replicate 8 false) with
    | false => rfl
    | true =>
      have h1 := (Wp.sameB_iff (by rw [bitsB_len]; simp)).1 hs
      rw [h1, Wp.nu_zeros] at hn
      omega
theorem num_nu : ∀ l : List Bool, num l = Wp.nu l
  | [] => rfl
  | b :: l => by unfold num Wp.nu Wp.bit; rw [num_nu l]
theorem val_rep {l : List Bool} {x : Int} (h : Wp.Rep 8 l x) : valOf l = (2, i8 x) := by
  obtain ⟨hl, k, hk⟩ := h
  unfold valOf
  rw [if_neg (by omega), if_pos hl, num_nu]
  have hlt := Wp.nu_lt l
  rw [hl] at hlt
  have h2 : (2 : Int) ^ 8 = 256 := rfl
  have h3 : (2 : Nat) ^ 8 = 256 := rfl
  rw [h2] at hk
  rw [h3] at hlt
  congr 1
  unfold signed i8
  split <;> omega
end Go.Proofs.YtmbjhpgemphmmaaDoor
namespace Go.Proofs.YtmbjhpgemphmmaaDoor
open Go.RowKit
theorem two_quoF : TwoOp ⟨#[47]⟩ := ⟨by decide +kernel, by decide +kernel, by decide +kernel, by decide +kernel, by decide +kernel, by decide +kernel, by decide +kernel, by decide +kernel, by decide +kernel, by decide +kernel, by decide +kernel, by decide +kernel, by decide +kernel, by decide +kernel⟩
theorem two_restF : TwoOp ⟨#[109, 111, 100]⟩ := ⟨by decide +kernel, by decide +kernel, by decide +kernel, by decide +kernel, by decide +kernel, by decide +kernel, by decide +kernel, by decide +kernel, by decide +kernel, by decide +kernel, by decide +kernel, by decide +kernel, by decide +kernel, by decide +kernel⟩
theorem parts_newF {w : World} {B : Nat} {A0 A1 : Option Addr} {c0 c1 : Nat} {xs ys : List Nat} (hx : Held w B A0 8 xs) (hy : Held w B A1 8 ys) :
    PartsAt (w.alloc (.cells #[.slice A0 8 c0, .slice A1 8 c1] 28)) B (some ⟨w.heap.size, 0, none⟩) [xs, ys] := by
  have hb : Below w.heap.size w (w.alloc (.cells #[.slice A0 8 c0, .slice A1 8 c1] 28)) := (Below.refl _ _).alloc (Nat.le_refl _) _
  have bk := Blk.new w 28 #[.slice A0 8 c0, .slice A1 8 c1]
  refine ⟨_, _, rfl, bk, .inr rfl, fun i zs hz => ?_⟩
  match i, hz with
  | 0, hz =>
    obtain rfl : xs = zs := by simpa using hz
    refine ⟨A0, c0, ?_, ?_⟩
    · rw [hx.1]; exact bk.cell 0
    · rw [hx.1]; exact hx.new hb
  | 1, hz =>
    obtain rfl : ys = zs := by simpa using hz
    refine ⟨A1, c1, ?_, ?_⟩
    · rw [hy.1]; exact bk.cell 1
    · rw [hy.1]; exact hy.new hb
theorem own_capF {w : World} {base e n c : Nat} {A : Option Addr} {xs : List Value} (h : w.ownsRow base e 1 (.slice A n c) n xs) (hn : 0 < n) : n ≤ c := by
  rcases h.2 with ⟨_, h0⟩ | ⟨g', cap, cur, hv, _, _, hnc, _⟩
  · omega
  · simp only [Value.slice.injEq] at hv
    rw [hv.2.2]; exact hnc
def Divs (op : ByteArray) : Prop := op = ⟨#[47]⟩ ∨ op = ⟨#[109, 111, 100]⟩
def dB (op : ByteArray) (x y : List Bool) : List Bool := if op = ⟨#[47]⟩ then Wp.sQuo x y else Wp.sRem x y
theorem div_rep {op : ByteArray} {a b : Int} (ha : small8 a) (hb : small8 b) (h0 : b ≠ 0) : Wp.Rep 8 (dB op (bitsB a 8) (bitsB b 8)) (dOf op a b) := by
  unfold dB dOf
  split
  · exact quo_rep ha hb h0
  · exact rest_rep ha hb h0
theorem of_div {w : World} {B b LB : Nat} {gs : List Gm.Gate} {op : ByteArray} (hop : op = ⟨#[47]⟩ ∨ op = ⟨#[109, 111, 100]⟩) (h : GA w B b gs) (hL : Lvls w LB) (hLB : LB ≤ w.heap.size) {A : Option Addr} {c : Nat} {xs ys : List Nat} (hp : PartsAt w B A [xs, ys]) (hx8 : xs.length = 8) (hy8 : ys.length = 8) (gx : AllHas gs xs) (gy : AllHas gs ys)
    (hn : gs.length ≤ 80000) :
    Calls Tryd.prog 17 #[.pointer (some ⟨b, 0, none⟩), .string op, .slice A 2 c] w (OfP w B b gs 1800 8 (fun inp => dB op (evs inp gs xs) (evs inp gs ys)) (fun inp => Wp.sameB (evs inp gs ys) (List.replicate 8 false))) := by
  unfold dB
  rcases hop with rfl | rfl
  · refine (of_two (c := c) h hL hLB hp hx8 hy8 gx gy (by omega) two_quoF (fun W A0 A1 c0 c1 hg hx hy => ints_quo (m := 7) hg hx hy gx gy (by show gs.length + 1795 ≤ 88000; omega) (by omega))).mono ?_
    rintro e w' ⟨A', c', gs', outs, last, h0, h1, h2, h3, h4, h5⟩
    exact ⟨A', c', gs', outs, last, h0, h1, h2, h3, h4.to (by show 1187 ≤ 1800; omega) fun _ => (by rw [if_pos (rfl : (⟨#[47]⟩ : ByteArray) = ⟨#[47]⟩)]), h5.to (by show 1187 ≤ 1800; omega) fun _ => rfl⟩
  · refine (of_two (c := c) h hL hLB hp hx8 hy8 gx gy (by omega) two_restF (fun W A0 A1 c0 c1 hg hx hy => ints_rest (m := 7) hg hx hy gx gy (by show gs.length + 1795 ≤ 88000; omega) (by omega))).mono ?_
    rintro e w' ⟨A', c', gs', outs, last, h0, h1, h2, h3, h4, h5⟩
    exact ⟨A', c', gs', outs, last, h0, h1, h2, h3, h4.to (by show 1187 ≤ 1800; omega) fun _ => (by rw [if_neg (show ¬ (⟨#[109, 111, 100]⟩ : ByteArray) = ⟨#[47]⟩ by decide)]), h5.to (by show 1187 ≤ 1800; omega) fun _ => rfl⟩
set_option maxHeartbeats 1000000 in
theorem fgates_other {w : World} {a b : Int} {op : ByteArray} (h0 : (op.toList == [47]) = false) (h1 : (op.toList == [109, 111, 100]) = false) :
    Calls Tryd.prog 4 #[.string op, .int .i64 a, .int .i64 b] w (LPost w) := by
  have CE := Lib.hid (five_any w)
  go_enter Tryd.func4, Tryd.ntmps4
  go_wp2_with fail
  refine CE.out.mono ?_
  rintro e w1 ⟨rfl, hb⟩
  have HB := Lib.hid hb
  clear hb
  go_wp2
  go_ret
  exact ⟨rfl, HB.out⟩
set_option maxHeartbeats 1000000 in
theorem fgates_out {w : World} {a b : Int} {op : ByteArray} (hop : op = ⟨#[47]⟩ ∨ op = ⟨#[109, 111, 100]⟩) (h : ¬ (small8 a ∧ small8 b)) :
    Calls Tryd.prog 4 #[.string op, .int .i64 a, .int .i64 b] w (LPost w) := by
  have CE := Lib.hid (five_any w)
  unfold small8 at h
  have key : decide (a < -128) = true ∨ (decide (a < -128) = false ∧ decide ((127 : Int) < a) = true) ∨ (decide (a < -128) = false ∧ decide ((127 : Int) < a) = false ∧ decide (b < -128) = true) ∨ (decide (a < -128) = false ∧ decide ((127 : Int) < a) = false ∧ decide (b < -128) = false ∧ decide ((127 : Int) < b) = true) := by
    simp only [decide_eq_true_eq, decide_eq_false_iff_not]; omega
  clear h
  rcases hop with rfl | rfl
  all_goals
    rcases key with e0 | ⟨e0, e1⟩ | ⟨e0, e1, e2⟩ | ⟨e0, e1, e2, e3⟩
    all_goals
      go_enter Tryd.func4, Tryd.ntmps4
      go_wp2_with fail
      refine CE.out.mono ?_
      rintro e w1 ⟨rfl, hb⟩
      have HB := Lib.hid hb
      clear hb
      go_wp2
      go_ret
      exact ⟨rfl, HB.out⟩
set_option maxRecDepth 100000 in
set_option maxHeartbeats 8000000 in
theorem fgates_in {w : World} {LB : Nat} {p : Addr} {a b : Int} {op : ByteArray} (hop : op = ⟨#[47]⟩ ∨ op = ⟨#[109, 111, 100]⟩) (hL : Lvls w LB) (hLB : LB ≤ w.heap.size) (he : w.cell? ⟨0, 0, none⟩ = some (.iface 220 (.pointer (some p))))
    (ha : small8 a) (hb : small8 b) : Calls Tryd.prog 4 #[.string op, .int .i64 a, .int .i64 b] w (LPost w) := by
  have CE := Lib.hid (five_any w)
  obtain ⟨i0, hi0, hz0, hz1, hz2⟩ := info_parts infoLit_
  have HIN := Lib.hid (show _ ∧ _ ∧ _ ∧ _ from ⟨hi0, hz0, hz1, hz2⟩)
  have HL := Lib.hid hL
  have HLB := Lib.hid hLB
  have HE := Lib.hid (And.intro he (World.block_lt_of_cell? w _ he))
  have HA := Lib.hid (And.intro ha hb)
  have g0 : decide (a < -128) = false := decide_eq_false (by unfold small8 at ha; omega)
  have g1 : decide ((127 : Int) < a) = false := decide_eq_false (by unfold small8 at ha; omega)
  have g2 : decide (b < -128) = false := decide_eq_false (by unfold small8 at hb; omega)
  have g3 : decide ((127 : Int) < b) = false := decide_eq_false (by unfold small8 at hb; omega)
  have HOQ := Lib.hid (show Divs op from hop)
  clear hL hLB he ha hb hi0 hz0 hz1 hz2
  rcases hop with rfl | rfl
  · go_enter Tryd.func4, Tryd.ntmps4
    go_wp2_with fail
    refine CE.out.mono ?_
    rintro e w1 ⟨rfl, hb1⟩
    obtain ⟨W2, hW2⟩ : ∃ W2, W2 = w1.alloc (.cells #[.int .i64 2, .int .i64 a, .int .i64 2, .int .i64 b] 45) := ⟨_, rfl⟩
    have hb2 : Below w.heap.size w W2 := by rw [hW2]; exact hb1.alloc hb1.size _
    have k2 : Blk W2 w1.heap.size 45 #[.int .i64 2, .int .i64 a, .int .i64 2, .int .i64 b] := by rw [hW2]; exact Blk.new w1 _ _
    have CA := Lib.hid (fApply_two HOQ.out (HL.out.below hb2 HLB.out) (Nat.le_trans HLB.out hb2.size) k2 HA.out.1 HA.out.2)
    have HB2 := Lib.hid hb2
    have HW2 := Lib.hid hW2
    clear hb1 hW2 hb2 k2
    go_wp2_with fail
    rw [← HW2.out]
    refine CA.out.mono ?_
    rintro e w3 ⟨rfl, hb3⟩
    obtain ⟨kv, hkv⟩ : ∃ kv, fvK b = kv := ⟨_, rfl⟩
    obtain ⟨nv, hnv⟩ : ∃ nv, fvN ⟨#[47]⟩ a b = nv := ⟨_, rfl⟩
    obtain ⟨tb, htb⟩ : ∃ tb, (b == 0) = tb := ⟨_, rfl⟩
    rw [hkv, hnv, htb]
    obtain ⟨W4, hW4⟩ : ∃ W4, W4 = w3.alloc (.cells #[.int .i64 kv, .int .i64 nv] 45) := ⟨_, rfl⟩
    have hb4 : Below w.heap.size w W4 := by rw [hW4]; exact (HB2.out.trans (hb3.mono HB2.out.size)).alloc (Nat.le_trans HB2.out.size hb3.size) _
    have k4 : Blk W4 w3.heap.size 45 #[.int .i64 kv, .int .i64 nv] := by rw [hW4]; exact Blk.new w3 _ _
    have C1 := Lib.hid (const_any (n := a) HA.out.1.1 HA.out.1.2 W4)
    have HV := Lib.hid (And.intro hkv (And.intro hnv htb))
    have HB4 := Lib.hid hb4
    have HK4 := Lib.hid k4
    have HW4 := Lib.hid hW4
    clear hb3 hkv hnv htb hW4 hb4 k4
    go_upto_region 5 with fail
    rw [← HW4.out]
    go_wp2_with fail
    refine C1.out.mono ?_
    rintro e w5 ⟨_, rfl, A0, c0, rfl, h5, hb5⟩
    have C2 := Lib.hid (const_any (n := b) HA.out.2.1 HA.out.2.2 w5)
    have HB5 := Lib.hid (HB4.out.trans (hb5.mono HB4.out.size))
    have HK5 := Lib.hid (HK4.out.below hb5 HK4.out.lt)
    rw [← cbits_lit] at h5
    have HX5 := Lib.hid h5
    have hz5 := hb5.size
    clear h5 hb5
    go_wp2_with fail
    refine C2.out.mono ?_
    rintro e w6 ⟨_, rfl, A1, c1, rfl, h6, hb6⟩
    rw [← cbits_lit] at h6
    obtain ⟨W7, hW7⟩ : ∃ W7, W7 = w6.alloc (.cells #[.slice none 0 0, .int .i64 0, .map none] 27) := ⟨_, rfl⟩
    have hn7 : Below w6.heap.size w6 W7 := by rw [hW7]; exact (Below.refl _ _).alloc (Nat.le_refl _) _
    have h57 : Below w5.heap.size w5 W7 := hb6.trans (hn7.mono hb6.size)
    have hb7 : Below w.heap.size w W7 := HB5.out.trans (h57.mono HB5.out.size)
    have hg7 : GA W7 w6.heap.size w6.heap.size [] := by rw [hW7]; exact ga_new w6 (Nat.le_refl _)
    have x7 : Held W7 w6.heap.size A0 8 (cbits a) := (Held.of_own HX5.out).new h57
    have y7 : Held W7 w6.heap.size A1 8 (cbits b) := (Held.of_own h6).new hn7
    obtain ⟨W8, hW8⟩ : ∃ W8, W8 = W7.alloc (.cells #[.slice A0 8 c0, .slice A1 8 c1] 28) := ⟨_, rfl⟩
    have hn8 : Below W7.heap.size W7 W8 := by rw [hW8]; exact (Below.refl _ _).alloc (Nat.le_refl _) _
    have hb8 : Below w.heap.size w W8 := hb7.trans (hn8.mono hb7.size)
    have hp8 : PartsAt W8 w6.heap.size (some ⟨W7.heap.size, 0, none⟩) [cbits a, cbits b] := by rw [hW8]; exact parts_newF x7 y7
    have CO := Lib.hid (of_div (c := 2) (show _ ∨ _ from HOQ.out) (hg7.new hn8) (HL.out.below hb8 HLB.out) (Nat.le_trans HLB.out hb8.size) hp8 (cbits_len a) (cbits_len b) (cbits_has a []) (cbits_has b []) (by simp))
    have HB8 := Lib.hid hb8
    have HK8 := Lib.hid (((HK5.out.below hb6 HK5.out.lt).below hn7 (HK5.out.below hb6 HK5.out.lt).lt).below hn8 ((HK5.out.below hb6 HK5.out.lt).below hn7 (HK5.out.below hb6 HK5.out.lt).lt).lt)
    have HKL := Lib.hid (show w3.heap.size < w6.heap.size from (HK5.out.below hb6 HK5.out.lt).lt)
    have HSW := Lib.hid (show w.heap.size ≤ w6.heap.size from Nat.le_trans HB5.out.size hb6.size)
    have HS8 := Lib.hid (show w6.heap.size ≤ W8.heap.size from Nat.le_trans hn7.size hn8.size)
    have HW7 := Lib.hid hW7
    have HW8 := Lib.hid hW8
    clear h6 hb6 hW7 hn7 h57 hb7 hg7 x7 y7 hW8 hn8 hb8 hp8
    go_upto_region 10 with fail
    rw [← HW7.out]
    go_wp2_with fail
    rw [← HW8.out]
    refine CO.out.mono ?_
    rintro e w9 ⟨A9, c9, gs', outs, last, rfl, hg9, hc9, ho9, hm9, hl9⟩
    have hbl9 : Below w6.heap.size W8 w9 := GT.below hc9 HS8.out
    have HB9 := Lib.hid (HB8.out.trans (hbl9.mono HSW.out))
    have HK9 := Lib.hid (HK8.out.below hbl9 HKL.out)
    have hins : Gm.ins gs' = 0 := hm9.ext.ins
    have hev : evs [] gs' outs = dB ⟨#[47]⟩ (bitsB a 8) (bitsB b 8) := by rw [hm9.eq, cbits_ev, cbits_ev]
    have hlast : Gm.ev [] gs' last = tb := by rw [hl9.eq, cbits_ev, zero_bits HA.out.2, HV.out.2.2]
    have hol : outs.length = 8 := by have := ho9.1; rw [natVals_length] at this; omega
    have HG9 := Lib.hid hg9
    have HO9 := Lib.hid ho9
    have HLN := Lib.hid (And.intro hins (And.intro hev (And.intro hlast hol)))
    have HAS := Lib.hid (And.intro hm9.all hl9.has)
    have hs89 : W8.heap.size ≤ w9.heap.size := hc9.size
    have hl9x : last ≤ 100000 := by have h1 := hl9.has; have h2 := hl9.len; unfold Gm.has at h1; simp at h2; omega
    clear hg9 hc9 ho9 hm9 hl9 hbl9 hins hev hlast hol
    go_wp2_with (at_builtin; refine wpList_append_sl _ rfl (.tmp 100) (.tmp 102) _ rfl W8.heap.size 29 i0 _ 1 8 Tryd.underlying28 HIN.out.1 HIN.out.2.1 HIN.out.2.2.1 HIN.out.2.2.2 rfl (by omega) _ 8 _ rfl (HO9.out.alloc _) (w9.heap.size + 1) (some ⟨w9.heap.size, 0, none⟩) 1 1 [.int .i64 (last : Nat)] rfl (reads_new rfl (by omega) rfl) (ints_one (by simp)) (le_maxLen (by omega)) (le_bytes (by omega) (by omega)) (by simp; omega) ?_; intro A10 c10 w10 hown10 hg10)
    have hg6 : (w9.alloc (.cells #[.int .i64 (last : Nat)] 29)).grownBy w10 (Value.slice A9 8 c9).ownBlock := hg10
    have HG10 := Lib.hid (HG9.out.row (row_chg HO9.out hg6))
    have HB10 := Lib.hid (own_grown_below HB9.out HO9.out (Nat.le_trans HSW.out HS8.out) hg6)
    have HK10 := Lib.hid ((HK9.out.alloc _).grown hg6 (own_blk_ne HO9.out HK9.out (by decide)).symm)
    have hl9' : (outs ++ [last]).length = 9 := by rw [List.length_append, HLN.out.2.2.2]; rfl
    have CE10 := Lib.hid (show Calls Tryd.prog 18 #[.pointer (some ⟨w6.heap.size, 0, none⟩), .slice none 0 0, .slice A10 9 c10] w10 (EvN w10 ((outs ++ [last]).map (Gm.ev [] gs')) 9) by
      have hown' : w10.ownsRow W8.heap.size 29 1 (.slice A10 9 c10) 9 (natVals (outs ++ [last])) := by rw [natVals_append]; exact hown10
      have h := geval_any (A := none) (c := 0) (c2 := c10) (BR := 0) HG10.out (inp := []) (by rw [HLN.out.1]; rfl) Reads.none_ (Nat.zero_le _) (l := outs ++ [last]) (by rw [hl9']; exact Reads.of_own hown') (Nat.le_refl _) (by rw [hl9']; omega) (fun x hx => by
        rcases List.mem_append.1 hx with hx | hx
        · exact HAS.out.1 x hx
        · rw [List.mem_singleton.1 hx]; exact HAS.out.2)
      rw [hl9'] at h
      exact h.mono fun _ _ k => evg_n (by rw [List.length_map, hl9']) k)
    clear hown10 hg10 hg6
    refine CE10.out.mono ?_
    rintro e w11 ⟨A11, c11, rfl, ho11, hb11⟩
    obtain ⟨gv, rfl, _, _⟩ := own_some ho11 (by omega)
    obtain ⟨u8, hu8, c8⟩ := own_cell (k := 8) ho11 (by omega)
    obtain rfl : Value.bool tb = u8 := by
      have h1 : ((outs ++ [last]).map (Gm.ev [] gs'))[8]? = some tb := by
        rw [List.getElem?_map, List.getElem?_append_right (by rw [HLN.out.2.2.2]; omega), HLN.out.2.2.2]
        simp [HLN.out.2.2.1]
      unfold boolVals at hu8
      rw [List.getElem?_map, h1] at hu8
      simpa using hu8
    have hcap := own_capF ho11 (by omega)
    have hcapI : (8 : Int) ≤ (c11 : Int) := by omega
    have ht8 := own_take (n := 8) ho11 (by omega) (by omega)
    have hbits : (boolVals ((outs ++ [last]).map (Gm.ev [] gs'))).take 8 = boolVals (evs [] gs' outs) := by
      unfold boolVals evs
      rw [← List.map_take, ← List.map_take, List.take_append_of_le_length (by rw [HLN.out.2.2.2]; omega), List.take_of_length_le (by rw [HLN.out.2.2.2]; omega)]
    rw [hbits] at ht8
    have HB11 := Lib.hid (HB10.out.trans (hb11.mono HB10.out.size))
    have HK11 := Lib.hid (HK10.out.below hb11 HK10.out.lt)
    have HT8 := Lib.hid ht8
    clear ho11 hb11 hu8 hcap ht8 hbits hl9'
    cases tb with
    | true =>
      have hb0 : (b == 0) = true := HV.out.2.2
      go_wp2_with fail
      go_ret
      exact ⟨rfl, HB11.out⟩
    | false =>
      have hb0 : b ≠ 0 := by have := HV.out.2.2; simpa using this
      have hrep := div_rep (op := ⟨#[47]⟩) HA.out.1 HA.out.2 hb0
      rw [← HLN.out.2.1] at hrep
      have hk2 : kv = 2 := by have := HV.out.1; unfold fvK at this; rw [if_neg hb0] at this; exact this.symm
      have hn2 : nv = i8 (dOf ⟨#[47]⟩ a b) := by have := HV.out.2.1; unfold fvN at this; rw [if_neg hb0] at this; exact this.symm
      have hel : (evs [] gs' outs).length = 8 := hrep.1
      have CV := value_any (p := p) (c := c11) (l := evs [] gs' outs) ((HB11.out.cell (p := ⟨0, 0, none⟩) HE.out.2).trans HE.out.1) (by omega) (by rw [hel]; exact Reads.of_own HT8.out)
      rw [val_rep hrep, if_pos (.inr hel), ← hn2, hel] at CV
      have CV := Lib.hid CV
      have q0 := HK11.out.cell 0
      have q1 := HK11.out.cell 1
      subst hk2
      clear hb0 hrep hn2 hel
      go_wp2_with fail
      refine CV.out.mono ?_
      rintro e w12 ⟨rfl, hb12⟩
      have k12 := HK11.out.below hb12 HK11.out.lt
      obtain ⟨W13, hW13⟩ : ∃ W13, W13 = w12.alloc (.cells #[.int .i64 2, .int .i64 nv] 45) := ⟨_, rfl⟩
      have z13 : Blk W13 w12.heap.size 45 #[.int .i64 2, .int .i64 nv] := by rw [hW13]; exact Blk.new w12 _ _
      have k13 : Blk W13 w3.heap.size 45 #[.int .i64 2, .int .i64 nv] := by rw [hW13]; exact k12.alloc _
      have HB13 := Lib.hid (show Below w.heap.size w W13 by rw [hW13]; exact (HB11.out.trans (hb12.mono HB11.out.size)).alloc (Nat.le_trans HB11.out.size hb12.size) _)
      have y0 := z13.cell 0
      have y1 := z13.cell 1
      have v0 := k13.cell 0
      have v1 := k13.cell 1
      have HW13 := Lib.hid hW13
      clear hb12 k12 hW13 z13 k13 q0 q1
      go_upto_region 19 with fail
      rw [← HW13.out]
      go_wp2_with fail
      go_ret
      exact ⟨rfl, HB13.out⟩
  · go_enter Tryd.func4, Tryd.ntmps4
    go_wp2_with fail
    refine CE.out.mono ?_
    rintro e w1 ⟨rfl, hb1⟩
    obtain ⟨W2, hW2⟩ : ∃ W2, W2 = w1.alloc (.cells #[.int .i64 2, .int .i64 a, .int .i64 2, .int .i64 b] 45) := ⟨_, rfl⟩
    have hb2 : Below w.heap.size w W2 := by rw [hW2]; exact hb1.alloc hb1.size _
    have k2 : Blk W2 w1.heap.size 45 #[.int .i64 2, .int .i64 a, .int .i64 2, .int .i64 b] := by rw [hW2]; exact Blk.new w1 _ _
    have CA := Lib.hid (fApply_two HOQ.out (HL.out.below hb2 HLB.out) (Nat.le_trans HLB.out hb2.size) k2 HA.out.1 HA.out.2)
    have HB2 := Lib.hid hb2
    have HW2 := Lib.hid hW2
    clear hb1 hW2 hb2 k2
    go_wp2_with fail
    rw [← HW2.out]
    refine CA.out.mono ?_
    rintro e w3 ⟨rfl, hb3⟩
    obtain ⟨kv, hkv⟩ : ∃ kv, fvK b = kv := ⟨_, rfl⟩
    obtain ⟨nv, hnv⟩ : ∃ nv, fvN ⟨#[109, 111, 100]⟩ a b = nv := ⟨_, rfl⟩
    obtain ⟨tb, htb⟩ : ∃ tb, (b == 0) = tb := ⟨_, rfl⟩
    rw [hkv, hnv, htb]
    obtain ⟨W4, hW4⟩ : ∃ W4, W4 = w3.alloc (.cells #[.int .i64 kv, .int .i64 nv] 45) := ⟨_, rfl⟩
    have hb4 : Below w.heap.size w W4 := by rw [hW4]; exact (HB2.out.trans (hb3.mono HB2.out.size)).alloc (Nat.le_trans HB2.out.size hb3.size) _
    have k4 : Blk W4 w3.heap.size 45 #[.int .i64 kv, .int .i64 nv] := by rw [hW4]; exact Blk.new w3 _ _
    have C1 := Lib.hid (const_any (n := a) HA.out.1.1 HA.out.1.2 W4)
    have HV := Lib.hid (And.intro hkv (And.intro hnv htb))
    have HB4 := Lib.hid hb4
    have HK4 := Lib.hid k4
    have HW4 := Lib.hid hW4
    clear hb3 hkv hnv htb hW4 hb4 k4
    go_upto_region 5 with fail
    rw [← HW4.out]
    go_wp2_with fail
    refine C1.out.mono ?_
    rintro e w5 ⟨_, rfl, A0, c0, rfl, h5, hb5⟩
    have C2 := Lib.hid (const_any (n := b) HA.out.2.1 HA.out.2.2 w5)
    have HB5 := Lib.hid (HB4.out.trans (hb5.mono HB4.out.size))
    have HK5 := Lib.hid (HK4.out.below hb5 HK4.out.lt)
    rw [← cbits_lit] at h5
    have HX5 := Lib.hid h5
    have hz5 := hb5.size
    clear h5 hb5
    go_wp2_with fail
    refine C2.out.mono ?_
    rintro e w6 ⟨_, rfl, A1, c1, rfl, h6, hb6⟩
    rw [← cbits_lit] at h6
    obtain ⟨W7, hW7⟩ : ∃ W7, W7 = w6.alloc (.cells #[.slice none 0 0, .int .i64 0, .map none] 27) := ⟨_, rfl⟩
    have hn7 : Below w6.heap.size w6 W7 := by rw [hW7]; exact (Below.refl _ _).alloc (Nat.le_refl _) _
    have h57 : Below w5.heap.size w5 W7 := hb6.trans (hn7.mono hb6.size)
    have hb7 : Below w.heap.size w W7 := HB5.out.trans (h57.mono HB5.out.size)
    have hg7 : GA W7 w6.heap.size w6.heap.size [] := by rw [hW7]; exact ga_new w6 (Nat.le_refl _)
    have x7 : Held W7 w6.heap.size A0 8 (cbits a) := (Held.of_own HX5.out).new h57
    have y7 : Held W7 w6.heap.size A1 8 (cbits b) := (Held.of_own h6).new hn7
    obtain ⟨W8, hW8⟩ : ∃ W8, W8 = W7.alloc (.cells #[.slice A0 8 c0, .slice A1 8 c1] 28) := ⟨_, rfl⟩
    have hn8 : Below W7.heap.size W7 W8 := by rw [hW8]; exact (Below.refl _ _).alloc (Nat.le_refl _) _
    have hb8 : Below w.heap.size w W8 := hb7.trans (hn8.mono hb7.size)
    have hp8 : PartsAt W8 w6.heap.size (some ⟨W7.heap.size, 0, none⟩) [cbits a, cbits b] := by rw [hW8]; exact parts_newF x7 y7
    have CO := Lib.hid (of_div (c := 2) (show _ ∨ _ from HOQ.out) (hg7.new hn8) (HL.out.below hb8 HLB.out) (Nat.le_trans HLB.out hb8.size) hp8 (cbits_len a) (cbits_len b) (cbits_has a []) (cbits_has b []) (by simp))
    have HB8 := Lib.hid hb8
    have HK8 := Lib.hid (((HK5.out.below hb6 HK5.out.lt).below hn7 (HK5.out.below hb6 HK5.out.lt).lt).below hn8 ((HK5.out.below hb6 HK5.out.lt).below hn7 (HK5.out.below hb6 HK5.out.lt).lt).lt)
    have HKL := Lib.hid (show w3.heap.size < w6.heap.size from (HK5.out.below hb6 HK5.out.lt).lt)
    have HSW := Lib.hid (show w.heap.size ≤ w6.heap.size from Nat.le_trans HB5.out.size hb6.size)
    have HS8 := Lib.hid (show w6.heap.size ≤ W8.heap.size from Nat.le_trans hn7.size hn8.size)
    have HW7 := Lib.hid hW7
    have HW8 := Lib.hid hW8
    clear h6 hb6 hW7 hn7 h57 hb7 hg7 x7 y7 hW8 hn8 hb8 hp8
    go_upto_region 10 with fail
    rw [← HW7.out]
    go_wp2_with fail
    rw [← HW8.out]
    refine CO.out.mono ?_
    rintro e w9 ⟨A9, c9, gs', outs, last, rfl, hg9, hc9, ho9, hm9, hl9⟩
    have hbl9 : Below w6.heap.size W8 w9 := GT.below hc9 HS8.out
    have HB9 := Lib.hid (HB8.out.trans (hbl9.mono HSW.out))
    have HK9 := Lib.hid (HK8.out.below hbl9 HKL.out)
    have hins : Gm.ins gs' = 0 := hm9.ext.ins
    have hev : evs [] gs' outs = dB ⟨#[109, 111, 100]⟩ (bitsB a 8) (bitsB b 8) := by rw [hm9.eq, cbits_ev, cbits_ev]
    have hlast : Gm.ev [] gs' last = tb := by rw [hl9.eq, cbits_ev, zero_bits HA.out.2, HV.out.2.2]
    have hol : outs.length = 8 := by have := ho9.1; rw [natVals_length] at this; omega
    have HG9 := Lib.hid hg9
    have HO9 := Lib.hid ho9
    have HLN := Lib.hid (And.intro hins (And.intro hev (And.intro hlast hol)))
    have HAS := Lib.hid (And.intro hm9.all hl9.has)
    have hs89 : W8.heap.size ≤ w9.heap.size := hc9.size
    have hl9x : last ≤ 100000 := by have h1 := hl9.has; have h2 := hl9.len; unfold Gm.has at h1; simp at h2; omega
    clear hg9 hc9 ho9 hm9 hl9 hbl9 hins hev hlast hol
    go_wp2_with (at_builtin; refine wpList_append_sl _ rfl (.tmp 100) (.tmp 102) _ rfl W8.heap.size 29 i0 _ 1 8 Tryd.underlying28 HIN.out.1 HIN.out.2.1 HIN.out.2.2.1 HIN.out.2.2.2 rfl (by omega) _ 8 _ rfl (HO9.out.alloc _) (w9.heap.size + 1) (some ⟨w9.heap.size, 0, none⟩) 1 1 [.int .i64 (last : Nat)] rfl (reads_new rfl (by omega) rfl) (ints_one (by simp)) (le_maxLen (by omega)) (le_bytes (by omega) (by omega)) (by simp; omega) ?_; intro A10 c10 w10 hown10 hg10)
    have hg6 : (w9.alloc (.cells #[.int .i64 (last : Nat)] 29)).grownBy w10 (Value.slice A9 8 c9).ownBlock := hg10
    have HG10 := Lib.hid (HG9.out.row (row_chg HO9.out hg6))
    have HB10 := Lib.hid (own_grown_below HB9.out HO9.out (Nat.le_trans HSW.out HS8.out) hg6)
    have HK10 := Lib.hid ((HK9.out.alloc _).grown hg6 (own_blk_ne HO9.out HK9.out (by decide)).symm)
    have hl9' : (outs ++ [last]).length = 9 := by rw [List.length_append, HLN.out.2.2.2]; rfl
    have CE10 := Lib.hid (show Calls Tryd.prog 18 #[.pointer (some ⟨w6.heap.size, 0, none⟩), .slice none 0 0, .slice A10 9 c10] w10 (EvN w10 ((outs ++ [last]).map (Gm.ev [] gs')) 9) by
      have hown' : w10.ownsRow W8.heap.size 29 1 (.slice A10 9 c10) 9 (natVals (outs ++ [last])) := by rw [natVals_append]; exact hown10
      have h := geval_any (A := none) (c := 0) (c2 := c10) (BR := 0) HG10.out (inp := []) (by rw [HLN.out.1]; rfl) Reads.none_ (Nat.zero_le _) (l := outs ++ [last]) (by rw [hl9']; exact Reads.of_own hown') (Nat.le_refl _) (by rw [hl9']; omega) (fun x hx => by
        rcases List.mem_append.1 hx with hx | hx
        · exact HAS.out.1 x hx
        · rw [List.mem_singleton.1 hx]; exact HAS.out.2)
      rw [hl9'] at h
      exact h.mono fun _ _ k => evg_n (by rw [List.length_map, hl9']) k)
    clear hown10 hg10 hg6
    refine CE10.out.mono ?_
    rintro e w11 ⟨A11, c11, rfl, ho11, hb11⟩
    obtain ⟨gv, rfl, _, _⟩ := own_some ho11 (by omega)
    obtain ⟨u8, hu8, c8⟩ := own_cell (k := 8) ho11 (by omega)
    obtain rfl : Value.bool tb = u8 := by
      have h1 : ((outs ++ [last]).map (Gm.ev [] gs'))[8]? = some tb := by
        rw [List.getElem?_map, List.getElem?_append_right (by rw [HLN.out.2.2.2]; omega), HLN.out.2.2.2]
        simp [HLN.out.2.2.1]
      unfold boolVals at hu8
      rw [List.getElem?_map, h1] at hu8
      simpa using hu8
    have hcap := own_capF ho11 (by omega)
    have hcapI : (8 : Int) ≤ (c11 : Int) := by omega
    have ht8 := own_take (n := 8) ho11 (by omega) (by omega)
    have hbits : (boolVals ((outs ++ [last]).map (Gm.ev [] gs'))).take 8 = boolVals (evs [] gs' outs) := by
      unfold boolVals evs
      rw [← List.map_take, ← List.map_take, List.take_append_of_le_length (by rw [HLN.out.2.2.2]; omega), List.take_of_length_le (by rw [HLN.out.2.2.2]; omega)]
    rw [hbits] at ht8
    have HB11 := Lib.hid (HB10.out.trans (hb11.mono HB10.out.size))
    have HK11 := Lib.hid (HK10.out.below hb11 HK10.out.lt)
    have HT8 := Lib.hid ht8
    clear ho11 hb11 hu8 hcap ht8 hbits hl9'
    cases tb with
    | true =>
      have hb0 : (b == 0) = true := HV.out.2.2
      go_wp2_with fail
      go_ret
      exact ⟨rfl, HB11.out⟩
    | false =>
      have hb0 : b ≠ 0 := by have := HV.out.2.2; simpa using this
      have hrep := div_rep (op := ⟨#[109, 111, 100]⟩) HA.out.1 HA.out.2 hb0
      rw [← HLN.out.2.1] at hrep
      have hk2 : kv = 2 := by have := HV.out.1; unfold fvK at this; rw [if_neg hb0] at this; exact this.symm
      have hn2 : nv = i8 (dOf ⟨#[109, 111, 100]⟩ a b) := by have := HV.out.2.1; unfold fvN at this; rw [if_neg hb0] at this; exact this.symm
      have hel : (evs [] gs' outs).length = 8 := hrep.1
      have CV := value_any (p := p) (c := c11) (l := evs [] gs' outs) ((HB11.out.cell (p := ⟨0, 0, none⟩) HE.out.2).trans HE.out.1) (by omega) (by rw [hel]; exact Reads.of_own HT8.out)
      rw [val_rep hrep, if_pos (.inr hel), ← hn2, hel] at CV
      have CV := Lib.hid CV
      have q0 := HK11.out.cell 0
      have q1 := HK11.out.cell 1
      subst hk2
      clear hb0 hrep hn2 hel
      go_wp2_with fail
      refine CV.out.mono ?_
      rintro e w12 ⟨rfl, hb12⟩
      have k12 := HK11.out.below hb12 HK11.out.lt
      obtain ⟨W13, hW13⟩ : ∃ W13, W13 = w12.alloc (.cells #[.int .i64 2, .int .i64 nv] 45) := ⟨_, rfl⟩
      have z13 : Blk W13 w12.heap.size 45 #[.int .i64 2, .int .i64 nv] := by rw [hW13]; exact Blk.new w12 _ _
      have k13 : Blk W13 w3.heap.size 45 #[.int .i64 2, .int .i64 nv] := by rw [hW13]; exact k12.alloc _
      have HB13 := Lib.hid (show Below w.heap.size w W13 by rw [hW13]; exact (HB11.out.trans (hb12.mono HB11.out.size)).alloc (Nat.le_trans HB11.out.size hb12.size) _)
      have y0 := z13.cell 0
      have y1 := z13.cell 1
      have v0 := k13.cell 0
      have v1 := k13.cell 1
      have HW13 := Lib.hid hW13
      clear hb12 k12 hW13 z13 k13 q0 q1
      go_upto_region 19 with fail
      rw [← HW13.out]
      go_wp2_with fail
      go_ret
      exact ⟨rfl, HB13.out⟩
end Go.Proofs.YtmbjhpgemphmmaaDoor
