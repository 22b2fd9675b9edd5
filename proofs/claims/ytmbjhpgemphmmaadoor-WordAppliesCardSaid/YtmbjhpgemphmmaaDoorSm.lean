/-
  WALKS of the document's Truth, Around, ApplyOf.
-/
import Derived.Test.YtmbjhpgemphmmaaDoorVp
import Derived.Test.YtmbjhpgemphmmaaDoorSt
import Derived.StillTailTactics
import Derived.Deep.DeepCutAuto
namespace Go.Proofs.YtmbjhpgemphmmaaDoor
open Go.RowKit
def TrP (w : World) (b : Bool) (e : Ending) (w' : World) : Prop := e = .returned (.agg #[.int .i64 1, .int .i64 (truthN b)]) ∧ w' = w.alloc (.cells #[.int .i64 1, .int .i64 (truthN b)] 45)
theorem truth_any (w : World) (b : Bool) : Calls Tryd.prog 53 #[.bool b] w (TrP w b) := by
  cases b with
  | true =>
    go_enter Tryd.func53, Tryd.ntmps53
    go_wp2
    exact bodyPost_ret (v := .agg #[.int .i64 1, .int .i64 1]) (by simp [results, Tryd.results53, go_sem]) rfl ⟨rfl, rfl⟩
  | false =>
    go_enter Tryd.func53, Tryd.ntmps53
    go_wp2
    exact bodyPost_ret (v := .agg #[.int .i64 1, .int .i64 0]) (by simp [results, Tryd.results53, go_sem]) rfl ⟨rfl, rfl⟩
def AoP (w : World) (n : Int) (e : Ending) (w' : World) : Prop := e = .returned (.int .i64 (i8 n)) ∧ w = w'
theorem tmod_parts (n : Int) : ∃ q t : Int, n.tmod 256 = t ∧ n = 256 * q + t ∧ -256 < t ∧ t < 256 := by
  refine ⟨n.tdiv 256, n.tmod 256, rfl, by have := Int.mul_tdiv_add_tmod n 256; omega, ?_, ?_⟩
  · have h := Int.natAbs_tmod n 256
    have h2 := Nat.mod_lt n.natAbs (show 0 < (256 : Int).natAbs by decide)
    have h3 : (256 : Int).natAbs = 256 := rfl
    omega
  · have h := Int.natAbs_tmod n 256
    have h2 := Nat.mod_lt n.natAbs (show 0 < (256 : Int).natAbs by decide)
    have h3 : (256 : Int).natAbs = 256 := rfl
    omega
theorem around_any (w : World) (n : Int) : Calls Tryd.prog 54 #[.int .i64 n] w (AoP w n) := by
  obtain ⟨q, t, ht, hn, hl, hh⟩ := tmod_parts n
  have hw : IntKind.i64.wrap t = t := by rw [IntKind.wrap_i64]; omega
  by_cases h0 : t < 0
  · have e0 : decide (t < 0) = true := decide_eq_true h0
    by_cases h1 : 127 < t + 256
    · have e1 : decide (127 < t + 256) = true := decide_eq_true h1
      have HV := Lib.hid (show i8 n = t by unfold i8; omega)
      clear h0 h1 hn
      go_enter Tryd.func54, Tryd.ntmps54
      go_wp2
      go_ret
      exact ⟨by rw [HV.out]; rfl, rfl⟩
    · have e1 : decide (127 < t + 256) = false := decide_eq_false h1
      have HV := Lib.hid (show i8 n = t + 256 by unfold i8; omega)
      clear h0 h1 hn
      go_enter Tryd.func54, Tryd.ntmps54
      go_wp2
      go_ret
      exact ⟨by rw [HV.out]; rfl, rfl⟩
  · have e0 : decide (t < 0) = false := decide_eq_false h0
    by_cases h1 : 127 < t
    · have e1 : decide (127 < t) = true := decide_eq_true h1
      have HV := Lib.hid (show i8 n = t - 256 by unfold i8; omega)
      clear h0 h1 hn
      go_enter Tryd.func54, Tryd.ntmps54
      go_wp2
      go_ret
      exact ⟨by rw [HV.out]; rfl, rfl⟩
    · have e1 : decide (127 < t) = false := decide_eq_false h1
      have HV := Lib.hid (show i8 n = t by unfold i8; omega)
      clear h0 h1 hn
      go_enter Tryd.func54, Tryd.ntmps54
      go_wp2
      go_ret
      exact ⟨by rw [HV.out]; rfl, rfl⟩
/-- ApplyOf's answer -/
def ApO (w : World) (r : (Int × Int) × Bool) (e : Ending) (w' : World) : Prop := e = .returned (.tuple #[.agg #[.int .i64 r.1.1, .int .i64 r.1.2], .bool r.2]) ∧ Below w.heap.size w w'
theorem bal {w w' : World} (h : Below w.heap.size w w') (o : Obj) : Below w.heap.size w (w'.alloc o) := h.alloc h.size o
theorem wrap8 {x : Int} (h : -100000 ≤ x ∧ x ≤ 100000) : IntKind.i64.wrap x = x := by rw [IntKind.wrap_i64]; omega
theorem mul8 {a b : Int} (ha : small8 a) (hb : small8 b) : -100000 ≤ a * b ∧ a * b ≤ 100000 := by
  unfold small8 at ha hb
  have h : (a * b).natAbs ≤ 128 * 128 := by rw [Int.natAbs_mul]; exact Nat.mul_le_mul (by omega) (by omega)
  omega
theorem quo8 {a b : Int} (ha : small8 a) : -128 ≤ a.tdiv b ∧ a.tdiv b ≤ 128 := by
  unfold small8 at ha
  have h : (a.tdiv b).natAbs ≤ a.natAbs := by rw [Int.natAbs_tdiv]; exact Nat.div_le_self _ _
  omega
theorem qmul8 {a b : Int} (ha : small8 a) : -128 ≤ a.tdiv b * b ∧ a.tdiv b * b ≤ 128 := by
  unfold small8 at ha
  have h : (a.tdiv b * b).natAbs ≤ a.natAbs := by rw [Int.natAbs_mul, Int.natAbs_tdiv]; exact Nat.div_mul_le_self _ _
  omega
set_option maxRecDepth 100000 in
theorem app_0 {w : World} {ad : Addr} {c : Nat} {k0 n0 : Int} (h0 : w.cell? ad = some (.int .i64 k0)) (g0 : w.cell? ⟨ad.block, ad.off + 1, none⟩ = some (.int .i64 n0)) {q : Bool} (hq : (n0 == 0) = q) :
    Calls Tryd.prog 24 #[.string ⟨#[110, 111, 116]⟩, .slice (some ad) 1 c] w (ApO w ((1, truthN q), false)) := by
  have hlt := World.block_lt_of_cell? w _ h0
  go_enter Tryd.func24, Tryd.ntmps24
  go_wp2_with fail
  refine (truth_any _ _).mono ?_
  rintro e w4 ⟨rfl, rfl⟩
  go_wp2_with fail
  exact bodyPost_ret (v := .tuple #[.agg #[.int .i64 1, .int .i64 (truthN q)], .bool false]) (by simp [results, Tryd.results24, go_sem]) rfl ⟨rfl, (bal (bal (bal (bal (Below.refl _ _) _) _) _) _)⟩
set_option maxRecDepth 100000 in
theorem app_1 {w : World} {ad : Addr} {c : Nat} {k0 n0 : Int} (h0 : w.cell? ad = some (.int .i64 k0)) (g0 : w.cell? ⟨ad.block, ad.off + 1, none⟩ = some (.int .i64 n0)) (s0 : small8 n0) :
    Calls Tryd.prog 24 #[.string ⟨#[110, 101, 103]⟩, .slice (some ad) 1 c] w (ApO w ((2, i8 (256 - n0)), false)) := by
  have hw := wrap8 (x := 256 - n0) (by unfold small8 at s0; omega)
  clear s0
  have hlt := World.block_lt_of_cell? w _ h0
  go_enter Tryd.func24, Tryd.ntmps24
  go_wp2_with fail
  refine (around_any _ _).mono ?_
  rintro e w4 ⟨rfl, rfl⟩
  go_wp2_with fail
  exact bodyPost_ret (v := .tuple #[.agg #[.int .i64 2, .int .i64 (i8 (256 - n0))], .bool false]) (by simp [results, Tryd.results24, go_sem]) rfl ⟨rfl, (bal (bal (bal (Below.refl _ _) _) _) _)⟩
set_option maxRecDepth 100000 in
theorem app_2t {w : World} {ad : Addr} {c : Nat} {k0 n0 k1 n1 k2 n2 : Int} (h0 : w.cell? ad = some (.int .i64 k0)) (g0 : w.cell? ⟨ad.block, ad.off + 1, none⟩ = some (.int .i64 n0)) (h1 : w.cell? ⟨ad.block, ad.off + 2, none⟩ = some (.int .i64 k1)) (g1 : w.cell? ⟨ad.block, ad.off + 3, none⟩ = some (.int .i64 n1)) (h2 : w.cell? ⟨ad.block, ad.off + 4, none⟩ = some (.int .i64 k2)) (g2 : w.cell? ⟨ad.block, ad.off + 5, none⟩ = some (.int .i64 n2)) (hq : (n0 == 1) = true) :
    Calls Tryd.prog 24 #[.string ⟨#[105, 102]⟩, .slice (some ad) 3 c] w (ApO w ((k1, n1), false)) := by
  obtain ⟨W1, hW1⟩ : ∃ W1, W1 = ((w.alloc (.cells #[.int .i64 0, .int .i64 0] 45)).alloc (.cells #[.int .i64 k0, .int .i64 n0] 45)).alloc (.cells #[.int .i64 k2, .int .i64 n2] 45) := ⟨_, rfl⟩
  have z4 : Blk W1 w.heap.size 45 #[.int .i64 0, .int .i64 0] := by rw [hW1]; exact ((Blk.new w _ _).alloc _).alloc _
  have z6 : Blk W1 (w.heap.size + 1) 45 #[.int .i64 k0, .int .i64 n0] := by rw [hW1]; exact (show Blk _ (w.heap.size + 1) _ _ by have h := Blk.new (w.alloc (.cells #[.int .i64 0, .int .i64 0] 45)) 45 #[.int .i64 k0, .int .i64 n0]; simpa using h).alloc _
  have z7 : Blk W1 (w.heap.size + 1 + 1) 45 #[.int .i64 k2, .int .i64 n2] := by rw [hW1]; have h := Blk.new ((w.alloc (.cells #[.int .i64 0, .int .i64 0] 45)).alloc (.cells #[.int .i64 k0, .int .i64 n0] 45)) 45 #[.int .i64 k2, .int .i64 n2]; simpa using h
  have HB1 := Lib.hid (show Below w.heap.size w W1 by rw [hW1]; exact bal (bal (bal (Below.refl _ _) _) _) _)
  have HZ4 := Lib.hid z4
  have HZ6 := Lib.hid z6
  have HZ7 := Lib.hid z7
  have HW1 := Lib.hid hW1
  clear z4 z6 z7 hW1
  have hlt := World.block_lt_of_cell? w _ h0
  go_enter Tryd.func24, Tryd.ntmps24
  go_upto_region 10 with fail
  rw [← HW1.out]
  have x0 := (HB1.out.cell (p := ⟨ad.block, ad.off + 2, none⟩) hlt).trans h1
  have x1 := (HB1.out.cell (p := ⟨ad.block, ad.off + 3, none⟩) hlt).trans g1
  have y0 := HZ4.out.cell 0
  have y1 := HZ4.out.cell 1
  have f0 := HZ4.out.frozen 0
  have f1 := HZ4.out.frozen 1
  obtain ⟨W9, hW9⟩ : ∃ W9, W9 = (W1.setCell ⟨w.heap.size, 0, none⟩ (.int .i64 k1)).setCell ⟨w.heap.size, 1, none⟩ (.int .i64 n1) := ⟨_, rfl⟩
  have x9 : Blk W9 w.heap.size 45 #[.int .i64 k1, .int .i64 n1] := by rw [hW9]; exact (HZ4.out.set_ 0 _).set_ 1 _
  have HB9 := Lib.hid (show Below w.heap.size w W9 by rw [hW9]; exact (HB1.out.setCell (Nat.le_refl _) _).setCell (Nat.le_refl _) _)
  have x90 := x9.cell 0
  have x91 := x9.cell 1
  have HW9 := Lib.hid hW9
  clear hW9 x9
  go_wp2_with fail
  rw [← HW9.out]
  exact bodyPost_ret (v := .tuple #[.agg #[.int .i64 k1, .int .i64 n1], .bool false]) (by simp [results, Tryd.results24, go_sem, x90, x91]) rfl ⟨rfl, HB9.out⟩
set_option maxRecDepth 100000 in
theorem app_2f {w : World} {ad : Addr} {c : Nat} {k0 n0 k1 n1 k2 n2 : Int} (h0 : w.cell? ad = some (.int .i64 k0)) (g0 : w.cell? ⟨ad.block, ad.off + 1, none⟩ = some (.int .i64 n0)) (_h1 : w.cell? ⟨ad.block, ad.off + 2, none⟩ = some (.int .i64 k1)) (_g1 : w.cell? ⟨ad.block, ad.off + 3, none⟩ = some (.int .i64 n1)) (h2 : w.cell? ⟨ad.block, ad.off + 4, none⟩ = some (.int .i64 k2)) (g2 : w.cell? ⟨ad.block, ad.off + 5, none⟩ = some (.int .i64 n2)) (hq : (n0 == 1) = false) :
    Calls Tryd.prog 24 #[.string ⟨#[105, 102]⟩, .slice (some ad) 3 c] w (ApO w ((k2, n2), false)) := by
  have hlt := World.block_lt_of_cell? w _ h0
  go_enter Tryd.func24, Tryd.ntmps24
  go_wp2_with fail
  exact bodyPost_ret (v := .tuple #[.agg #[.int .i64 k2, .int .i64 n2], .bool false]) (by simp [results, Tryd.results24, go_sem]) rfl ⟨rfl, (bal (bal (bal (Below.refl _ _) _) _) _)⟩
set_option maxRecDepth 100000 in
theorem app_3 {w : World} {ad : Addr} {c : Nat} {k0 n0 k1 n1 : Int} (h0 : w.cell? ad = some (.int .i64 k0)) (g0 : w.cell? ⟨ad.block, ad.off + 1, none⟩ = some (.int .i64 n0)) (h1 : w.cell? ⟨ad.block, ad.off + 2, none⟩ = some (.int .i64 k1)) (g1 : w.cell? ⟨ad.block, ad.off + 3, none⟩ = some (.int .i64 n1)) (s0 : small8 n0) (s1 : small8 n1) {q : Bool} (hq : (n0 + n1 == 2) = q) :
    Calls Tryd.prog 24 #[.string ⟨#[97, 110, 100]⟩, .slice (some ad) 2 c] w (ApO w ((1, truthN q), false)) := by
  have hw := wrap8 (x := n0 + n1) (by unfold small8 at s0 s1; omega)
  clear s0 s1
  have hlt := World.block_lt_of_cell? w _ h0
  go_enter Tryd.func24, Tryd.ntmps24
  go_wp2_with fail
  refine (truth_any _ _).mono ?_
  rintro e w4 ⟨rfl, rfl⟩
  go_wp2_with fail
  exact bodyPost_ret (v := .tuple #[.agg #[.int .i64 1, .int .i64 (truthN q)], .bool false]) (by simp [results, Tryd.results24, go_sem]) rfl ⟨rfl, (bal (bal (bal (bal (Below.refl _ _) _) _) _) _)⟩
set_option maxRecDepth 100000 in
theorem app_4 {w : World} {ad : Addr} {c : Nat} {k0 n0 k1 n1 : Int} (h0 : w.cell? ad = some (.int .i64 k0)) (g0 : w.cell? ⟨ad.block, ad.off + 1, none⟩ = some (.int .i64 n0)) (h1 : w.cell? ⟨ad.block, ad.off + 2, none⟩ = some (.int .i64 k1)) (g1 : w.cell? ⟨ad.block, ad.off + 3, none⟩ = some (.int .i64 n1)) (s0 : small8 n0) (s1 : small8 n1) {q : Bool} (hq : decide (0 < n0 + n1) = q) :
    Calls Tryd.prog 24 #[.string ⟨#[111, 114]⟩, .slice (some ad) 2 c] w (ApO w ((1, truthN q), false)) := by
  have hw := wrap8 (x := n0 + n1) (by unfold small8 at s0 s1; omega)
  clear s0 s1
  have hlt := World.block_lt_of_cell? w _ h0
  go_enter Tryd.func24, Tryd.ntmps24
  go_wp2_with fail
  refine (truth_any _ _).mono ?_
  rintro e w4 ⟨rfl, rfl⟩
  go_wp2_with fail
  exact bodyPost_ret (v := .tuple #[.agg #[.int .i64 1, .int .i64 (truthN q)], .bool false]) (by simp [results, Tryd.results24, go_sem]) rfl ⟨rfl, (bal (bal (bal (bal (Below.refl _ _) _) _) _) _)⟩
set_option maxRecDepth 100000 in
theorem app_5 {w : World} {ad : Addr} {c : Nat} {k0 n0 k1 n1 : Int} (h0 : w.cell? ad = some (.int .i64 k0)) (g0 : w.cell? ⟨ad.block, ad.off + 1, none⟩ = some (.int .i64 n0)) (h1 : w.cell? ⟨ad.block, ad.off + 2, none⟩ = some (.int .i64 k1)) (g1 : w.cell? ⟨ad.block, ad.off + 3, none⟩ = some (.int .i64 n1)) (s0 : small8 n0) (s1 : small8 n1) {q : Bool} (hq : (n0 + n1 == 1) = q) :
    Calls Tryd.prog 24 #[.string ⟨#[120, 111, 114]⟩, .slice (some ad) 2 c] w (ApO w ((1, truthN q), false)) := by
  have hw := wrap8 (x := n0 + n1) (by unfold small8 at s0 s1; omega)
  clear s0 s1
  have hlt := World.block_lt_of_cell? w _ h0
  go_enter Tryd.func24, Tryd.ntmps24
  go_wp2_with fail
  refine (truth_any _ _).mono ?_
  rintro e w4 ⟨rfl, rfl⟩
  go_wp2_with fail
  exact bodyPost_ret (v := .tuple #[.agg #[.int .i64 1, .int .i64 (truthN q)], .bool false]) (by simp [results, Tryd.results24, go_sem]) rfl ⟨rfl, (bal (bal (bal (bal (Below.refl _ _) _) _) _) _)⟩
set_option maxRecDepth 100000 in
theorem app_6 {w : World} {ad : Addr} {c : Nat} {k0 n0 k1 n1 : Int} (h0 : w.cell? ad = some (.int .i64 k0)) (g0 : w.cell? ⟨ad.block, ad.off + 1, none⟩ = some (.int .i64 n0)) (h1 : w.cell? ⟨ad.block, ad.off + 2, none⟩ = some (.int .i64 k1)) (g1 : w.cell? ⟨ad.block, ad.off + 3, none⟩ = some (.int .i64 n1)) {q : Bool} (hq : decide (n0 ≤ n1) = q) :
    Calls Tryd.prog 24 #[.string ⟨#[61, 62]⟩, .slice (some ad) 2 c] w (ApO w ((1, truthN q), false)) := by
  have hlt := World.block_lt_of_cell? w _ h0
  go_enter Tryd.func24, Tryd.ntmps24
  go_wp2_with fail
  refine (truth_any _ _).mono ?_
  rintro e w4 ⟨rfl, rfl⟩
  go_wp2_with fail
  exact bodyPost_ret (v := .tuple #[.agg #[.int .i64 1, .int .i64 (truthN q)], .bool false]) (by simp [results, Tryd.results24, go_sem]) rfl ⟨rfl, (bal (bal (bal (bal (Below.refl _ _) _) _) _) _)⟩
set_option maxRecDepth 100000 in
theorem app_7 {w : World} {ad : Addr} {c : Nat} {k0 n0 k1 n1 : Int} (h0 : w.cell? ad = some (.int .i64 k0)) (g0 : w.cell? ⟨ad.block, ad.off + 1, none⟩ = some (.int .i64 n0)) (h1 : w.cell? ⟨ad.block, ad.off + 2, none⟩ = some (.int .i64 k1)) (g1 : w.cell? ⟨ad.block, ad.off + 3, none⟩ = some (.int .i64 n1)) {q : Bool} (hq : (n0 == n1) = q) :
    Calls Tryd.prog 24 #[.string ⟨#[61]⟩, .slice (some ad) 2 c] w (ApO w ((1, truthN q), false)) := by
  have hlt := World.block_lt_of_cell? w _ h0
  go_enter Tryd.func24, Tryd.ntmps24
  go_wp2_with fail
  refine (truth_any _ _).mono ?_
  rintro e w4 ⟨rfl, rfl⟩
  go_wp2_with fail
  exact bodyPost_ret (v := .tuple #[.agg #[.int .i64 1, .int .i64 (truthN q)], .bool false]) (by simp [results, Tryd.results24, go_sem]) rfl ⟨rfl, (bal (bal (bal (bal (Below.refl _ _) _) _) _) _)⟩
set_option maxRecDepth 100000 in
theorem app_8 {w : World} {ad : Addr} {c : Nat} {k0 n0 k1 n1 : Int} (h0 : w.cell? ad = some (.int .i64 k0)) (g0 : w.cell? ⟨ad.block, ad.off + 1, none⟩ = some (.int .i64 n0)) (h1 : w.cell? ⟨ad.block, ad.off + 2, none⟩ = some (.int .i64 k1)) (g1 : w.cell? ⟨ad.block, ad.off + 3, none⟩ = some (.int .i64 n1)) {q : Bool} (hq : (n0 != n1) = q) :
    Calls Tryd.prog 24 #[.string ⟨#[60, 62]⟩, .slice (some ad) 2 c] w (ApO w ((1, truthN q), false)) := by
  have hlt := World.block_lt_of_cell? w _ h0
  go_enter Tryd.func24, Tryd.ntmps24
  go_wp2_with fail
  refine (truth_any _ _).mono ?_
  rintro e w4 ⟨rfl, rfl⟩
  go_wp2_with fail
  exact bodyPost_ret (v := .tuple #[.agg #[.int .i64 1, .int .i64 (truthN q)], .bool false]) (by simp [results, Tryd.results24, go_sem]) rfl ⟨rfl, (bal (bal (bal (bal (Below.refl _ _) _) _) _) _)⟩
set_option maxRecDepth 100000 in
theorem app_9 {w : World} {ad : Addr} {c : Nat} {k0 n0 k1 n1 : Int} (h0 : w.cell? ad = some (.int .i64 k0)) (g0 : w.cell? ⟨ad.block, ad.off + 1, none⟩ = some (.int .i64 n0)) (h1 : w.cell? ⟨ad.block, ad.off + 2, none⟩ = some (.int .i64 k1)) (g1 : w.cell? ⟨ad.block, ad.off + 3, none⟩ = some (.int .i64 n1)) {q : Bool} (hq : decide (n0 < n1) = q) :
    Calls Tryd.prog 24 #[.string ⟨#[60]⟩, .slice (some ad) 2 c] w (ApO w ((1, truthN q), false)) := by
  have hlt := World.block_lt_of_cell? w _ h0
  go_enter Tryd.func24, Tryd.ntmps24
  go_wp2_with fail
  refine (truth_any _ _).mono ?_
  rintro e w4 ⟨rfl, rfl⟩
  go_wp2_with fail
  exact bodyPost_ret (v := .tuple #[.agg #[.int .i64 1, .int .i64 (truthN q)], .bool false]) (by simp [results, Tryd.results24, go_sem]) rfl ⟨rfl, (bal (bal (bal (bal (Below.refl _ _) _) _) _) _)⟩
set_option maxRecDepth 100000 in
theorem app_10 {w : World} {ad : Addr} {c : Nat} {k0 n0 k1 n1 : Int} (h0 : w.cell? ad = some (.int .i64 k0)) (g0 : w.cell? ⟨ad.block, ad.off + 1, none⟩ = some (.int .i64 n0)) (h1 : w.cell? ⟨ad.block, ad.off + 2, none⟩ = some (.int .i64 k1)) (g1 : w.cell? ⟨ad.block, ad.off + 3, none⟩ = some (.int .i64 n1)) {q : Bool} (hq : decide (n0 ≤ n1) = q) :
    Calls Tryd.prog 24 #[.string ⟨#[60, 61]⟩, .slice (some ad) 2 c] w (ApO w ((1, truthN q), false)) := by
  have hlt := World.block_lt_of_cell? w _ h0
  go_enter Tryd.func24, Tryd.ntmps24
  go_wp2_with fail
  refine (truth_any _ _).mono ?_
  rintro e w4 ⟨rfl, rfl⟩
  go_wp2_with fail
  exact bodyPost_ret (v := .tuple #[.agg #[.int .i64 1, .int .i64 (truthN q)], .bool false]) (by simp [results, Tryd.results24, go_sem]) rfl ⟨rfl, (bal (bal (bal (bal (Below.refl _ _) _) _) _) _)⟩
set_option maxRecDepth 100000 in
theorem app_11 {w : World} {ad : Addr} {c : Nat} {k0 n0 k1 n1 : Int} (h0 : w.cell? ad = some (.int .i64 k0)) (g0 : w.cell? ⟨ad.block, ad.off + 1, none⟩ = some (.int .i64 n0)) (h1 : w.cell? ⟨ad.block, ad.off + 2, none⟩ = some (.int .i64 k1)) (g1 : w.cell? ⟨ad.block, ad.off + 3, none⟩ = some (.int .i64 n1)) {q : Bool} (hq : decide (n1 < n0) = q) :
    Calls Tryd.prog 24 #[.string ⟨#[62]⟩, .slice (some ad) 2 c] w (ApO w ((1, truthN q), false)) := by
  have hlt := World.block_lt_of_cell? w _ h0
  go_enter Tryd.func24, Tryd.ntmps24
  go_wp2_with fail
  refine (truth_any _ _).mono ?_
  rintro e w4 ⟨rfl, rfl⟩
  go_wp2_with fail
  exact bodyPost_ret (v := .tuple #[.agg #[.int .i64 1, .int .i64 (truthN q)], .bool false]) (by simp [results, Tryd.results24, go_sem]) rfl ⟨rfl, (bal (bal (bal (bal (Below.refl _ _) _) _) _) _)⟩
set_option maxRecDepth 100000 in
theorem app_12 {w : World} {ad : Addr} {c : Nat} {k0 n0 k1 n1 : Int} (h0 : w.cell? ad = some (.int .i64 k0)) (g0 : w.cell? ⟨ad.block, ad.off + 1, none⟩ = some (.int .i64 n0)) (h1 : w.cell? ⟨ad.block, ad.off + 2, none⟩ = some (.int .i64 k1)) (g1 : w.cell? ⟨ad.block, ad.off + 3, none⟩ = some (.int .i64 n1)) {q : Bool} (hq : decide (n1 ≤ n0) = q) :
    Calls Tryd.prog 24 #[.string ⟨#[62, 61]⟩, .slice (some ad) 2 c] w (ApO w ((1, truthN q), false)) := by
  have hlt := World.block_lt_of_cell? w _ h0
  go_enter Tryd.func24, Tryd.ntmps24
  go_wp2_with fail
  refine (truth_any _ _).mono ?_
  rintro e w4 ⟨rfl, rfl⟩
  go_wp2_with fail
  exact bodyPost_ret (v := .tuple #[.agg #[.int .i64 1, .int .i64 (truthN q)], .bool false]) (by simp [results, Tryd.results24, go_sem]) rfl ⟨rfl, (bal (bal (bal (bal (Below.refl _ _) _) _) _) _)⟩
set_option maxRecDepth 100000 in
theorem app_13 {w : World} {ad : Addr} {c : Nat} {k0 n0 k1 n1 : Int} (h0 : w.cell? ad = some (.int .i64 k0)) (g0 : w.cell? ⟨ad.block, ad.off + 1, none⟩ = some (.int .i64 n0)) (h1 : w.cell? ⟨ad.block, ad.off + 2, none⟩ = some (.int .i64 k1)) (g1 : w.cell? ⟨ad.block, ad.off + 3, none⟩ = some (.int .i64 n1)) (s0 : small8 n0) (s1 : small8 n1) :
    Calls Tryd.prog 24 #[.string ⟨#[43]⟩, .slice (some ad) 2 c] w (ApO w ((2, i8 (n0 + n1)), false)) := by
  have hw := wrap8 (x := n0 + n1) (by unfold small8 at s0 s1; omega)
  clear s0 s1
  have hlt := World.block_lt_of_cell? w _ h0
  go_enter Tryd.func24, Tryd.ntmps24
  go_wp2_with fail
  refine (around_any _ _).mono ?_
  rintro e w4 ⟨rfl, rfl⟩
  go_wp2_with fail
  exact bodyPost_ret (v := .tuple #[.agg #[.int .i64 2, .int .i64 (i8 (n0 + n1))], .bool false]) (by simp [results, Tryd.results24, go_sem]) rfl ⟨rfl, (bal (bal (bal (Below.refl _ _) _) _) _)⟩
set_option maxRecDepth 100000 in
theorem app_14 {w : World} {ad : Addr} {c : Nat} {k0 n0 k1 n1 : Int} (h0 : w.cell? ad = some (.int .i64 k0)) (g0 : w.cell? ⟨ad.block, ad.off + 1, none⟩ = some (.int .i64 n0)) (h1 : w.cell? ⟨ad.block, ad.off + 2, none⟩ = some (.int .i64 k1)) (g1 : w.cell? ⟨ad.block, ad.off + 3, none⟩ = some (.int .i64 n1)) (s0 : small8 n0) (s1 : small8 n1) :
    Calls Tryd.prog 24 #[.string ⟨#[45]⟩, .slice (some ad) 2 c] w (ApO w ((2, i8 (n0 - n1)), false)) := by
  have hw := wrap8 (x := n0 - n1) (by unfold small8 at s0 s1; omega)
  clear s0 s1
  have hlt := World.block_lt_of_cell? w _ h0
  go_enter Tryd.func24, Tryd.ntmps24
  go_wp2_with fail
  refine (around_any _ _).mono ?_
  rintro e w4 ⟨rfl, rfl⟩
  go_wp2_with fail
  exact bodyPost_ret (v := .tuple #[.agg #[.int .i64 2, .int .i64 (i8 (n0 - n1))], .bool false]) (by simp [results, Tryd.results24, go_sem]) rfl ⟨rfl, (bal (bal (bal (Below.refl _ _) _) _) _)⟩
set_option maxRecDepth 100000 in
theorem app_15 {w : World} {ad : Addr} {c : Nat} {k0 n0 k1 n1 : Int} (h0 : w.cell? ad = some (.int .i64 k0)) (g0 : w.cell? ⟨ad.block, ad.off + 1, none⟩ = some (.int .i64 n0)) (h1 : w.cell? ⟨ad.block, ad.off + 2, none⟩ = some (.int .i64 k1)) (g1 : w.cell? ⟨ad.block, ad.off + 3, none⟩ = some (.int .i64 n1)) (s0 : small8 n0) (s1 : small8 n1) :
    Calls Tryd.prog 24 #[.string ⟨#[42]⟩, .slice (some ad) 2 c] w (ApO w ((2, i8 (n0 * n1)), false)) := by
  have hw := wrap8 (mul8 s0 s1)
  clear s0 s1
  have hlt := World.block_lt_of_cell? w _ h0
  go_enter Tryd.func24, Tryd.ntmps24
  go_wp2_with fail
  refine (around_any _ _).mono ?_
  rintro e w4 ⟨rfl, rfl⟩
  go_wp2_with fail
  exact bodyPost_ret (v := .tuple #[.agg #[.int .i64 2, .int .i64 (i8 (n0 * n1))], .bool false]) (by simp [results, Tryd.results24, go_sem]) rfl ⟨rfl, (bal (bal (bal (Below.refl _ _) _) _) _)⟩
set_option maxRecDepth 100000 in
theorem app_16z {w : World} {ad : Addr} {c : Nat} {k0 n0 k1 n1 : Int} (h0 : w.cell? ad = some (.int .i64 k0)) (g0 : w.cell? ⟨ad.block, ad.off + 1, none⟩ = some (.int .i64 n0)) (h1 : w.cell? ⟨ad.block, ad.off + 2, none⟩ = some (.int .i64 k1)) (g1 : w.cell? ⟨ad.block, ad.off + 3, none⟩ = some (.int .i64 n1)) (hq : (n1 == 0) = true) :
    Calls Tryd.prog 24 #[.string ⟨#[47]⟩, .slice (some ad) 2 c] w (ApO w ((0, 0), true)) := by
  have hlt := World.block_lt_of_cell? w _ h0
  go_enter Tryd.func24, Tryd.ntmps24
  go_wp2_with fail
  exact bodyPost_ret (v := .tuple #[.agg #[.int .i64 0, .int .i64 0], .bool true]) (by simp [results, Tryd.results24, go_sem]) rfl ⟨rfl, (bal (bal (bal (Below.refl _ _) _) _) _)⟩
set_option maxRecDepth 100000 in
theorem app_16 {w : World} {ad : Addr} {c : Nat} {k0 n0 k1 n1 : Int} (h0 : w.cell? ad = some (.int .i64 k0)) (g0 : w.cell? ⟨ad.block, ad.off + 1, none⟩ = some (.int .i64 n0)) (h1 : w.cell? ⟨ad.block, ad.off + 2, none⟩ = some (.int .i64 k1)) (g1 : w.cell? ⟨ad.block, ad.off + 3, none⟩ = some (.int .i64 n1)) (s0 : small8 n0) (hp : ¬ n1 = 0) (hq : (n1 == 0) = false) :
    Calls Tryd.prog 24 #[.string ⟨#[47]⟩, .slice (some ad) 2 c] w (ApO w ((2, i8 (n0.tdiv n1)), false)) := by
  have hw := wrap8 (x := n0.tdiv n1) (by have := quo8 (b := n1) s0; omega)
  clear s0
  have hlt := World.block_lt_of_cell? w _ h0
  go_enter Tryd.func24, Tryd.ntmps24
  go_wp2_with fail
  refine (around_any _ _).mono ?_
  rintro e w4 ⟨rfl, rfl⟩
  go_wp2_with fail
  exact bodyPost_ret (v := .tuple #[.agg #[.int .i64 2, .int .i64 (i8 (n0.tdiv n1))], .bool false]) (by simp [results, Tryd.results24, go_sem]) rfl ⟨rfl, (bal (bal (bal (Below.refl _ _) _) _) _)⟩
set_option maxRecDepth 100000 in
theorem app_17z {w : World} {ad : Addr} {c : Nat} {k0 n0 k1 n1 : Int} (h0 : w.cell? ad = some (.int .i64 k0)) (g0 : w.cell? ⟨ad.block, ad.off + 1, none⟩ = some (.int .i64 n0)) (h1 : w.cell? ⟨ad.block, ad.off + 2, none⟩ = some (.int .i64 k1)) (g1 : w.cell? ⟨ad.block, ad.off + 3, none⟩ = some (.int .i64 n1)) (hq : (n1 == 0) = true) :
    Calls Tryd.prog 24 #[.string ⟨#[109, 111, 100]⟩, .slice (some ad) 2 c] w (ApO w ((0, 0), true)) := by
  have hlt := World.block_lt_of_cell? w _ h0
  go_enter Tryd.func24, Tryd.ntmps24
  go_wp2_with fail
  exact bodyPost_ret (v := .tuple #[.agg #[.int .i64 0, .int .i64 0], .bool true]) (by simp [results, Tryd.results24, go_sem]) rfl ⟨rfl, (bal (bal (bal (Below.refl _ _) _) _) _)⟩
attribute [local irreducible] wpStill
set_option maxRecDepth 100000 in
set_option maxHeartbeats 1000000 in
theorem app_17 {w : World} {ad : Addr} {c : Nat} {k0 n0 k1 n1 : Int} (h0 : w.cell? ad = some (.int .i64 k0)) (g0 : w.cell? ⟨ad.block, ad.off + 1, none⟩ = some (.int .i64 n0)) (h1 : w.cell? ⟨ad.block, ad.off + 2, none⟩ = some (.int .i64 k1)) (g1 : w.cell? ⟨ad.block, ad.off + 3, none⟩ = some (.int .i64 n1)) (s0 : small8 n0) (hp : ¬ n1 = 0) (hq : (n1 == 0) = false) :
    Calls Tryd.prog 24 #[.string ⟨#[109, 111, 100]⟩, .slice (some ad) 2 c] w (ApO w ((2, i8 (n0 - n0.tdiv n1 * n1)), false)) := by
  have hw := wrap8 (x := n0.tdiv n1) (by have := quo8 (b := n1) s0; omega)
  have hw2 := wrap8 (x := n0.tdiv n1 * n1) (by have := qmul8 (b := n1) s0; omega)
  have hw3 := wrap8 (x := n0 - n0.tdiv n1 * n1) (by have := qmul8 (b := n1) s0; unfold small8 at s0; omega)
  clear s0
  obtain ⟨W1, hW1⟩ : ∃ W1, W1 = ((w.alloc (.cells #[.int .i64 0, .int .i64 0] 45)).alloc (.cells #[.int .i64 k0, .int .i64 n0] 45)).alloc (.cells #[.int .i64 k1, .int .i64 n1] 45) := ⟨_, rfl⟩
  have z4 : Blk W1 w.heap.size 45 #[.int .i64 0, .int .i64 0] := by rw [hW1]; exact ((Blk.new w _ _).alloc _).alloc _
  have z6 : Blk W1 (w.heap.size + 1) 45 #[.int .i64 k0, .int .i64 n0] := by rw [hW1]; exact (show Blk _ (w.heap.size + 1) _ _ by have h := Blk.new (w.alloc (.cells #[.int .i64 0, .int .i64 0] 45)) 45 #[.int .i64 k0, .int .i64 n0]; simpa using h).alloc _
  have z7 : Blk W1 (w.heap.size + 1 + 1) 45 #[.int .i64 k1, .int .i64 n1] := by rw [hW1]; have h := Blk.new ((w.alloc (.cells #[.int .i64 0, .int .i64 0] 45)).alloc (.cells #[.int .i64 k0, .int .i64 n0] 45)) 45 #[.int .i64 k1, .int .i64 n1]; simpa using h
  have HB1 := Lib.hid (show Below w.heap.size w W1 by rw [hW1]; exact bal (bal (bal (Below.refl _ _) _) _) _)
  have HZ4 := Lib.hid z4
  have HZ6 := Lib.hid z6
  have HZ7 := Lib.hid z7
  have HW1 := Lib.hid hW1
  clear z4 z6 z7 hW1
  have hlt := World.block_lt_of_cell? w _ h0
  go_enter Tryd.func24, Tryd.ntmps24
  go_upto_region 42 with fail
  rw [← HW1.out]
  have y6 := HZ6.out.cell 1
  have y7 := HZ7.out.cell 1
  have CA : Calls Tryd.prog 54 #[.int .i64 (n0 - n0.tdiv n1 * n1)] W1.drew (fun e w'' => e = .returned (.int .i64 (i8 (n0 - n0.tdiv n1 * n1))) ∧ w'' = W1.drew) := (around_any _ _).mono fun _ _ h => ⟨h.1, h.2.symm⟩
  refine wp_region_still_tail 13 (by kernel_rfl) (by kernel_rfl) ?_
  simp only [List.take_succ_cons, List.take_zero, List.drop_succ_cons, List.drop_zero]
  iterate 11 (refine still_want rfl (fun K hK => ?_); go_simp; refine hK _ ?_; clear hK K)
  refine still_want rfl (fun K hK => ?_)
  go_simp
  refine ⟨_, CA, hK _ ?_⟩
  clear hK K CA
  go_simp
  refine still_want rfl (fun K hK => ?_)
  go_simp
  refine hK _ ?_
  clear hK K
  refine wpStill_nil ?_
  change wpList _ _ _ _ _ W1.drew
  obtain ⟨W2, hW2⟩ : ∃ W2, W2 = W1.drew := ⟨_, rfl⟩
  obtain ⟨rv, hrv⟩ : ∃ rv, i8 (n0 - n0.tdiv n1 * n1) = rv := ⟨_, rfl⟩
  rw [hrv]
  have z2 : Blk W2 w.heap.size 45 #[.int .i64 0, .int .i64 0] := by rw [hW2]; exact HZ4.out
  have HB2 := Lib.hid (show Below w.heap.size w W2 by rw [hW2]; exact below_drewN HB1.out 1)
  have y0 := z2.cell 0
  have y1 := z2.cell 1
  have f0 := z2.frozen 0
  have f1 := z2.frozen 1
  obtain ⟨W9, hW9⟩ : ∃ W9, W9 = (W2.setCell ⟨w.heap.size, 0, none⟩ (.int .i64 2)).setCell ⟨w.heap.size, 1, none⟩ (.int .i64 rv) := ⟨_, rfl⟩
  have x9 : Blk W9 w.heap.size 45 #[.int .i64 2, .int .i64 rv] := by rw [hW9]; exact (z2.set_ 0 _).set_ 1 _
  have HB9 := Lib.hid (show Below w.heap.size w W9 by rw [hW9]; exact (HB2.out.setCell (Nat.le_refl _) _).setCell (Nat.le_refl _) _)
  have x90 := x9.cell 0
  have x91 := x9.cell 1
  have HW9 := Lib.hid hW9
  rw [← hW2]
  clear hW2 hW9 x9 z2 y6 y7
  go_wp2_with fail
  rw [← HW9.out]
  exact bodyPost_ret (v := .tuple #[.agg #[.int .i64 2, .int .i64 rv], .bool false]) (by simp [results, Tryd.results24, go_sem, x90, x91]) rfl ⟨by subst hrv; rfl, HB9.out⟩
end Go.Proofs.YtmbjhpgemphmmaaDoor
