/-
  WALKS of package word: shape, of each operator by itself.
  WALKS of package word: shape, of 'if', and where it says no at once.
  WHICH OPERATORS THERE ARE: of a text that is none of these every test fails. WALK: the document's Arity.
  word: shape by the operator's number; Of where the shape is wrong.
-/
import Derived.Test.YtmbjhpgemphmmaaDoorYr
import Derived.Test.YtmbjhpgemphmmaaDoorHq
import Derived.BigQuiet
import Derived.Deep.DeepCutAuto
import Derived.Test.YtmbjhpgemphmmaaDoorYt
namespace Go.Proofs.YtmbjhpgemphmmaaDoor
open Go.RowKit
set_option maxRecDepth 100000 in
set_option maxHeartbeats 4000000 in
theorem shape_not {w : World} {LB : Nat} (hL : Lvls w LB) (hLB : LB ≤ w.heap.size) {A : Option Addr} {c n0 : Nat} (h : Lens w A [n0]) {b0 : Bool} (hb0 : ((n0 : Int) == ((1 : Nat) : Int)) = b0) :
    Calls Tryd.prog 41 #[.string ⟨#[110, 111, 116]⟩, .slice A 1 c] w (ShP w (b0)) := by
  obtain ⟨ad, rfl, hcell⟩ := h
  obtain ⟨A0, k0, h0⟩ := hcell 0 n0 rfl
  have hbw : Below w.heap.size w (w.alloc (.cells #[.slice (some ad) 1 c] 53)) := (Below.refl _ _).alloc (Nat.le_refl _) _
  obtain ⟨W1, hW1⟩ : ∃ W1, W1 = (w.alloc (.cells #[.slice (some ad) 1 c] 53)).alloc (.cells #[.func (.func 76) #[] #[.pointer (some ⟨w.heap.size, 0, none⟩)]] 43) := ⟨_, rfl⟩
  have hb1' : Below w.heap.size w W1 := by rw [hW1]; exact hbw.alloc (by simp) _
  have hbx : W1.cell? ⟨w.heap.size, 0, none⟩ = some (.slice (some ad) 1 c) := by rw [hW1]; exact ((Blk.new w _ _).alloc _).cell 0
  have cm : W1.cell? ⟨w.heap.size + 1, 0, none⟩ = some (.func (.func 76) #[] #[.pointer (some ⟨w.heap.size, 0, none⟩)]) := by
    rw [hW1]
    simp
  have C0 := Lib.hid (show Calls Tryd.prog 76 #[.int .i64 0, .int .i64 1, .pointer (some ⟨w.heap.size, 0, none⟩)] W1 (fun e w' => e = .returned (.bool b0) ∧ W1 = w') from many_any (i := 0) (k := 1) hbx (by omega) (by omega) ((hb1'.cell (World.block_lt_of_cell? _ _ h0)).trans h0) hb0)
  have HW1 := Lib.hid hW1
  have HB1 := Lib.hid hb1'
  have HCM := Lib.hid cm
  have CA := Lib.hid (arity_any (hL.below hbw hLB) ⟨#[110, 111, 116]⟩)
  have HNB := Lib.hid (show arN ⟨#[110, 111, 116]⟩ = 1 ∧ arB ⟨#[110, 111, 116]⟩ = true from ⟨by decide +kernel, by decide +kernel⟩)
  clear hL hcell hbw hbx hW1 hb1' cm h0 hb0
  have hmf : ∀ (fn : Fn) (first cap : Array Value) (w : World), (Instr.makeFunc fn first cap).run Tryd.prog w = .ok (.func fn first cap) w := fun _ _ _ _ => rfl
  go_enter Tryd.func41, Tryd.ntmps41
  go_wp2_with fail
  refine CA.out.mono ?_
  rintro e w' ⟨rfl, rfl⟩
  rw [HNB.out.1, HNB.out.2]
  go_upto_region 6 with fail
  rw [← HW1.out]
  have cm := HCM.out
  go_wp2_with fail
  refine C0.out.mono ?_
  rintro e w' ⟨rfl, rfl⟩
  go_wp2_with fail
  go_ret
  exact ⟨rfl, HB1.out⟩
set_option maxRecDepth 100000 in
set_option maxHeartbeats 4000000 in
theorem shape_neg {w : World} {LB : Nat} (hL : Lvls w LB) (hLB : LB ≤ w.heap.size) {A : Option Addr} {c n0 : Nat} (h : Lens w A [n0]) {b0 : Bool} (hb0 : ((n0 : Int) == ((8 : Nat) : Int)) = b0) :
    Calls Tryd.prog 41 #[.string ⟨#[110, 101, 103]⟩, .slice A 1 c] w (ShP w (b0)) := by
  obtain ⟨ad, rfl, hcell⟩ := h
  obtain ⟨A0, k0, h0⟩ := hcell 0 n0 rfl
  have hbw : Below w.heap.size w (w.alloc (.cells #[.slice (some ad) 1 c] 53)) := (Below.refl _ _).alloc (Nat.le_refl _) _
  obtain ⟨W1, hW1⟩ : ∃ W1, W1 = (w.alloc (.cells #[.slice (some ad) 1 c] 53)).alloc (.cells #[.func (.func 76) #[] #[.pointer (some ⟨w.heap.size, 0, none⟩)]] 43) := ⟨_, rfl⟩
  have hb1' : Below w.heap.size w W1 := by rw [hW1]; exact hbw.alloc (by simp) _
  have hbx : W1.cell? ⟨w.heap.size, 0, none⟩ = some (.slice (some ad) 1 c) := by rw [hW1]; exact ((Blk.new w _ _).alloc _).cell 0
  have cm : W1.cell? ⟨w.heap.size + 1, 0, none⟩ = some (.func (.func 76) #[] #[.pointer (some ⟨w.heap.size, 0, none⟩)]) := by
    rw [hW1]
    simp
  have C0 := Lib.hid (show Calls Tryd.prog 76 #[.int .i64 0, .int .i64 8, .pointer (some ⟨w.heap.size, 0, none⟩)] W1 (fun e w' => e = .returned (.bool b0) ∧ W1 = w') from many_any (i := 0) (k := 8) hbx (by omega) (by omega) ((hb1'.cell (World.block_lt_of_cell? _ _ h0)).trans h0) hb0)
  have HW1 := Lib.hid hW1
  have HB1 := Lib.hid hb1'
  have HCM := Lib.hid cm
  have CA := Lib.hid (arity_any (hL.below hbw hLB) ⟨#[110, 101, 103]⟩)
  have HNB := Lib.hid (show arN ⟨#[110, 101, 103]⟩ = 1 ∧ arB ⟨#[110, 101, 103]⟩ = true from ⟨by decide +kernel, by decide +kernel⟩)
  clear hL hcell hbw hbx hW1 hb1' cm h0 hb0
  have hmf : ∀ (fn : Fn) (first cap : Array Value) (w : World), (Instr.makeFunc fn first cap).run Tryd.prog w = .ok (.func fn first cap) w := fun _ _ _ _ => rfl
  go_enter Tryd.func41, Tryd.ntmps41
  go_wp2_with fail
  refine CA.out.mono ?_
  rintro e w' ⟨rfl, rfl⟩
  rw [HNB.out.1, HNB.out.2]
  go_upto_region 6 with fail
  rw [← HW1.out]
  have cm := HCM.out
  go_wp2_with fail
  refine C0.out.mono ?_
  rintro e w' ⟨rfl, rfl⟩
  go_wp2_with fail
  go_ret
  exact ⟨rfl, HB1.out⟩
set_option maxRecDepth 100000 in
set_option maxHeartbeats 4000000 in
theorem shape_and {w : World} {LB : Nat} (hL : Lvls w LB) (hLB : LB ≤ w.heap.size) {A : Option Addr} {c n0 n1 : Nat} (h : Lens w A [n0, n1]) {b0 : Bool} (hb0 : ((n0 : Int) == ((1 : Nat) : Int)) = b0) {b1 : Bool} (hb1 : ((n1 : Int) == ((1 : Nat) : Int)) = b1) :
    Calls Tryd.prog 41 #[.string ⟨#[97, 110, 100]⟩, .slice A 2 c] w (ShP w (b0 && b1)) := by
  obtain ⟨ad, rfl, hcell⟩ := h
  obtain ⟨A0, k0, h0⟩ := hcell 0 n0 rfl
  obtain ⟨A1, k1, h1⟩ := hcell 1 n1 rfl
  have hbw : Below w.heap.size w (w.alloc (.cells #[.slice (some ad) 2 c] 53)) := (Below.refl _ _).alloc (Nat.le_refl _) _
  obtain ⟨W1, hW1⟩ : ∃ W1, W1 = (w.alloc (.cells #[.slice (some ad) 2 c] 53)).alloc (.cells #[.func (.func 76) #[] #[.pointer (some ⟨w.heap.size, 0, none⟩)]] 43) := ⟨_, rfl⟩
  have hb1' : Below w.heap.size w W1 := by rw [hW1]; exact hbw.alloc (by simp) _
  have hbx : W1.cell? ⟨w.heap.size, 0, none⟩ = some (.slice (some ad) 2 c) := by rw [hW1]; exact ((Blk.new w _ _).alloc _).cell 0
  have cm : W1.cell? ⟨w.heap.size + 1, 0, none⟩ = some (.func (.func 76) #[] #[.pointer (some ⟨w.heap.size, 0, none⟩)]) := by
    rw [hW1]
    simp
  have C0 := Lib.hid (show Calls Tryd.prog 76 #[.int .i64 0, .int .i64 1, .pointer (some ⟨w.heap.size, 0, none⟩)] W1 (fun e w' => e = .returned (.bool b0) ∧ W1 = w') from many_any (i := 0) (k := 1) hbx (by omega) (by omega) ((hb1'.cell (World.block_lt_of_cell? _ _ h0)).trans h0) hb0)
  have C1 := Lib.hid (show Calls Tryd.prog 76 #[.int .i64 1, .int .i64 1, .pointer (some ⟨w.heap.size, 0, none⟩)] W1 (fun e w' => e = .returned (.bool b1) ∧ W1 = w') from many_any (i := 1) (k := 1) hbx (by omega) (by omega) ((hb1'.cell (World.block_lt_of_cell? _ _ h1)).trans h1) hb1)
  have HW1 := Lib.hid hW1
  have HB1 := Lib.hid hb1'
  have HCM := Lib.hid cm
  have CA := Lib.hid (arity_any (hL.below hbw hLB) ⟨#[97, 110, 100]⟩)
  have HNB := Lib.hid (show arN ⟨#[97, 110, 100]⟩ = 2 ∧ arB ⟨#[97, 110, 100]⟩ = true from ⟨by decide +kernel, by decide +kernel⟩)
  clear hL hcell hbw hbx hW1 hb1' cm h0 h1 hb0 hb1
  have hmf : ∀ (fn : Fn) (first cap : Array Value) (w : World), (Instr.makeFunc fn first cap).run Tryd.prog w = .ok (.func fn first cap) w := fun _ _ _ _ => rfl
  go_enter Tryd.func41, Tryd.ntmps41
  go_wp2_with fail
  refine CA.out.mono ?_
  rintro e w' ⟨rfl, rfl⟩
  rw [HNB.out.1, HNB.out.2]
  go_upto_region 6 with fail
  rw [← HW1.out]
  have cm := HCM.out
  go_wp2_with fail
  refine C0.out.mono ?_
  rintro e w' ⟨rfl, rfl⟩
  cases b0 with
  | false =>
    go_wp2_with fail
    go_ret
    exact ⟨rfl, HB1.out⟩
  | true =>
    go_wp2_with fail
    refine C1.out.mono ?_
    rintro e w' ⟨rfl, rfl⟩
    go_wp2_with fail
    go_ret
    exact ⟨by cases b1 <;> rfl, HB1.out⟩
set_option maxRecDepth 100000 in
set_option maxHeartbeats 4000000 in
theorem shape_or {w : World} {LB : Nat} (hL : Lvls w LB) (hLB : LB ≤ w.heap.size) {A : Option Addr} {c n0 n1 : Nat} (h : Lens w A [n0, n1]) {b0 : Bool} (hb0 : ((n0 : Int) == ((1 : Nat) : Int)) = b0) {b1 : Bool} (hb1 : ((n1 : Int) == ((1 : Nat) : Int)) = b1) :
    Calls Tryd.prog 41 #[.string ⟨#[111, 114]⟩, .slice A 2 c] w (ShP w (b0 && b1)) := by
  obtain ⟨ad, rfl, hcell⟩ := h
  obtain ⟨A0, k0, h0⟩ := hcell 0 n0 rfl
  obtain ⟨A1, k1, h1⟩ := hcell 1 n1 rfl
  have hbw : Below w.heap.size w (w.alloc (.cells #[.slice (some ad) 2 c] 53)) := (Below.refl _ _).alloc (Nat.le_refl _) _
  obtain ⟨W1, hW1⟩ : ∃ W1, W1 = (w.alloc (.cells #[.slice (some ad) 2 c] 53)).alloc (.cells #[.func (.func 76) #[] #[.pointer (some ⟨w.heap.size, 0, none⟩)]] 43) := ⟨_, rfl⟩
  have hb1' : Below w.heap.size w W1 := by rw [hW1]; exact hbw.alloc (by simp) _
  have hbx : W1.cell? ⟨w.heap.size, 0, none⟩ = some (.slice (some ad) 2 c) := by rw [hW1]; exact ((Blk.new w _ _).alloc _).cell 0
  have cm : W1.cell? ⟨w.heap.size + 1, 0, none⟩ = some (.func (.func 76) #[] #[.pointer (some ⟨w.heap.size, 0, none⟩)]) := by
    rw [hW1]
    simp
  have C0 := Lib.hid (show Calls Tryd.prog 76 #[.int .i64 0, .int .i64 1, .pointer (some ⟨w.heap.size, 0, none⟩)] W1 (fun e w' => e = .returned (.bool b0) ∧ W1 = w') from many_any (i := 0) (k := 1) hbx (by omega) (by omega) ((hb1'.cell (World.block_lt_of_cell? _ _ h0)).trans h0) hb0)
  have C1 := Lib.hid (show Calls Tryd.prog 76 #[.int .i64 1, .int .i64 1, .pointer (some ⟨w.heap.size, 0, none⟩)] W1 (fun e w' => e = .returned (.bool b1) ∧ W1 = w') from many_any (i := 1) (k := 1) hbx (by omega) (by omega) ((hb1'.cell (World.block_lt_of_cell? _ _ h1)).trans h1) hb1)
  have HW1 := Lib.hid hW1
  have HB1 := Lib.hid hb1'
  have HCM := Lib.hid cm
  have CA := Lib.hid (arity_any (hL.below hbw hLB) ⟨#[111, 114]⟩)
  have HNB := Lib.hid (show arN ⟨#[111, 114]⟩ = 2 ∧ arB ⟨#[111, 114]⟩ = true from ⟨by decide +kernel, by decide +kernel⟩)
  clear hL hcell hbw hbx hW1 hb1' cm h0 h1 hb0 hb1
  have hmf : ∀ (fn : Fn) (first cap : Array Value) (w : World), (Instr.makeFunc fn first cap).run Tryd.prog w = .ok (.func fn first cap) w := fun _ _ _ _ => rfl
  go_enter Tryd.func41, Tryd.ntmps41
  go_wp2_with fail
  refine CA.out.mono ?_
  rintro e w' ⟨rfl, rfl⟩
  rw [HNB.out.1, HNB.out.2]
  go_upto_region 6 with fail
  rw [← HW1.out]
  have cm := HCM.out
  go_wp2_with fail
  refine C0.out.mono ?_
  rintro e w' ⟨rfl, rfl⟩
  cases b0 with
  | false =>
    go_wp2_with fail
    go_ret
    exact ⟨rfl, HB1.out⟩
  | true =>
    go_wp2_with fail
    refine C1.out.mono ?_
    rintro e w' ⟨rfl, rfl⟩
    go_wp2_with fail
    go_ret
    exact ⟨by cases b1 <;> rfl, HB1.out⟩
set_option maxRecDepth 100000 in
set_option maxHeartbeats 4000000 in
theorem shape_xor {w : World} {LB : Nat} (hL : Lvls w LB) (hLB : LB ≤ w.heap.size) {A : Option Addr} {c n0 n1 : Nat} (h : Lens w A [n0, n1]) {b0 : Bool} (hb0 : ((n0 : Int) == ((1 : Nat) : Int)) = b0) {b1 : Bool} (hb1 : ((n1 : Int) == ((1 : Nat) : Int)) = b1) :
    Calls Tryd.prog 41 #[.string ⟨#[120, 111, 114]⟩, .slice A 2 c] w (ShP w (b0 && b1)) := by
  obtain ⟨ad, rfl, hcell⟩ := h
  obtain ⟨A0, k0, h0⟩ := hcell 0 n0 rfl
  obtain ⟨A1, k1, h1⟩ := hcell 1 n1 rfl
  have hbw : Below w.heap.size w (w.alloc (.cells #[.slice (some ad) 2 c] 53)) := (Below.refl _ _).alloc (Nat.le_refl _) _
  obtain ⟨W1, hW1⟩ : ∃ W1, W1 = (w.alloc (.cells #[.slice (some ad) 2 c] 53)).alloc (.cells #[.func (.func 76) #[] #[.pointer (some ⟨w.heap.size, 0, none⟩)]] 43) := ⟨_, rfl⟩
  have hb1' : Below w.heap.size w W1 := by rw [hW1]; exact hbw.alloc (by simp) _
  have hbx : W1.cell? ⟨w.heap.size, 0, none⟩ = some (.slice (some ad) 2 c) := by rw [hW1]; exact ((Blk.new w _ _).alloc _).cell 0
  have cm : W1.cell? ⟨w.heap.size + 1, 0, none⟩ = some (.func (.func 76) #[] #[.pointer (some ⟨w.heap.size, 0, none⟩)]) := by
    rw [hW1]
    simp
  have C0 := Lib.hid (show Calls Tryd.prog 76 #[.int .i64 0, .int .i64 1, .pointer (some ⟨w.heap.size, 0, none⟩)] W1 (fun e w' => e = .returned (.bool b0) ∧ W1 = w') from many_any (i := 0) (k := 1) hbx (by omega) (by omega) ((hb1'.cell (World.block_lt_of_cell? _ _ h0)).trans h0) hb0)
  have C1 := Lib.hid (show Calls Tryd.prog 76 #[.int .i64 1, .int .i64 1, .pointer (some ⟨w.heap.size, 0, none⟩)] W1 (fun e w' => e = .returned (.bool b1) ∧ W1 = w') from many_any (i := 1) (k := 1) hbx (by omega) (by omega) ((hb1'.cell (World.block_lt_of_cell? _ _ h1)).trans h1) hb1)
  have HW1 := Lib.hid hW1
  have HB1 := Lib.hid hb1'
  have HCM := Lib.hid cm
  have CA := Lib.hid (arity_any (hL.below hbw hLB) ⟨#[120, 111, 114]⟩)
  have HNB := Lib.hid (show arN ⟨#[120, 111, 114]⟩ = 2 ∧ arB ⟨#[120, 111, 114]⟩ = true from ⟨by decide +kernel, by decide +kernel⟩)
  clear hL hcell hbw hbx hW1 hb1' cm h0 h1 hb0 hb1
  have hmf : ∀ (fn : Fn) (first cap : Array Value) (w : World), (Instr.makeFunc fn first cap).run Tryd.prog w = .ok (.func fn first cap) w := fun _ _ _ _ => rfl
  go_enter Tryd.func41, Tryd.ntmps41
  go_wp2_with fail
  refine CA.out.mono ?_
  rintro e w' ⟨rfl, rfl⟩
  rw [HNB.out.1, HNB.out.2]
  go_upto_region 6 with fail
  rw [← HW1.out]
  have cm := HCM.out
  go_wp2_with fail
  refine C0.out.mono ?_
  rintro e w' ⟨rfl, rfl⟩
  cases b0 with
  | false =>
    go_wp2_with fail
    go_ret
    exact ⟨rfl, HB1.out⟩
  | true =>
    go_wp2_with fail
    refine C1.out.mono ?_
    rintro e w' ⟨rfl, rfl⟩
    go_wp2_with fail
    go_ret
    exact ⟨by cases b1 <;> rfl, HB1.out⟩
set_option maxRecDepth 100000 in
set_option maxHeartbeats 4000000 in
theorem shape_imp {w : World} {LB : Nat} (hL : Lvls w LB) (hLB : LB ≤ w.heap.size) {A : Option Addr} {c n0 n1 : Nat} (h : Lens w A [n0, n1]) {b0 : Bool} (hb0 : ((n0 : Int) == ((1 : Nat) : Int)) = b0) {b1 : Bool} (hb1 : ((n1 : Int) == ((1 : Nat) : Int)) = b1) :
    Calls Tryd.prog 41 #[.string ⟨#[61, 62]⟩, .slice A 2 c] w (ShP w (b0 && b1)) := by
  obtain ⟨ad, rfl, hcell⟩ := h
  obtain ⟨A0, k0, h0⟩ := hcell 0 n0 rfl
  obtain ⟨A1, k1, h1⟩ := hcell 1 n1 rfl
  have hbw : Below w.heap.size w (w.alloc (.cells #[.slice (some ad) 2 c] 53)) := (Below.refl _ _).alloc (Nat.le_refl _) _
  obtain ⟨W1, hW1⟩ : ∃ W1, W1 = (w.alloc (.cells #[.slice (some ad) 2 c] 53)).alloc (.cells #[.func (.func 76) #[] #[.pointer (some ⟨w.heap.size, 0, none⟩)]] 43) := ⟨_, rfl⟩
  have hb1' : Below w.heap.size w W1 := by rw [hW1]; exact hbw.alloc (by simp) _
  have hbx : W1.cell? ⟨w.heap.size, 0, none⟩ = some (.slice (some ad) 2 c) := by rw [hW1]; exact ((Blk.new w _ _).alloc _).cell 0
  have cm : W1.cell? ⟨w.heap.size + 1, 0, none⟩ = some (.func (.func 76) #[] #[.pointer (some ⟨w.heap.size, 0, none⟩)]) := by
    rw [hW1]
    simp
  have C0 := Lib.hid (show Calls Tryd.prog 76 #[.int .i64 0, .int .i64 1, .pointer (some ⟨w.heap.size, 0, none⟩)] W1 (fun e w' => e = .returned (.bool b0) ∧ W1 = w') from many_any (i := 0) (k := 1) hbx (by omega) (by omega) ((hb1'.cell (World.block_lt_of_cell? _ _ h0)).trans h0) hb0)
  have C1 := Lib.hid (show Calls Tryd.prog 76 #[.int .i64 1, .int .i64 1, .pointer (some ⟨w.heap.size, 0, none⟩)] W1 (fun e w' => e = .returned (.bool b1) ∧ W1 = w') from many_any (i := 1) (k := 1) hbx (by omega) (by omega) ((hb1'.cell (World.block_lt_of_cell? _ _ h1)).trans h1) hb1)
  have HW1 := Lib.hid hW1
  have HB1 := Lib.hid hb1'
  have HCM := Lib.hid cm
  have CA := Lib.hid (arity_any (hL.below hbw hLB) ⟨#[61, 62]⟩)
  have HNB := Lib.hid (show arN ⟨#[61, 62]⟩ = 2 ∧ arB ⟨#[61, 62]⟩ = true from ⟨by decide +kernel, by decide +kernel⟩)
  clear hL hcell hbw hbx hW1 hb1' cm h0 h1 hb0 hb1
  have hmf : ∀ (fn : Fn) (first cap : Array Value) (w : World), (Instr.makeFunc fn first cap).run Tryd.prog w = .ok (.func fn first cap) w := fun _ _ _ _ => rfl
  go_enter Tryd.func41, Tryd.ntmps41
  go_wp2_with fail
  refine CA.out.mono ?_
  rintro e w' ⟨rfl, rfl⟩
  rw [HNB.out.1, HNB.out.2]
  go_upto_region 6 with fail
  rw [← HW1.out]
  have cm := HCM.out
  go_wp2_with fail
  refine C0.out.mono ?_
  rintro e w' ⟨rfl, rfl⟩
  cases b0 with
  | false =>
    go_wp2_with fail
    go_ret
    exact ⟨rfl, HB1.out⟩
  | true =>
    go_wp2_with fail
    refine C1.out.mono ?_
    rintro e w' ⟨rfl, rfl⟩
    go_wp2_with fail
    go_ret
    exact ⟨by cases b1 <;> rfl, HB1.out⟩
set_option maxRecDepth 100000 in
set_option maxHeartbeats 4000000 in
theorem shape_eq {w : World} {LB : Nat} (hL : Lvls w LB) (hLB : LB ≤ w.heap.size) {A : Option Addr} {c n0 n1 : Nat} (h : Lens w A [n0, n1]) {p1 : Bool} (hp1 : ((n0 : Int) == ((1 : Nat) : Int)) = p1) {p8 : Bool} (hp8 : ((n0 : Int) == ((8 : Nat) : Int)) = p8) {q : Bool} (hq : ((n0 : Int) == (n1 : Int)) = q) :
    Calls Tryd.prog 41 #[.string ⟨#[61]⟩, .slice A 2 c] w (ShP w ((p1 || p8) && q)) := by
  obtain ⟨ad, rfl, hcell⟩ := h
  obtain ⟨A0, k0, h0⟩ := hcell 0 n0 rfl
  obtain ⟨A1, k1, h1⟩ := hcell 1 n1 rfl
  have hbw : Below w.heap.size w (w.alloc (.cells #[.slice (some ad) 2 c] 53)) := (Below.refl _ _).alloc (Nat.le_refl _) _
  obtain ⟨W1, hW1⟩ : ∃ W1, W1 = (w.alloc (.cells #[.slice (some ad) 2 c] 53)).alloc (.cells #[.func (.func 76) #[] #[.pointer (some ⟨w.heap.size, 0, none⟩)]] 43) := ⟨_, rfl⟩
  have hb1' : Below w.heap.size w W1 := by rw [hW1]; exact hbw.alloc (by simp) _
  have hbx : W1.cell? ⟨w.heap.size, 0, none⟩ = some (.slice (some ad) 2 c) := by rw [hW1]; exact ((Blk.new w _ _).alloc _).cell 0
  have cm : W1.cell? ⟨w.heap.size + 1, 0, none⟩ = some (.func (.func 76) #[] #[.pointer (some ⟨w.heap.size, 0, none⟩)]) := by
    rw [hW1]
    simp
  have C0 := Lib.hid (show ∀ j, Calls Tryd.prog 77 #[.int .i64 0, .pointer (some ⟨w.heap.size + 1, 0, none⟩)] (W1.drewN j) (fun e w' => e = .returned (.bool (p1 || p8)) ∧ W1.drewN j = w') from fun j => some_any (w := W1.drewN j) (i := 0) cm hbx (by omega) (by omega) ((hb1'.cell (World.block_lt_of_cell? _ _ h0)).trans h0) hp1 hp8)
  have HC30 := Lib.hid hbx
  have HC00 := Lib.hid ((hb1'.cell (World.block_lt_of_cell? _ _ h0)).trans h0)
  have HC10 := Lib.hid ((hb1'.cell (World.block_lt_of_cell? _ _ h1)).trans h1)
  have HEQ := Lib.hid hq
  have HW1 := Lib.hid hW1
  have HB1 := Lib.hid hb1'
  have HCM := Lib.hid cm
  have CA := Lib.hid (arity_any (hL.below hbw hLB) ⟨#[61]⟩)
  have HNB := Lib.hid (show arN ⟨#[61]⟩ = 2 ∧ arB ⟨#[61]⟩ = true from ⟨by decide +kernel, by decide +kernel⟩)
  clear hL hcell hbw hbx hW1 hb1' cm h0 h1 hp1 hp8 hq
  have hmf : ∀ (fn : Fn) (first cap : Array Value) (w : World), (Instr.makeFunc fn first cap).run Tryd.prog w = .ok (.func fn first cap) w := fun _ _ _ _ => rfl
  go_enter Tryd.func41, Tryd.ntmps41
  go_wp2_with fail
  refine CA.out.mono ?_
  rintro e w' ⟨rfl, rfl⟩
  rw [HNB.out.1, HNB.out.2]
  go_upto_region 6 with fail
  rw [← HW1.out]
  have cm := HCM.out
  obtain ⟨sv, hsv⟩ : ∃ sv, (p1 || p8) = sv := ⟨_, rfl⟩
  rw [hsv] at C0
  have HSV := Lib.hid hsv
  clear hsv
  cases sv with
  | false =>
    have c30 := HC30.out
    go_wp2_with fail
    go_quiet ((first | (go_at_call 77; exact quiet_left (C0.out _))))
    all_goals
      go_wp2_with fail
      go_ret
      exact ⟨by rw [HSV.out]; rfl, below_drewN HB1.out _⟩
  | true =>
    have c30 := HC30.out
    have c00 : W1.cell? ad = some (.slice A0 n0 k0) := by have h := HC00.out; rwa [show ad.add 0 = ad by simp [Addr.add]] at h
    have c10 : W1.cell? ⟨ad.block, ad.off + 1, none⟩ = some (.slice A1 n1 k1) := by have h := HC10.out; rwa [show ad.add 1 = ⟨ad.block, ad.off + 1, none⟩ by simp [Addr.add]] at h
    have he := HEQ.out
    go_wp2_with fail
    go_quiet ((first | (go_at_call 77; exact quiet_left (C0.out _))))
    all_goals
      go_wp2_with fail
      go_ret
      exact ⟨by rw [HSV.out]; rfl, below_drewN HB1.out _⟩
set_option maxRecDepth 100000 in
set_option maxHeartbeats 4000000 in
theorem shape_ne {w : World} {LB : Nat} (hL : Lvls w LB) (hLB : LB ≤ w.heap.size) {A : Option Addr} {c n0 n1 : Nat} (h : Lens w A [n0, n1]) {p1 : Bool} (hp1 : ((n0 : Int) == ((1 : Nat) : Int)) = p1) {p8 : Bool} (hp8 : ((n0 : Int) == ((8 : Nat) : Int)) = p8) {q : Bool} (hq : ((n0 : Int) == (n1 : Int)) = q) :
    Calls Tryd.prog 41 #[.string ⟨#[60, 62]⟩, .slice A 2 c] w (ShP w ((p1 || p8) && q)) := by
  obtain ⟨ad, rfl, hcell⟩ := h
  obtain ⟨A0, k0, h0⟩ := hcell 0 n0 rfl
  obtain ⟨A1, k1, h1⟩ := hcell 1 n1 rfl
  have hbw : Below w.heap.size w (w.alloc (.cells #[.slice (some ad) 2 c] 53)) := (Below.refl _ _).alloc (Nat.le_refl _) _
  obtain ⟨W1, hW1⟩ : ∃ W1, W1 = (w.alloc (.cells #[.slice (some ad) 2 c] 53)).alloc (.cells #[.func (.func 76) #[] #[.pointer (some ⟨w.heap.size, 0, none⟩)]] 43) := ⟨_, rfl⟩
  have hb1' : Below w.heap.size w W1 := by rw [hW1]; exact hbw.alloc (by simp) _
  have hbx : W1.cell? ⟨w.heap.size, 0, none⟩ = some (.slice (some ad) 2 c) := by rw [hW1]; exact ((Blk.new w _ _).alloc _).cell 0
  have cm : W1.cell? ⟨w.heap.size + 1, 0, none⟩ = some (.func (.func 76) #[] #[.pointer (some ⟨w.heap.size, 0, none⟩)]) := by
    rw [hW1]
    simp
  have C0 := Lib.hid (show ∀ j, Calls Tryd.prog 77 #[.int .i64 0, .pointer (some ⟨w.heap.size + 1, 0, none⟩)] (W1.drewN j) (fun e w' => e = .returned (.bool (p1 || p8)) ∧ W1.drewN j = w') from fun j => some_any (w := W1.drewN j) (i := 0) cm hbx (by omega) (by omega) ((hb1'.cell (World.block_lt_of_cell? _ _ h0)).trans h0) hp1 hp8)
  have HC30 := Lib.hid hbx
  have HC00 := Lib.hid ((hb1'.cell (World.block_lt_of_cell? _ _ h0)).trans h0)
  have HC10 := Lib.hid ((hb1'.cell (World.block_lt_of_cell? _ _ h1)).trans h1)
  have HEQ := Lib.hid hq
  have HW1 := Lib.hid hW1
  have HB1 := Lib.hid hb1'
  have HCM := Lib.hid cm
  have CA := Lib.hid (arity_any (hL.below hbw hLB) ⟨#[60, 62]⟩)
  have HNB := Lib.hid (show arN ⟨#[60, 62]⟩ = 2 ∧ arB ⟨#[60, 62]⟩ = true from ⟨by decide +kernel, by decide +kernel⟩)
  clear hL hcell hbw hbx hW1 hb1' cm h0 h1 hp1 hp8 hq
  have hmf : ∀ (fn : Fn) (first cap : Array Value) (w : World), (Instr.makeFunc fn first cap).run Tryd.prog w = .ok (.func fn first cap) w := fun _ _ _ _ => rfl
  go_enter Tryd.func41, Tryd.ntmps41
  go_wp2_with fail
  refine CA.out.mono ?_
  rintro e w' ⟨rfl, rfl⟩
  rw [HNB.out.1, HNB.out.2]
  go_upto_region 6 with fail
  rw [← HW1.out]
  have cm := HCM.out
  obtain ⟨sv, hsv⟩ : ∃ sv, (p1 || p8) = sv := ⟨_, rfl⟩
  rw [hsv] at C0
  have HSV := Lib.hid hsv
  clear hsv
  cases sv with
  | false =>
    have c30 := HC30.out
    go_wp2_with fail
    go_quiet ((first | (go_at_call 77; exact quiet_left (C0.out _))))
    all_goals
      go_wp2_with fail
      go_ret
      exact ⟨by rw [HSV.out]; rfl, below_drewN HB1.out _⟩
  | true =>
    have c30 := HC30.out
    have c00 : W1.cell? ad = some (.slice A0 n0 k0) := by have h := HC00.out; rwa [show ad.add 0 = ad by simp [Addr.add]] at h
    have c10 : W1.cell? ⟨ad.block, ad.off + 1, none⟩ = some (.slice A1 n1 k1) := by have h := HC10.out; rwa [show ad.add 1 = ⟨ad.block, ad.off + 1, none⟩ by simp [Addr.add]] at h
    have he := HEQ.out
    go_wp2_with fail
    go_quiet ((first | (go_at_call 77; exact quiet_left (C0.out _))))
    all_goals
      go_wp2_with fail
      go_ret
      exact ⟨by rw [HSV.out]; rfl, below_drewN HB1.out _⟩
end Go.Proofs.YtmbjhpgemphmmaaDoor
namespace Go.Proofs.YtmbjhpgemphmmaaDoor
open Go.RowKit
set_option maxRecDepth 100000 in
set_option maxHeartbeats 4000000 in
theorem shape_if {w : World} {LB : Nat} (hL : Lvls w LB) (hLB : LB ≤ w.heap.size) {A : Option Addr} {c n0 n1 n2 : Nat} (h : Lens w A [n0, n1, n2]) {b0 : Bool} (hb0 : ((n0 : Int) == ((1 : Nat) : Int)) = b0) {p1 : Bool} (hp1 : ((n1 : Int) == ((1 : Nat) : Int)) = p1) {p8 : Bool} (hp8 : ((n1 : Int) == ((8 : Nat) : Int)) = p8) {q : Bool} (hq : ((n1 : Int) == (n2 : Int)) = q) :
    Calls Tryd.prog 41 #[.string ⟨#[105, 102]⟩, .slice A 3 c] w (ShP w (b0 && (p1 || p8) && q)) := by
  obtain ⟨ad, rfl, hcell⟩ := h
  obtain ⟨A0, k0, h0⟩ := hcell 0 n0 rfl
  obtain ⟨A1, k1, h1⟩ := hcell 1 n1 rfl
  obtain ⟨A2, k2, h2⟩ := hcell 2 n2 rfl
  have hbw : Below w.heap.size w (w.alloc (.cells #[.slice (some ad) 3 c] 53)) := (Below.refl _ _).alloc (Nat.le_refl _) _
  obtain ⟨W1, hW1⟩ : ∃ W1, W1 = (w.alloc (.cells #[.slice (some ad) 3 c] 53)).alloc (.cells #[.func (.func 76) #[] #[.pointer (some ⟨w.heap.size, 0, none⟩)]] 43) := ⟨_, rfl⟩
  have hb1' : Below w.heap.size w W1 := by rw [hW1]; exact hbw.alloc (by simp) _
  have hbx : W1.cell? ⟨w.heap.size, 0, none⟩ = some (.slice (some ad) 3 c) := by rw [hW1]; exact ((Blk.new w _ _).alloc _).cell 0
  have cm : W1.cell? ⟨w.heap.size + 1, 0, none⟩ = some (.func (.func 76) #[] #[.pointer (some ⟨w.heap.size, 0, none⟩)]) := by
    rw [hW1]
    simp
  have C0 := Lib.hid (show ∀ j, Calls Tryd.prog 76 #[.int .i64 0, .int .i64 1, .pointer (some ⟨w.heap.size, 0, none⟩)] (W1.drewN j) (fun e w' => e = .returned (.bool b0) ∧ W1.drewN j = w') from fun j => many_any (w := W1.drewN j) (i := 0) (k := 1) hbx (by omega) (by omega) ((hb1'.cell (World.block_lt_of_cell? _ _ h0)).trans h0) hb0)
  have C1 := Lib.hid (show ∀ j, Calls Tryd.prog 77 #[.int .i64 1, .pointer (some ⟨w.heap.size + 1, 0, none⟩)] (W1.drewN j) (fun e w' => e = .returned (.bool (p1 || p8)) ∧ W1.drewN j = w') from fun j => some_any (w := W1.drewN j) (i := 1) cm hbx (by omega) (by omega) ((hb1'.cell (World.block_lt_of_cell? _ _ h1)).trans h1) hp1 hp8)
  have HC30 := Lib.hid hbx
  have HC10 := Lib.hid ((hb1'.cell (World.block_lt_of_cell? _ _ h1)).trans h1)
  have HC20 := Lib.hid ((hb1'.cell (World.block_lt_of_cell? _ _ h2)).trans h2)
  have HEQ := Lib.hid hq
  have HW1 := Lib.hid hW1
  have HB1 := Lib.hid hb1'
  have HCM := Lib.hid cm
  have CA := Lib.hid (arity_any (hL.below hbw hLB) ⟨#[105, 102]⟩)
  have HNB := Lib.hid (show arN ⟨#[105, 102]⟩ = 3 ∧ arB ⟨#[105, 102]⟩ = true from ⟨by decide +kernel, by decide +kernel⟩)
  clear hL hcell hbw hbx hW1 hb1' cm h0 h1 h2 hb0 hp1 hp8 hq
  have hmf : ∀ (fn : Fn) (first cap : Array Value) (w : World), (Instr.makeFunc fn first cap).run Tryd.prog w = .ok (.func fn first cap) w := fun _ _ _ _ => rfl
  go_enter Tryd.func41, Tryd.ntmps41
  go_wp2_with fail
  refine CA.out.mono ?_
  rintro e w' ⟨rfl, rfl⟩
  rw [HNB.out.1, HNB.out.2]
  go_upto_region 6 with fail
  rw [← HW1.out]
  have cm := HCM.out
  obtain ⟨sv, hsv⟩ : ∃ sv, (p1 || p8) = sv := ⟨_, rfl⟩
  rw [hsv] at C1
  have HSV := Lib.hid hsv
  clear hsv
  cases b0 with
  | false =>
    have c30 := HC30.out
    go_wp2_with fail
    go_quiet ((first | (go_at_call 76; exact quiet_left (C0.out _)) | (go_at_call 77; exact quiet_left (C1.out _))))
    all_goals
      go_wp2_with fail
      go_ret
      exact ⟨rfl, below_drewN HB1.out _⟩
  | true =>
    cases sv with
    | false =>
      have c30 := HC30.out
      go_wp2_with fail
      go_quiet ((first | (go_at_call 76; exact quiet_left (C0.out _)) | (go_at_call 77; exact quiet_left (C1.out _))))
      all_goals
        go_wp2_with fail
        go_ret
        exact ⟨by rw [HSV.out]; rfl, below_drewN HB1.out _⟩
    | true =>
      have c30 := HC30.out
      have c10 : W1.cell? ⟨ad.block, ad.off + 1, none⟩ = some (.slice A1 n1 k1) := by have h := HC10.out; rwa [show ad.add 1 = ⟨ad.block, ad.off + 1, none⟩ by simp [Addr.add]] at h
      have c20 : W1.cell? ⟨ad.block, ad.off + 2, none⟩ = some (.slice A2 n2 k2) := by have h := HC20.out; rwa [show ad.add 2 = ⟨ad.block, ad.off + 2, none⟩ by simp [Addr.add]] at h
      have he := HEQ.out
      go_wp2_with fail
      go_quiet ((first | (go_at_call 76; exact quiet_left (C0.out _)) | (go_at_call 77; exact quiet_left (C1.out _))))
      all_goals
        go_wp2_with fail
        go_ret
        exact ⟨by rw [HSV.out]; rfl, below_drewN HB1.out _⟩
/-- no operator of gates with so many parts -/
def badOp (s : ByteArray) (m : Nat) : Bool := !(arB s) || decide (arN s < 1) || !(arN s == (m : Int)) || s.toList == [112, 114, 101] || s.toList == [45, 62] || s.toList == [102, 98, 121]
set_option maxRecDepth 100000 in
set_option maxHeartbeats 4000000 in
theorem shape_bad1 {w : World} {LB : Nat} (hL : Lvls w LB) (hLB : LB ≤ w.heap.size) {A : Option Addr} {m c : Nat} {s : ByteArray} {nA : Int} {bA : Bool} (hn : arN s = nA) (hb : arB s = bA) (h1 : bA = false) :
    Calls Tryd.prog 41 #[.string s, .slice A m c] w (ShP w false) := by
  obtain ⟨W1, hW1⟩ : ∃ W1, W1 = w.alloc (.cells #[.slice A m c] 53) := ⟨_, rfl⟩
  have hbw : Below w.heap.size w W1 := by rw [hW1]; exact (Below.refl _ _).alloc (Nat.le_refl _) _
  have hbx : W1.cell? ⟨w.heap.size, 0, none⟩ = some (.slice A m c) := by rw [hW1]; exact (Blk.new w _ _).cell 0
  have CA := Lib.hid (arity_any (hL.below hbw hLB) s)
  have HNB := Lib.hid (And.intro hn hb)
  have HW1 := Lib.hid hW1
  have HB1 := Lib.hid hbw
  clear hL hn hb hbw hW1 hLB
  go_enter Tryd.func41, Tryd.ntmps41
  go_upto_region 1 with fail
  rw [← HW1.out]
  go_wp2_with fail
  refine CA.out.mono ?_
  rintro e w' ⟨rfl, rfl⟩
  rw [HNB.out.1, HNB.out.2]
  subst h1
  go_wp2_with fail
  go_ret
  exact ⟨rfl, HB1.out⟩
set_option maxRecDepth 100000 in
set_option maxHeartbeats 4000000 in
theorem shape_bad2 {w : World} {LB : Nat} (hL : Lvls w LB) (hLB : LB ≤ w.heap.size) {A : Option Addr} {m c : Nat} {s : ByteArray} {nA : Int} {bA : Bool} (hn : arN s = nA) (hb : arB s = bA) (h1 : bA = true) (h2 : decide (nA < 1) = true) :
    Calls Tryd.prog 41 #[.string s, .slice A m c] w (ShP w false) := by
  obtain ⟨W1, hW1⟩ : ∃ W1, W1 = w.alloc (.cells #[.slice A m c] 53) := ⟨_, rfl⟩
  have hbw : Below w.heap.size w W1 := by rw [hW1]; exact (Below.refl _ _).alloc (Nat.le_refl _) _
  have hbx : W1.cell? ⟨w.heap.size, 0, none⟩ = some (.slice A m c) := by rw [hW1]; exact (Blk.new w _ _).cell 0
  have CA := Lib.hid (arity_any (hL.below hbw hLB) s)
  have HNB := Lib.hid (And.intro hn hb)
  have HW1 := Lib.hid hW1
  have HB1 := Lib.hid hbw
  clear hL hn hb hbw hW1 hLB
  go_enter Tryd.func41, Tryd.ntmps41
  go_upto_region 1 with fail
  rw [← HW1.out]
  go_wp2_with fail
  refine CA.out.mono ?_
  rintro e w' ⟨rfl, rfl⟩
  rw [HNB.out.1, HNB.out.2]
  subst h1
  go_wp2_with fail
  go_ret
  exact ⟨rfl, HB1.out⟩
set_option maxRecDepth 100000 in
set_option maxHeartbeats 4000000 in
theorem shape_bad3 {w : World} {LB : Nat} (hL : Lvls w LB) (hLB : LB ≤ w.heap.size) {A : Option Addr} {m c : Nat} {s : ByteArray} {nA : Int} {bA : Bool} (hn : arN s = nA) (hb : arB s = bA) (h1 : bA = true) (h2 : decide (nA < 1) = false) (h3 : ¬ nA = (m : Int)) :
    Calls Tryd.prog 41 #[.string s, .slice A m c] w (ShP w false) := by
  obtain ⟨W1, hW1⟩ : ∃ W1, W1 = w.alloc (.cells #[.slice A m c] 53) := ⟨_, rfl⟩
  have hbw : Below w.heap.size w W1 := by rw [hW1]; exact (Below.refl _ _).alloc (Nat.le_refl _) _
  have hbx : W1.cell? ⟨w.heap.size, 0, none⟩ = some (.slice A m c) := by rw [hW1]; exact (Blk.new w _ _).cell 0
  have CA := Lib.hid (arity_any (hL.below hbw hLB) s)
  have HNB := Lib.hid (And.intro hn hb)
  have HW1 := Lib.hid hW1
  have HB1 := Lib.hid hbw
  clear hL hn hb hbw hW1 hLB
  go_enter Tryd.func41, Tryd.ntmps41
  go_upto_region 1 with fail
  rw [← HW1.out]
  go_wp2_with fail
  refine CA.out.mono ?_
  rintro e w' ⟨rfl, rfl⟩
  rw [HNB.out.1, HNB.out.2]
  subst h1
  go_wp2_with fail
  go_ret
  exact ⟨rfl, HB1.out⟩
set_option maxRecDepth 100000 in
set_option maxHeartbeats 4000000 in
theorem shape_bad4 {w : World} {LB : Nat} (hL : Lvls w LB) (hLB : LB ≤ w.heap.size) {A : Option Addr} {m c : Nat} {s : ByteArray} {nA : Int} {bA : Bool} (hn : arN s = nA) (hb : arB s = bA) (h1 : bA = true) (h2 : decide (nA < 1) = false) (h3 : nA = (m : Int)) (e1 : (s.toList == [112, 114, 101]) = true) :
    Calls Tryd.prog 41 #[.string s, .slice A m c] w (ShP w false) := by
  obtain ⟨W1, hW1⟩ : ∃ W1, W1 = w.alloc (.cells #[.slice A m c] 53) := ⟨_, rfl⟩
  have hbw : Below w.heap.size w W1 := by rw [hW1]; exact (Below.refl _ _).alloc (Nat.le_refl _) _
  have hbx : W1.cell? ⟨w.heap.size, 0, none⟩ = some (.slice A m c) := by rw [hW1]; exact (Blk.new w _ _).cell 0
  have CA := Lib.hid (arity_any (hL.below hbw hLB) s)
  have HNB := Lib.hid (And.intro hn hb)
  have HW1 := Lib.hid hW1
  have HB1 := Lib.hid hbw
  clear hL hn hb hbw hW1 hLB
  go_enter Tryd.func41, Tryd.ntmps41
  go_upto_region 1 with fail
  rw [← HW1.out]
  go_wp2_with fail
  refine CA.out.mono ?_
  rintro e w' ⟨rfl, rfl⟩
  rw [HNB.out.1, HNB.out.2]
  subst h1
  subst h3
  go_wp2_with fail
  go_ret
  exact ⟨rfl, HB1.out⟩
set_option maxRecDepth 100000 in
set_option maxHeartbeats 4000000 in
theorem shape_bad5 {w : World} {LB : Nat} (hL : Lvls w LB) (hLB : LB ≤ w.heap.size) {A : Option Addr} {m c : Nat} {s : ByteArray} {nA : Int} {bA : Bool} (hn : arN s = nA) (hb : arB s = bA) (h1 : bA = true) (h2 : decide (nA < 1) = false) (h3 : nA = (m : Int)) (e1 : (s.toList == [112, 114, 101]) = false) (e2 : (s.toList == [45, 62]) = true) :
    Calls Tryd.prog 41 #[.string s, .slice A m c] w (ShP w false) := by
  obtain ⟨W1, hW1⟩ : ∃ W1, W1 = w.alloc (.cells #[.slice A m c] 53) := ⟨_, rfl⟩
  have hbw : Below w.heap.size w W1 := by rw [hW1]; exact (Below.refl _ _).alloc (Nat.le_refl _) _
  have hbx : W1.cell? ⟨w.heap.size, 0, none⟩ = some (.slice A m c) := by rw [hW1]; exact (Blk.new w _ _).cell 0
  have CA := Lib.hid (arity_any (hL.below hbw hLB) s)
  have HNB := Lib.hid (And.intro hn hb)
  have HW1 := Lib.hid hW1
  have HB1 := Lib.hid hbw
  clear hL hn hb hbw hW1 hLB
  go_enter Tryd.func41, Tryd.ntmps41
  go_upto_region 1 with fail
  rw [← HW1.out]
  go_wp2_with fail
  refine CA.out.mono ?_
  rintro e w' ⟨rfl, rfl⟩
  rw [HNB.out.1, HNB.out.2]
  subst h1
  subst h3
  go_wp2_with fail
  go_ret
  exact ⟨rfl, HB1.out⟩
set_option maxRecDepth 100000 in
set_option maxHeartbeats 4000000 in
theorem shape_bad6 {w : World} {LB : Nat} (hL : Lvls w LB) (hLB : LB ≤ w.heap.size) {A : Option Addr} {m c : Nat} {s : ByteArray} {nA : Int} {bA : Bool} (hn : arN s = nA) (hb : arB s = bA) (h1 : bA = true) (h2 : decide (nA < 1) = false) (h3 : nA = (m : Int)) (e1 : (s.toList == [112, 114, 101]) = false) (e2 : (s.toList == [45, 62]) = false) (e3 : (s.toList == [102, 98, 121]) = true) :
    Calls Tryd.prog 41 #[.string s, .slice A m c] w (ShP w false) := by
  obtain ⟨W1, hW1⟩ : ∃ W1, W1 = w.alloc (.cells #[.slice A m c] 53) := ⟨_, rfl⟩
  have hbw : Below w.heap.size w W1 := by rw [hW1]; exact (Below.refl _ _).alloc (Nat.le_refl _) _
  have hbx : W1.cell? ⟨w.heap.size, 0, none⟩ = some (.slice A m c) := by rw [hW1]; exact (Blk.new w _ _).cell 0
  have CA := Lib.hid (arity_any (hL.below hbw hLB) s)
  have HNB := Lib.hid (And.intro hn hb)
  have HW1 := Lib.hid hW1
  have HB1 := Lib.hid hbw
  clear hL hn hb hbw hW1 hLB
  go_enter Tryd.func41, Tryd.ntmps41
  go_upto_region 1 with fail
  rw [← HW1.out]
  go_wp2_with fail
  refine CA.out.mono ?_
  rintro e w' ⟨rfl, rfl⟩
  rw [HNB.out.1, HNB.out.2]
  subst h1
  subst h3
  go_wp2_with fail
  go_ret
  exact ⟨rfl, HB1.out⟩
theorem shape_bad {w : World} {LB : Nat} (hL : Lvls w LB) (hLB : LB ≤ w.heap.size) {A : Option Addr} {m c : Nat} {s : ByteArray} (h : badOp s m = true) :
    Calls Tryd.prog 41 #[.string s, .slice A m c] w (ShP w false) := by
  unfold badOp at h
  cases h1 : arB s with
  | false => exact shape_bad1 hL hLB rfl rfl h1
  | true =>
  cases h2 : decide (arN s < 1) with
  | true => exact shape_bad2 hL hLB rfl rfl h1 h2
  | false =>
  cases h3 : (arN s == (m : Int)) with
  | false => exact shape_bad3 hL hLB rfl rfl h1 h2 (by simpa using h3)
  | true =>
  cases e1 : (s.toList == [112, 114, 101]) with
  | true => exact shape_bad4 hL hLB rfl rfl h1 h2 (by simpa using h3) e1
  | false =>
  cases e2 : (s.toList == [45, 62]) with
  | true => exact shape_bad5 hL hLB rfl rfl h1 h2 (by simpa using h3) e1 e2
  | false =>
  cases e3 : (s.toList == [102, 98, 121]) with
  | true => exact shape_bad6 hL hLB rfl rfl h1 h2 (by simpa using h3) e1 e2 e3
  | false => rw [h1, h2, h3, e1, e2, e3] at h; cases h
end Go.Proofs.YtmbjhpgemphmmaaDoor
namespace Go.Proofs.YtmbjhpgemphmmaaDoor
open Go.RowKit
theorem txt_ne {s x : ByteArray} {l : List UInt8} (hx : x.toList = l) (h : s ≠ x) : (s.toList == l) = false := by
  rw [beq_eq_false_iff_ne]
  intro e
  refine h ?_
  rw [← hx, ByteArray.toList_eq, ByteArray.toList_eq] at e
  exact ByteArray.ext (Array.toList_inj.mp e)
/-- operators of gates, and how many parts they have -/
def k18 : List (ByteArray × Nat) := [(⟨#[110, 111, 116]⟩, 1), (⟨#[110, 101, 103]⟩, 1), (⟨#[105, 102]⟩, 3), (⟨#[97, 110, 100]⟩, 2), (⟨#[111, 114]⟩, 2), (⟨#[120, 111, 114]⟩, 2), (⟨#[61, 62]⟩, 2), (⟨#[61]⟩, 2), (⟨#[60, 62]⟩, 2), (⟨#[60]⟩, 2), (⟨#[60, 61]⟩, 2), (⟨#[62]⟩, 2), (⟨#[62, 61]⟩, 2), (⟨#[43]⟩, 2), (⟨#[45]⟩, 2), (⟨#[42]⟩, 2), (⟨#[47]⟩, 2), (⟨#[109, 111, 100]⟩, 2)]
/-- the others -/
def k8 : List ByteArray := [⟨#[105, 110, 116]⟩, ⟨#[116, 114, 117, 101]⟩, ⟨#[102, 97, 108, 115, 101]⟩, ⟨#[110, 97, 109, 101]⟩, ⟨#[112, 114, 101]⟩, ⟨#[99, 97, 108, 108]⟩, ⟨#[45, 62]⟩, ⟨#[102, 98, 121]⟩]
theorem lvl_known : ∀ j, j < 5 → ∀ x ∈ lvl j, x ∈ k18.map Prod.fst := by
  intro j hj x hx
  match j, hj with
  | 0, _ => unfold lvl at hx; simp only [List.mem_cons, List.not_mem_nil, or_false] at hx; rcases hx with rfl | rfl <;> simp [k18]
  | 1, _ => unfold lvl at hx; simp only [List.mem_cons, List.not_mem_nil, or_false] at hx; obtain rfl := hx; simp [k18]
  | 2, _ => unfold lvl at hx; simp only [List.mem_cons, List.not_mem_nil, or_false] at hx; rcases hx with rfl | rfl | rfl | rfl | rfl | rfl | rfl <;> simp [k18]
  | 3, _ => unfold lvl at hx; simp only [List.mem_cons, List.not_mem_nil, or_false] at hx; rcases hx with rfl | rfl <;> simp [k18]
  | 4, _ => unfold lvl at hx; simp only [List.mem_cons, List.not_mem_nil, or_false] at hx; rcases hx with rfl | rfl | rfl <;> simp [k18]
theorem none_known {s : ByteArray} (h : ∀ x ∈ k18.map Prod.fst, s ≠ x) (h8 : ∀ x ∈ k8, s ≠ x) : (s.toList == [110, 111, 116]) = false ∧ (s.toList == [110, 101, 103]) = false ∧ (s.toList == [105, 102]) = false ∧ (s.toList == [97, 110, 100]) = false ∧ (s.toList == [111, 114]) = false ∧ (s.toList == [120, 111, 114]) = false ∧ (s.toList == [61, 62]) = false ∧ (s.toList == [61]) = false ∧ (s.toList == [60, 62]) = false ∧ (s.toList == [60]) = false ∧ (s.toList == [60, 61]) = false ∧ (s.toList == [62]) = false ∧ (s.toList == [62, 61]) = false ∧ (s.toList == [43]) = false ∧ (s.toList == [45]) = false ∧ (s.toList == [42]) = false ∧ (s.toList == [47]) = false ∧ (s.toList == [109, 111, 100]) = false ∧ (s.toList == [105, 110, 116]) = false ∧ (s.toList == [116, 114, 117, 101]) = false ∧ (s.toList == [102, 97, 108, 115, 101]) = false ∧ (s.toList == [110, 97, 109, 101]) = false ∧ (s.toList == [112, 114, 101]) = false ∧ (s.toList == [99, 97, 108, 108]) = false ∧ (s.toList == [45, 62]) = false ∧ (s.toList == [102, 98, 121]) = false := by
  refine ⟨txt_ne (x := ⟨#[110, 111, 116]⟩) (by decide +kernel) (h _ (by simp [k18])), txt_ne (x := ⟨#[110, 101, 103]⟩) (by decide +kernel) (h _ (by simp [k18])), txt_ne (x := ⟨#[105, 102]⟩) (by decide +kernel) (h _ (by simp [k18])), txt_ne (x := ⟨#[97, 110, 100]⟩) (by decide +kernel) (h _ (by simp [k18])), txt_ne (x := ⟨#[111, 114]⟩) (by decide +kernel) (h _ (by simp [k18])), txt_ne (x := ⟨#[120, 111, 114]⟩) (by decide +kernel) (h _ (by simp [k18])), txt_ne (x := ⟨#[61, 62]⟩) (by decide +kernel) (h _ (by simp [k18])), txt_ne (x := ⟨#[61]⟩) (by decide +kernel) (h _ (by simp [k18])), txt_ne (x := ⟨#[60, 62]⟩) (by decide +kernel) (h _ (by simp [k18])), txt_ne (x := ⟨#[60]⟩) (by decide +kernel) (h _ (by simp [k18])), txt_ne (x := ⟨#[60, 61]⟩) (by decide +kernel) (h _ (by simp [k18])), txt_ne (x := ⟨#[62]⟩) (by decide +kernel) (h _ (by simp [k18])), txt_ne (x := ⟨#[62, 61]⟩) (by decide +kernel) (h _ (by simp [k18])), txt_ne (x := ⟨#[43]⟩) (by decide +kernel) (h _ (by simp [k18])), txt_ne (x := ⟨#[45]⟩) (by decide +kernel) (h _ (by simp [k18])), txt_ne (x := ⟨#[42]⟩) (by decide +kernel) (h _ (by simp [k18])), txt_ne (x := ⟨#[47]⟩) (by decide +kernel) (h _ (by simp [k18])), txt_ne (x := ⟨#[109, 111, 100]⟩) (by decide +kernel) (h _ (by simp [k18])), txt_ne (x := ⟨#[105, 110, 116]⟩) (by decide +kernel) (h8 _ (by simp [k8])), txt_ne (x := ⟨#[116, 114, 117, 101]⟩) (by decide +kernel) (h8 _ (by simp [k8])), txt_ne (x := ⟨#[102, 97, 108, 115, 101]⟩) (by decide +kernel) (h8 _ (by simp [k8])), txt_ne (x := ⟨#[110, 97, 109, 101]⟩) (by decide +kernel) (h8 _ (by simp [k8])), txt_ne (x := ⟨#[112, 114, 101]⟩) (by decide +kernel) (h8 _ (by simp [k8])), txt_ne (x := ⟨#[99, 97, 108, 108]⟩) (by decide +kernel) (h8 _ (by simp [k8])), txt_ne (x := ⟨#[45, 62]⟩) (by decide +kernel) (h8 _ (by simp [k8])), txt_ne (x := ⟨#[102, 98, 121]⟩) (by decide +kernel) (h8 _ (by simp [k8]))⟩
theorem inLv_none {s : ByteArray} (h : ∀ x ∈ k18.map Prod.fst, s ≠ x) : inLv s = false :=
  inLv_no fun j hj => idxS_none fun x hx => h x (lvl_known j hj x hx)
set_option maxRecDepth 100000 in
theorem arB_none {s : ByteArray} (h : ∀ x ∈ k18.map Prod.fst, s ≠ x) (h8 : ∀ x ∈ k8, s ≠ x) : arN s = 0 ∧ arB s = false := by
  have hl := inLv_none h
  obtain ⟨e0, e1, e2, e3, e4, e5, e6, e7, e8, e9, e10, e11, e12, e13, e14, e15, e16, e17, e18, e19, e20, e21, e22, e23, e24, e25⟩ := none_known h h8
  unfold arN arB
  simp [e18, e19, e20, e21, e0, e1, e22, e2, e23, e24, e25, hl]
theorem known18 : ∀ x ∈ k18, arN x.1 = (x.2 : Int) ∧ arB x.1 = true ∧ ∀ m : Nat, (x.2 : Int) = (m : Int) → m = x.2 := by
  intro x hx
  have h : ∀ x ∈ k18, arN x.1 = (x.2 : Int) ∧ arB x.1 = true := by
    intro x hx
    unfold k18 at hx
    simp only [List.mem_cons, List.not_mem_nil, or_false] at hx
    rcases hx with rfl | rfl | rfl | rfl | rfl | rfl | rfl | rfl | rfl | rfl | rfl | rfl | rfl | rfl | rfl | rfl | rfl | rfl <;> exact ⟨by decide +kernel, by decide +kernel⟩
  exact ⟨(h x hx).1, (h x hx).2, fun m hm => by omega⟩
theorem known8 : ∀ x ∈ k8, (arN x < 1) ∨ x.toList = [112, 114, 101] ∨ x.toList = [45, 62] ∨ x.toList = [102, 98, 121] := by
  intro x hx
  unfold k8 at hx
  simp only [List.mem_cons, List.not_mem_nil, or_false] at hx
  rcases hx with rfl | rfl | rfl | rfl | rfl | rfl | rfl | rfl <;> decide +kernel
/-- an operator of gates is one of the eighteen -/
theorem known {s : ByteArray} {m : Nat} (h : badOp s m = false) : (s, m) ∈ k18 := by
  by_cases h1 : ∀ x ∈ k18.map Prod.fst, s ≠ x
  · exfalso
    by_cases h8 : ∀ x ∈ k8, s ≠ x
    · have := (arB_none h1 h8).2
      unfold badOp at h
      rw [this] at h
      simp at h
    · simp only [Classical.not_forall, ne_eq, Classical.not_not] at h8
      obtain ⟨x, hx, rfl⟩ := h8
      unfold badOp at h
      rcases known8 _ hx with e | e | e | e
      · simp [e] at h
      · simp [e] at h
      · simp [e] at h
      · simp [e] at h
  · simp only [Classical.not_forall, ne_eq, Classical.not_not] at h1
    obtain ⟨x, hx, rfl⟩ := h1
    obtain ⟨⟨y, n⟩, hy, rfl⟩ := List.mem_map.1 hx
    obtain ⟨e1, e2, e3⟩ := known18 _ hy
    have hm : m = n := by
      refine e3 m ?_
      rw [← e1]
      unfold badOp at h
      simp only [Bool.or_eq_false_iff, Bool.not_eq_false', beq_iff_eq] at h
      exact h.1.1.1.2
    rw [hm]; exact hy
theorem known_ok : ∀ x ∈ k18, badOp x.1 x.2 = false := by
  intro x hx
  unfold k18 at hx
  simp only [List.mem_cons, List.not_mem_nil, or_false] at hx
  rcases hx with rfl | rfl | rfl | rfl | rfl | rfl | rfl | rfl | rfl | rfl | rfl | rfl | rfl | rfl | rfl | rfl | rfl | rfl <;> decide +kernel
/-- the document's Arity -/
theorem rar_0 (w : World) : Calls Tryd.prog 50 #[.string ⟨#[110, 111, 116]⟩] w (fun e w' => e = .returned (.tuple #[.int .i64 1, .bool true]) ∧ w = w') := by
  go_enter Tryd.func50, Tryd.ntmps50
  go_wp2_with fail
  go_ret2
  exact ⟨rfl, rfl⟩
theorem rar_1 (w : World) : Calls Tryd.prog 50 #[.string ⟨#[110, 101, 103]⟩] w (fun e w' => e = .returned (.tuple #[.int .i64 1, .bool true]) ∧ w = w') := by
  go_enter Tryd.func50, Tryd.ntmps50
  go_wp2_with fail
  go_ret2
  exact ⟨rfl, rfl⟩
theorem rar_2 (w : World) : Calls Tryd.prog 50 #[.string ⟨#[105, 102]⟩] w (fun e w' => e = .returned (.tuple #[.int .i64 3, .bool true]) ∧ w = w') := by
  go_enter Tryd.func50, Tryd.ntmps50
  go_wp2_with fail
  go_ret2
  exact ⟨rfl, rfl⟩
theorem rar_3 (w : World) : Calls Tryd.prog 50 #[.string ⟨#[97, 110, 100]⟩] w (fun e w' => e = .returned (.tuple #[.int .i64 2, .bool true]) ∧ w = w') := by
  go_enter Tryd.func50, Tryd.ntmps50
  go_wp2_with fail
  go_ret2
  exact ⟨rfl, rfl⟩
theorem rar_4 (w : World) : Calls Tryd.prog 50 #[.string ⟨#[111, 114]⟩] w (fun e w' => e = .returned (.tuple #[.int .i64 2, .bool true]) ∧ w = w') := by
  go_enter Tryd.func50, Tryd.ntmps50
  go_wp2_with fail
  go_ret2
  exact ⟨rfl, rfl⟩
theorem rar_5 (w : World) : Calls Tryd.prog 50 #[.string ⟨#[120, 111, 114]⟩] w (fun e w' => e = .returned (.tuple #[.int .i64 2, .bool true]) ∧ w = w') := by
  go_enter Tryd.func50, Tryd.ntmps50
  go_wp2_with fail
  go_ret2
  exact ⟨rfl, rfl⟩
theorem rar_6 (w : World) : Calls Tryd.prog 50 #[.string ⟨#[61, 62]⟩] w (fun e w' => e = .returned (.tuple #[.int .i64 2, .bool true]) ∧ w = w') := by
  go_enter Tryd.func50, Tryd.ntmps50
  go_wp2_with fail
  go_ret2
  exact ⟨rfl, rfl⟩
theorem rar_7 (w : World) : Calls Tryd.prog 50 #[.string ⟨#[61]⟩] w (fun e w' => e = .returned (.tuple #[.int .i64 2, .bool true]) ∧ w = w') := by
  go_enter Tryd.func50, Tryd.ntmps50
  go_wp2_with fail
  go_ret2
  exact ⟨rfl, rfl⟩
theorem rar_8 (w : World) : Calls Tryd.prog 50 #[.string ⟨#[60, 62]⟩] w (fun e w' => e = .returned (.tuple #[.int .i64 2, .bool true]) ∧ w = w') := by
  go_enter Tryd.func50, Tryd.ntmps50
  go_wp2_with fail
  go_ret2
  exact ⟨rfl, rfl⟩
theorem rar_9 (w : World) : Calls Tryd.prog 50 #[.string ⟨#[60]⟩] w (fun e w' => e = .returned (.tuple #[.int .i64 2, .bool true]) ∧ w = w') := by
  go_enter Tryd.func50, Tryd.ntmps50
  go_wp2_with fail
  go_ret2
  exact ⟨rfl, rfl⟩
theorem rar_10 (w : World) : Calls Tryd.prog 50 #[.string ⟨#[60, 61]⟩] w (fun e w' => e = .returned (.tuple #[.int .i64 2, .bool true]) ∧ w = w') := by
  go_enter Tryd.func50, Tryd.ntmps50
  go_wp2_with fail
  go_ret2
  exact ⟨rfl, rfl⟩
theorem rar_11 (w : World) : Calls Tryd.prog 50 #[.string ⟨#[62]⟩] w (fun e w' => e = .returned (.tuple #[.int .i64 2, .bool true]) ∧ w = w') := by
  go_enter Tryd.func50, Tryd.ntmps50
  go_wp2_with fail
  go_ret2
  exact ⟨rfl, rfl⟩
theorem rar_12 (w : World) : Calls Tryd.prog 50 #[.string ⟨#[62, 61]⟩] w (fun e w' => e = .returned (.tuple #[.int .i64 2, .bool true]) ∧ w = w') := by
  go_enter Tryd.func50, Tryd.ntmps50
  go_wp2_with fail
  go_ret2
  exact ⟨rfl, rfl⟩
theorem rar_13 (w : World) : Calls Tryd.prog 50 #[.string ⟨#[43]⟩] w (fun e w' => e = .returned (.tuple #[.int .i64 2, .bool true]) ∧ w = w') := by
  go_enter Tryd.func50, Tryd.ntmps50
  go_wp2_with fail
  go_ret2
  exact ⟨rfl, rfl⟩
theorem rar_14 (w : World) : Calls Tryd.prog 50 #[.string ⟨#[45]⟩] w (fun e w' => e = .returned (.tuple #[.int .i64 2, .bool true]) ∧ w = w') := by
  go_enter Tryd.func50, Tryd.ntmps50
  go_wp2_with fail
  go_ret2
  exact ⟨rfl, rfl⟩
theorem rar_15 (w : World) : Calls Tryd.prog 50 #[.string ⟨#[42]⟩] w (fun e w' => e = .returned (.tuple #[.int .i64 2, .bool true]) ∧ w = w') := by
  go_enter Tryd.func50, Tryd.ntmps50
  go_wp2_with fail
  go_ret2
  exact ⟨rfl, rfl⟩
theorem rar_16 (w : World) : Calls Tryd.prog 50 #[.string ⟨#[47]⟩] w (fun e w' => e = .returned (.tuple #[.int .i64 2, .bool true]) ∧ w = w') := by
  go_enter Tryd.func50, Tryd.ntmps50
  go_wp2_with fail
  go_ret2
  exact ⟨rfl, rfl⟩
theorem rar_17 (w : World) : Calls Tryd.prog 50 #[.string ⟨#[109, 111, 100]⟩] w (fun e w' => e = .returned (.tuple #[.int .i64 2, .bool true]) ∧ w = w') := by
  go_enter Tryd.func50, Tryd.ntmps50
  go_wp2_with fail
  go_ret2
  exact ⟨rfl, rfl⟩
theorem rar_18 (w : World) : Calls Tryd.prog 50 #[.string ⟨#[105, 110, 116]⟩] w (fun e w' => e = .returned (.tuple #[.int .i64 0, .bool true]) ∧ w = w') := by
  go_enter Tryd.func50, Tryd.ntmps50
  go_wp2_with fail
  go_ret2
  exact ⟨rfl, rfl⟩
theorem rar_19 (w : World) : Calls Tryd.prog 50 #[.string ⟨#[116, 114, 117, 101]⟩] w (fun e w' => e = .returned (.tuple #[.int .i64 0, .bool true]) ∧ w = w') := by
  go_enter Tryd.func50, Tryd.ntmps50
  go_wp2_with fail
  go_ret2
  exact ⟨rfl, rfl⟩
theorem rar_20 (w : World) : Calls Tryd.prog 50 #[.string ⟨#[102, 97, 108, 115, 101]⟩] w (fun e w' => e = .returned (.tuple #[.int .i64 0, .bool true]) ∧ w = w') := by
  go_enter Tryd.func50, Tryd.ntmps50
  go_wp2_with fail
  go_ret2
  exact ⟨rfl, rfl⟩
theorem rar_21 (w : World) : Calls Tryd.prog 50 #[.string ⟨#[110, 97, 109, 101]⟩] w (fun e w' => e = .returned (.tuple #[.int .i64 0, .bool true]) ∧ w = w') := by
  go_enter Tryd.func50, Tryd.ntmps50
  go_wp2_with fail
  go_ret2
  exact ⟨rfl, rfl⟩
theorem rar_22 (w : World) : Calls Tryd.prog 50 #[.string ⟨#[112, 114, 101]⟩] w (fun e w' => e = .returned (.tuple #[.int .i64 1, .bool true]) ∧ w = w') := by
  go_enter Tryd.func50, Tryd.ntmps50
  go_wp2_with fail
  go_ret2
  exact ⟨rfl, rfl⟩
theorem rar_23 (w : World) : Calls Tryd.prog 50 #[.string ⟨#[99, 97, 108, 108]⟩] w (fun e w' => e = .returned (.tuple #[.int .i64 (-1), .bool true]) ∧ w = w') := by
  go_enter Tryd.func50, Tryd.ntmps50
  go_wp2_with fail
  go_ret2
  exact ⟨rfl, rfl⟩
theorem rar_24 (w : World) : Calls Tryd.prog 50 #[.string ⟨#[45, 62]⟩] w (fun e w' => e = .returned (.tuple #[.int .i64 2, .bool true]) ∧ w = w') := by
  go_enter Tryd.func50, Tryd.ntmps50
  go_wp2_with fail
  go_ret2
  exact ⟨rfl, rfl⟩
theorem rar_25 (w : World) : Calls Tryd.prog 50 #[.string ⟨#[102, 98, 121]⟩] w (fun e w' => e = .returned (.tuple #[.int .i64 2, .bool true]) ∧ w = w') := by
  go_enter Tryd.func50, Tryd.ntmps50
  go_wp2_with fail
  go_ret2
  exact ⟨rfl, rfl⟩
set_option maxRecDepth 100000 in
set_option maxHeartbeats 2000000 in
theorem rar_none (w : World) {s : ByteArray} (h : ∀ x ∈ k18.map Prod.fst, s ≠ x) (h8 : ∀ x ∈ k8, s ≠ x) : Calls Tryd.prog 50 #[.string s] w (fun e w' => e = .returned (.tuple #[.int .i64 0, .bool false]) ∧ w = w') := by
  obtain ⟨e0, e1, e2, e3, e4, e5, e6, e7, e8, e9, e10, e11, e12, e13, e14, e15, e16, e17, e18, e19, e20, e21, e22, e23, e24, e25⟩ := none_known h h8
  clear h h8
  go_enter Tryd.func50, Tryd.ntmps50
  go_wp2_with fail
  go_ret2
  exact ⟨rfl, rfl⟩
theorem rarity_any (w : World) (s : ByteArray) : Calls Tryd.prog 50 #[.string s] w (ArP s w) := by
  by_cases h1 : ∀ x ∈ k18.map Prod.fst, s ≠ x
  · by_cases h8 : ∀ x ∈ k8, s ≠ x
    · refine (rar_none w h1 h8).mono ?_
      rintro e w' ⟨rfl, rfl⟩
      exact arP_of (arB_none h1 h8).1 (arB_none h1 h8).2
    · simp only [Classical.not_forall, ne_eq, Classical.not_not] at h8
      obtain ⟨x, hx, rfl⟩ := h8
      unfold k8 at hx
      simp only [List.mem_cons, List.not_mem_nil, or_false] at hx
      rcases hx with rfl | rfl | rfl | rfl | rfl | rfl | rfl | rfl
      · refine (rar_18 w).mono ?_; rintro e w' ⟨rfl, rfl⟩; exact arP_of (by decide +kernel) (by decide +kernel)
      · refine (rar_19 w).mono ?_; rintro e w' ⟨rfl, rfl⟩; exact arP_of (by decide +kernel) (by decide +kernel)
      · refine (rar_20 w).mono ?_; rintro e w' ⟨rfl, rfl⟩; exact arP_of (by decide +kernel) (by decide +kernel)
      · refine (rar_21 w).mono ?_; rintro e w' ⟨rfl, rfl⟩; exact arP_of (by decide +kernel) (by decide +kernel)
      · refine (rar_22 w).mono ?_; rintro e w' ⟨rfl, rfl⟩; exact arP_of (by decide +kernel) (by decide +kernel)
      · refine (rar_23 w).mono ?_; rintro e w' ⟨rfl, rfl⟩; exact arP_of (by decide +kernel) (by decide +kernel)
      · refine (rar_24 w).mono ?_; rintro e w' ⟨rfl, rfl⟩; exact arP_of (by decide +kernel) (by decide +kernel)
      · refine (rar_25 w).mono ?_; rintro e w' ⟨rfl, rfl⟩; exact arP_of (by decide +kernel) (by decide +kernel)
  · simp only [Classical.not_forall, ne_eq, Classical.not_not] at h1
    obtain ⟨x, hx, rfl⟩ := h1
    unfold k18 at hx
    simp only [List.map_cons, List.map_nil, List.mem_cons, List.not_mem_nil, or_false] at hx
    rcases hx with rfl | rfl | rfl | rfl | rfl | rfl | rfl | rfl | rfl | rfl | rfl | rfl | rfl | rfl | rfl | rfl | rfl | rfl
    · refine (rar_0 w).mono ?_; rintro e w' ⟨rfl, rfl⟩; exact arP_of (by decide +kernel) (by decide +kernel)
    · refine (rar_1 w).mono ?_; rintro e w' ⟨rfl, rfl⟩; exact arP_of (by decide +kernel) (by decide +kernel)
    · refine (rar_2 w).mono ?_; rintro e w' ⟨rfl, rfl⟩; exact arP_of (by decide +kernel) (by decide +kernel)
    · refine (rar_3 w).mono ?_; rintro e w' ⟨rfl, rfl⟩; exact arP_of (by decide +kernel) (by decide +kernel)
    · refine (rar_4 w).mono ?_; rintro e w' ⟨rfl, rfl⟩; exact arP_of (by decide +kernel) (by decide +kernel)
    · refine (rar_5 w).mono ?_; rintro e w' ⟨rfl, rfl⟩; exact arP_of (by decide +kernel) (by decide +kernel)
    · refine (rar_6 w).mono ?_; rintro e w' ⟨rfl, rfl⟩; exact arP_of (by decide +kernel) (by decide +kernel)
    · refine (rar_7 w).mono ?_; rintro e w' ⟨rfl, rfl⟩; exact arP_of (by decide +kernel) (by decide +kernel)
    · refine (rar_8 w).mono ?_; rintro e w' ⟨rfl, rfl⟩; exact arP_of (by decide +kernel) (by decide +kernel)
    · refine (rar_9 w).mono ?_; rintro e w' ⟨rfl, rfl⟩; exact arP_of (by decide +kernel) (by decide +kernel)
    · refine (rar_10 w).mono ?_; rintro e w' ⟨rfl, rfl⟩; exact arP_of (by decide +kernel) (by decide +kernel)
    · refine (rar_11 w).mono ?_; rintro e w' ⟨rfl, rfl⟩; exact arP_of (by decide +kernel) (by decide +kernel)
    · refine (rar_12 w).mono ?_; rintro e w' ⟨rfl, rfl⟩; exact arP_of (by decide +kernel) (by decide +kernel)
    · refine (rar_13 w).mono ?_; rintro e w' ⟨rfl, rfl⟩; exact arP_of (by decide +kernel) (by decide +kernel)
    · refine (rar_14 w).mono ?_; rintro e w' ⟨rfl, rfl⟩; exact arP_of (by decide +kernel) (by decide +kernel)
    · refine (rar_15 w).mono ?_; rintro e w' ⟨rfl, rfl⟩; exact arP_of (by decide +kernel) (by decide +kernel)
    · refine (rar_16 w).mono ?_; rintro e w' ⟨rfl, rfl⟩; exact arP_of (by decide +kernel) (by decide +kernel)
    · refine (rar_17 w).mono ?_; rintro e w' ⟨rfl, rfl⟩; exact arP_of (by decide +kernel) (by decide +kernel)
end Go.Proofs.YtmbjhpgemphmmaaDoor
namespace Go.Proofs.YtmbjhpgemphmmaaDoor
open Go.RowKit
def opOf : Nat → ByteArray
  | 0 => ⟨#[110, 111, 116]⟩
  | 1 => ⟨#[110, 101, 103]⟩
  | 2 => ⟨#[105, 102]⟩
  | 3 => ⟨#[97, 110, 100]⟩
  | 4 => ⟨#[111, 114]⟩
  | 5 => ⟨#[120, 111, 114]⟩
  | 6 => ⟨#[61, 62]⟩
  | 7 => ⟨#[61]⟩
  | 8 => ⟨#[60, 62]⟩
  | 9 => ⟨#[60]⟩
  | 10 => ⟨#[60, 61]⟩
  | 11 => ⟨#[62]⟩
  | 12 => ⟨#[62, 61]⟩
  | 13 => ⟨#[43]⟩
  | 14 => ⟨#[45]⟩
  | 15 => ⟨#[42]⟩
  | 16 => ⟨#[47]⟩
  | _ => ⟨#[109, 111, 100]⟩
def arOf : Nat → Nat
  | 0 => 1
  | 1 => 1
  | 2 => 3
  | _ => 2
theorem known_op {s : ByteArray} {m : Nat} (h : (s, m) ∈ k18) : ∃ i, i < 18 ∧ s = opOf i ∧ m = arOf i := by
  unfold k18 at h
  simp only [List.mem_cons, List.not_mem_nil, or_false, Prod.mk.injEq] at h
  rcases h with ⟨h1, h2⟩ | ⟨h1, h2⟩ | ⟨h1, h2⟩ | ⟨h1, h2⟩ | ⟨h1, h2⟩ | ⟨h1, h2⟩ | ⟨h1, h2⟩ | ⟨h1, h2⟩ | ⟨h1, h2⟩ | ⟨h1, h2⟩ | ⟨h1, h2⟩ | ⟨h1, h2⟩ | ⟨h1, h2⟩ | ⟨h1, h2⟩ | ⟨h1, h2⟩ | ⟨h1, h2⟩ | ⟨h1, h2⟩ | ⟨h1, h2⟩
  · exact ⟨0, by omega, h1, h2⟩
  · exact ⟨1, by omega, h1, h2⟩
  · exact ⟨2, by omega, h1, h2⟩
  · exact ⟨3, by omega, h1, h2⟩
  · exact ⟨4, by omega, h1, h2⟩
  · exact ⟨5, by omega, h1, h2⟩
  · exact ⟨6, by omega, h1, h2⟩
  · exact ⟨7, by omega, h1, h2⟩
  · exact ⟨8, by omega, h1, h2⟩
  · exact ⟨9, by omega, h1, h2⟩
  · exact ⟨10, by omega, h1, h2⟩
  · exact ⟨11, by omega, h1, h2⟩
  · exact ⟨12, by omega, h1, h2⟩
  · exact ⟨13, by omega, h1, h2⟩
  · exact ⟨14, by omega, h1, h2⟩
  · exact ⟨15, by omega, h1, h2⟩
  · exact ⟨16, by omega, h1, h2⟩
  · exact ⟨17, by omega, h1, h2⟩
theorem op_known : ∀ i, i < 18 → badOp (opOf i) (arOf i) = false := by
  intro i hi
  match i, hi with
  | 0, _ => exact known_ok (⟨#[110, 111, 116]⟩, 1) (by simp [k18])
  | 1, _ => exact known_ok (⟨#[110, 101, 103]⟩, 1) (by simp [k18])
  | 2, _ => exact known_ok (⟨#[105, 102]⟩, 3) (by simp [k18])
  | 3, _ => exact known_ok (⟨#[97, 110, 100]⟩, 2) (by simp [k18])
  | 4, _ => exact known_ok (⟨#[111, 114]⟩, 2) (by simp [k18])
  | 5, _ => exact known_ok (⟨#[120, 111, 114]⟩, 2) (by simp [k18])
  | 6, _ => exact known_ok (⟨#[61, 62]⟩, 2) (by simp [k18])
  | 7, _ => exact known_ok (⟨#[61]⟩, 2) (by simp [k18])
  | 8, _ => exact known_ok (⟨#[60, 62]⟩, 2) (by simp [k18])
  | 9, _ => exact known_ok (⟨#[60]⟩, 2) (by simp [k18])
  | 10, _ => exact known_ok (⟨#[60, 61]⟩, 2) (by simp [k18])
  | 11, _ => exact known_ok (⟨#[62]⟩, 2) (by simp [k18])
  | 12, _ => exact known_ok (⟨#[62, 61]⟩, 2) (by simp [k18])
  | 13, _ => exact known_ok (⟨#[43]⟩, 2) (by simp [k18])
  | 14, _ => exact known_ok (⟨#[45]⟩, 2) (by simp [k18])
  | 15, _ => exact known_ok (⟨#[42]⟩, 2) (by simp [k18])
  | 16, _ => exact known_ok (⟨#[47]⟩, 2) (by simp [k18])
  | 17, _ => exact known_ok (⟨#[109, 111, 100]⟩, 2) (by simp [k18])
  | n + 18, hi => exact absurd hi (by omega)
/-- do the words' lengths fit the operator? -/
def fitB : Nat → List Nat → Bool
  | 0, [n] => n == 1
  | 1, [n] => n == 8
  | 2, [a, b, c] => (a == 1) && ((b == 1) || (b == 8)) && (b == c)
  | i, [a, b] => if 3 ≤ i ∧ i ≤ 6 then (a == 1) && (b == 1) else if i = 7 ∨ i = 8 then ((a == 1) || (a == 8)) && (a == b) else if 9 ≤ i then (a == 8) && (b == 8) else false
  | _, _ => false
theorem ibeq (a b : Nat) : ((a : Int) == (b : Int)) = (a == b) := by
  rw [Bool.eq_iff_iff, beq_iff_eq, beq_iff_eq]; omega
theorem two_of : ∀ i, 9 ≤ i → i < 18 → TwoOp (opOf i) := by
  intro i h9 hi
  match i, h9, hi with
  | 9, _, _ => exact ⟨by decide +kernel, by decide +kernel, by decide +kernel, by decide +kernel, by decide +kernel, by decide +kernel, by decide +kernel, by decide +kernel, by decide +kernel, by decide +kernel, by decide +kernel, by decide +kernel, by decide +kernel, by decide +kernel⟩
  | 10, _, _ => exact ⟨by decide +kernel, by decide +kernel, by decide +kernel, by decide +kernel, by decide +kernel, by decide +kernel, by decide +kernel, by decide +kernel, by decide +kernel, by decide +kernel, by decide +kernel, by decide +kernel, by decide +kernel, by decide +kernel⟩
  | 11, _, _ => exact ⟨by decide +kernel, by decide +kernel, by decide +kernel, by decide +kernel, by decide +kernel, by decide +kernel, by decide +kernel, by decide +kernel, by decide +kernel, by decide +kernel, by decide +kernel, by decide +kernel, by decide +kernel, by decide +kernel⟩
  | 12, _, _ => exact ⟨by decide +kernel, by decide +kernel, by decide +kernel, by decide +kernel, by decide +kernel, by decide +kernel, by decide +kernel, by decide +kernel, by decide +kernel, by decide +kernel, by decide +kernel, by decide +kernel, by decide +kernel, by decide +kernel⟩
  | 13, _, _ => exact ⟨by decide +kernel, by decide +kernel, by decide +kernel, by decide +kernel, by decide +kernel, by decide +kernel, by decide +kernel, by decide +kernel, by decide +kernel, by decide +kernel, by decide +kernel, by decide +kernel, by decide +kernel, by decide +kernel⟩
  | 14, _, _ => exact ⟨by decide +kernel, by decide +kernel, by decide +kernel, by decide +kernel, by decide +kernel, by decide +kernel, by decide +kernel, by decide +kernel, by decide +kernel, by decide +kernel, by decide +kernel, by decide +kernel, by decide +kernel, by decide +kernel⟩
  | 15, _, _ => exact ⟨by decide +kernel, by decide +kernel, by decide +kernel, by decide +kernel, by decide +kernel, by decide +kernel, by decide +kernel, by decide +kernel, by decide +kernel, by decide +kernel, by decide +kernel, by decide +kernel, by decide +kernel, by decide +kernel⟩
  | 16, _, _ => exact ⟨by decide +kernel, by decide +kernel, by decide +kernel, by decide +kernel, by decide +kernel, by decide +kernel, by decide +kernel, by decide +kernel, by decide +kernel, by decide +kernel, by decide +kernel, by decide +kernel, by decide +kernel, by decide +kernel⟩
  | 17, _, _ => exact ⟨by decide +kernel, by decide +kernel, by decide +kernel, by decide +kernel, by decide +kernel, by decide +kernel, by decide +kernel, by decide +kernel, by decide +kernel, by decide +kernel, by decide +kernel, by decide +kernel, by decide +kernel, by decide +kernel⟩
  | n + 18, _, hi => exact absurd hi (by omega)
theorem len1 {l : List Nat} (h : l.length = 1) : ∃ a, l = [a] := by match l, h with | [a], _ => exact ⟨a, rfl⟩
theorem len2 {l : List Nat} (h : l.length = 2) : ∃ a b, l = [a, b] := by match l, h with | [a, b], _ => exact ⟨a, b, rfl⟩
theorem len3 {l : List Nat} (h : l.length = 3) : ∃ a b c, l = [a, b, c] := by match l, h with | [a, b, c], _ => exact ⟨a, b, c, rfl⟩
set_option maxHeartbeats 1000000 in
theorem shape_op {w : World} {LB : Nat} (hL : Lvls w LB) (hLB : LB ≤ w.heap.size) {A : Option Addr} {c i : Nat} {lens : List Nat} (hi : i < 18) (hl : lens.length = arOf i) (h : Lens w A lens) :
    Calls Tryd.prog 41 #[.string (opOf i), .slice A (arOf i) c] w (ShP w (fitB i lens)) := by
  match i, hi, hl with
  | 0, _, hl =>
    obtain ⟨a, rfl⟩ := len1 hl
    exact shape_not (c := c) hL hLB h (ibeq a 1)
  | 1, _, hl =>
    obtain ⟨a, rfl⟩ := len1 hl
    exact shape_neg (c := c) hL hLB h (ibeq a 8)
  | 2, _, hl =>
    obtain ⟨a, b, d, rfl⟩ := len3 hl
    exact shape_if (c := c) hL hLB h (ibeq a 1) (ibeq b 1) (ibeq b 8) (ibeq b d)
  | 3, _, hl =>
    obtain ⟨a, b, rfl⟩ := len2 hl
    exact shape_and (c := c) hL hLB h (ibeq a 1) (ibeq b 1)
  | 4, _, hl =>
    obtain ⟨a, b, rfl⟩ := len2 hl
    exact shape_or (c := c) hL hLB h (ibeq a 1) (ibeq b 1)
  | 5, _, hl =>
    obtain ⟨a, b, rfl⟩ := len2 hl
    exact shape_xor (c := c) hL hLB h (ibeq a 1) (ibeq b 1)
  | 6, _, hl =>
    obtain ⟨a, b, rfl⟩ := len2 hl
    exact shape_imp (c := c) hL hLB h (ibeq a 1) (ibeq b 1)
  | 7, _, hl =>
    obtain ⟨a, b, rfl⟩ := len2 hl
    exact shape_eq (c := c) hL hLB h (ibeq a 1) (ibeq a 8) (ibeq a b)
  | 8, _, hl =>
    obtain ⟨a, b, rfl⟩ := len2 hl
    exact shape_ne (c := c) hL hLB h (ibeq a 1) (ibeq a 8) (ibeq a b)
  | 9, _, hl =>
    obtain ⟨a, b, rfl⟩ := len2 hl
    have hs := two_of 9 (by omega) (by omega)
    exact shape_two (c := c) hL hLB h hs.n hs.ok hs.e1 hs.e2 hs.e3 hs.e4 hs.e5 hs.e6 hs.e7 hs.e8 hs.e9 hs.e10 hs.e11 hs.e12 (ibeq a 8) (ibeq b 8)
  | 10, _, hl =>
    obtain ⟨a, b, rfl⟩ := len2 hl
    have hs := two_of 10 (by omega) (by omega)
    exact shape_two (c := c) hL hLB h hs.n hs.ok hs.e1 hs.e2 hs.e3 hs.e4 hs.e5 hs.e6 hs.e7 hs.e8 hs.e9 hs.e10 hs.e11 hs.e12 (ibeq a 8) (ibeq b 8)
  | 11, _, hl =>
    obtain ⟨a, b, rfl⟩ := len2 hl
    have hs := two_of 11 (by omega) (by omega)
    exact shape_two (c := c) hL hLB h hs.n hs.ok hs.e1 hs.e2 hs.e3 hs.e4 hs.e5 hs.e6 hs.e7 hs.e8 hs.e9 hs.e10 hs.e11 hs.e12 (ibeq a 8) (ibeq b 8)
  | 12, _, hl =>
    obtain ⟨a, b, rfl⟩ := len2 hl
    have hs := two_of 12 (by omega) (by omega)
    exact shape_two (c := c) hL hLB h hs.n hs.ok hs.e1 hs.e2 hs.e3 hs.e4 hs.e5 hs.e6 hs.e7 hs.e8 hs.e9 hs.e10 hs.e11 hs.e12 (ibeq a 8) (ibeq b 8)
  | 13, _, hl =>
    obtain ⟨a, b, rfl⟩ := len2 hl
    have hs := two_of 13 (by omega) (by omega)
    exact shape_two (c := c) hL hLB h hs.n hs.ok hs.e1 hs.e2 hs.e3 hs.e4 hs.e5 hs.e6 hs.e7 hs.e8 hs.e9 hs.e10 hs.e11 hs.e12 (ibeq a 8) (ibeq b 8)
  | 14, _, hl =>
    obtain ⟨a, b, rfl⟩ := len2 hl
    have hs := two_of 14 (by omega) (by omega)
    exact shape_two (c := c) hL hLB h hs.n hs.ok hs.e1 hs.e2 hs.e3 hs.e4 hs.e5 hs.e6 hs.e7 hs.e8 hs.e9 hs.e10 hs.e11 hs.e12 (ibeq a 8) (ibeq b 8)
  | 15, _, hl =>
    obtain ⟨a, b, rfl⟩ := len2 hl
    have hs := two_of 15 (by omega) (by omega)
    exact shape_two (c := c) hL hLB h hs.n hs.ok hs.e1 hs.e2 hs.e3 hs.e4 hs.e5 hs.e6 hs.e7 hs.e8 hs.e9 hs.e10 hs.e11 hs.e12 (ibeq a 8) (ibeq b 8)
  | 16, _, hl =>
    obtain ⟨a, b, rfl⟩ := len2 hl
    have hs := two_of 16 (by omega) (by omega)
    exact shape_two (c := c) hL hLB h hs.n hs.ok hs.e1 hs.e2 hs.e3 hs.e4 hs.e5 hs.e6 hs.e7 hs.e8 hs.e9 hs.e10 hs.e11 hs.e12 (ibeq a 8) (ibeq b 8)
  | 17, _, hl =>
    obtain ⟨a, b, rfl⟩ := len2 hl
    have hs := two_of 17 (by omega) (by omega)
    exact shape_two (c := c) hL hLB h hs.n hs.ok hs.e1 hs.e2 hs.e3 hs.e4 hs.e5 hs.e6 hs.e7 hs.e8 hs.e9 hs.e10 hs.e11 hs.e12 (ibeq a 8) (ibeq b 8)
  | n + 18, hi, _ => exact absurd hi (by omega)
/-- Of's answer where the shape is wrong -/
def OfE (w : World) (p : Addr) (e : Ending) (w' : World) : Prop :=
  e = .returned (.tuple #[.slice none 0 0, .int .i64 0, .iface 220 (.pointer (some p))]) ∧ Below w.heap.size w w'
attribute [local irreducible] wpSeq wpStill
set_option maxRecDepth 100000 in
set_option maxHeartbeats 2000000 in
theorem of_bad {w : World} {b : Nat} {p : Addr} (he : w.cell? ⟨0, 0, none⟩ = some (.iface 220 (.pointer (some p)))) {A : Option Addr} {m c : Nat} {s : ByteArray}
    (HS : ∀ W, Below w.heap.size w W → Calls Tryd.prog 41 #[.string s, .slice A m c] W (ShP W false)) :
    Calls Tryd.prog 17 #[.pointer (some ⟨b, 0, none⟩), .string s, .slice A m c] w (OfE w p) := by
  obtain ⟨WA, hWA⟩ : ∃ WA, WA = ((w.alloc (.cells #[.slice none 0 0] 28)).alloc (.cells #[.int .i64 0] 29)).alloc (.cells #[.nilIface] 31) := ⟨_, rfl⟩
  have hba : Below w.heap.size w WA := by rw [hWA]; exact (((Below.refl _ _).alloc (Nat.le_refl _) _).alloc (by simp) _).alloc (by simp; omega) _
  have b6 : Blk WA w.heap.size 28 #[.slice none 0 0] := by rw [hWA]; exact ((Blk.new w _ _).alloc _).alloc _
  have b7 : Blk WA (w.heap.size + 1) 29 #[.int .i64 0] := by
    rw [hWA]; have := (Blk.new (w.alloc (.cells #[.slice none 0 0] 28)) 29 #[.int .i64 0]).alloc (.cells #[.nilIface] 31); simpa using this
  have b8 : Blk WA (w.heap.size + 2) 31 #[.nilIface] := by
    rw [hWA]; have := Blk.new ((w.alloc (.cells #[.slice none 0 0] 28)).alloc (.cells #[.int .i64 0] 29)) 31 #[.nilIface]; simpa using this
  have hsa : WA.heap.size = w.heap.size + 3 := by rw [hWA]; simp
  have CS := Lib.hid (HS WA hba)
  have hgl := World.block_lt_of_cell? _ _ he
  have hgl : 0 < w.heap.size := hgl
  have HE := Lib.hid ((hba.cell (World.block_lt_of_cell? _ _ he)).trans he)
  have HBA := Lib.hid hba
  have HB678 := Lib.hid (And.intro b6 (And.intro b7 b8))
  have HWA := Lib.hid hWA
  have HSA := Lib.hid hsa
  clear HS he hba b6 b7 b8 hWA hsa
  go_enter_defers Tryd.func17, Tryd.ntmps17
  go_wp2_with fail
  rw [← HWA.out]
  refine CS.out.mono ?_
  rintro e w1 ⟨rfl, hb⟩
  have he1 := (hb.cell (World.block_lt_of_cell? _ _ HE.out)).trans HE.out
  obtain ⟨W2, hW2⟩ : ∃ W2, W2 = w1.drew := ⟨_, rfl⟩
  obtain ⟨b6, b7, b8⟩ := HB678.out
  have c6 : Blk W2 w.heap.size 28 #[.slice none 0 0] := by rw [hW2]; exact (b6.below hb (by rw [HSA.out]; omega)).drew
  have c7 : Blk W2 (w.heap.size + 1) 29 #[.int .i64 0] := by rw [hW2]; exact (b7.below hb (by rw [HSA.out]; omega)).drew
  have c8 : Blk W2 (w.heap.size + 2) 31 #[.nilIface] := by rw [hW2]; exact (b8.below hb (by rw [HSA.out]; omega)).drew
  have hq : W2.cell? ⟨0, 0, none⟩ = some (.iface 220 (.pointer (some p))) := by rw [hW2]; exact he1
  obtain ⟨W7, hW7⟩ : ∃ W7, W7 = W2.setCell ⟨w.heap.size, 0, none⟩ (.slice none 0 0) := ⟨_, rfl⟩
  obtain ⟨W8, hW8⟩ : ∃ W8, W8 = W7.setCell ⟨w.heap.size + 1, 0, none⟩ (.int .i64 0) := ⟨_, rfl⟩
  obtain ⟨W9, hW9⟩ : ∃ W9, W9 = W8.setCell ⟨w.heap.size + 2, 0, none⟩ (.iface 220 (.pointer (some p))) := ⟨_, rfl⟩
  have n01 : w.heap.size ≠ w.heap.size + 1 := by omega
  have n02 : w.heap.size ≠ w.heap.size + 2 := by omega
  have n12 : w.heap.size + 1 ≠ w.heap.size + 2 := by omega
  have d6 := c6.set_ 0 (.slice none 0 0)
  have d7 := c7.far (p := ⟨w.heap.size, 0, none⟩) n01.symm (.slice none 0 0)
  have d8 := c8.far (p := ⟨w.heap.size, 0, none⟩) n02.symm (.slice none 0 0)
  have e6 := d6.far (p := ⟨w.heap.size + 1, 0, none⟩) n01 (.int .i64 0)
  have e7 := d7.set_ 0 (.int .i64 0)
  have e8 := d8.far (p := ⟨w.heap.size + 1, 0, none⟩) n12.symm (.int .i64 0)
  have f6b := e6.far (p := ⟨w.heap.size + 2, 0, none⟩) n02 (.iface 220 (.pointer (some p)))
  have f7b := e7.far (p := ⟨w.heap.size + 2, 0, none⟩) n12 (.iface 220 (.pointer (some p)))
  have f8b := e8.set_ 0 (.iface 220 (.pointer (some p)))
  have k7 : W7.cell? ⟨0, 0, none⟩ = some (.iface 220 (.pointer (some p))) := by rw [hW7]; exact (cell_far _ (by show w.heap.size ≠ 0; omega)).trans hq
  have k8 : W8.cell? ⟨0, 0, none⟩ = some (.iface 220 (.pointer (some p))) := by rw [hW8]; exact (cell_far _ (by show w.heap.size + 1 ≠ 0; omega)).trans k7
  have k9 : W9.cell? ⟨0, 0, none⟩ = some (.iface 220 (.pointer (some p))) := by rw [hW9]; exact (cell_far _ (by show w.heap.size + 2 ≠ 0; omega)).trans k8
  have hend : Below w.heap.size w W9 := by
    rw [hW9, hW8, hW7, hW2]
    have hb2 : Below w.heap.size w w1.drew := below_drewN (HBA.out.trans (hb.mono HBA.out.size)) 1
    exact ((hb2.setCell (Nat.le_refl _) _).setCell (by show w.heap.size ≤ w.heap.size + 1; omega) _).setCell (by show w.heap.size ≤ w.heap.size + 2; omega) _
  have cc6 := c6.cell 0
  have ff6 := c6.frozen 0
  have cc7 := d7.cell 0
  have ff7 := d7.frozen 0
  have cc8 := e8.cell 0
  have ff8 := e8.frozen 0
  have HX := Lib.hid (show W9.cell? ⟨w.heap.size, 0, none⟩ = some (.slice none 0 0) ∧ W9.cell? ⟨w.heap.size + 1, 0, none⟩ = some (.int .i64 0) ∧ W9.cell? ⟨w.heap.size + 2, 0, none⟩ = some (.iface 220 (.pointer (some p))) by
    rw [hW9, hW8, hW7]; exact ⟨f6b.cell 0, f7b.cell 0, f8b.cell 0⟩)
  have HQ := Lib.hid (And.intro hq (And.intro k7 (And.intro k8 k9)))
  have HEND := Lib.hid hend
  have HW2 := Lib.hid hW2
  have HW7 := Lib.hid hW7
  have HW8 := Lib.hid hW8
  have HW9 := Lib.hid hW9
  clear hb he1 b6 b7 b8 c6 c7 c8 hq hW2 hW7 hW8 hW9 n01 n02 n12 d6 d7 d8 e6 e7 e8 f6b f7b f8b hgl k7 k8 k9 hend
  go_wp2_with fail
  refine wp_region_seq (S := fun w' => w'.cell? ⟨0, 0, none⟩ = some (.iface 220 (.pointer (some p)))) [(0, false), (1, true), (2, true), (3, true)] (by kernel_rfl) (by kernel_rfl) (by kernel_rfl) (by rw [← HW2.out]; exact HQ.out.1) ?_
  rw [← HW2.out]
  refine seq_take _ _ rfl (by kernel_rfl) (fun wv hv => by have hv1 := hv; clear hv; go_simp; try with_reducible rfl) ?_
  simp only [Act.put, List.getElem_toArray, List.getElem_cons_zero, List.setIfInBounds_toArray, List.set_cons_zero, List.set_cons_succ]
  refine seq_act _ rfl (fun K hK => ?_)
  go_simp
  refine hK _ _ ((by rw [← HW7.out]; exact HQ.out.2.1)) ?_
  clear hK K
  try simp only [Act.put, List.getElem_toArray, List.getElem_cons_zero, List.getElem_cons_succ, List.setIfInBounds_toArray, List.set_cons_zero, List.set_cons_succ]
  refine seq_act _ rfl (fun K hK => ?_)
  go_simp
  refine hK _ _ ((by rw [← HW7.out, ← HW8.out]; exact HQ.out.2.2.1)) ?_
  clear hK K
  try simp only [Act.put, List.getElem_toArray, List.getElem_cons_zero, List.getElem_cons_succ, List.setIfInBounds_toArray, List.set_cons_zero, List.set_cons_succ]
  refine seq_act _ rfl (fun K hK => ?_)
  go_simp
  refine hK _ _ ((by rw [← HW7.out, ← HW8.out, ← HW9.out]; exact HQ.out.2.2.2)) ?_
  clear hK K
  try simp only [Act.put, List.getElem_toArray, List.getElem_cons_zero, List.getElem_cons_succ, List.setIfInBounds_toArray, List.set_cons_zero, List.set_cons_succ]
  refine seq_nil ?_
  rw [← HW7.out, ← HW8.out, ← HW9.out]
  obtain ⟨x6, x7, x8⟩ := HX.out
  go_wp2_with fail
  have HKEY := Lib.hid (show OfE w p (.returned (.tuple #[.slice none 0 0, .int .i64 0, .iface 220 (.pointer (some p))])) W9 from ⟨rfl, HEND.out⟩)
  simp [bodyPostD, Leaves, results, Tryd.results17, go_sem, x6, x7, x8]
  exact HKEY.out
end Go.Proofs.YtmbjhpgemphmmaaDoor
