/-
  WALKS of word.Bits, of the reference's Right and Around.
-/
import Derived.Test.YtmbjhpgemphmmaaDoorWc
namespace Go.Proofs.YtmbjhpgemphmmaaDoor
open Go.RowKit

/-- is it a value of its kind? -/
def right (a b : Int) : Bool := (a == 1 && (b == 0 || b == 1)) || (a == 2 && (decide (-128 ≤ b) && decide (b ≤ 127)))
/-- its bits -/
def bitsOfVal (a b : Int) : List Bool := (List.range (if a = 1 then 1 else 8)).map fun i => b / 2 ^ i % 2 == 1
def bitsB (b : Int) (k : Nat) : List Bool := (List.range k).map fun i => b / 2 ^ i % 2 == 1
theorem bitsB_succ (n : Int) (k : Nat) : bitsB n (k + 1) = bitsB n k ++ [n / 2 ^ k % 2 == 1] := by simp [bitsB, List.range_succ]
theorem bitsB_len (n : Int) (k : Nat) : (bitsB n k).length = k := by simp [bitsB]
def BtPost (w : World) (n : Int) (m : Nat) (e : Ending) (w' : World) : Prop := ∃ A c, e = .returned (.tuple #[.slice A m c, .nilIface]) ∧ w'.ownsRow w.heap.size 4 1 (.slice A m c) m (boolVals (bitsB n m)) ∧ Below w.heap.size w w'
def BtRel (W : World) (n : Int) (m : Nat) (v i : Value) (w : World) : Prop := ∃ k : Nat, k ≤ m ∧ i = .int .i64 k ∧ ARel W 4 k (boolVals (bitsB n k)) v w
theorem BtRel.next {W w w1 : World} {n : Int} {m k : Nat} {A A' : Option Addr} {c c' : Nat} {o : Obj} (hk : k < m) (h : ARel W 4 k (boolVals (bitsB n k)) (.slice A k c) w)
    (h1 : w1.ownsRow W.heap.size 4 1 (.slice A' (k + 1) c') (k + 1) (boolVals (bitsB n k) ++ [.bool (n / 2 ^ k % 2 == 1)])) (hg : (w.alloc o).grownBy w1 (Value.slice A k c).ownBlock) : BtRel W n m (.slice A' (k + 1) c') (.int .i64 ((k : Int) + 1)) w1 := by
  refine ⟨k + 1, by omega, by simp, ?_⟩
  have h2 := h.next h1 hg
  rwa [bitsB_succ, boolVals, List.map_append]
theorem bools_one (x : Bool) : ∀ u ∈ [Value.bool x], u.oneCell' = true := fun u hu => by
  rw [List.mem_singleton] at hu; subst hu; rfl
set_option maxHeartbeats 400000 in
theorem bits_zero {w : World} {n : Int} (hn : n = 0) :
    Calls Tryd.prog 23 #[.agg #[.int .i64 1, .int .i64 n]] w (BtPost w n 1) := by
  obtain ⟨i0, hi⟩ := info_parts infoBoolW
  have HI := Lib.hid hi
  clear hi
  have hand := and_one
  have e1 : (n == 0) = true := by rw [hn]; rfl
  clear hn
  go_enter Tryd.func23, Tryd.ntmps23
  go_wp2_with fail
  obtain ⟨W, hW⟩ : ∃ W, W = w.alloc (.cells #[.int .i64 1, .int .i64 n] 45) := ⟨_, rfl⟩
  rw [← hW]
  have hbox : W.cell? ⟨w.heap.size, 1, none⟩ = some (.int .i64 n) := by rw [hW, (Blk.new w _ _).cell 1]; rfl
  have hWs : W.heap.size = w.heap.size + 1 := by rw [hW]; simp
  have HW : Hid (Below w.heap.size w W) := by rw [hW]; exact (Below.refl _ _).alloc (Nat.le_refl _) _
  have HX := Lib.hid hbox
  have HS := Lib.hid hWs
  clear hbox hW hWs 
  go_loopw [5, 37] (fun v i wr => BtRel W n 1 v i wr) (fun _ i _ => 1 - (intOf i).toNat)
  case atStart => exact ⟨0, by omega, rfl, ARel.start _ _ (Below.refl _ _)⟩
  case round =>
    obtain ⟨k, hk, rfl, hr⟩ := hrel
    obtain ⟨A, c, rfl, hown, hbl⟩ := id hr
    have HR := Lib.hid hr
    have HO := Lib.hid hown
    have HB := Lib.hid hbl
    have hc : wr.cell? ⟨w.heap.size, 1, none⟩ = some (.int .i64 n) := by rw [hbl.cell (by have := HS.out; simp; omega)]; exact HX.out
    have HB' := Lib.hid (Nat.le_trans hbl.size (Nat.le_succ wr.heap.size))
    clear hr hown hbl
    by_cases hlt : k < 1
    · go_wp2_with (at_builtin; refine wpList_append_sl _ rfl (.tmp 40) (.tmp 47) _ rfl W.heap.size 4 i0 _ 1 1 Tryd.underlying54 HI.out.1 HI.out.2.1 HI.out.2.2.1 HI.out.2.2.2 rfl (by omega) _ k _ rfl (HO.out.alloc _) (wr.heap.size + 1) (some ⟨wr.heap.size, 0, none⟩) 1 1 _ rfl (reads_new rfl (by omega) rfl) (bools_one _) (le_maxLen (by omega)) (le_bytes (by omega) (by omega)) (by have := HB'.out; simp; omega) ?_; intro A1 c1 w1 hown1 hg1)
      go_roundw
      case rel => exact BtRel.next hlt HR.out hown1 hg1
      case measure => simp [intOf]; omega
    · obtain rfl : k = 1 := by omega
      go_wp2
      go_ret2
      have hs := HS.out
      exact ⟨_, _, rfl, own_base HO.out (by omega), HW.out.trans (HB.out.mono (by omega))⟩
set_option maxHeartbeats 400000 in
theorem bits_one {w : World} {n : Int} (hn : n = 1) :
    Calls Tryd.prog 23 #[.agg #[.int .i64 1, .int .i64 n]] w (BtPost w n 1) := by
  obtain ⟨i0, hi⟩ := info_parts infoBoolW
  have HI := Lib.hid hi
  clear hi
  have hand := and_one
  have e1 : (n == 0) = false := by rw [hn]; rfl
  have e2 : (n == 1) = true := by rw [hn]; rfl
  clear hn
  go_enter Tryd.func23, Tryd.ntmps23
  go_wp2_with fail
  obtain ⟨W, hW⟩ : ∃ W, W = w.alloc (.cells #[.int .i64 1, .int .i64 n] 45) := ⟨_, rfl⟩
  rw [← hW]
  have hbox : W.cell? ⟨w.heap.size, 1, none⟩ = some (.int .i64 n) := by rw [hW, (Blk.new w _ _).cell 1]; rfl
  have hWs : W.heap.size = w.heap.size + 1 := by rw [hW]; simp
  have HW : Hid (Below w.heap.size w W) := by rw [hW]; exact (Below.refl _ _).alloc (Nat.le_refl _) _
  have HX := Lib.hid hbox
  have HS := Lib.hid hWs
  clear hbox hW hWs 
  go_loopw [5, 37] (fun v i wr => BtRel W n 1 v i wr) (fun _ i _ => 1 - (intOf i).toNat)
  case atStart => exact ⟨0, by omega, rfl, ARel.start _ _ (Below.refl _ _)⟩
  case round =>
    obtain ⟨k, hk, rfl, hr⟩ := hrel
    obtain ⟨A, c, rfl, hown, hbl⟩ := id hr
    have HR := Lib.hid hr
    have HO := Lib.hid hown
    have HB := Lib.hid hbl
    have hc : wr.cell? ⟨w.heap.size, 1, none⟩ = some (.int .i64 n) := by rw [hbl.cell (by have := HS.out; simp; omega)]; exact HX.out
    have HB' := Lib.hid (Nat.le_trans hbl.size (Nat.le_succ wr.heap.size))
    clear hr hown hbl
    by_cases hlt : k < 1
    · go_wp2_with (at_builtin; refine wpList_append_sl _ rfl (.tmp 40) (.tmp 47) _ rfl W.heap.size 4 i0 _ 1 1 Tryd.underlying54 HI.out.1 HI.out.2.1 HI.out.2.2.1 HI.out.2.2.2 rfl (by omega) _ k _ rfl (HO.out.alloc _) (wr.heap.size + 1) (some ⟨wr.heap.size, 0, none⟩) 1 1 _ rfl (reads_new rfl (by omega) rfl) (bools_one _) (le_maxLen (by omega)) (le_bytes (by omega) (by omega)) (by have := HB'.out; simp; omega) ?_; intro A1 c1 w1 hown1 hg1)
      go_roundw
      case rel => exact BtRel.next hlt HR.out hown1 hg1
      case measure => simp [intOf]; omega
    · obtain rfl : k = 1 := by omega
      go_wp2
      go_ret2
      have hs := HS.out
      exact ⟨_, _, rfl, own_base HO.out (by omega), HW.out.trans (HB.out.mono (by omega))⟩
set_option maxHeartbeats 400000 in
theorem bits_int {w : World} {n : Int} (h1 : -128 ≤ n) (h2 : n ≤ 127) :
    Calls Tryd.prog 23 #[.agg #[.int .i64 2, .int .i64 n]] w (BtPost w n 8) := by
  obtain ⟨i0, hi⟩ := info_parts infoBoolW
  have HI := Lib.hid hi
  clear hi
  have hand := and_one
  have e1 : decide (-128 ≤ n) = true := decide_eq_true h1
  have e2 : decide (n ≤ 127) = true := decide_eq_true h2
  clear h1 h2
  go_enter Tryd.func23, Tryd.ntmps23
  go_wp2_with fail
  obtain ⟨W, hW⟩ : ∃ W, W = w.alloc (.cells #[.int .i64 2, .int .i64 n] 45) := ⟨_, rfl⟩
  rw [← hW]
  have hbox : W.cell? ⟨w.heap.size, 1, none⟩ = some (.int .i64 n) := by rw [hW, (Blk.new w _ _).cell 1]; rfl
  have hWs : W.heap.size = w.heap.size + 1 := by rw [hW]; simp
  have HW : Hid (Below w.heap.size w W) := by rw [hW]; exact (Below.refl _ _).alloc (Nat.le_refl _) _
  have HX := Lib.hid hbox
  have HS := Lib.hid hWs
  clear hbox hW hWs e1 e2
  go_loopw [5, 37] (fun v i wr => BtRel W n 8 v i wr) (fun _ i _ => 8 - (intOf i).toNat)
  case atStart => exact ⟨0, by omega, rfl, ARel.start _ _ (Below.refl _ _)⟩
  case round =>
    obtain ⟨k, hk, rfl, hr⟩ := hrel
    obtain ⟨A, c, rfl, hown, hbl⟩ := id hr
    have HR := Lib.hid hr
    have HO := Lib.hid hown
    have HB := Lib.hid hbl
    have hc : wr.cell? ⟨w.heap.size, 1, none⟩ = some (.int .i64 n) := by rw [hbl.cell (by have := HS.out; simp; omega)]; exact HX.out
    have HB' := Lib.hid (Nat.le_trans hbl.size (Nat.le_succ wr.heap.size))
    clear hr hown hbl
    by_cases hlt : k < 8
    · go_wp2_with (at_builtin; refine wpList_append_sl _ rfl (.tmp 40) (.tmp 47) _ rfl W.heap.size 4 i0 _ 1 1 Tryd.underlying54 HI.out.1 HI.out.2.1 HI.out.2.2.1 HI.out.2.2.2 rfl (by omega) _ k _ rfl (HO.out.alloc _) (wr.heap.size + 1) (some ⟨wr.heap.size, 0, none⟩) 1 1 _ rfl (reads_new rfl (by omega) rfl) (bools_one _) (le_maxLen (by omega)) (le_bytes (by omega) (by omega)) (by have := HB'.out; simp; omega) ?_; intro A1 c1 w1 hown1 hg1)
      go_roundw
      case rel => exact BtRel.next hlt HR.out hown1 hg1
      case measure => simp [intOf]; omega
    · obtain rfl : k = 8 := by omega
      go_wp2
      go_ret2
      have hs := HS.out
      exact ⟨_, _, rfl, own_base HO.out (by omega), HW.out.trans (HB.out.mono (by omega))⟩
theorem bits_badK {w : World} {p : Addr} {a n : Int} (he : w.cell? ⟨1, 0, none⟩ = some (.iface 220 (.pointer (some p)))) (h1 : a ≠ 1) (h2 : a ≠ 2) :
    Calls Tryd.prog 23 #[.agg #[.int .i64 a, .int .i64 n]] w fun e w' => e = .returned (.tuple #[.slice none 0 0, .iface 220 (.pointer (some p))]) ∧ Below w.heap.size w w' := by
  have hlt := World.block_lt_of_cell? w _ he
  have he' : (w.alloc (.cells #[.int .i64 a, .int .i64 n] 45)).cell? ⟨1, 0, none⟩ = some (.iface 220 (.pointer (some p))) := by rw [World.cell?_alloc_lt _ _ ⟨_, 0, none⟩ hlt]; exact he
  have e1 : (a == 1) = false := by simpa using h1
  have e2 : (a == 2) = false := by simpa using h2
  clear h1 h2
  go_enter Tryd.func23, Tryd.ntmps23
  go_wp2_with fail
  go_quiet (fail)
  go_wp2
  go_ret2
  exact ⟨rfl, below_drewN ((Below.refl _ _).alloc (Nat.le_refl _) _) _⟩
theorem bits_badB {w : World} {p : Addr} {a n : Int} (he : w.cell? ⟨1, 0, none⟩ = some (.iface 220 (.pointer (some p)))) (ha : a = 1) (h1 : n ≠ 0) (h2 : n ≠ 1) :
    Calls Tryd.prog 23 #[.agg #[.int .i64 a, .int .i64 n]] w fun e w' => e = .returned (.tuple #[.slice none 0 0, .iface 220 (.pointer (some p))]) ∧ Below w.heap.size w w' := by
  have hlt := World.block_lt_of_cell? w _ he
  have he' : (w.alloc (.cells #[.int .i64 a, .int .i64 n] 45)).cell? ⟨1, 0, none⟩ = some (.iface 220 (.pointer (some p))) := by rw [World.cell?_alloc_lt _ _ ⟨_, 0, none⟩ hlt]; exact he
  have e1 : (a == 1) = true := by simpa using ha
  have e2 : (a == 2) = false := by rw [ha]; rfl
  have e3 : (n == 0) = false := by simpa using h1
  have e4 : (n == 1) = false := by simpa using h2
  clear h1 h2 ha
  go_enter Tryd.func23, Tryd.ntmps23
  go_wp2_with fail
  go_quiet (fail)
  go_wp2
  go_ret2
  exact ⟨rfl, below_drewN ((Below.refl _ _).alloc (Nat.le_refl _) _) _⟩
theorem bits_badL {w : World} {p : Addr} {a n : Int} (he : w.cell? ⟨1, 0, none⟩ = some (.iface 220 (.pointer (some p)))) (ha : a = 2) (h1 : n < -128) :
    Calls Tryd.prog 23 #[.agg #[.int .i64 a, .int .i64 n]] w fun e w' => e = .returned (.tuple #[.slice none 0 0, .iface 220 (.pointer (some p))]) ∧ Below w.heap.size w w' := by
  have hlt := World.block_lt_of_cell? w _ he
  have he' : (w.alloc (.cells #[.int .i64 a, .int .i64 n] 45)).cell? ⟨1, 0, none⟩ = some (.iface 220 (.pointer (some p))) := by rw [World.cell?_alloc_lt _ _ ⟨_, 0, none⟩ hlt]; exact he
  have e1 : (a == 1) = false := by rw [ha]; rfl
  have e2 : (a == 2) = true := by simpa using ha
  have e3 : decide (-128 ≤ n) = false := decide_eq_false (by omega)
  clear h1 ha
  go_enter Tryd.func23, Tryd.ntmps23
  go_wp2_with fail
  go_quiet (fail)
  go_wp2
  go_ret2
  exact ⟨rfl, below_drewN ((Below.refl _ _).alloc (Nat.le_refl _) _) _⟩
theorem bits_badH {w : World} {p : Addr} {a n : Int} (he : w.cell? ⟨1, 0, none⟩ = some (.iface 220 (.pointer (some p)))) (ha : a = 2) (h1 : 127 < n) :
    Calls Tryd.prog 23 #[.agg #[.int .i64 a, .int .i64 n]] w fun e w' => e = .returned (.tuple #[.slice none 0 0, .iface 220 (.pointer (some p))]) ∧ Below w.heap.size w w' := by
  have hlt := World.block_lt_of_cell? w _ he
  have he' : (w.alloc (.cells #[.int .i64 a, .int .i64 n] 45)).cell? ⟨1, 0, none⟩ = some (.iface 220 (.pointer (some p))) := by rw [World.cell?_alloc_lt _ _ ⟨_, 0, none⟩ hlt]; exact he
  have e1 : (a == 1) = false := by rw [ha]; rfl
  have e2 : (a == 2) = true := by simpa using ha
  have e3 : decide (-128 ≤ n) = true := decide_eq_true (by omega)
  have e4 : decide (n ≤ 127) = false := decide_eq_false (by omega)
  clear h1 ha
  go_enter Tryd.func23, Tryd.ntmps23
  go_wp2_with fail
  go_quiet (fail)
  go_wp2
  go_ret2
  exact ⟨rfl, below_drewN ((Below.refl _ _).alloc (Nat.le_refl _) _) _⟩
end Go.Proofs.YtmbjhpgemphmmaaDoor
