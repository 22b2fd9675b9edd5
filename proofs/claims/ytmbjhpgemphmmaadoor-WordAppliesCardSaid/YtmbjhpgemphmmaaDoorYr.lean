/-
  WALKS of package word: shape.
  WALKS of package word: Of's deferred closure where nothing was thrown.
-/
import Derived.Test.YtmbjhpgemphmmaaDoorYn
import Derived.Outline
import Derived.Laws.EntriesVeiled
import Derived.Defers
import Derived.Recover
namespace Go.Proofs.YtmbjhpgemphmmaaDoor
open Go.RowKit
/-- a slice of words lies there: how long they are -/
def Lens (w : World) (A : Option Addr) (lens : List Nat) : Prop :=
  ∃ ad, A = some ad ∧ ∀ i n, lens[i]? = some n → ∃ Ai ci, w.cell? (ad.add i) = some (.slice Ai n ci)
theorem many_any {w : World} {bx : Nat} {ad : Addr} {n c i k m : Nat} {Ai : Option Addr} {ci : Nat} (hb : w.cell? ⟨bx, 0, none⟩ = some (.slice (some ad) n c)) (hi : i < n) (_hn : n ≤ 1000) (hc : w.cell? (ad.add i) = some (.slice Ai m ci)) {b : Bool} (hbb : ((m : Int) == (k : Int)) = b) :
    Calls Tryd.prog 76 #[.int .i64 (i : Nat), .int .i64 (k : Nat), .pointer (some ⟨bx, 0, none⟩)] w fun e w' => e = .returned (.bool b) ∧ w = w' := by
  have h1 : (i : Int) < (n : Int) := by omega
  go_enter Tryd.func76, Tryd.ntmps76
  go_wp2
  go_ret
  exact ⟨rfl, rfl⟩
theorem some_any {w : World} {bx bm : Nat} {ad : Addr} {n c i m : Nat} {Ai : Option Addr} {ci : Nat} (hm : w.cell? ⟨bm, 0, none⟩ = some (.func (.func 76) #[] #[.pointer (some ⟨bx, 0, none⟩)])) (hb : w.cell? ⟨bx, 0, none⟩ = some (.slice (some ad) n c)) (hi : i < n) (hn : n ≤ 1000) (hc : w.cell? (ad.add i) = some (.slice Ai m ci))
    {b1 b8 : Bool} (hb1 : ((m : Int) == ((1 : Nat) : Int)) = b1) (hb8 : ((m : Int) == ((8 : Nat) : Int)) = b8) :
    Calls Tryd.prog 77 #[.int .i64 (i : Nat), .pointer (some ⟨bm, 0, none⟩)] w fun e w' => e = .returned (.bool (b1 || b8)) ∧ w = w' := by
  have C1 := Lib.hid (many_any (k := 1) hb hi hn hc hb1)
  have C8 := Lib.hid (many_any (k := 8) hb hi hn hc hb8)
  clear hb hi hn hc hb1 hb8
  cases b1 with
  | true =>
    go_enter Tryd.func77, Tryd.ntmps77
    go_wp2_with fail
    refine C1.out.mono ?_
    rintro e w' ⟨rfl, rfl⟩
    go_wp2
    go_ret
    exact ⟨rfl, rfl⟩
  | false =>
    go_enter Tryd.func77, Tryd.ntmps77
    go_wp2_with fail
    refine C1.out.mono ?_
    rintro e w' ⟨rfl, rfl⟩
    go_wp2_with fail
    refine C8.out.mono ?_
    rintro e w' ⟨rfl, rfl⟩
    go_wp2
    go_ret
    exact ⟨by cases b8 <;> rfl, rfl⟩
/-- shape's answer -/
def ShP (w : World) (b : Bool) (e : Ending) (w' : World) : Prop := e = .returned (.bool b) ∧ Below w.heap.size w w'
set_option maxRecDepth 100000 in
set_option maxHeartbeats 4000000 in
/-- the operators of two ints -/
theorem shape_two {w : World} {LB : Nat} (hL : Lvls w LB) (hLB : LB ≤ w.heap.size) {A : Option Addr} {c n0 n1 : Nat} (h : Lens w A [n0, n1]) {s : ByteArray} (hn : arN s = 2) (hb : arB s = true)
    (e1 : (s.toList == [112, 114, 101]) = false) (e2 : (s.toList == [45, 62]) = false) (e3 : (s.toList == [102, 98, 121]) = false) (e4 : (s.toList == [110, 111, 116]) = false) (e5 : (s.toList == [110, 101, 103]) = false) (e6 : (s.toList == [105, 102]) = false)
    (e7 : (s.toList == [61]) = false) (e8 : (s.toList == [60, 62]) = false) (e9 : (s.toList == [97, 110, 100]) = false) (e10 : (s.toList == [111, 114]) = false) (e11 : (s.toList == [120, 111, 114]) = false) (e12 : (s.toList == [61, 62]) = false)
    {b0 b1 : Bool} (hb0 : ((n0 : Int) == ((8 : Nat) : Int)) = b0) (hb1 : ((n1 : Int) == ((8 : Nat) : Int)) = b1) :
    Calls Tryd.prog 41 #[.string s, .slice A 2 c] w (ShP w (b0 && b1)) := by
  obtain ⟨ad, rfl, hcell⟩ := h
  obtain ⟨Ai, ci, h0⟩ := hcell 0 n0 rfl
  obtain ⟨Aj, cj, h1⟩ := hcell 1 n1 rfl
  have hbw : Below w.heap.size w (w.alloc (.cells #[.slice (some ad) 2 c] 53)) := (Below.refl _ _).alloc (Nat.le_refl _) _
  obtain ⟨W1, hW1⟩ : ∃ W1, W1 = (w.alloc (.cells #[.slice (some ad) 2 c] 53)).alloc (.cells #[.func (.func 76) #[] #[.pointer (some ⟨w.heap.size, 0, none⟩)]] 43) := ⟨_, rfl⟩
  have hb1' : Below w.heap.size w W1 := by rw [hW1]; exact hbw.alloc (by simp) _
  have hbx : W1.cell? ⟨w.heap.size, 0, none⟩ = some (.slice (some ad) 2 c) := by rw [hW1]; exact ((Blk.new w _ _).alloc _).cell 0
  have CM0 := Lib.hid (show Calls Tryd.prog 76 #[.int .i64 0, .int .i64 8, .pointer (some ⟨w.heap.size, 0, none⟩)] W1 (fun e w' => e = .returned (.bool b0) ∧ W1 = w') from many_any (i := 0) (k := 8) hbx (by omega) (by omega) ((hb1'.cell (World.block_lt_of_cell? _ _ h0)).trans h0) hb0)
  have CM1 := Lib.hid (show Calls Tryd.prog 76 #[.int .i64 1, .int .i64 8, .pointer (some ⟨w.heap.size, 0, none⟩)] W1 (fun e w' => e = .returned (.bool b1) ∧ W1 = w') from many_any (i := 1) (k := 8) hbx (by omega) (by omega) ((hb1'.cell (World.block_lt_of_cell? _ _ h1)).trans h1) hb1)
  have HW1 := Lib.hid hW1
  have HB1 := Lib.hid hb1'
  have cm : W1.cell? ⟨w.heap.size + 1, 0, none⟩ = some (.func (.func 76) #[] #[.pointer (some ⟨w.heap.size, 0, none⟩)]) := by
    rw [hW1]
    simp
  have HCM := Lib.hid cm
  have CA := Lib.hid (arity_any (hL.below hbw hLB) s)
  have HNB := Lib.hid (And.intro hn hb)
  have HB01 := Lib.hid (And.intro hb0 hb1)
  have HC := Lib.hid (And.intro h0 h1)
  clear hL hcell h0 h1 hn hb hb0 hb1 hbw hbx hW1 hb1' cm
  have hmf : ∀ (fn : Fn) (first cap : Array Value) (w : World), (Instr.makeFunc fn first cap).run Tryd.prog w = .ok (.func fn first cap) w := fun _ _ _ _ => rfl
  go_enter Tryd.func41, Tryd.ntmps41
  go_wp2_with fail
  refine CA.out.mono ?_
  rintro e w' ⟨rfl, rfl⟩
  rw [HNB.out.1, HNB.out.2]
  go_wp2_with fail
  rw [← HW1.out]
  refine CM0.out.mono ?_
  rintro e w' ⟨rfl, rfl⟩
  have cm := HCM.out
  cases b0 with
  | false =>
    go_wp2_with fail
    go_ret
    exact ⟨rfl, HB1.out⟩
  | true =>
    go_wp2_with fail
    refine CM1.out.mono ?_
    rintro e w' ⟨rfl, rfl⟩
    go_wp2_with fail
    go_ret
    exact ⟨by cases b1 <;> rfl, HB1.out⟩
end Go.Proofs.YtmbjhpgemphmmaaDoor
namespace Go.Proofs.YtmbjhpgemphmmaaDoor
open Go.RowKit
theorem of_idle (p q r : Addr) (w : World) :
    CallsD Tryd.prog 42 #[.pointer (some p), .pointer (some q), .pointer (some r)] .returning w fun e u' w' => e = .returned (.tuple #[]) ∧ u' = .returning ∧ w' = w := by
  refine callsD_of_wpS Tryd.func42 rfl fun c₀ cs hu => ?_
  apply wpS_seq
  apply wpS_region
  simp [wpOpsS, go_sem, recoverD, hu, Tryd.ntmps42, Exit.thenS]
  refine wpS_of_wp ?_
  go_wp2
  cases c₀
  simp_all [bodyPostS, results, Tryd.results42]
end Go.Proofs.YtmbjhpgemphmmaaDoor
