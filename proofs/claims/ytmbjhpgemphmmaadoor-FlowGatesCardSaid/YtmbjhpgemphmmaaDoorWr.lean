/-
  WALKS of the reference's Right and Around, and of the law's 'five'.
-/
import Derived.Test.YtmbjhpgemphmmaaDoorWb
namespace Go.Proofs.YtmbjhpgemphmmaaDoor
open Go.RowKit

def RPost (w : World) (x : Bool) (e : Ending) (w' : World) : Prop := e = .returned (.bool x) ∧ Below w.heap.size w w'
theorem right_b0 {w : World} {a b : Int} (h1 : a = 1) (h2 : b = 0) :
    Calls Tryd.prog 22 #[.agg #[.int .i64 a, .int .i64 b], .int .i64 a] w (RPost w (right a b)) := by
  have HR : Hid (right a b = true) := by
    have : right a b = true := by subst h1 h2; rfl
    exact this
  have e0 : (a != a) = false := by simp
  have e1 : (a == 1) = true := by simp [h1]
  have e3 : (b == 0) = true := by simp [h2]
  clear h1 h2
  go_enter Tryd.func22, Tryd.ntmps22
  go_wp2
  all_goals go_ret
  all_goals exact ⟨by rw [HR.out]; rfl, (Below.refl _ _).alloc (Nat.le_refl _) _⟩
theorem right_b1 {w : World} {a b : Int} (h1 : a = 1) (h2 : b = 1) :
    Calls Tryd.prog 22 #[.agg #[.int .i64 a, .int .i64 b], .int .i64 a] w (RPost w (right a b)) := by
  have HR : Hid (right a b = true) := by
    have : right a b = true := by subst h1 h2; rfl
    exact this
  have e0 : (a != a) = false := by simp
  have e1 : (a == 1) = true := by simp [h1]
  have e3 : (b == 0) = false := by simp [h2]
  have e4 : (b == 1) = true := by simp [h2]
  clear h1 h2
  go_enter Tryd.func22, Tryd.ntmps22
  go_wp2
  all_goals go_ret
  all_goals exact ⟨by rw [HR.out]; rfl, (Below.refl _ _).alloc (Nat.le_refl _) _⟩
theorem right_bx {w : World} {a b : Int} (h1 : a = 1) (h2 : b ≠ 0) (h3 : b ≠ 1) :
    Calls Tryd.prog 22 #[.agg #[.int .i64 a, .int .i64 b], .int .i64 a] w (RPost w (right a b)) := by
  have HR : Hid (right a b = false) := by
    have : right a b = false := by subst h1; unfold right; simp [h2, h3]
    exact this
  have e0 : (a != a) = false := by simp
  have e1 : (a == 1) = true := by simp [h1]
  have e3 : (b == 0) = false := by simpa using h2
  have e4 : (b == 1) = false := by simpa using h3
  clear h1 h2 h3
  go_enter Tryd.func22, Tryd.ntmps22
  go_wp2
  all_goals go_ret
  all_goals exact ⟨by rw [HR.out]; rfl, (Below.refl _ _).alloc (Nat.le_refl _) _⟩
theorem right_il {w : World} {a b : Int} (h1 : a = 2) (h2 : b < -128) :
    Calls Tryd.prog 22 #[.agg #[.int .i64 a, .int .i64 b], .int .i64 a] w (RPost w (right a b)) := by
  have HR : Hid (right a b = false) := by
    have : right a b = false := by subst h1; unfold right; simp; omega
    exact this
  have e0 : (a != a) = false := by simp
  have e1 : (a == 1) = false := by simp [h1]
  have e2 : (a == 2) = true := by simp [h1]
  have e3 : decide (-129 < b) = false := decide_eq_false (by omega)
  clear h1 h2
  go_enter Tryd.func22, Tryd.ntmps22
  go_wp2
  all_goals go_ret
  all_goals exact ⟨by rw [HR.out]; rfl, (Below.refl _ _).alloc (Nat.le_refl _) _⟩
theorem right_ih {w : World} {a b : Int} (h1 : a = 2) (h2 : 127 < b) :
    Calls Tryd.prog 22 #[.agg #[.int .i64 a, .int .i64 b], .int .i64 a] w (RPost w (right a b)) := by
  have HR : Hid (right a b = false) := by
    have : right a b = false := by subst h1; unfold right; simp; omega
    exact this
  have e0 : (a != a) = false := by simp
  have e1 : (a == 1) = false := by simp [h1]
  have e2 : (a == 2) = true := by simp [h1]
  have e3 : decide (-129 < b) = true := decide_eq_true (by omega)
  have e4 : decide (b < 128) = false := decide_eq_false (by omega)
  clear h1 h2
  go_enter Tryd.func22, Tryd.ntmps22
  go_wp2
  all_goals go_ret
  all_goals exact ⟨by rw [HR.out]; rfl, (Below.refl _ _).alloc (Nat.le_refl _) _⟩
theorem right_ii {w : World} {a b : Int} (h1 : a = 2) (h2 : -128 ≤ b) (h3 : b ≤ 127) :
    Calls Tryd.prog 22 #[.agg #[.int .i64 a, .int .i64 b], .int .i64 a] w (RPost w (right a b)) := by
  have HR : Hid (right a b = true) := by
    have : right a b = true := by subst h1; unfold right; simp; omega
    exact this
  have e0 : (a != a) = false := by simp
  have e1 : (a == 1) = false := by simp [h1]
  have e2 : (a == 2) = true := by simp [h1]
  have e3 : decide (-129 < b) = true := decide_eq_true (by omega)
  have e4 : decide (b < 128) = true := decide_eq_true (by omega)
  clear h1 h2 h3
  go_enter Tryd.func22, Tryd.ntmps22
  go_wp2
  all_goals go_ret
  all_goals exact ⟨by rw [HR.out]; rfl, (Below.refl _ _).alloc (Nat.le_refl _) _⟩
theorem right_x {w : World} {a b : Int} (h1 : a ≠ 1) (h2 : a ≠ 2) :
    Calls Tryd.prog 22 #[.agg #[.int .i64 a, .int .i64 b], .int .i64 a] w (RPost w (right a b)) := by
  have HR : Hid (right a b = false) := by
    have : right a b = false := by unfold right; simp [h1, h2]
    exact this
  have e0 : (a != a) = false := by simp
  have e1 : (a == 1) = false := by simpa using h1
  have e2 : (a == 2) = false := by simpa using h2
  clear h1 h2
  go_enter Tryd.func22, Tryd.ntmps22
  go_wp2
  all_goals go_ret
  all_goals exact ⟨by rw [HR.out]; rfl, (Below.refl _ _).alloc (Nat.le_refl _) _⟩
theorem right_any (w : World) (a b : Int) : Calls Tryd.prog 22 #[.agg #[.int .i64 a, .int .i64 b], .int .i64 a] w (RPost w (right a b)) := by
  by_cases h1 : a = 1
  · by_cases h2 : b = 0
    · exact right_b0 h1 h2
    · by_cases h3 : b = 1
      · exact right_b1 h1 h3
      · exact right_bx h1 h2 h3
  · by_cases h2 : a = 2
    · by_cases h3 : b < -128
      · exact right_il h2 h3
      · by_cases h4 : 127 < b
        · exact right_ih h2 h4
        · exact right_ii h2 (by omega) (by omega)
    · exact right_x h1 h2
theorem around_in {w : World} {n : Int} (h1 : -128 ≤ n) (h2 : n ≤ 127) : Calls Tryd.prog 54 #[.int .i64 n] w fun e w' => e = .returned (.int .i64 n) ∧ w = w' := by
  by_cases h0 : 0 ≤ n
  · have e2 : decide (n < 0) = false := decide_eq_false (by omega)
    have e3 : decide (127 < n) = false := decide_eq_false (by omega)
    have e1 : n % 256 = n := by omega
    go_enter Tryd.func54, Tryd.ntmps54
    go_wp2
    go_ret
    exact ⟨congrArg (fun x => Ending.returned (Value.int .i64 x)) e1, rfl⟩
  · have e1 : n.tmod 256 = n := by rw [Int.tmod_eq_emod]; split <;> simp <;> omega
    have e2 : decide (n < 0) = true := decide_eq_true (by omega)
    have e3 : decide (127 < n + 256) = true := decide_eq_true (by omega)
    go_enter Tryd.func54, Tryd.ntmps54
    go_wp2
    go_ret
    exact ⟨rfl, rfl⟩
theorem bitsTo_5 : litVals (bitsTo 5 8) = [.int .i64 1, .int .i64 0, .int .i64 1, .int .i64 0, .int .i64 0, .int .i64 0, .int .i64 0, .int .i64 0] := rfl
theorem arel_cells {W w : World} {e : TypeId} {k : Nat} {xs : List Value} {A : Option Addr} {c : Nat} (h : ARel W e k xs (.slice A k c) w) (hk : 0 < k) :
    ∃ g, A = some ⟨g, 0, none⟩ ∧ W.heap.size ≤ g ∧ (∀ (j : Nat) (u : Value), xs[j]? = some u → w.cell? ⟨g, j, none⟩ = some u) := by
  obtain ⟨A', c', he, ho, _⟩ := h
  simp only [Value.slice.injEq, true_and] at he
  obtain ⟨rfl, rfl⟩ := he
  obtain ⟨g, cap, hv, hb, _⟩ := ho.form hk
  simp only [Value.slice.injEq] at hv
  obtain ⟨rfl, _, rfl⟩ := hv
  refine ⟨g, rfl, hb, fun j u hu => ?_⟩
  have := ho.cells (g := g) rfl j u hu
  rwa [show ((⟨g, 0, none⟩ : Addr).add j) = ⟨g, j, none⟩ from by unfold Addr.add; split <;> simp_all] at this
theorem five_any (w : World) : Calls Tryd.prog 14 #[] w (RPost w true) := by
  have C := Lib.hid (const_any (n := 5) (by omega) (by omega) w)
  go_enter Tryd.func14, Tryd.ntmps14
  go_wp2_with fail
  refine C.out.mono ?_
  rintro e w1 ⟨v, rfl, hr⟩
  obtain ⟨A, c, rfl, _, hb⟩ := id hr
  rw [bitsTo_5] at hr
  obtain ⟨g, rfl, hg, hc⟩ := arel_cells hr (by omega)
  have c0 := hc 0 _ rfl
  have c1 := hc 1 _ rfl
  have c2 := hc 2 _ rfl
  have HB := Lib.hid hb
  clear hr hc hb
  go_wp2
  go_ret
  exact ⟨rfl, HB.out⟩
end Go.Proofs.YtmbjhpgemphmmaaDoor
