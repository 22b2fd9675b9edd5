/-
  THE WALK of the law WordConst.
-/
import Derived.Test.YtlolfcmnebjpkaaDoorWr
import Derived.Deep.DeepCutAuto
import Derived.Deep.CutBlock
namespace Go.Proofs.YtlolfcmnebjpkaaDoor
open Go.RowKit

/-- what Const answers, whatever is handed in -/
def CP (ea : Nat → Addr) (n : Int) (W : World) (v er : Value) (w : World) : Prop :=
  (-128 ≤ n ∧ n ≤ 127 ∧ er = .nilIface ∧ ARel W 33 8 (litVals (bitsTo n 8)) v w) ∨ ((n < -128 ∨ 127 < n) ∧ v = .slice none 0 0 ∧ er = errV ea 2 ∧ Below W.heap.size W w)
theorem const_post {w : World} {ea : Nat → Addr} {B : Nat} (h : Errs w ea B) (n : Int) :
    Calls Tryd.prog 12 #[.int .i64 n] w fun e w' => ∃ v er, e = .returned (.tuple #[v, er]) ∧ CP ea n w v er w' := by
  by_cases hn : n < -128 ∨ 127 < n
  · refine (const_bad (h.var 2 (by decide) (by decide)) hn).mono ?_
    rintro e w' ⟨rfl, hb⟩
    exact ⟨_, _, rfl, .inr ⟨hn, rfl, rfl, hb⟩⟩
  · refine (const_any (by omega) (by omega) w).mono ?_
    rintro e w' ⟨v, rfl, hb⟩
    exact ⟨_, _, rfl, .inl ⟨by omega, by omega, rfl, hb⟩⟩
/-- what Bits answers -/
def BP (ea : Nat → Addr) (a b : Int) (W : World) (v er : Value) (w : World) : Prop :=
  (right a b = true ∧ er = .nilIface ∧ ∃ A c m, v = .slice A m c ∧ m = (if a = 1 then 1 else 8) ∧ w.ownsRow W.heap.size 4 1 v m (boolVals (bitsB b m)) ∧ Below W.heap.size W w) ∨
  (right a b = false ∧ v = .slice none 0 0 ∧ er = errV ea 5 ∧ Below W.heap.size W w)
theorem bits_post {w : World} {ea : Nat → Addr} {B : Nat} (h : Errs w ea B) (a b : Int) :
    Calls Tryd.prog 15 #[.agg #[.int .i64 a, .int .i64 b]] w fun e w' => ∃ v er, e = .returned (.tuple #[v, er]) ∧ BP ea a b w v er w' := by
  have he := h.var 5 (by decide) (by decide)
  have good : ∀ m, a = 1 ∨ a = 2 → m = (if a = 1 then 1 else 8) → right a b = true → (∀ (e : Ending) w', BPost w b m e w' → ∃ v er, e = .returned (.tuple #[v, er]) ∧ BP ea a b w v er w') := by
    rintro m ha hm hr e w' ⟨A, c, rfl, ho, hb⟩
    exact ⟨_, _, rfl, .inl ⟨hr, rfl, A, c, m, rfl, hm, ho, hb⟩⟩
  have bad : right a b = false → (∀ (e : Ending) w', e = .returned (.tuple #[.slice none 0 0, .iface 196 (.pointer (some (ea 5)))]) ∧ Below w.heap.size w w' → ∃ v er, e = .returned (.tuple #[v, er]) ∧ BP ea a b w v er w') := by
    rintro hr e w' ⟨rfl, hb⟩
    exact ⟨_, _, rfl, .inr ⟨hr, rfl, rfl, hb⟩⟩
  by_cases h1 : a = 1
  · by_cases h2 : b = 0
    · subst h1; exact (bits_zero h2).mono (good 1 (.inl rfl) rfl (by subst h2; rfl))
    · by_cases h3 : b = 1
      · subst h1; exact (bits_one h3).mono (good 1 (.inl rfl) rfl (by subst h3; rfl))
      · exact (bits_badB he h1 h2 h3).mono (bad (by subst h1; unfold right; simp [h2, h3]))
  · by_cases h2 : a = 2
    · by_cases h3 : b < -128
      · exact (bits_badL he h2 h3).mono (bad (by subst h2; unfold right; simp; omega))
      · by_cases h4 : 127 < b
        · exact (bits_badH he h2 h4).mono (bad (by subst h2; unfold right; simp; omega))
        · subst h2; exact (bits_int (by omega) (by omega)).mono (good 8 (.inr rfl) rfl (by unfold right; simp; omega))
    · exact (bits_badK he h1 h2).mono (bad (by unfold right; simp [h1, h2]))

def LPost (W : World) (e : Ending) (w' : World) : Prop := e = .returned (.bool true) ∧ Below W.heap.size W w'
set_option maxRecDepth 100000 in
set_option maxHeartbeats 1000000 in
theorem wc_long {w : World} {n a b : Int} {A : Option Addr} {c l : Nat} (hl : 50 < l) :
    Calls Tryd.prog 3 #[.int .i64 n, .agg #[.int .i64 a, .int .i64 b], .slice A l c] w (LPost w) := by
  have e0 : decide ((50 : Int) < (l : Int)) = true := decide_eq_true (by omega)
  go_enter Tryd.func3, Tryd.ntmps3
  go_wp2_with fail
  refine (five_any _).mono ?_
  rintro e w1 ⟨rfl, hb⟩
  have HB : Hid (Below w.heap.size w w1) := ((Below.refl _ w).alloc (Nat.le_refl _) _).trans (hb.mono (by simp))
  clear hb
  go_wp2
  go_ret
  exact ⟨rfl, HB.out⟩
end Go.Proofs.YtlolfcmnebjpkaaDoor
