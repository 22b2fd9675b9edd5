/-
  WALK: SameInts of the reference: the same numbers?
-/
import Derived.Test.YtmbjhpgemphmmaaDoorGe
import Derived.Test.YtmbjhpgemphmmaaDoorLp
import Derived.BigQuiet
namespace Go.Proofs.YtmbjhpgemphmmaaDoor
open Go.RowKit
theorem quiet_some {P : Program} {f : FuncId} {args : Array Value} {w : World} {n : Nat} {v : Value} (h : Calls P f args (w.drewN n) fun e w' => e = .returned v ∧ ∃ m, w' = (w.drewN n).drewN m) :
    Calls P f args (w.drewN n) fun e w'' => e = .returned v ∧ ∃ m, w'' = w.drewN m := h.mono fun _ _ ⟨he, m, hm⟩ => ⟨he, n + m, by rw [hm, World.drewN_drewN]⟩
theorem take_ne {xs ys : List Int} {k : Nat} {x y : Int} (hx : xs[k]? = some x) (hy : ys[k]? = some y) (h : x ≠ y) : xs ≠ ys := fun e => by
  subst e; rw [hx] at hy; injection hy with hy; exact h hy
theorem take_eq {xs ys : List Int} {k : Nat} {x : Int} (h : xs.take k = ys.take k) (hx : xs[k]? = some x) (hy : ys[k]? = some x) : xs.take (k + 1) = ys.take (k + 1) := by
  rw [List.take_add_one, List.take_add_one, h, hx, hy]
def SiR (w : World) (xs ys : List Int) (iv : Value) (wr : World) : Prop := ∃ k : Nat, k ≤ xs.length ∧ iv = .int .i64 k ∧ xs.take k = ys.take k ∧ ∃ n, wr = w.drewN n
set_option maxRecDepth 100000 in
set_option maxHeartbeats 1000000 in
theorem sameInts_any {w : World} {B1 B2 : Nat} {A1 A2 : Option Addr} {c1 c2 : Nat} {xs ys : List Int} (hx : Reads w B1 1 A1 xs.length (litVals xs)) (hy : Reads w B2 1 A2 ys.length (litVals ys)) (hl : xs.length ≤ 1000000) :
    Calls Tryd.prog 13 #[.slice A1 xs.length c1, .slice A2 ys.length c2] w fun e w' => e = .returned (.bool (xs == ys)) ∧ ∃ n, w' = w.drewN n := by
  by_cases hll : xs.length = ys.length
  · have hne : ((xs.length : Int) != (ys.length : Int)) = false := by simp [hll]
    have HX := Lib.hid hx
    have HY := Lib.hid hy
    have HLL := Lib.hid hll
    clear hx hy hll
    go_enter Tryd.func13, Tryd.ntmps13
    go_wp2_with fail
    go_loopw [5] (fun iv wr => SiR w xs ys iv wr) (fun iv _ => xs.length - (intOf iv).toNat)
    case atStart => exact ⟨0, Nat.zero_le _, rfl, rfl, 0, rfl⟩
    case round =>
      obtain ⟨k, hk, rfl, ht, n, rfl⟩ := hrel
      by_cases hkl : k < xs.length
      · obtain ⟨x, hxk⟩ : ∃ x, xs[k]? = some x := ⟨_, List.getElem?_eq_getElem hkl⟩
        obtain ⟨y, hyk⟩ : ∃ y, ys[k]? = some y := ⟨_, List.getElem?_eq_getElem (by have := HLL.out; omega)⟩
        obtain ⟨ad, rfl, _, cx⟩ := HX.out.2 (by omega)
        obtain ⟨ad2, rfl, _, cy⟩ := HY.out.2 (by have := HLL.out; omega)
        have cx := cx k _ (litVals_at hxk)
        have cy := cy k _ (litVals_at hyk)
        have hky : (k : Int) < (ys.length : Int) := by have := HLL.out; omega
        have HT := Lib.hid ht
        have HXK := Lib.hid hxk
        have HYK := Lib.hid hyk
        clear ht hxk hyk
        by_cases hxy : x = y
        · have hb : (x != y) = false := by simp [hxy]
          have HXY := Lib.hid hxy
          clear hxy
          go_wp2_with fail
          go_quiet (fail)
          all_goals
            go_wp2_with fail
            go_roundw
            case rel => exact ⟨k + 1, by omega, by go_num, take_eq HT.out HXK.out (by rw [HXY.out]; exact HYK.out), _, rfl⟩
            case measure => simp [intOf]; omega
        · have hb : (x != y) = true := by simp [hxy]
          have HXY := Lib.hid hxy
          clear hxy
          go_wp2_with fail
          go_quiet (fail)
          all_goals
            go_wp2
            go_ret
            exact ⟨by rw [beq_eq_false_iff_ne.2 (take_ne HXK.out HYK.out HXY.out)]; rfl, _, World.drewN_drewN _ _ _⟩
      · obtain rfl : k = xs.length := by omega
        have he : (xs == ys) = true := by
          rw [List.take_length, List.take_of_length_le (by have := HLL.out; omega)] at ht
          rw [ht]; simp
        have HE := Lib.hid he
        clear he
        go_wp2
        go_ret
        exact ⟨by rw [HE.out]; rfl, n, rfl⟩
  · have hne : ((xs.length : Int) != (ys.length : Int)) = true := by simp; omega
    have he : (xs == ys) = false := beq_eq_false_iff_ne.2 fun e => hll (by rw [e])
    have HE := Lib.hid he
    clear hll he hx hy
    go_enter Tryd.func13, Tryd.ntmps13
    go_wp2
    go_ret
    exact ⟨by rw [HE.out]; rfl, 0, rfl⟩
end Go.Proofs.YtmbjhpgemphmmaaDoor
