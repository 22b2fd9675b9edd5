/-
  WALKS: SameInts of the reference; the law's sameClauses.
-/
import Derived.Test.YtaedbnbeelkkcaaGreatDoorRk
import Derived.BigQuiet
namespace Go.Proofs.YtaedbnbeelkkcaaGreatDoor
open Go.RowKit
theorem litVals_at {l : List Int} {k : Nat} {a : Int} (h : l[k]? = some a) : (litVals l)[k]? = some (.int .i64 a) := by unfold litVals; simp [h]
theorem quiet_some {P : Program} {f : FuncId} {args : Array Value} {w : World} {n : Nat} {v : Value} (h : Calls P f args (w.drewN n) fun e w' => e = .returned v ∧ ∃ m, w' = (w.drewN n).drewN m) :
    Calls P f args (w.drewN n) fun e w'' => e = .returned v ∧ ∃ m, w'' = w.drewN m := h.mono fun _ _ ⟨he, m, hm⟩ => ⟨he, n + m, by rw [hm, World.drewN_drewN]⟩
theorem take_ne {xs ys : List Int} {k : Nat} {x y : Int} (hx : xs[k]? = some x) (hy : ys[k]? = some y) (h : x ≠ y) : xs ≠ ys := fun e => by
  subst e; rw [hx] at hy; injection hy with hy; exact h hy
theorem take_eq {xs ys : List Int} {k : Nat} {x : Int} (h : xs.take k = ys.take k) (hx : xs[k]? = some x) (hy : ys[k]? = some x) : xs.take (k + 1) = ys.take (k + 1) := by
  rw [List.take_add_one, List.take_add_one, h, hx, hy]
def SiR (w : World) (xs ys : List Int) (iv : Value) (wr : World) : Prop := ∃ k : Nat, k ≤ xs.length ∧ iv = .int .i64 k ∧ xs.take k = ys.take k ∧ ∃ n, wr = w.drewN n
set_option maxRecDepth 100000 in
set_option maxHeartbeats 1000000 in
theorem sameInts_any {w : World} {B1 B2 : Nat} {A1 A2 : Option Addr} {c1 c2 : Nat} {xs ys : List Int} (hx : Reads w B1 1 A1 xs.length (litVals xs)) (hy : Reads w B2 1 A2 ys.length (litVals ys)) (hl : xs.length ≤ 1000000) :
    Calls Tryz.prog 29 #[.slice A1 xs.length c1, .slice A2 ys.length c2] w fun e w' => e = .returned (.bool (xs == ys)) ∧ ∃ n, w' = w.drewN n := by
  by_cases hll : xs.length = ys.length
  · have hne : ((xs.length : Int) != (ys.length : Int)) = false := by simp [hll]
    have HX := Lib.hid hx
    have HY := Lib.hid hy
    have HLL := Lib.hid hll
    clear hx hy hll
    go_enter Tryz.func29, Tryz.ntmps29
    go_wp2_with fail
    go_loopw [5] (fun iv wr => SiR w xs ys iv wr) (fun iv _ => xs.length - (intOf iv).toNat)
    case atStart => exact ⟨0, Nat.zero_le _, rfl, rfl, 0, rfl⟩
    case round =>
      obtain ⟨k, hk, rfl, ht, n, rfl⟩ := hrel
      by_cases hkl : k < xs.length
      · obtain ⟨x, hxk⟩ : ∃ x, xs[k]? = some x := ⟨_, List.getElem?_eq_getElem hkl⟩
        obtain ⟨y, hyk⟩ : ∃ y, ys[k]? = some y := ⟨_, List.getElem?_eq_getElem (by have := HLL.out; omega)⟩
        obtain ⟨ad, rfl, _, cx⟩ := HX.out.2 (by omega)
        obtain ⟨ad2, rfl, _, cy⟩ := HY.out.2 (by have := HLL.out; omega)
        have cx := cx k _ (litVals_at hxk)
        have cy := cy k _ (litVals_at hyk)
        have hky : (k : Int) < (ys.length : Int) := by have := HLL.out; omega
        have HT := Lib.hid ht
        have HXK := Lib.hid hxk
        have HYK := Lib.hid hyk
        clear ht hxk hyk
        by_cases hxy : x = y
        · have hb : (x != y) = false := by simp [hxy]
          have HXY := Lib.hid hxy
          clear hxy
          go_wp2_with fail
          go_quiet (fail)
          all_goals
            go_wp2_with fail
            go_roundw
            case rel => exact ⟨k + 1, by omega, by go_num, take_eq HT.out HXK.out (by rw [HXY.out]; exact HYK.out), _, rfl⟩
            case measure => simp [intOf]; omega
        · have hb : (x != y) = true := by simp [hxy]
          have HXY := Lib.hid hxy
          clear hxy
          go_wp2_with fail
          go_quiet (fail)
          all_goals
            go_wp2
            go_ret
            exact ⟨by rw [beq_eq_false_iff_ne.2 (take_ne HXK.out HYK.out HXY.out)]; rfl, _, World.drewN_drewN _ _ _⟩
      · obtain rfl : k = xs.length := by omega
        have he : (xs == ys) = true := by
          rw [List.take_length, List.take_of_length_le (by have := HLL.out; omega)] at ht
          rw [ht]; simp
        have HE := Lib.hid he
        clear he
        go_wp2
        go_ret
        exact ⟨by rw [HE.out]; rfl, n, rfl⟩
  · have hne : ((xs.length : Int) != (ys.length : Int)) = true := by simp; omega
    have he : (xs == ys) = false := beq_eq_false_iff_ne.2 fun e => hll (by rw [e])
    have HE := Lib.hid he
    clear hll he hx hy
    go_enter Tryz.func29, Tryz.ntmps29
    go_wp2
    go_ret
    exact ⟨by rw [HE.out]; rfl, 0, rfl⟩
def ScR (w : World) (cs : List (List Int)) (iv : Value) (wr : World) : Prop := ∃ k : Nat, k ≤ cs.length ∧ iv = .int .i64 k ∧ ∃ n, wr = w.drewN n
set_option maxRecDepth 100000 in
set_option maxHeartbeats 1000000 in
theorem sameClauses_eq {w : World} {B1 B2 : Nat} {A1 A2 : Option Addr} {c1 c2 : Nat} {cs : List (List Int)} (h1 : ClsR w B1 A1 cs) (h2 : ClsR w B2 A2 cs) (hl : cs.length ≤ 300000) (hb : ∀ c ∈ cs, c.length ≤ 1000) :
    Calls Tryz.prog 13 #[.slice A1 cs.length c1, .slice A2 cs.length c2] w fun e w' => e = .returned (.bool true) ∧ ∃ n, w' = w.drewN n := by
  have H1 := Lib.hid h1
  have H2 := Lib.hid h2
  have HB := Lib.hid hb
  have hne : ((cs.length : Int) != (cs.length : Int)) = false := by simp
  clear h1 h2 hb
  go_enter Tryz.func13, Tryz.ntmps13
  go_wp2_with fail
  go_loopw [5] (fun iv wr => ScR w cs iv wr) (fun iv _ => cs.length - (intOf iv).toNat)
  case atStart => exact ⟨0, Nat.zero_le _, rfl, 0, rfl⟩
  case round =>
    obtain ⟨k, hk, rfl, n, hwr⟩ := hrel
    by_cases hkl : k < cs.length
    · obtain ⟨l, hlk⟩ : ∃ l, cs[k]? = some l := ⟨_, List.getElem?_eq_getElem hkl⟩
      have q1 : ClsR wr B1 A1 cs := by rw [hwr]; exact H1.out
      have q2 : ClsR wr B2 A2 cs := by rw [hwr]; exact H2.out
      obtain ⟨ad1, rfl, _, r1⟩ := q1 (by omega)
      obtain ⟨ad2, rfl, _, r2⟩ := q2 (by omega)
      obtain ⟨X1, d1, x1, y1⟩ := r1 k l hlk
      obtain ⟨X2, d2, x2, y2⟩ := r2 k l hlk
      have hl3 := HB.out l (List.mem_of_getElem? hlk)
      have CS := Lib.hid (show ∀ j, Calls Tryz.prog 29 #[.slice X1 l.length d1, .slice X2 l.length d2] (wr.drewN j) fun e w' => e = .returned (.bool true) ∧ ∃ m, w' = (wr.drewN j).drewN m from fun j => by
        have h := sameInts_any (c1 := d1) (c2 := d2) (y1.drewN j) (y2.drewN j) (by omega)
        rw [show (l == l) = true by simp] at h
        exact h)
      have HWR := Lib.hid hwr
      clear r1 r2 y1 y2 q1 q2 hwr hlk
      go_wp2_with fail
      go_quiet ((go_at_call 29; exact quiet_some (CS.out _)))
      all_goals
        go_wp2_with fail
        go_roundw
        case rel => exact ⟨k + 1, by omega, by go_num, _, by rw [HWR.out]; exact World.drewN_drewN _ _ _⟩
        case measure => simp [intOf]; omega
    · obtain rfl : k = cs.length := by omega
      have HWR := Lib.hid hwr
      clear hwr
      go_wp2
      go_ret
      exact ⟨rfl, n, HWR.out⟩
theorem sameClauses_n {w : World} {B1 B2 : Nat} {A1 A2 : Option Addr} {c1 c2 n : Nat} {cs : List (List Int)} (hn : cs.length = n) (h1 : ClsR w B1 A1 cs) (h2 : ClsR w B2 A2 cs) (hl : n ≤ 300000) (hb : ∀ c ∈ cs, c.length ≤ 1000) :
    Calls Tryz.prog 13 #[.slice A1 n c1, .slice A2 n c2] w fun e w' => e = .returned (.bool true) ∧ Below w.heap.size w w' := by
  subst hn
  exact (sameClauses_eq h1 h2 hl hb).mono fun e w' h => ⟨h.1, by obtain ⟨m, rfl⟩ := h.2; exact below_drewN (Below.refl _ _) m⟩
end Go.Proofs.YtaedbnbeelkkcaaGreatDoor
