/-
  THE WALK of package graph: Eval.
-/
import Derived.Test.YtmbjhpgemphmmaaDoorMe
import Derived.Deep.DeepCutAuto
namespace Go.Proofs.YtmbjhpgemphmmaaDoor
open Go.RowKit

/-- the closure of Eval: what a literal comes to, by the row -/
theorem evfn_at {w : World} {xb vb n : Nat} {row : List Bool} (hx : Blk w xb 54 #[.slice (some ⟨vb, 0, none⟩) (n + 1) (n + 1)]) (hv : Blk w vb 4 (boolRow row)) {a : Nat} {b : Bool} (ha : row[a / 2]? = some b) (hs : a < 2 * n + 2) (hn : n ≤ 1000000) :
    Calls Tryd.prog 49 #[.int .i64 a, .pointer (some ⟨xb, 0, none⟩)] w fun e w' => e = .returned (.bool (b != (((a : Int) % 2) == 1))) ∧ w = w' := by
  have c0 : w.cell? ⟨xb, 0, none⟩ = some (.slice (some ⟨vb, 0, none⟩) (n + 1) (n + 1)) := hx.cell 0
  have c1 : w.cell? ⟨vb, a / 2, none⟩ = some (.bool b) := by rw [hv.cell]; exact boolRow_get ha
  have z0 : (0 : Int) ≤ (a : Int) / 2 := by omega
  have z1 : (a : Int) / 2 < (n : Int) + 1 := by omega
  have z2 : ((a : Int) / 2).toNat = a / 2 := by omega
  have hb : (a : Int) ≤ 3000000 := by omega
  clear hx hv ha
  go_enter Tryd.func49, Tryd.ntmps49
  go_wp2
  go_ret
  exact ⟨rfl, rfl⟩
/-- lists that do not fit: an error, and nothing -/
def EvB (w : World) (ea : Nat → Addr) (e : Ending) (w' : World) : Prop := e = .returned (.tuple #[.slice none 0 0, errV ea 3]) ∧ ∃ n, w' = w.drewN n
set_option maxHeartbeats 1000000 in
theorem geval_len {w : World} {B b : Nat} {gs : List Gm.Gate} {ea : Nat → Addr} {BE : Nat} (hE : Errs w ea BE) (hg : GA w B b gs) {A A2 : Option Addr} {c c2 m n : Nat} (hm : m ≠ Gm.ins gs) :
    Calls Tryd.prog 18 #[.pointer (some ⟨b, 0, none⟩), .slice A m c, .slice A2 n c2] w (EvB w ea) := by
  obtain ⟨mb, hg⟩ := hg
  obtain ⟨sv, hblk, hrow⟩ := hg.ex
  have c1 : w.cell? ⟨b, 1, none⟩ = some (.int .i64 (Gm.ins gs : Int)) := hblk.cell 1
  have he := hE.at3
  obtain ⟨ni, hni⟩ : ∃ ni, ni = Gm.ins gs := ⟨_, rfl⟩
  rw [← hni] at c1 hm
  have e0 : ((m : Int) != (ni : Int)) = true := by simp; omega
  clear hE hg hblk hrow hm hni
  go_enter Tryd.func18, Tryd.ntmps18
  go_wp2_with fail
  go_quiet (fail)
  go_wp2
  go_ret2
  exact ⟨rfl, _, rfl⟩
/-- a list of ints, of them one that is no literal -/
theorem first_bad {n : Nat} : ∀ {l : List Int}, (¬ ∀ a ∈ l, hasB n a = true) → ∃ (k : Nat) (a : Int), l[k]? = some a ∧ hasB n a = false ∧ ∀ j x, j < k → l[j]? = some x → hasB n x = true
  | [], h => absurd (fun a ha => by cases ha) h
  | x :: r, h => by
    cases hx : hasB n x with
    | false => exact ⟨0, x, rfl, hx, fun j _ hj => by omega⟩
    | true =>
      obtain ⟨k, a, h1, h2, h3⟩ := first_bad (l := r) (fun hr => h fun a ha => by
        rcases List.mem_cons.1 ha with rfl | ha
        · exact hx
        · exact hr a ha)
      exact ⟨k + 1, a, by simpa using h1, h2, fun j y hj hy => by
        cases j with
        | zero => simp only [List.getElem?_cons_zero, Option.some.injEq] at hy; rw [← hy]; exact hx
        | succ j => exact h3 j y (by omega) (by simpa using hy)⟩
theorem litVals_at {l : List Int} {k : Nat} {a : Int} (h : l[k]? = some a) : (litVals l)[k]? = some (.int .i64 a) := by unfold litVals; simp [h]
set_option maxHeartbeats 2000000 in
theorem geval_bad {w : World} {B b : Nat} {gs : List Gm.Gate} {ea : Nat → Addr} {BE : Nat} (hE : Errs w ea BE) (hg : GA w B b gs) {A A2 : Option Addr} {c c2 BR : Nat} {l : List Int} (hr : Reads w BR 1 A2 l.length (litVals l)) (hl : l.length ≤ 1000000) (hw : ∀ a ∈ l, (Lit.int .i64 a).wf = true) (hb : ¬ ∀ a ∈ l, hasB gs.length a = true) :
    Calls Tryd.prog 18 #[.pointer (some ⟨b, 0, none⟩), .slice A (Gm.ins gs) c, .slice A2 l.length c2] w (EvB w ea) := by
  obtain ⟨j, a, hj, hja, hjb⟩ := first_bad hb
  have hjl := (List.getElem?_eq_some_iff.1 hj).1
  obtain ⟨mb, hg⟩ := hg
  obtain ⟨sv, hblk, hrow⟩ := hg.ex
  have c1 : w.cell? ⟨b, 1, none⟩ = some (.int .i64 (Gm.ins gs : Int)) := hblk.cell 1
  have he := hE.at3
  have hil := Gm.ins_le gs
  have hgl := hg.len
  obtain ⟨ad, hA, _, hcell⟩ := hr.2 (by omega)
  subst hA
  have HC := Lib.hid hcell
  have HH := Lib.hid (show ∀ a, a ∈ l → Calls Tryd.prog 34 #[.pointer (some ⟨b, 0, none⟩), .int .i64 a] w fun e w' => e = .returned (.bool (hasB gs.length a)) ∧ w = w' from fun a ha => has_int hg (hw a ha))
  have HJ := Lib.hid hj
  have HJA := Lib.hid hja
  have HJB := Lib.hid hjb
  obtain ⟨ni, hni⟩ : ∃ ni, ni = Gm.ins gs := ⟨_, rfl⟩
  rw [← hni] at c1 hil ⊢
  have e0 : ((ni : Int) != (ni : Int)) = false := by simp
  have hn1 : (ni : Int) ≤ 1000000 := by omega
  clear hE hg hblk hrow hni hj hja hjb hb hcell hr hw hil
  go_enter Tryd.func18, Tryd.ntmps18
  go_wp2_with fail
  go_loop [27] (fun i => ∃ k : Nat, k ≤ j ∧ i = .int .i64 k) (fun i => j + 1 - (intOf i).toNat)
  case atStart => exact ⟨0, Nat.zero_le _, rfl⟩
  case round =>
    obtain ⟨k, hk, rfl⟩ := hrel
    have hkl : k < l.length := by omega
    obtain ⟨x, hx⟩ : ∃ x, l[k]? = some x := ⟨_, List.getElem?_eq_getElem hkl⟩
    have cx := HC.out k _ (litVals_at hx)
    have CX := HH.out x (List.mem_of_getElem? hx)
    by_cases hkj : k = j
    · have hxa : hasB gs.length x = false := by
        have h := HJ.out
        rw [← hkj, hx] at h
        injection h with h
        rw [h]; exact HJA.out
      rw [hxa] at CX
      have CX := Lib.hid CX
      clear hx hxa hkj
      go_wp2_with fail
      refine CX.out.mono ?_
      rintro e w' ⟨rfl, rfl⟩
      go_wp2_with fail
      go_quiet (fail)
      go_wp2
      go_ret2
      exact ⟨rfl, _, rfl⟩
    · have hxa : hasB gs.length x = true := HJB.out k x (by omega) hx
      rw [hxa] at CX
      have CX := Lib.hid CX
      clear hx hxa
      go_wp2_with fail
      refine CX.out.mono ?_
      rintro e w' ⟨rfl, rfl⟩
      go_wp2_with fail
      go_round
      case rel => exact ⟨k + 1, by omega, by go_num⟩
      case measure => simp [intOf]; omega
end Go.Proofs.YtmbjhpgemphmmaaDoor
