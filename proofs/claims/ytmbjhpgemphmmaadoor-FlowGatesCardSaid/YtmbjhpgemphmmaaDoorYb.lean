/-
  WORDS of literals in memory; turned, zero.
-/
import Derived.Test.YtmbjhpgemphmmaaDoorYa
import Derived.Test.YtmbjhpgemphmmaaDoorOm
import Derived.Test.YtmbjhpgemphmmaaDoorLp
import Derived.Test.YtmbjhpgemphmmaaDoorGv
namespace Go.Proofs.YtmbjhpgemphmmaaDoor
open Go.RowKit

/-- a word that is read: its block is none of a graph's -/
def Held (w : World) (B : Nat) (A : Option Addr) (n : Nat) (xs : List Nat) : Prop :=
  xs.length = n ∧ (0 < n → ∃ ad o, A = some ad ∧ w.heap[ad.block]? = some o ∧ (ad.block < B ∨ elemOf o = some 29) ∧ ∀ (j x : Nat), xs[j]? = some x → w.cell? (ad.add j) = some (.int .i64 (x : Int)))
section
variable {w w' : World} {B n : Nat} {A : Option Addr} {xs : List Nat}
theorem Held.chg {S : Nat → Obj → Prop} (h : Held w B A n xs) (hc : Chg S w w') (hS : ∀ k o, S k o → B ≤ k ∧ elemOf o ≠ some 29) : Held w' B A n xs := by
  refine ⟨h.1, fun hn => ?_⟩
  obtain ⟨ad, o, rfl, ho, hb, hcell⟩ := h.2 hn
  have hk := hc.keep _ _ ho fun hs => by
    obtain ⟨h1, h2⟩ := hS _ _ hs
    rcases hb with hb | hb
    · omega
    · exact h2 hb
  exact ⟨ad, o, rfl, hk, hb, fun j x hx => (World.cell?_of_block (a := ad.add j) (by rw [block_of_add]; exact hk.trans ho.symm)).trans (hcell j x hx)⟩
theorem Held.gt (h : Held w B A n xs) (hc : Chg (GT B) w w') : Held w' B A n xs :=
  h.chg hc fun k o hs => ⟨hs.1, by rcases hs.2 with e | e | e <;> rw [e] <;> simp⟩
theorem Held.new (h : Held w B A n xs) (hb : Below w.heap.size w w') : Held w' B A n xs := h.chg (S := fun _ _ => False) (.of_new hb) (by simp)
theorem Held.drewN (h : Held w B A n xs) (k : Nat) : Held (w.drewN k) B A n xs := h
theorem Held.of_own {base c : Nat} (h : w.ownsRow base 29 1 (.slice A n c) n (natVals xs)) : Held w B A n xs := by
  have hl : xs.length = n := by have := h.1; rw [natVals_length] at this; omega
  refine ⟨hl, fun hn => ?_⟩
  obtain ⟨g, cap, hv, _, _⟩ := h.form hn
  have hA : A = some ⟨g, 0, none⟩ := by injection hv
  subst hA
  have hc := h.cells (g := g) rfl
  rcases h.2 with ⟨h0, _⟩ | ⟨g', cap', cur, hv', _, hh, _⟩
  · cases h0
  · have hg : g = g' := by simp only [Value.slice.injEq, Option.some.injEq, Addr.mk.injEq, and_true] at hv'; exact hv'.1
    subst hg
    exact ⟨_, _, rfl, hh, .inr rfl, fun j x hx => hc j _ (natVals_at hx)⟩
end
/-- a word that was made -/
def WPost (w : World) (n : Nat) (ys : List Nat) (e : Ending) (w' : World) : Prop :=
  ∃ A c, e = .returned (.slice A n c) ∧ w'.ownsRow w.heap.size 29 1 (.slice A n c) n (natVals ys) ∧ Below w.heap.size w w'
def TuR (W : World) (xs : List Nat) (ov iv : Value) (wr : World) : Prop :=
  ∃ k : Nat, k ≤ xs.length ∧ iv = .int .i64 k ∧ (∃ A c, ov = .slice A k c) ∧ wr.ownsRow W.heap.size 29 1 ov k (natVals ((xs.take k).map Gm.notL)) ∧ Below W.heap.size W wr
set_option maxHeartbeats 1000000 in
theorem turned_any {w : World} {B n : Nat} {A : Option Addr} {xs : List Nat} {c : Nat} (h : Held w B A n xs) (hs : ∀ x ∈ xs, x ≤ 1000000) (hn : n ≤ 1000) :
    Calls Tryd.prog 43 #[.slice A n c] w (WPost w n (xs.map Gm.notL)) := by
  obtain ⟨i0, hi0, hz0, hz1, hz2⟩ := info_parts infoLit_
  have HIN := Lib.hid (show _ ∧ _ ∧ _ ∧ _ from ⟨hi0, hz0, hz1, hz2⟩)
  obtain rfl := h.1
  have HH := Lib.hid h
  have HS := Lib.hid hs
  clear h hs hi0 hz0 hz1 hz2
  go_enter Tryd.func43, Tryd.ntmps43
  go_wp2_with fail
  go_loopw [3, 8] (fun ov iv wr => TuR w xs ov iv wr) (fun _ iv _ => xs.length - (intOf iv).toNat)
  case atStart => exact ⟨0, Nat.zero_le _, rfl, ⟨none, 0, rfl⟩, World.ownsRow_nil _ _ _ _, Below.refl _ _⟩
  case round =>
    obtain ⟨k, hk, rfl, ⟨Ao, co, rfl⟩, hown, hb⟩ := hrel
    have HO := Lib.hid hown
    have HB := Lib.hid hb
    have hsz := hb.size
    clear hown hb
    by_cases hkl : k < xs.length
    · obtain ⟨x, hx⟩ : ∃ x, xs[k]? = some x := ⟨_, List.getElem?_eq_getElem hkl⟩
      obtain ⟨ad, o, hA, ho, _, hcell⟩ := HH.out.2 (by omega)
      subst hA
      have hlt := lt_of_heap ho
      have cx := (HB.out.cell (p := ad.add k) (by rw [block_of_add]; exact hlt)).trans (hcell k x hx)
      have CN := Lib.hid (not_any x wr (HS.out x (List.mem_of_getElem? hx)))
      have HX := Lib.hid hx
      clear hcell ho hx hlt
      go_wp2_with fail
      refine CN.out.mono ?_
      rintro e w' ⟨rfl, rfl⟩
      go_wp2_with (at_builtin; refine wpList_append_sl _ rfl (.tmp 12) (.tmp 15) _ rfl w.heap.size 29 i0 _ 1 8 Tryd.underlying28 HIN.out.1 HIN.out.2.1 HIN.out.2.2.1 HIN.out.2.2.2 rfl (by omega) _ k _ rfl (HO.out.alloc _) (wr.heap.size + 1) (some ⟨wr.heap.size, 0, none⟩) 1 1 [.int .i64 (Gm.notL x : Nat)] rfl (reads_new rfl (by omega) rfl) (ints_one (by simp)) (le_maxLen (by omega)) (le_bytes (by omega) (by omega)) (by simp; omega) ?_; intro A1 c1 w5 hown1 hg1)
      have hg2 : (wr.alloc (.cells #[.int .i64 (Gm.notL x : Nat)] 29)).grownBy w5 (Value.slice Ao k co).ownBlock := hg1
      have HB5 := Lib.hid (own_grown_below HB.out HO.out (Nat.le_refl _) hg2)
      have ho5 : w5.ownsRow w.heap.size 29 1 (.slice A1 (k + 1) c1) (k + 1) (natVals ((xs.take (k + 1)).map Gm.notL)) := by
        rw [Gm.take_one HX.out, List.map_append, natVals_append]; exact hown1
      have HO5 := Lib.hid ho5
      clear hown1 hg1 hg2 ho5
      go_wp2_with fail
      go_roundw
      case rel => exact ⟨k + 1, by omega, by go_num, ⟨_, _, rfl⟩, HO5.out, HB5.out⟩
      case measure => simp [intOf]; omega
    · obtain rfl : k = xs.length := by omega
      have ho := HO.out
      rw [List.take_length] at ho
      have HO4 := Lib.hid ho
      clear ho
      go_wp2
      go_ret
      exact ⟨Ao, co, rfl, HO4.out, HB.out⟩
end Go.Proofs.YtmbjhpgemphmmaaDoor
