/-
  What is asked of a graph: literals that are handed in, one by one.
-/
import Derived.Test.YtmbjhpgemphmmaaDoorGx
namespace Go.Proofs.YtmbjhpgemphmmaaDoor
open Go.RowKit
/-- an append onto a row of literals or of bools leaves a graph and its model -/
theorem Two.grown {W w w1 : World} {B g m n base e : Nat} {gs : List Gm.Gate} {v : Value} {xs : List Value} {o : Obj} (h : Two W B g m gs w) (he : e ≠ 27 ∧ e ≠ 89 ∧ e ≠ 80 ∧ e ≠ 126)
    (ho : w.ownsRow base e 1 v n xs) (hb : W.heap.size ≤ base) (hg : (w.alloc o).grownBy w1 v.ownBlock) : Two W B g m gs w1 := by
  have hc : Chg (fun _ o => elemOf o = some e) w w1 := by
    refine ((Chg.refl _ w).alloc o).grown hg fun k o' hk ho' => ?_
    rcases ho.2 with ⟨rfl, _⟩ | ⟨g', cap, cur, rfl, _, hh, _⟩
    · simp [Value.ownBlock] at hk
    · simp only [Value.ownBlock, Option.some.injEq] at hk
      subst hk
      rw [hh] at ho'
      injection ho' with ho'
      subst ho'
      rfl
  obtain ⟨h1, h2, h3, h4⟩ := he
  refine ⟨h.ga.chg hc fun k o' _ hs => ?_, h.ma.chgS hc fun k o' _ hs => ?_, (h.bl.alloc h.bl.size o).trans (below_grown hg (by have := h.bl.size; simp; omega) fun g' e' => by have := ownBlock_ge ho g' e'; omega)⟩
  · rw [hs]; exact ⟨by simpa using h1, by simpa using h2, by simp⟩
  · rw [hs]; exact ⟨by simpa using h3, by simpa using h4⟩
/-- is all right so far: as many inputs as there are, and the first k are literals -/
def rOf (inp : List Bool) (gs : List Gm.Gate) (ask : List Int) (k : Nat) : Bool := ((inp.length : Int) == (Gm.ins gs : Int)) && (ask.take k).all (hasB gs.length)
theorem rOf_succ {inp : List Bool} {gs : List Gm.Gate} {ask : List Int} {k : Nat} {x : Int} (hx : ask[k]? = some x) : rOf inp gs ask (k + 1) = (rOf inp gs ask k && hasB gs.length x) := by
  unfold rOf; rw [Gm.take_one hx, List.all_append, Bool.and_assoc]; simp
def AskR (W : World) (B g m : Nat) (inp : List Bool) (gs : List Gm.Gate) (ask : List Int) (base : Nat) (lv rv iv : Value) (wr : World) : Prop :=
  ∃ k : Nat, k ≤ ask.length ∧ iv = .int .i64 k ∧ (∃ r, rOf inp gs ask k = r ∧ rv = .bool r) ∧ Two W B g m gs wr ∧ base ≤ wr.heap.size ∧ ∃ A c, lv = .slice A k c ∧ wr.ownsRow base 29 1 lv k (litVals (ask.take k))
theorem infoLit : (Tryd.prog.info? 29).map (fun i => (i.zero, i.size, i.bytes)) = some (some (.int .i64 0), 1, 8) := by kernel_rfl
theorem askr_next {W w1 : World} {B g m base : Nat} {inp : List Bool} {gs : List Gm.Gate} {ask : List Int} {k : Nat} {x : Int} {A : Option Addr} {c : Nat} {r : Bool} (hx : ask[k]? = some x) (hr : rOf inp gs ask (k + 1) = r) (ht : Two W B g m gs w1) (hbs : base ≤ w1.heap.size)
    (ho : w1.ownsRow base 29 1 (.slice A (k + 1) c) (k + 1) (litVals (ask.take k) ++ [.int .i64 x])) (iv : Value) (hi : iv = .int .i64 ((k + 1 : Nat) : Int)) : AskR W B g m inp gs ask base (.slice A (k + 1) c) (.bool r) iv w1 := by
  have hl := (List.getElem?_eq_some_iff.1 hx).1
  refine ⟨k + 1, by omega, hi, ⟨r, hr, rfl⟩, ht, hbs, A, c, rfl, ?_⟩
  rw [Gm.take_one hx]
  unfold litVals at *
  rw [List.map_append]
  exact ho
def EvN (w : World) (bs : List Bool) (n : Nat) (e : Ending) (w' : World) : Prop :=
  ∃ A c, e = .returned (.tuple #[.slice A n c, .nilIface]) ∧ w'.ownsRow w.heap.size 4 1 (.slice A n c) n (boolVals bs) ∧ Below w.heap.size w w'
theorem evg_n {w : World} {bs : List Bool} {n : Nat} (h : bs.length = n) {e : Ending} {w' : World} (k : EvG w bs e w') : EvN w bs n e w' := by subst h; exact k
end Go.Proofs.YtmbjhpgemphmmaaDoor
