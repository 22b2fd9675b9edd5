/-
  ROWS OF THE CALL's OWN: cells, stores, appends; lists of literals as values; so many inputs.
-/
import Derived.Test.YtmbjhpgemphmmaaDoorBs
import Derived.Test.YtmbjhpgemphmmaaDoorLp
import Derived.Test.YtmbjhpgemphmmaaDoorGv
namespace Go.Proofs.YtmbjhpgemphmmaaDoor
open Go.RowKit
def natVals (l : List Nat) : List Value := litVals (l.map fun (x : Nat) => (x : Int))
theorem natVals_at {l : List Nat} {k x : Nat} (h : l[k]? = some x) : (natVals l)[k]? = some (.int .i64 (x : Int)) := by unfold natVals litVals; simp [h]
theorem natVals_append (l r : List Nat) : natVals (l ++ r) = natVals l ++ natVals r := by unfold natVals litVals; simp
theorem natVals_length (l : List Nat) : (natVals l).length = l.length := by unfold natVals litVals; simp
theorem own_grown_below {W wr w1 : World} {base n : Nat} {e : TypeId} {v : Value} {xs : List Value} {o : Obj} (hb : Below W.heap.size W wr) (ho : wr.ownsRow base e 1 v n xs) (hbs : W.heap.size ≤ base) (hg : (wr.alloc o).grownBy w1 v.ownBlock) : Below W.heap.size W w1 := by
  refine (hb.alloc hb.size o).trans ⟨hg.os, hg.tape, hg.output, hg.size, fun k hk => hg.block k (by have := hb.size; simp; omega) fun h => ?_⟩
  rcases ho.2 with ⟨rfl, _⟩ | ⟨g', cap, cur, rfl, hbb, _⟩
  · simp [Value.ownBlock] at h
  · simp only [Value.ownBlock, Option.some.injEq] at h
    omega
theorem infoLit_ : (Tryd.prog.info? 29).map (fun i => (i.zero, i.size, i.bytes)) = some (some (.int .i64 0), 1, 8) := by kernel_rfl
/-- an append onto a row of the call's own changes objects of its type alone -/
theorem row_chg {w w1 : World} {base n e : Nat} {v : Value} {xs : List Value} {o : Obj} (ho : w.ownsRow base e 1 v n xs) (hg : (w.alloc o).grownBy w1 v.ownBlock) : Chg (fun _ o => elemOf o = some e) w w1 := by
  refine ((Chg.refl _ w).alloc o).grown hg fun k o' hk ho' => ?_
  rcases ho.2 with ⟨rfl, _⟩ | ⟨g', cap, cur, rfl, _, hh, _⟩
  · simp [Value.ownBlock] at hk
  · simp only [Value.ownBlock, Option.some.injEq] at hk
    subst hk
    rw [hh] at ho'
    injection ho' with ho'
    subst ho'
    rfl
theorem GA.row {w w1 : World} {B b : Nat} {gs : List Gm.Gate} (h : GA w B b gs) (hc : Chg (fun _ o => elemOf o = some 29) w w1) : GA w1 B b gs :=
  h.chg hc fun k o _ hs => by rw [hs]; exact ⟨by simp, by simp, by simp⟩
/-- the row grows in a new block: what was there changes as a graph does -/
theorem gt_grown {W w w1 : World} {B base n e : Nat} {v : Value} {xs : List Value} {o : Obj} (h : Chg (GT B) W w) (ho : w.ownsRow base e 1 v n xs) (hb : W.heap.size ≤ base) (hg : (w.alloc o).grownBy w1 v.ownBlock) : Chg (GT B) W w1 :=
  (h.alloc o).grown hg fun k o' hk ho' => by
    have := lt_of_heap ho'
    rcases ho.2 with ⟨rfl, _⟩ | ⟨g', cap, cur, rfl, hbb, _⟩
    · simp [Value.ownBlock] at hk
    · simp only [Value.ownBlock, Option.some.injEq] at hk
      omega
theorem own_gt {w w' : World} {B base n : Nat} {v : Value} {xs : List Value} (h : w.ownsRow base 29 1 v n xs) (hc : Chg (GT B) w w') : w'.ownsRow base 29 1 v n xs :=
  own_chg h hc fun g cur _ _ hs => by rcases hs.2 with e | e | e <;> simp [elemOf] at e
theorem own_full {w : World} {base e n : Nat} {xs : List Value} (hb : base ≤ w.heap.size) (hl : xs.length = n) (hn : n ≤ 1000000) :
    (w.alloc (.cells xs.toArray e)).ownsRow base e 1 (.slice (some ⟨w.heap.size, 0, none⟩) n n) n xs :=
  ⟨by omega, .inr ⟨w.heap.size, n, xs.toArray, rfl, hb, heap_alloc_new w _, Nat.le_refl _, le_maxLen hn, by simp [hl], by rw [Nat.mul_one, ← hl]; simp⟩⟩
theorem own_set {w : World} {base e n c g k : Nat} {xs : List Value} (h : w.ownsRow base e 1 (.slice (some ⟨g, 0, none⟩) n c) n xs) (u : Value) :
    (w.setCell ⟨g, k, none⟩ u).ownsRow base e 1 (.slice (some ⟨g, 0, none⟩) n c) n (xs.set k u) := by
  refine ⟨by simpa using h.1, ?_⟩
  rcases h.2 with ⟨h0, _⟩ | ⟨g', cap, cur, hv, hb, hh, hn, hm, hs, ht⟩
  · cases h0
  · obtain ⟨rfl, rfl⟩ : g = g' ∧ c = cap := by simpa using hv
    refine .inr ⟨g, c, cur.setIfInBounds k u, rfl, hb, Blk.set_ (t := e) hh k u, hn, hm, by simpa using hs, ?_⟩
    rw [← ht]; simp [List.take_set]
theorem natVals_set (l : List Nat) (i y : Nat) : natVals (l.set i y) = (natVals l).set i (.int .i64 (y : Nat)) := by
  unfold natVals litVals; rw [List.map_map, List.map_map, List.map_set]; rfl
theorem own_cell {w : World} {base e n g k : Nat} {c : Nat} {xs : List Value} (h : w.ownsRow base e 1 (.slice (some ⟨g, 0, none⟩) n c) n xs) (hk : k < n) : ∃ u, xs[k]? = some u ∧ w.cell? ⟨g, k, none⟩ = some u := by
  have hl : k < xs.length := by have := h.1; omega
  obtain ⟨u, hu⟩ : ∃ u, xs[k]? = some u := ⟨_, List.getElem?_eq_getElem hl⟩
  have := h.cells (g := g) rfl k u hu
  refine ⟨u, hu, ?_⟩
  have e : (⟨g, 0, none⟩ : Addr).add k = ⟨g, k, none⟩ := by unfold Addr.add; split <;> simp_all
  rw [← e]; exact this
theorem own_far {w : World} {base e n g k : Nat} {v : Value} {xs : List Value} (h : w.ownsRow base e 1 v n xs) (u : Value) (hg : v.ownBlock ≠ some g) : (w.setCell ⟨g, k, none⟩ u).ownsRow base e 1 v n xs := by
  refine ⟨h.1, ?_⟩
  rcases h.2 with h0 | ⟨g', cap, cur, rfl, hb, hh, rest⟩
  · exact .inl h0
  · refine .inr ⟨g', cap, cur, rfl, hb, ?_, rest⟩
    exact (Below.heap_setCell _ _ _ _ (fun e => hg (by simp [Value.ownBlock]; exact e))).trans hh
theorem own_some {w : World} {base e n : Nat} {A : Option Addr} {c : Nat} {xs : List Value} (h : w.ownsRow base e 1 (.slice A n c) n xs) (hn : 0 < n) : ∃ g, A = some ⟨g, 0, none⟩ ∧ base ≤ g ∧ g < w.heap.size := by
  obtain ⟨g, cap, hv, hb, hlt⟩ := h.form hn
  exact ⟨g, by simp only [Value.slice.injEq] at hv; exact hv.1, hb, hlt⟩
theorem own_unfrozen {w : World} {base e n g k : Nat} {c : Nat} {xs : List Value} (h : w.ownsRow base e 1 (.slice (some ⟨g, 0, none⟩) n c) n xs) : w.frozen? ⟨g, k, none⟩ = false := by
  rcases h.2 with ⟨h0, _⟩ | ⟨g', cap, cur, hv, _, hh, _⟩
  · cases h0
  · obtain ⟨rfl, rfl⟩ : g = g' ∧ c = cap := by simpa using hv
    exact Blk.frozen (t := e) hh k
theorem own_ne {w : World} {base' e m g c : Nat} {v : Value} {ys : List Value} (h2 : w.ownsRow base' e 1 (.slice (some ⟨g, 0, none⟩) m c) m ys) (hb : ∀ k, v.ownBlock = some k → k < base') : v.ownBlock ≠ some g := by
  intro e
  have h1 := hb _ e
  rcases h2.2 with ⟨h0, _⟩ | ⟨g', cap, cur, hv, hbb, _⟩
  · cases h0
  · obtain ⟨rfl, rfl⟩ : g = g' ∧ c = cap := by simp only [Value.slice.injEq, Option.some.injEq, Addr.mk.injEq, and_true, true_and] at hv; exact hv
    omega
theorem natVals_take (l : List Nat) (n : Nat) : natVals (l.take n) = (natVals l).take n := by unfold natVals litVals; rw [List.map_take, List.map_take]
theorem own_take {w : World} {base e n m c : Nat} {A : Option Addr} {xs : List Value} (h : w.ownsRow base e 1 (.slice A m c) m xs) (hn : n ≤ m) (hm : 0 < m) : w.ownsRow base e 1 (.slice A n c) n (xs.take n) := by
  refine ⟨by rw [List.length_take, h.1]; omega, ?_⟩
  rcases h.2 with ⟨_, h0⟩ | ⟨g', cap, cur, hv, hbb, hh, hnc, hml, hs, ht⟩
  · omega
  · obtain ⟨rfl, rfl⟩ : A = some ⟨g', 0, none⟩ ∧ c = cap := by simpa using hv
    refine .inr ⟨g', c, cur, rfl, hbb, hh, by omega, hml, hs, ?_⟩
    rw [← ht, List.take_take]; congr 1; omega
theorem has_lit {w : World} {B b : Nat} {gs : List Gm.Gate} (h : GA w B b gs) {x : Nat} (hx : Gm.has gs x) (hl : gs.length ≤ 99000) :
    Calls Tryd.prog 34 #[.pointer (some ⟨b, 0, none⟩), .int .i64 x] w fun e w' => e = .returned (.bool true) ∧ w = w' := by
  obtain ⟨mb, h⟩ := h
  have hx' : x < 2 * gs.length + 2 := hx
  have hb : hasB gs.length (x : Int) = true := by unfold hasB; simp; omega
  have hw : (Lit.int .i64 (x : Int)).wf = true := wf_small (by omega)
  have := has_int h hw
  rw [hb] at this
  exact this
/-- so many inputs and nothing else -/
def inps (n : Nat) : List Gm.Gate := List.replicate n ⟨0, 0, true⟩
theorem inps_length (n : Nat) : (inps n).length = n := by unfold inps; simp
theorem inps_succ (n : Nat) : Gm.inpG (inps n) = (inps (n + 1), 2 * n + 2) := by
  unfold Gm.inpG; rw [inps_length]; unfold inps; rw [List.replicate_succ']
theorem inps_ins (n : Nat) : Gm.ins (inps n) = n := by
  induction n with
  | zero => rfl
  | succ n ih => show Gm.ins (⟨0, 0, true⟩ :: inps n) = _; simp only [Gm.ins, ih, if_true]; omega
theorem infoBool_ : (Tryd.prog.info? 4).map (fun i => (i.zero, i.size, i.bytes)) = some (some (.bool false), 1, 1) := by kernel_rfl
end Go.Proofs.YtmbjhpgemphmmaaDoor
