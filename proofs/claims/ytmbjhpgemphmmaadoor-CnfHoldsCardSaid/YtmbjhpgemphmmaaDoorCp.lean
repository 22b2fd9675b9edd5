/-
  PLAIN: which gates roots need; the search that finds them, round by round; numbers of those that are needed; the clauses. No program in sight.
-/
import Derived.Test.YtmbjhpgemphmmaaDoorGm
namespace Go.Proofs.YtmbjhpgemphmmaaDoor
namespace Cn
/-- a gate that roots need -/
inductive Reach (gs : List Gm.Gate) (rs : List Nat) : Nat → Prop
  | root {r : Nat} : r ∈ rs → 1 ≤ r / 2 → Reach gs rs (r / 2)
  | left {n : Nat} {g : Gm.Gate} : Reach gs rs (n + 1) → gs[n]? = some g → g.inp = false → Reach gs rs (g.a / 2)
  | right {n : Nat} {g : Gm.Gate} : Reach gs rs (n + 1) → gs[n]? = some g → g.inp = false → Reach gs rs (g.b / 2)
/-- the search so far: what is marked, what is still to be looked at -/
structure Dfs (gs : List Gm.Gate) (rs : List Nat) (nl : List Bool) (tl : List Nat) : Prop where
  len : nl.length = gs.length + 1
  zero : nl[0]? = some false
  sound : ∀ n, nl[n]? = some true → Reach gs rs n
  todo : ∀ n ∈ tl, n ≤ gs.length ∧ (n = 0 ∨ Reach gs rs n)
  roots : ∀ r ∈ rs, r / 2 = 0 ∨ nl[r / 2]? = some true ∨ r / 2 ∈ tl
  kids : ∀ n g, nl[n + 1]? = some true → gs[n]? = some g → g.inp = false → (nl[g.a / 2]? = some true ∨ g.a / 2 ∈ tl) ∧ (nl[g.b / 2]? = some true ∨ g.b / 2 ∈ tl)
def left (nl : List Bool) : Nat := (nl.filter (! ·)).length
theorem dfs_start {gs : List Gm.Gate} {rs : List Nat} (h : ∀ r ∈ rs, Gm.has gs r) : Dfs gs rs (List.replicate (gs.length + 1) false) (rs.map (· / 2)) := by
  have no : ∀ n, (List.replicate (gs.length + 1) false)[n]? ≠ some true := fun n hn => by
    have := List.mem_of_getElem? hn
    have := List.eq_of_mem_replicate this
    cases this
  refine ⟨by simp, by simp, fun n hn => absurd hn (no n), fun n hn => ?_, fun r hr => .inr (.inr (List.mem_map_of_mem hr)), fun n g hn => absurd hn (no _)⟩
  obtain ⟨r, hr, rfl⟩ := List.mem_map.1 hn
  have h1 := h r hr
  unfold Gm.has at h1
  refine ⟨by omega, ?_⟩
  rcases Nat.eq_zero_or_pos (r / 2) with h0 | h0
  · exact .inl h0
  · exact .inr (.root hr h0)
theorem dfs_skip {gs : List Gm.Gate} {rs : List Nat} {nl : List Bool} {tl : List Nat} {n : Nat} (h : Dfs gs rs nl (tl ++ [n])) (hn : n = 0 ∨ nl[n]? = some true) (hw : Gm.Wf gs) : Dfs gs rs nl tl := by
  refine ⟨h.len, h.zero, h.sound, fun k hk => h.todo k (List.mem_append_left _ hk), fun r hr => ?_, fun k g hk hg hi => ?_⟩
  · rcases h.roots r hr with h1 | h1 | h1
    · exact .inl h1
    · exact .inr (.inl h1)
    · rcases List.mem_append.1 h1 with h1 | h1
      · exact .inr (.inr h1)
      · rw [List.mem_singleton.1 h1]
        rcases hn with h0 | h0
        · exact .inl h0
        · exact .inr (.inl h0)
  · obtain ⟨h1, h2⟩ := h.kids k g hk hg hi
    obtain ⟨g1, g2, g3⟩ := hw.ahead k g hg hi
    refine ⟨?_, ?_⟩
    · rcases h1 with h1 | h1
      · exact .inl h1
      · rcases List.mem_append.1 h1 with h1 | h1
        · exact .inr h1
        · have e := List.mem_singleton.1 h1
          rcases hn with h0 | h0
          · omega
          · rw [e]; exact .inl h0
    · rcases h2 with h1 | h1
      · exact .inl h1
      · rcases List.mem_append.1 h1 with h1 | h1
        · exact .inr h1
        · have e := List.mem_singleton.1 h1
          rcases hn with h0 | h0
          · omega
          · rw [e]; exact .inl h0
theorem set_true {nl : List Bool} {n k : Nat} (hn : n < nl.length) : (nl.set n true)[k]? = some true ↔ (nl[k]? = some true ∨ k = n) := by
  rw [List.getElem?_set]
  constructor
  · intro h
    split at h
    · rename_i e; exact .inr e.symm
    · exact .inl h
  · rintro (h | rfl)
    · split
      · rename_i e; subst e; simp
      · exact h
    · simpa using hn
/-- what is added to be looked at -/
def kidsOf (g : Gm.Gate) : List Nat := if g.inp then [] else [g.a / 2, g.b / 2]
theorem dfs_mark {gs : List Gm.Gate} {rs : List Nat} {nl : List Bool} {tl : List Nat} {n : Nat} {g : Gm.Gate} (h : Dfs gs rs nl (tl ++ [n + 1])) (hg : gs[n]? = some g) (hw : Gm.Wf gs) :
    Dfs gs rs (nl.set (n + 1) true) (tl ++ kidsOf g) := by
  have hl := (List.getElem?_eq_some_iff.1 hg).1
  have hs := fun k => set_true (k := k) (show n + 1 < nl.length by have := h.len; omega)
  have hrn : Reach gs rs (n + 1) := by
    obtain ⟨_, h1⟩ := h.todo (n + 1) (by simp)
    rcases h1 with h1 | h1
    · omega
    · exact h1
  have mem : ∀ k, k ∈ tl ++ [n + 1] → (nl.set (n + 1) true)[k]? = some true ∨ k ∈ tl ++ kidsOf g := fun k hk => by
    rcases List.mem_append.1 hk with hk | hk
    · exact .inr (List.mem_append_left _ hk)
    · exact .inl ((hs k).2 (.inr (List.mem_singleton.1 hk)))
  refine ⟨by simp [h.len], ?_, fun k hk => ?_, fun k hk => ?_, fun r hr => ?_, fun k g' hk hg' hi => ?_⟩
  · rw [List.getElem?_set_ne (by omega)]; exact h.zero
  · rcases (hs k).1 hk with h1 | rfl
    · exact h.sound k h1
    · exact hrn
  · rcases List.mem_append.1 hk with hk | hk
    · exact h.todo k (List.mem_append_left _ hk)
    · unfold kidsOf at hk
      split at hk
      · cases hk
      · rename_i hi
        have hi' : g.inp = false := by simpa using hi
        obtain ⟨g1, g2, g3⟩ := hw.ahead n g hg hi'
        simp only [List.mem_cons, List.not_mem_nil, or_false] at hk
        rcases hk with rfl | rfl
        · exact ⟨by omega, .inr (.left hrn hg hi')⟩
        · exact ⟨by omega, .inr (.right hrn hg hi')⟩
  · rcases h.roots r hr with h1 | h1 | h1
    · exact .inl h1
    · exact .inr (.inl ((hs _).2 (.inl h1)))
    · exact .inr (mem _ h1)
  · rcases (hs (k + 1)).1 hk with h1 | h1
    · obtain ⟨h2, h3⟩ := h.kids k g' h1 hg' hi
      constructor
      · rcases h2 with h2 | h2
        · exact .inl ((hs _).2 (.inl h2))
        · exact mem _ h2
      · rcases h3 with h2 | h2
        · exact .inl ((hs _).2 (.inl h2))
        · exact mem _ h2
    · obtain rfl : k = n := by omega
      rw [hg] at hg'
      injection hg' with hg'
      subst hg'
      unfold kidsOf
      rw [if_neg (by rw [hi]; simp)]
      exact ⟨.inr (by simp), .inr (by simp)⟩
/-- the search is at its end: just what is needed is marked -/
theorem dfs_end {gs : List Gm.Gate} {rs : List Nat} {nl : List Bool} (h : Dfs gs rs nl []) {n : Nat} : nl[n]? = some true ↔ (1 ≤ n ∧ Reach gs rs n) := by
  constructor
  · intro hn
    refine ⟨?_, h.sound n hn⟩
    rcases Nat.eq_zero_or_pos n with h0 | h0
    · subst h0; rw [h.zero] at hn; simp at hn
    · exact h0
  · rintro ⟨hn, hr⟩
    induction hr with
    | root hr h1 =>
      rcases h.roots _ hr with h2 | h2 | h2
      · omega
      · exact h2
      · cases h2
    | left hr hg hi ih =>
      obtain ⟨h2, _⟩ := h.kids _ _ (ih (by omega)) hg hi
      rcases h2 with h2 | h2
      · exact h2
      · cases h2
    | right hr hg hi ih =>
      obtain ⟨_, h2⟩ := h.kids _ _ (ih (by omega)) hg hi
      rcases h2 with h2 | h2
      · exact h2
      · cases h2
theorem left_set : ∀ {nl : List Bool} {n : Nat}, nl[n]? = some false → left (nl.set n true) + 1 = left nl
  | [], n, h => by simp at h
  | b :: l, 0, h => by
    simp only [List.getElem?_cons_zero, Option.some.injEq] at h
    subst h; simp [left]
  | b :: l, n + 1, h => by
    have ih := left_set (nl := l) (n := n) (by simpa using h)
    unfold left at ih ⊢
    cases b <;> simp at ih ⊢ <;> omega
theorem left_le (nl : List Bool) : left nl ≤ nl.length := List.length_filter_le _ _
/-- numbers of what is needed, the first k gates (from 0 on) being looked at -/
def cnt (nl : List Bool) (k : Nat) : Nat := ((nl.take k).filter id).length
theorem cnt_succ {nl : List Bool} {k : Nat} {b : Bool} (h : nl[k]? = some b) : cnt nl (k + 1) = cnt nl k + (if b then 1 else 0) := by
  unfold cnt
  rw [List.take_add_one, h, List.filter_append, List.length_append]
  cases b <;> rfl
theorem cnt_le (nl : List Bool) (k : Nat) : cnt nl k ≤ k := Nat.le_trans (List.length_filter_le _ _) (List.length_take_le _ _)
def numAt (nl : List Bool) (k : Nat) : Nat := if nl[k]? = some true then cnt nl (k + 1) else 0
/-- the row of numbers, filled up to k -/
def numTo (nl : List Bool) (k : Nat) : List Nat := (List.range nl.length).map fun i => if i < k then numAt nl i else 0
theorem numTo_length (nl : List Bool) (k : Nat) : (numTo nl k).length = nl.length := by unfold numTo; simp
theorem numTo_zero (nl : List Bool) : numTo nl 0 = List.replicate nl.length 0 := by
  unfold numTo; rw [List.eq_replicate_iff]; simp
theorem numTo_get {nl : List Bool} {k i : Nat} (hi : i < nl.length) : (numTo nl k)[i]? = some (if i < k then numAt nl i else 0) := by
  unfold numTo; rw [List.getElem?_map, List.getElem?_range hi]; rfl
theorem numTo_succ {nl : List Bool} {k : Nat} (hk : k < nl.length) : numTo nl (k + 1) = (numTo nl k).set k (numAt nl k) := by
  apply List.ext_getElem?
  intro i
  rw [List.getElem?_set, numTo_length]
  by_cases hi : i < nl.length
  · rw [numTo_get hi, numTo_get hi]
    by_cases e : k = i
    · subst e; simp [hk]
    · rw [if_neg e]
      by_cases h1 : i < k
      · rw [if_pos h1, if_pos (by omega)]
      · rw [if_neg h1, if_neg (by omega)]
  · rw [List.getElem?_eq_none (by rw [numTo_length]; omega), List.getElem?_eq_none (by rw [numTo_length]; omega)]
    split
    · rename_i e; omega
    · rfl
theorem numTo_skip {nl : List Bool} {k : Nat} (hk : nl[k]? = some false) : numTo nl (k + 1) = numTo nl k := by
  rw [numTo_succ (List.getElem?_eq_some_iff.1 hk).1]
  have : numAt nl k = 0 := by unfold numAt; rw [hk]; simp
  rw [this]
  apply List.ext_getElem?
  intro i
  rw [List.getElem?_set, numTo_length]
  split
  · rename_i e; subst e
    have hl := (List.getElem?_eq_some_iff.1 hk).1
    rw [if_pos hl, numTo_get hl, if_neg (by omega)]
  · rfl
def nums (nl : List Bool) : List Nat := numTo nl nl.length
/-- a literal as a number of clauses -/
def litN (nl : List Bool) (a : Nat) : Int := if a % 2 = 1 then -((numAt nl (a / 2) : Nat) : Int) else (numAt nl (a / 2) : Nat)
/-- the clauses of a gate -/
def gateC (nl : List Bool) (n : Nat) (g : Gm.Gate) : List (List Int) :=
  if nl[n + 1]? = some true ∧ g.inp = false then [[-((numAt nl (n + 1) : Nat) : Int), litN nl g.a], [-((numAt nl (n + 1) : Nat) : Int), litN nl g.b], [((numAt nl (n + 1) : Nat) : Int), -litN nl g.a, -litN nl g.b]] else []
def gatesC (nl : List Bool) : Nat → List Gm.Gate → List (List Int)
  | _, [] => []
  | n, g :: r => gateC nl n g ++ gatesC nl (n + 1) r
theorem gatesC_snoc (nl : List Bool) : ∀ (l : List Gm.Gate) (n : Nat) (g : Gm.Gate), gatesC nl n (l ++ [g]) = gatesC nl n l ++ gateC nl (n + l.length) g
  | [], n, g => by simp [gatesC]
  | x :: l, n, g => by
    simp only [List.cons_append, gatesC, gatesC_snoc nl l (n + 1) g, List.length_cons, List.append_assoc]
    congr 3; omega
def rootC (nl : List Bool) (a : Nat) : List (List Int) := if a = 0 then [[]] else if a = 1 then [] else [[litN nl a]]
def rootsC (nl : List Bool) (rs : List Nat) : List (List Int) := (rs.map (rootC nl)).flatten
def clausesC (gs : List Gm.Gate) (nl : List Bool) (rs : List Nat) : List (List Int) := gatesC nl 0 gs ++ rootsC nl rs
end Cn
end Go.Proofs.YtmbjhpgemphmmaaDoor
