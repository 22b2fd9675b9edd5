/-
  PLAIN: the same search downwards (as the document has it) finds the same gates; and by what values of variables clauses hold (TSEITIN). No program in sight.
-/
import Derived.Test.YtmbjhpgemphmmaaDoorCp
namespace Go.Proofs.YtmbjhpgemphmmaaDoor
namespace Cn
/-- roots marked so far -/
structure Seeds (gs : List Gm.Gate) (rs : List Nat) (nl : List Bool) (k : Nat) : Prop where
  len : nl.length = gs.length + 1
  sound : ∀ m, 1 ≤ m → nl[m]? = some true → Reach gs rs m
  roots : ∀ i r, i < k → rs[i]? = some r → nl[r / 2]? = some true
/-- the search downwards so far -/
structure Down (gs : List Gm.Gate) (rs : List Nat) (nl : List Bool) (n : Nat) : Prop where
  len : nl.length = gs.length + 1
  sound : ∀ m, 1 ≤ m → nl[m]? = some true → Reach gs rs m
  roots : ∀ r ∈ rs, nl[r / 2]? = some true
  kids : ∀ m g, n ≤ m → nl[m + 1]? = some true → gs[m]? = some g → g.inp = false → nl[g.a / 2]? = some true ∧ nl[g.b / 2]? = some true
theorem seeds_start (gs : List Gm.Gate) (rs : List Nat) : Seeds gs rs (List.replicate (gs.length + 1) false) 0 := by
  refine ⟨by simp, fun m _ hm => ?_, fun i r hi => by omega⟩
  have h1 := List.mem_of_getElem? hm
  have h2 := List.eq_of_mem_replicate h1
  cases h2
theorem seeds_step {gs : List Gm.Gate} {rs : List Nat} {nl : List Bool} {k r : Nat} (h : Seeds gs rs nl k) (hr : rs[k]? = some r) (hh : Gm.has gs r) : Seeds gs rs (nl.set (r / 2) true) (k + 1) := by
  have hs := fun m => set_true (k := m) (show r / 2 < nl.length by have := h.len; unfold Gm.has at hh; omega)
  refine ⟨by simp [h.len], fun m hm1 hm => ?_, fun i x hi hx => ?_⟩
  · rcases (hs m).1 hm with h1 | rfl
    · exact h.sound m hm1 h1
    · exact .root (List.mem_of_getElem? hr) hm1
  · rcases Nat.lt_or_ge i k with h1 | h1
    · exact (hs _).2 (.inl (h.roots i x h1 hx))
    · obtain rfl : i = k := by omega
      rw [hr] at hx
      injection hx with hx
      exact (hs _).2 (.inr (by rw [hx]))
theorem down_start {gs : List Gm.Gate} {rs : List Nat} {nl : List Bool} (h : Seeds gs rs nl rs.length) : Down gs rs nl gs.length := by
  refine ⟨h.len, h.sound, fun r hr => ?_, fun m g hm _ hg => ?_⟩
  · obtain ⟨i, hi, he⟩ := List.getElem_of_mem hr
    exact h.roots i r hi (by rw [List.getElem?_eq_getElem hi, he])
  · have := (List.getElem?_eq_some_iff.1 hg).1; omega
theorem down_skip {gs : List Gm.Gate} {rs : List Nat} {nl : List Bool} {n : Nat} {g : Gm.Gate} (h : Down gs rs nl (n + 1)) (hg : gs[n]? = some g) (hn : nl[n + 1]? = some false ∨ g.inp = true) : Down gs rs nl n := by
  refine ⟨h.len, h.sound, h.roots, fun m g' hm hk hg' hi => ?_⟩
  rcases Nat.lt_or_ge n m with h1 | h1
  · exact h.kids m g' h1 hk hg' hi
  · obtain rfl : m = n := by omega
    rcases hn with hn | hn
    · rw [hn] at hk; cases hk
    · rw [hg] at hg'; injection hg' with hg'; subst hg'; rw [hn] at hi; cases hi
theorem down_mark {gs : List Gm.Gate} {rs : List Nat} {nl : List Bool} {n : Nat} {g : Gm.Gate} (h : Down gs rs nl (n + 1)) (hn : nl[n + 1]? = some true) (hg : gs[n]? = some g) (hi : g.inp = false) (hw : Gm.Wf gs) :
    Down gs rs ((nl.set (g.a / 2) true).set (g.b / 2) true) n := by
  obtain ⟨g1, g2, g3⟩ := hw.ahead n g hg hi
  have hl := (List.getElem?_eq_some_iff.1 hg).1
  have hlen := h.len
  have hs : ∀ m, ((nl.set (g.a / 2) true).set (g.b / 2) true)[m]? = some true ↔ (nl[m]? = some true ∨ m = g.a / 2 ∨ m = g.b / 2) := fun m => by
    rw [set_true (by simp; omega), set_true (by omega)]
    constructor
    · rintro ((h | h) | h)
      · exact .inl h
      · exact .inr (.inl h)
      · exact .inr (.inr h)
    · rintro (h | h | h)
      · exact .inl (.inl h)
      · exact .inl (.inr h)
      · exact .inr h
  have hr := h.sound (n + 1) (by omega) hn
  refine ⟨by simp [hlen], fun m hm1 hm => ?_, fun r hr => (hs _).2 (.inl (h.roots r hr)), fun m g' hm hk hg' hi' => ?_⟩
  · rcases (hs m).1 hm with h1 | rfl | rfl
    · exact h.sound m hm1 h1
    · exact .left hr hg hi
    · exact .right hr hg hi
  · rcases (hs _).1 hk with h1 | h1 | h1
    · rcases Nat.lt_or_ge n m with h2 | h2
      · obtain ⟨h3, h4⟩ := h.kids m g' h2 h1 hg' hi'
        exact ⟨(hs _).2 (.inl h3), (hs _).2 (.inl h4)⟩
      · obtain rfl : m = n := by omega
        rw [hg] at hg'; injection hg' with hg'; subst hg'
        exact ⟨(hs _).2 (.inr (.inl rfl)), (hs _).2 (.inr (.inr rfl))⟩
    · omega
    · omega
theorem down_end {gs : List Gm.Gate} {rs : List Nat} {nl : List Bool} (h : Down gs rs nl 0) {m : Nat} (hm : 1 ≤ m) (hr : Reach gs rs m) : nl[m]? = some true := by
  have hall : ∀ m, Reach gs rs m → 1 ≤ m → nl[m]? = some true := fun m hr => by
    induction hr with
    | root hr h1 => exact fun _ => h.roots _ hr
    | left hr hg hi ih => exact fun _ => (h.kids _ _ (Nat.zero_le _) (ih (by omega)) hg hi).1
    | right hr hg hi ih => exact fun _ => (h.kids _ _ (Nat.zero_le _) (ih (by omega)) hg hi).2
  exact hall m hr hm
/-- both searches find the same -/
theorem same_need {gs : List Gm.Gate} {rs : List Nat} {nl nl' : List Bool} (hl : nl.length = gs.length + 1) (hs : ∀ n, nl[n]? = some true ↔ 1 ≤ n ∧ Reach gs rs n) (h' : Down gs rs nl' 0) : nl = nl'.set 0 false := by
  apply List.ext_getElem?
  intro i
  have hl' := h'.len
  rcases Nat.eq_zero_or_pos i with h0 | h0
  · subst h0
    rw [List.getElem?_set_self (by omega)]
    obtain ⟨b, hb⟩ : ∃ b, nl[0]? = some b := ⟨_, List.getElem?_eq_getElem (by omega)⟩
    cases b with
    | false => exact hb
    | true => have := ((hs 0).1 hb).1; omega
  · rw [List.getElem?_set_ne (by omega)]
    rcases Nat.lt_or_ge i (gs.length + 1) with h1 | h1
    · obtain ⟨b, hb⟩ : ∃ b, nl[i]? = some b := ⟨_, List.getElem?_eq_getElem (by omega)⟩
      obtain ⟨b', hb'⟩ : ∃ b, nl'[i]? = some b := ⟨_, List.getElem?_eq_getElem (by omega)⟩
      rw [hb, hb']
      cases b with
      | true =>
        have := down_end h' h0 ((hs i).1 hb).2
        rw [hb'] at this; exact this.symm
      | false =>
        cases b' with
        | false => rfl
        | true =>
          have := (hs i).2 ⟨h0, h'.sound i h0 hb'⟩
          rw [hb] at this; cases this
    · rw [List.getElem?_eq_none (by omega), List.getElem?_eq_none (by omega)]
/-! ### numbers are apart -/
theorem cnt_mono (nl : List Bool) {i j : Nat} (h : i ≤ j) : cnt nl i ≤ cnt nl j := by
  induction h with
  | refl => exact Nat.le_refl _
  | @step m hm ih =>
    refine Nat.le_trans ih ?_
    cases hb : nl[m]? with
    | some b => rw [cnt_succ hb]; omega
    | none =>
      unfold cnt
      rw [List.take_add_one, hb]; simp
theorem numAt_pos {nl : List Bool} {i : Nat} (h : nl[i]? = some true) : 1 ≤ numAt nl i := by
  unfold numAt; rw [if_pos h, cnt_succ h]; simp
theorem numAt_lt {nl : List Bool} {i j : Nat} (hi : nl[i]? = some true) (hj : nl[j]? = some true) (h : i < j) : numAt nl i < numAt nl j := by
  have h1 := cnt_mono nl (show i + 1 ≤ j by omega)
  have h2 := cnt_succ hj
  unfold numAt; rw [if_pos hi, if_pos hj, h2]; simp; omega
theorem numAt_ne {nl : List Bool} {i j : Nat} (hi : nl[i]? = some true) (hj : nl[j]? = some true) (h : i ≠ j) : numAt nl i ≠ numAt nl j := by
  rcases Nat.lt_or_ge i j with h1 | h1
  · have := numAt_lt hi hj h1; omega
  · have := numAt_lt hj hi (by omega); omega
theorem numAt_cnt {nl : List Bool} (i : Nat) : numAt nl i ≤ cnt nl nl.length := by
  unfold numAt
  split
  · rename_i h
    exact cnt_mono nl (by have := (List.getElem?_eq_some_iff.1 h).1; omega)
  · omega
/-! ### what holds -/
def litH (vs : List Bool) (n : Int) : Bool := (decide (0 < n) && vs.getD (n.toNat - 1) false) || (decide (n < 0) && !(vs.getD ((-n).toNat - 1) false))
def clH (vs : List Bool) (c : List Int) : Bool := c.any (litH vs)
def forH (vs : List Bool) (cs : List (List Int)) : Bool := cs.all (clH vs)
/-- variables' values by what gates come to, the first k gates being looked at -/
def ValsTo (inp : List Bool) (gs : List Gm.Gate) (nl vs : List Bool) (k : Nat) : Prop :=
  vs.length = cnt nl nl.length ∧ ∀ i, i < k → nl[i]? = some true → vs[numAt nl i - 1]? = some (Gm.ev inp gs (2 * i))
theorem vals_skip {inp : List Bool} {gs : List Gm.Gate} {nl vs : List Bool} {k : Nat} (h : ValsTo inp gs nl vs k) (hk : nl[k]? ≠ some true) : ValsTo inp gs nl vs (k + 1) :=
  ⟨h.1, fun i hi hn => by
    rcases Nat.lt_or_ge i k with h1 | h1
    · exact h.2 i h1 hn
    · obtain rfl : i = k := by omega
      exact absurd hn hk⟩
theorem vals_set {inp : List Bool} {gs : List Gm.Gate} {nl vs : List Bool} {k : Nat} (h : ValsTo inp gs nl vs k) (hk : nl[k]? = some true) : ValsTo inp gs nl (vs.set (numAt nl k - 1) (Gm.ev inp gs (2 * k))) (k + 1) := by
  have hp := numAt_pos hk
  have hc := numAt_cnt (nl := nl) k
  refine ⟨by rw [List.length_set]; exact h.1, fun i hi hn => ?_⟩
  rcases Nat.lt_or_ge i k with h1 | h1
  · have h2 := numAt_lt hn hk h1
    have h3 := numAt_pos hn
    rw [List.getElem?_set_ne (by omega)]
    exact h.2 i h1 hn
  · obtain rfl : i = k := by omega
    rw [List.getElem?_set_self (by rw [h.1]; omega)]
theorem ev_even (inp : List Bool) (gs : List Gm.Gate) (a : Nat) : Gm.ev inp gs a = (Gm.ev inp gs (2 * (a / 2)) != (a % 2 == 1)) := by
  unfold Gm.ev Gm.litV
  rw [show 2 * (a / 2) / 2 = a / 2 by omega, show 2 * (a / 2) % 2 = 0 by omega]
  simp
theorem lit_holds {inp : List Bool} {gs : List Gm.Gate} {nl vs : List Bool} (h : ValsTo inp gs nl vs nl.length) {a : Nat} (ha : nl[a / 2]? = some true) :
    litH vs (litN nl a) = Gm.ev inp gs a ∧ litH vs (-litN nl a) = !(Gm.ev inp gs a) := by
  have h1 := h.2 (a / 2) (List.getElem?_eq_some_iff.1 ha).1 ha
  have hp := numAt_pos ha
  rw [ev_even inp gs a]
  unfold litN
  generalize numAt nl (a / 2) = z at *
  generalize Gm.ev inp gs (2 * (a / 2)) = b at *
  have g1 : vs.getD (z - 1) false = b := by rw [List.getD, h1]; rfl
  rcases Nat.mod_two_eq_zero_or_one a with ho | ho
  · rw [if_neg (by omega), ho]
    unfold litH
    rw [decide_eq_true (show (0 : Int) < (z : Int) by omega), decide_eq_false (show ¬ (z : Int) < 0 by omega), decide_eq_false (show ¬ (0 : Int) < -(z : Int) by omega), decide_eq_true (show -(z : Int) < 0 by omega)]
    rw [show ((z : Int)).toNat = z by omega, show (-(-(z : Int))).toNat = z by omega, g1]
    cases b <;> simp
  · rw [if_pos ho, ho]
    unfold litH
    rw [decide_eq_false (show ¬ (0 : Int) < -(z : Int) by omega), decide_eq_true (show -(z : Int) < 0 by omega), show (-(-(z : Int))) = (z : Int) by omega, decide_eq_true (show (0 : Int) < (z : Int) by omega), decide_eq_false (show ¬ (z : Int) < 0 by omega)]
    rw [show ((z : Int)).toNat = z by omega, g1]
    cases b <;> simp
theorem gate_holds {inp : List Bool} {gs : List Gm.Gate} {rs : List Nat} {nl vs : List Bool} (hw : Gm.Wf gs) (hs : ∀ n, nl[n]? = some true ↔ 1 ≤ n ∧ Reach gs rs n) (h : ValsTo inp gs nl vs nl.length) {n : Nat} {g : Gm.Gate} (hg : gs[n]? = some g) :
    forH vs (gateC nl n g) = true := by
  unfold gateC
  split
  · rename_i hc
    obtain ⟨hn, hi⟩ := hc
    obtain ⟨g1, g2, g3⟩ := hw.ahead n g hg hi
    have hr := ((hs _).1 hn).2
    have ha : nl[g.a / 2]? = some true := (hs _).2 ⟨by omega, .left hr hg hi⟩
    have hb : nl[g.b / 2]? = some true := (hs _).2 ⟨by omega, .right hr hg hi⟩
    obtain ⟨a1, a2⟩ := lit_holds h ha
    obtain ⟨b1, b2⟩ := lit_holds h hb
    have hx := lit_holds (a := 2 * n + 2) h (by rw [show (2 * n + 2) / 2 = n + 1 by omega]; exact hn)
    have he : litN nl (2 * n + 2) = ((numAt nl (n + 1) : Nat) : Int) := by unfold litN; rw [if_neg (by omega), show (2 * n + 2) / 2 = n + 1 by omega]
    rw [he, Gm.ev_gate hw hg hi] at hx
    obtain ⟨x1, x2⟩ := hx
    simp only [forH, clH, List.all_cons, List.all_nil, List.any_cons, List.any_nil, a1, a2, b1, b2, x1, x2]
    cases Gm.ev inp gs g.a <;> cases Gm.ev inp gs g.b <;> rfl
  · rfl
theorem gates_hold {inp : List Bool} {gs : List Gm.Gate} {rs : List Nat} {nl vs : List Bool} (hw : Gm.Wf gs) (hs : ∀ n, nl[n]? = some true ↔ 1 ≤ n ∧ Reach gs rs n) (h : ValsTo inp gs nl vs nl.length) :
    ∀ (l : List Gm.Gate) (n : Nat), (∀ i g, l[i]? = some g → gs[n + i]? = some g) → forH vs (gatesC nl n l) = true
  | [], n, _ => rfl
  | g :: l, n, hl => by
    have h1 := gate_holds hw hs h (hl 0 g rfl)
    have h2 := gates_hold hw hs h l (n + 1) (fun i g' hg => by rw [show n + 1 + i = n + (i + 1) by omega]; exact hl (i + 1) g' (by simpa using hg))
    rw [Nat.add_zero] at h1
    unfold forH at h1 h2 ⊢
    simp only [gatesC, List.all_append, h1, h2, Bool.and_self]
theorem root_holds {inp : List Bool} {gs : List Gm.Gate} {rs : List Nat} {nl vs : List Bool} (hs : ∀ n, nl[n]? = some true ↔ 1 ≤ n ∧ Reach gs rs n) (h : ValsTo inp gs nl vs nl.length) {r : Nat} (hr : r ∈ rs) : forH vs (rootC nl r) = Gm.ev inp gs r := by
  unfold rootC
  split
  · rename_i h0; subst h0; rw [Gm.ev_zero]; rfl
  · split
    · rename_i h1; subst h1; rw [Gm.ev_one]; rfl
    · obtain ⟨h1, _⟩ := lit_holds (a := r) h ((hs _).2 ⟨by omega, .root hr (by omega)⟩)
      simp only [forH, clH, List.all_cons, List.all_nil, List.any_cons, List.any_nil, h1, Bool.and_true, Bool.or_false]
/-- TSEITIN -/
theorem clauses_hold {inp : List Bool} {gs : List Gm.Gate} {rs : List Nat} {nl vs : List Bool} (hw : Gm.Wf gs) (hs : ∀ n, nl[n]? = some true ↔ 1 ≤ n ∧ Reach gs rs n) (h : ValsTo inp gs nl vs nl.length) : forH vs (clausesC gs nl rs) = rs.all (Gm.ev inp gs) := by
  have hg := gates_hold hw hs h gs 0 (fun i g hi => by rw [Nat.zero_add]; exact hi)
  have hr : ∀ l : List Nat, (∀ r ∈ l, r ∈ rs) → forH vs (rootsC nl l) = l.all (Gm.ev inp gs) := fun l => by
    induction l with
    | nil => exact fun _ => rfl
    | cons r l ih =>
      intro hl
      have h1 := root_holds hs h (hl r (by simp))
      have h2 := ih fun x hx => hl x (by simp [hx])
      unfold forH rootsC at h2
      unfold forH at h1
      simp only [forH, rootsC, List.map_cons, List.flatten_cons, List.all_append, List.all_cons, h1, h2]
  have hr' := hr rs (fun _ h => h)
  unfold forH at hg hr' ⊢
  unfold clausesC
  rw [List.all_append, hg, hr', Bool.true_and]
/-- all numbers are those of variables -/
theorem litN_cnt (nl : List Bool) (a : Nat) : -(cnt nl nl.length : Int) ≤ litN nl a ∧ litN nl a ≤ (cnt nl nl.length : Int) := by
  have := numAt_cnt (nl := nl) (a / 2)
  unfold litN; split <;> omega
theorem clauses_bound {gs : List Gm.Gate} {nl : List Bool} {rs : List Nat} : ∀ c ∈ clausesC gs nl rs, c.length ≤ 3 ∧ ∀ x ∈ c, -(cnt nl nl.length : Int) ≤ x ∧ x ≤ (cnt nl nl.length : Int) := by
  have hg : ∀ (l : List Gm.Gate) (n : Nat), ∀ c ∈ gatesC nl n l, c.length ≤ 3 ∧ ∀ x ∈ c, -(cnt nl nl.length : Int) ≤ x ∧ x ≤ (cnt nl nl.length : Int) := by
    intro l
    induction l with
    | nil => intro n c hc; cases hc
    | cons g l ih =>
      intro n c hc
      simp only [gatesC, List.mem_append] at hc
      rcases hc with hc | hc
      · unfold gateC at hc
        split at hc
        · have ha := litN_cnt nl g.a
          have hb := litN_cnt nl g.b
          have hz := numAt_cnt (nl := nl) (n + 1)
          simp only [List.mem_cons, List.not_mem_nil, or_false] at hc
          rcases hc with rfl | rfl | rfl
          · refine ⟨by simp, fun x hx => ?_⟩
            simp only [List.mem_cons, List.not_mem_nil, or_false] at hx
            rcases hx with rfl | rfl <;> omega
          · refine ⟨by simp, fun x hx => ?_⟩
            simp only [List.mem_cons, List.not_mem_nil, or_false] at hx
            rcases hx with rfl | rfl <;> omega
          · refine ⟨by simp, fun x hx => ?_⟩
            simp only [List.mem_cons, List.not_mem_nil, or_false] at hx
            rcases hx with rfl | rfl | rfl <;> omega
        · cases hc
      · exact ih _ c hc
  intro c hc
  unfold clausesC at hc
  rcases List.mem_append.1 hc with hc | hc
  · exact hg _ _ c hc
  · unfold rootsC at hc
    simp only [List.mem_flatten, List.mem_map] at hc
    obtain ⟨l, ⟨r, _, rfl⟩, hc⟩ := hc
    unfold rootC at hc
    split at hc
    · obtain rfl := List.mem_singleton.1 hc
      exact ⟨by simp, fun x hx => by cases hx⟩
    · split at hc
      · cases hc
      · obtain rfl := List.mem_singleton.1 hc
        refine ⟨by simp, fun x hx => ?_⟩
        obtain rfl := List.mem_singleton.1 hx
        exact litN_cnt nl r
end Cn
end Go.Proofs.YtmbjhpgemphmmaaDoor
