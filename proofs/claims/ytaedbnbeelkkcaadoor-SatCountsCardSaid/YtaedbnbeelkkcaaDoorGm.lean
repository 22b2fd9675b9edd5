/-
  PLAIN: a model of graphs of gates (chapter 9): gates one behind the other; which literals And, Or, Xor, If answer; what literals come to. No program in sight.
-/
namespace Go.Proofs.YtaedbnbeelkkcaaDoor
namespace Gm

structure Gate where
  a : Nat
  b : Nat
  inp : Bool

/-- how many inputs -/
def ins : List Gate → Nat
  | [] => 0
  | g :: r => (if g.inp then 1 else 0) + ins r

theorem ins_append (l r : List Gate) : ins (l ++ r) = ins l + ins r := by
  induction l with
  | nil => simp [ins]
  | cons x l ih => simp only [List.cons_append, ins, ih]; omega
theorem ins_le (l : List Gate) : ins l ≤ l.length := by
  induction l with
  | nil => simp [ins]
  | cons x l ih => simp only [ins, List.length_cons]; split <;> omega

/-- the place (from 0 on) of the first gate that is And of a and b -/
def find (a b : Nat) : List Gate → Option Nat
  | [] => none
  | g :: r => if g.inp = false ∧ g.a = a ∧ g.b = b then some 0 else (find a b r).map (· + 1)

theorem find_some {a b : Nat} : ∀ {l : List Gate} {k : Nat}, find a b l = some k → ∃ g, l[k]? = some g ∧ g.inp = false ∧ g.a = a ∧ g.b = b
  | [], k, h => by simp [find] at h
  | g :: r, k, h => by
    unfold find at h
    split at h
    · rename_i hc
      simp only [Option.some.injEq] at h
      subst h
      exact ⟨g, rfl, hc⟩
    · cases hf : find a b r with
      | none => simp [hf] at h
      | some j =>
        simp only [hf, Option.map_some, Option.some.injEq] at h
        subst h
        obtain ⟨g', h1, h2⟩ := find_some hf
        exact ⟨g', by simpa using h1, h2⟩

theorem find_none {a b : Nat} : ∀ {l : List Gate}, find a b l = none → ∀ (k : Nat) (g : Gate), l[k]? = some g → ¬ (g.inp = false ∧ g.a = a ∧ g.b = b)
  | [], _, k, g, hk => by simp at hk
  | x :: r, h, k, g, hk => by
    unfold find at h
    split at h
    · simp at h
    · rename_i hc
      have hr : find a b r = none := by
        cases hf : find a b r with
        | none => rfl
        | some j => simp [hf] at h
      cases k with
      | zero => simp only [List.getElem?_cons_zero, Option.some.injEq] at hk; subst hk; exact hc
      | succ k => exact find_none hr k g (by simpa using hk)

theorem find_lt {a b : Nat} {l : List Gate} {k : Nat} (h : find a b l = some k) : k < l.length := by
  obtain ⟨g, hg, _⟩ := find_some h
  exact (List.getElem?_eq_some_iff.1 hg).1

theorem find_append {a b : Nat} : ∀ (l r : List Gate), find a b (l ++ r) = (match find a b l with | some k => some k | none => (find a b r).map (· + l.length))
  | [], r => by cases h : find a b r <;> simp [find, h]
  | x :: l, r => by
    simp only [List.cons_append, find]
    split
    · rfl
    · rw [find_append l r]
      cases find a b l with
      | some k => simp
      | none => cases find a b r <;> simp <;> omega

/-- the lowest bit turned -/
def notL (x : Nat) : Nat := if x % 2 = 0 then x + 1 else x - 1

theorem notL_notL (x : Nat) : notL (notL x) = x := by unfold notL; split <;> split <;> omega
theorem notL_lt {x n : Nat} (h : x < 2 * n) : notL x < 2 * n := by unfold notL; split <;> omega
theorem notL_inj {x y : Nat} (h : notL x = notL y) : x = y := by rw [← notL_notL x, h, notL_notL]

def has (gs : List Gate) (x : Nat) : Prop := x < 2 * gs.length + 2
instance (gs : List Gate) (x : Nat) : Decidable (has gs x) := inferInstanceAs (Decidable (_ < _))

theorem has_not {gs : List Gate} {x : Nat} (h : has gs x) : has gs (notL x) := by
  unfold has at *; exact notL_lt (n := gs.length + 1) (by omega)

def andG (gs : List Gate) (a b : Nat) : List Gate × Nat :=
  if min a b = 0 ∨ (max a b = min a b + 1 ∧ min a b % 2 = 0) then (gs, 0)
  else if min a b = 1 ∨ min a b = max a b then (gs, max a b)
  else match find (min a b) (max a b) gs with
    | some k => (gs, 2 * k + 2)
    | none => (gs ++ [⟨min a b, max a b, false⟩], 2 * gs.length + 2)

theorem andG_comm (gs : List Gate) (a b : Nat) : andG gs a b = andG gs b a := by
  unfold andG; rw [Nat.min_comm, Nat.max_comm]

def inpG (gs : List Gate) : List Gate × Nat := (gs ++ [⟨0, 0, true⟩], 2 * gs.length + 2)
def orG (gs : List Gate) (a b : Nat) : List Gate × Nat := ((andG gs (notL a) (notL b)).1, notL (andG gs (notL a) (notL b)).2)
def orOf (gs : List Gate) (a b c d : Nat) : List Gate × Nat :=
  let x := andG gs a b
  let y := andG x.1 c d
  orG y.1 x.2 y.2
def xorG (gs : List Gate) (a b : Nat) : List Gate × Nat := orOf gs a (notL b) (notL a) b
def ifG (gs : List Gate) (c a b : Nat) : List Gate × Nat := orOf gs c a (notL c) b

/-- no two gates are alike; the lesser literal first; both come ahead -/
structure Wf (gs : List Gate) : Prop where
  ahead : ∀ (i : Nat) (g : Gate), gs[i]? = some g → g.inp = false → 2 ≤ g.a ∧ g.a < g.b ∧ g.b < 2 * i + 2
  one : ∀ (i j : Nat) (g h : Gate), gs[i]? = some g → gs[j]? = some h → g.inp = false → h.inp = false → g.a = h.a → g.b = h.b → i = j
  inputs : ∀ (i : Nat) (g : Gate), gs[i]? = some g → g.inp = true → g.a = 0 ∧ g.b = 0

/-- longer by gates that are no inputs -/
def Ext (gs gs' : List Gate) : Prop := ∃ hs, gs' = gs ++ hs ∧ ins hs = 0
theorem Ext.refl (gs : List Gate) : Ext gs gs := ⟨[], by simp, rfl⟩
theorem Ext.trans {a b c : List Gate} (h : Ext a b) (k : Ext b c) : Ext a c := by
  obtain ⟨x, rfl, hx⟩ := h; obtain ⟨y, rfl, hy⟩ := k; exact ⟨x ++ y, by simp, by rw [ins_append, hx, hy]⟩
theorem Ext.len {a b : List Gate} (h : Ext a b) : a.length ≤ b.length := by obtain ⟨x, rfl, _⟩ := h; simp
theorem Ext.ins {a b : List Gate} (h : Ext a b) : ins b = ins a := by obtain ⟨x, rfl, hx⟩ := h; rw [ins_append, hx]; rfl
theorem Ext.has {a b : List Gate} (h : Ext a b) {x : Nat} (hx : has a x) : has b x := by
  have := h.len; unfold Gm.has at *; omega

theorem Wf.nil : Wf [] := ⟨fun i g h => by simp at h, fun i j g h h1 => by simp at h1, fun i g h => by simp at h⟩

theorem getElem?_snoc {α : Type} {l : List α} {x y : α} {i : Nat} (h : (l ++ [x])[i]? = some y) : l[i]? = some y ∨ (i = l.length ∧ y = x) := by
  rcases Nat.lt_or_ge i l.length with hi | hi
  · rw [List.getElem?_append_left hi] at h; exact .inl h
  · rw [List.getElem?_append_right hi] at h
    have h0 : i - l.length = 0 := by
      rcases Nat.eq_zero_or_pos (i - l.length) with h0 | h0
      · exact h0
      · rw [List.getElem?_eq_none (by simp; omega)] at h; cases h
    rw [h0] at h
    exact .inr ⟨by omega, by simpa using h.symm⟩

theorem Wf.inp {gs : List Gate} (h : Wf gs) : Wf (inpG gs).1 := by
  refine ⟨fun i g hg hi => ?_, fun i j g k hg hk hgi hki ha hb => ?_, fun i g hg hi => ?_⟩
  · rcases getElem?_snoc hg with h1 | ⟨_, rfl⟩
    · exact h.ahead i g h1 hi
    · cases hi
  · rcases getElem?_snoc hg with h1 | ⟨_, rfl⟩
    · rcases getElem?_snoc hk with h2 | ⟨_, rfl⟩
      · exact h.one i j g k h1 h2 hgi hki ha hb
      · cases hki
    · cases hgi
  · rcases getElem?_snoc hg with h1 | ⟨_, rfl⟩
    · exact h.inputs i g h1 hi
    · exact ⟨rfl, rfl⟩

theorem andG_ext (gs : List Gate) (a b : Nat) : Ext gs (andG gs a b).1 := by
  unfold andG; split
  · exact .refl _
  · split
    · exact .refl _
    · split
      · exact .refl _
      · exact ⟨_, rfl, rfl⟩

theorem andG_len (gs : List Gate) (a b : Nat) : (andG gs a b).1.length ≤ gs.length + 1 := by
  unfold andG; split
  · simp
  · split
    · simp
    · split <;> simp

theorem andG_has {gs : List Gate} {a b : Nat} (ha : has gs a) (hb : has gs b) : has (andG gs a b).1 (andG gs a b).2 := by
  unfold andG has at *; split
  · simp
  · split
    · simp only; omega
    · split
      · rename_i k hk
        have := find_lt hk
        simp only; omega
      · simp

theorem andG_wf {gs : List Gate} (h : Wf gs) {a b : Nat} (ha : has gs a) (hb : has gs b) : Wf (andG gs a b).1 := by
  unfold andG; split
  · exact h
  · rename_i h0
    split
    · exact h
    · rename_i h1
      split
      · exact h
      · rename_i hf
        unfold has at ha hb
        refine ⟨fun i g hg hi => ?_, fun i j g k hg hk hgi hki ea eb => ?_, fun i g hg hi => ?_⟩
        · rcases getElem?_snoc hg with h2 | ⟨rfl, rfl⟩
          · exact h.ahead i g h2 hi
          · simp only; omega
        · rcases getElem?_snoc hg with h2 | ⟨rfl, rfl⟩
          · rcases getElem?_snoc hk with h3 | ⟨rfl, rfl⟩
            · exact h.one i j g k h2 h3 hgi hki ea eb
            · exact absurd ⟨hgi, ea, eb⟩ (find_none hf i g h2)
          · rcases getElem?_snoc hk with h3 | ⟨rfl, rfl⟩
            · exact absurd ⟨hki, ea.symm, eb.symm⟩ (find_none hf j k h3)
            · rfl
        · rcases getElem?_snoc hg with h2 | ⟨rfl, rfl⟩
          · exact h.inputs i g h2 hi
          · cases hi

/-- a second time And is the same literal, also of a longer graph -/
theorem andG_again {gs gs' : List Gate} {a b : Nat} (he : Ext (andG gs a b).1 gs') : andG gs' a b = (gs', (andG gs a b).2) := by
  obtain ⟨hs, rfl, _⟩ := he
  unfold andG
  by_cases h0 : min a b = 0 ∨ (max a b = min a b + 1 ∧ min a b % 2 = 0)
  · simp only [if_pos h0]
  · simp only [if_neg h0]
    by_cases h1 : min a b = 1 ∨ min a b = max a b
    · simp only [if_pos h1]
    · simp only [if_neg h1]
      cases hf : find (min a b) (max a b) gs with
      | some k =>
        simp only [find_append, hf]
      | none =>
        simp only [find_append, hf, find, and_self, if_true, Option.map_some, Nat.zero_add]

/-! ### what literals come to -/

def litV (vs : List Bool) (x : Nat) : Bool := (vs.getD (x / 2) false) != (x % 2 == 1)

def step (inp : List Bool) (st : List Bool × Nat) (g : Gate) : List Bool × Nat :=
  if g.inp then (st.1 ++ [inp.getD st.2 false], st.2 + 1) else (st.1 ++ [litV st.1 g.a && litV st.1 g.b], st.2)

def run (inp : List Bool) (gs : List Gate) : List Bool × Nat := gs.foldl (step inp) ([false], 0)
def vals (inp : List Bool) (gs : List Gate) : List Bool := (run inp gs).1
def ev (inp : List Bool) (gs : List Gate) (x : Nat) : Bool := litV (vals inp gs) x

theorem run_append (inp : List Bool) (l r : List Gate) : run inp (l ++ r) = r.foldl (step inp) (run inp l) := by simp [run]
theorem run_snoc (inp : List Bool) (l : List Gate) (g : Gate) : run inp (l ++ [g]) = step inp (run inp l) g := by simp [run]

theorem step_inp {inp : List Bool} {st : List Bool × Nat} {g : Gate} (h : g.inp = true) : step inp st g = (st.1 ++ [inp.getD st.2 false], st.2 + 1) := by
  unfold step; rw [if_pos h]
theorem step_and {inp : List Bool} {st : List Bool × Nat} {g : Gate} (h : g.inp = false) : step inp st g = (st.1 ++ [litV st.1 g.a && litV st.1 g.b], st.2) := by
  unfold step; rw [if_neg (by rw [h]; simp)]

theorem fold_vals (inp : List Bool) : ∀ (r : List Gate) (st : List Bool × Nat), ∃ t, (r.foldl (step inp) st).1 = st.1 ++ t ∧ t.length = r.length ∧ (r.foldl (step inp) st).2 = st.2 + ins r
  | [], st => ⟨[], by simp, rfl, by simp [ins]⟩
  | g :: r, st => by
    obtain ⟨t, h1, h2, h3⟩ := fold_vals inp r (step inp st g)
    simp only [List.foldl_cons]
    cases hg : g.inp with
    | true =>
      rw [step_inp hg] at h1 h3 ⊢
      exact ⟨inp.getD st.2 false :: t, by rw [h1]; simp, by simp [h2], by rw [h3]; simp [ins, hg]; omega⟩
    | false =>
      rw [step_and hg] at h1 h3 ⊢
      exact ⟨(litV st.1 g.a && litV st.1 g.b) :: t, by rw [h1]; simp, by simp [h2], by rw [h3]; simp [ins, hg]⟩

theorem vals_length (inp : List Bool) (gs : List Gate) : (vals inp gs).length = gs.length + 1 := by
  obtain ⟨t, h1, h2, _⟩ := fold_vals inp gs ([false], 0)
  unfold vals run; rw [h1]; simp [h2]
theorem run_snd (inp : List Bool) (gs : List Gate) : (run inp gs).2 = ins gs := by
  obtain ⟨t, _, _, h3⟩ := fold_vals inp gs ([false], 0)
  unfold run; rw [h3]; simp

theorem vals_append (inp : List Bool) (l r : List Gate) : ∃ t, vals inp (l ++ r) = vals inp l ++ t := by
  obtain ⟨t, h1, _⟩ := fold_vals inp r (run inp l)
  exact ⟨t, by unfold vals; rw [run_append, h1]⟩

theorem litV_append {v t : List Bool} {x : Nat} (h : x / 2 < v.length) : litV (v ++ t) x = litV v x := by
  unfold litV; simp [List.getD, List.getElem?_append_left h]

theorem ev_pre {inp : List Bool} {gs gs' : List Gate} (he : ∃ hs, gs' = gs ++ hs) {x : Nat} (hx : has gs x) : ev inp gs' x = ev inp gs x := by
  obtain ⟨hs, rfl⟩ := he
  obtain ⟨t, ht⟩ := vals_append inp gs hs
  unfold ev
  rw [ht]
  exact litV_append (by rw [vals_length]; unfold has at hx; omega)

theorem ev_ext {inp : List Bool} {gs gs' : List Gate} (he : Ext gs gs') {x : Nat} (hx : has gs x) : ev inp gs' x = ev inp gs x :=
  ev_pre (by obtain ⟨hs, h, _⟩ := he; exact ⟨hs, h⟩) hx

theorem ev_zero (inp : List Bool) (gs : List Gate) : ev inp gs 0 = false := by
  have he : ∃ hs, gs = [] ++ hs := ⟨gs, rfl⟩
  rw [ev_pre he (show has [] 0 by unfold has; simp)]; rfl
theorem ev_one (inp : List Bool) (gs : List Gate) : ev inp gs 1 = true := by
  have he : ∃ hs, gs = [] ++ hs := ⟨gs, rfl⟩
  rw [ev_pre he (show has [] 1 by unfold has; simp)]; rfl

theorem ev_not (inp : List Bool) (gs : List Gate) (x : Nat) : ev inp gs (notL x) = !(ev inp gs x) := by
  unfold ev litV notL
  split
  · rename_i h
    have h1 : (x + 1) / 2 = x / 2 := by omega
    have h2 : (x + 1) % 2 = 1 := by omega
    simp [h1, h2, h]
  · rename_i h
    have h1 : (x - 1) / 2 = x / 2 := by omega
    have h2 : (x - 1) % 2 = 0 := by omega
    have h3 : x % 2 = 1 := by omega
    simp [h1, h2, h3]

theorem ev_new_and (inp : List Bool) (gs : List Gate) (a b : Nat) : ev inp (gs ++ [⟨a, b, false⟩]) (2 * gs.length + 2) = (ev inp gs a && ev inp gs b) := by
  have hl := vals_length inp gs
  unfold ev
  have hv : vals inp (gs ++ [⟨a, b, false⟩]) = vals inp gs ++ [litV (vals inp gs) a && litV (vals inp gs) b] := by
    unfold vals; rw [run_snoc]; simp [step]
  rw [hv]
  have h1 : (2 * gs.length + 2) / 2 = (vals inp gs).length := by omega
  have h2 : (2 * gs.length + 2) % 2 = 0 := by omega
  rw [litV, h1, h2]
  simp [List.getD]

theorem ev_new_inp (inp : List Bool) (gs : List Gate) : ev inp (inpG gs).1 (inpG gs).2 = inp.getD (ins gs) false := by
  have hl := vals_length inp gs
  unfold ev inpG
  have hv : vals inp (gs ++ [⟨0, 0, true⟩]) = vals inp gs ++ [inp.getD (ins gs) false] := by
    unfold vals; rw [run_snoc]; simp [step, run_snd]
  simp only [hv]
  have h1 : (2 * gs.length + 2) / 2 = (vals inp gs).length := by omega
  have h2 : (2 * gs.length + 2) % 2 = 0 := by omega
  rw [litV, h1, h2]
  simp [List.getD]

theorem ev_gate {inp : List Bool} {gs : List Gate} (hw : Wf gs) {k : Nat} {g : Gate} (hk : gs[k]? = some g) (hg : g.inp = false) :
    ev inp gs (2 * k + 2) = (ev inp gs g.a && ev inp gs g.b) := by
  have hlt := (List.getElem?_eq_some_iff.1 hk).1
  obtain ⟨h1, h2, h3⟩ := hw.ahead k g hk hg
  have hsplit : gs = (gs.take k ++ [g]) ++ gs.drop (k + 1) := by
    have hgk : gs[k] = g := by simpa [List.getElem?_eq_getElem hlt] using hk
    calc gs = gs.take k ++ gs.drop k := (List.take_append_drop k gs).symm
      _ = gs.take k ++ (gs[k] :: gs.drop (k + 1)) := by rw [List.drop_eq_getElem_cons hlt]
      _ = _ := by rw [hgk]; simp
  have hlen : (gs.take k).length = k := by simp; omega
  have e1 : ∃ hs, gs = (gs.take k ++ [g]) ++ hs := ⟨_, hsplit⟩
  have e0 : ∃ hs, gs = gs.take k ++ hs := ⟨_, (List.take_append_drop k gs).symm⟩
  have hga : has (gs.take k) g.a := by unfold has; omega
  have hgb : has (gs.take k) g.b := by unfold has; omega
  rw [ev_pre e0 hga, ev_pre e0 hgb, ev_pre e1 (by unfold has; simp; omega)]
  obtain ⟨ga, gb, gi⟩ := g
  simp only at hg
  subst hg
  have := ev_new_and inp (gs.take k) ga gb
  rw [hlen] at this
  exact this

theorem ev_and {inp : List Bool} {gs : List Gate} (hw : Wf gs) {a b : Nat} :
    ev inp (andG gs a b).1 (andG gs a b).2 = (ev inp gs a && ev inp gs b) := by
  have hmm : (ev inp gs a && ev inp gs b) = (ev inp gs (min a b) && ev inp gs (max a b)) := by
    rcases Nat.le_total a b with h | h
    · rw [Nat.min_eq_left h, Nat.max_eq_right h]
    · rw [Nat.min_eq_right h, Nat.max_eq_left h, Bool.and_comm]
  rw [hmm]
  unfold andG
  by_cases h0 : min a b = 0 ∨ (max a b = min a b + 1 ∧ min a b % 2 = 0)
  · simp only [if_pos h0, ev_zero]
    rcases h0 with h0 | ⟨h0, h0'⟩
    · rw [h0, ev_zero]; rfl
    · have : max a b = notL (min a b) := by unfold notL; rw [if_pos h0']; exact h0
      rw [this, ev_not]; cases ev inp gs (min a b) <;> rfl
  · simp only [if_neg h0]
    by_cases h1 : min a b = 1 ∨ min a b = max a b
    · simp only [if_pos h1]
      rcases h1 with h1 | h1
      · rw [h1, ev_one]; rfl
      · rw [← h1]; cases ev inp gs (min a b) <;> rfl
    · simp only [if_neg h1]
      cases hf : find (min a b) (max a b) gs with
      | some k =>
        obtain ⟨g, hk, hi, e1, e2⟩ := find_some hf
        simp only [ev_gate hw hk hi, e1, e2]
      | none => simp only [ev_new_and]

/-- What is known of an operator's answer: the graph is longer, still well made, and the literal comes to 'v'. -/
structure Comes (inp : List Bool) (gs : List Gate) (r : List Gate × Nat) (v : Bool) : Prop where
  ext : Ext gs r.1
  wf : Wf r.1
  has : has r.1 r.2
  ev : ev inp r.1 r.2 = v

theorem comes_and {inp : List Bool} {gs : List Gate} (hw : Wf gs) {a b : Nat} (ha : has gs a) (hb : has gs b) :
    Comes inp gs (andG gs a b) (ev inp gs a && ev inp gs b) :=
  ⟨andG_ext .., andG_wf hw ha hb, andG_has ha hb, ev_and hw⟩
theorem comes_or {inp : List Bool} {gs : List Gate} (hw : Wf gs) {a b : Nat} (ha : has gs a) (hb : has gs b) :
    Comes inp gs (orG gs a b) (ev inp gs a || ev inp gs b) := by
  have h := comes_and (inp := inp) hw (has_not ha) (has_not hb)
  refine ⟨h.ext, h.wf, has_not h.has, ?_⟩
  unfold orG
  simp only [ev_not, h.ev]
  cases ev inp gs a <;> cases ev inp gs b <;> rfl
theorem comes_orOf {inp : List Bool} {gs : List Gate} (hw : Wf gs) {a b c d : Nat} (ha : has gs a) (hb : has gs b) (hc : has gs c) (hd : has gs d) :
    Comes inp gs (orOf gs a b c d) ((ev inp gs a && ev inp gs b) || (ev inp gs c && ev inp gs d)) := by
  have h1 := comes_and (inp := inp) hw ha hb
  have h2 := comes_and (inp := inp) h1.wf (h1.ext.has hc) (h1.ext.has hd)
  have h3 := comes_or (inp := inp) h2.wf (h2.ext.has h1.has) h2.has
  refine ⟨(h1.ext.trans h2.ext).trans h3.ext, h3.wf, h3.has, ?_⟩
  have := h3.ev
  unfold orOf
  rw [this, h2.ev, ev_ext h2.ext h1.has, h1.ev, ev_ext h1.ext hc, ev_ext h1.ext hd]
theorem comes_xor {inp : List Bool} {gs : List Gate} (hw : Wf gs) {a b : Nat} (ha : has gs a) (hb : has gs b) :
    Comes inp gs (xorG gs a b) (ev inp gs a != ev inp gs b) := by
  have h := comes_orOf (inp := inp) hw ha (has_not hb) (has_not ha) hb
  refine ⟨h.ext, h.wf, h.has, ?_⟩
  have := h.ev
  unfold xorG; rw [this, ev_not, ev_not]
  cases ev inp gs a <;> cases ev inp gs b <;> rfl
theorem comes_if {inp : List Bool} {gs : List Gate} (hw : Wf gs) {c a b : Nat} (hc : has gs c) (ha : has gs a) (hb : has gs b) :
    Comes inp gs (ifG gs c a b) (if ev inp gs c then ev inp gs a else ev inp gs b) := by
  have h := comes_orOf (inp := inp) hw hc ha (has_not hc) hb
  refine ⟨h.ext, h.wf, h.has, ?_⟩
  have := h.ev
  unfold ifG; rw [this, ev_not]
  cases ev inp gs c <;> cases ev inp gs a <;> cases ev inp gs b <;> rfl

theorem orG_len (gs : List Gate) (a b : Nat) : (orG gs a b).1.length ≤ gs.length + 1 := andG_len ..
theorem orOf_len (gs : List Gate) (a b c d : Nat) : (orOf gs a b c d).1.length ≤ gs.length + 3 := by
  have h1 := andG_len gs a b
  have h2 := andG_len (andG gs a b).1 c d
  have h3 := orG_len (andG (andG gs a b).1 c d).1 (andG gs a b).2 (andG (andG gs a b).1 c d).2
  unfold orOf; simp only; omega
theorem ins_inp (gs : List Gate) : ins (inpG gs).1 = ins gs + 1 := by simp [inpG, ins_append, ins]
theorem ins_and (gs : List Gate) (a b : Nat) : ins (andG gs a b).1 = ins gs := by
  unfold andG; split
  · rfl
  · split
    · rfl
    · split
      · rfl
      · simp [ins_append, ins]

end Gm
end Go.Proofs.YtaedbnbeelkkcaaDoor
