/-
  PLAIN: what always holds of a solver: values and trail, levels, reasons, clauses, watched numbers; what a number set, a decision, a way back leave of it. No program in sight.
  PLAIN: the solver's spreading goes through; what holds, holds behind it. No program in sight.
-/
import Derived.Test.YtaedbnbeelkkcaaDoorAb
namespace Go.Proofs.YtaedbnbeelkkcaaDoor.slv
/-! ### values and trail -/
structure Tv (V : Nat) (vs tr : List Int) : Prop where
  len : vs.length = V + 1
  ok : ∀ x ∈ vs, x = -1 ∨ x = 0 ∨ x = 1
  trv : ∀ n ∈ tr, Lit V n ∧ lv (va vs) n = 1
  trs : ∀ n, Lit V n → lv (va vs) n = 1 → n ∈ tr
  nd : tr.Nodup
section
variable {V : Nat} {vs tr : List Int} {n a : Int}
theorem Tv.neg_val (h : Tv V vs tr) (hn : Lit V n) (ht : -n ∈ tr) : lv (va vs) n = -1 := by
  have := (h.trv _ ht).2
  rw [lv_neg hn.1] at this
  omega
theorem Tv.val_neg (h : Tv V vs tr) (hn : Lit V n) (hv : lv (va vs) n = -1) : -n ∈ tr := h.trs _ hn.neg (by rw [lv_neg hn.1, hv]; rfl)
theorem Tv.cases (h : Tv V vs tr) (n : Int) : lv (va vs) n = -1 ∨ lv (va vs) n = 0 ∨ lv (va vs) n = 1 := lv_ok (va_ok h.ok) n
theorem Tv.not_both (h : Tv V vs tr) (hn : Lit V n) (h1 : n ∈ tr) : -n ∉ tr := fun h2 => by
  have e1 := (h.trv _ h1).2
  have e2 := h.neg_val hn h2
  omega
theorem Tv.open_ (h : Tv V vs tr) (hn : Lit V n) (h1 : n ∉ tr) (h2 : -n ∉ tr) : lv (va vs) n = 0 := by
  rcases h.cases n with e | e | e
  · exact absurd (h.val_neg hn e) h2
  · exact e
  · exact absurd (h.trs n hn e) h1
theorem Tv.of_open (h : Tv V vs tr) (hn : Lit V n) (hz : lv (va vs) n = 0) : n ∉ tr ∧ -n ∉ tr := by
  constructor
  · intro h1; have := (h.trv _ h1).2; omega
  · intro h1; have := h.neg_val hn h1; omega
/-- no other number of the same variable -/
theorem Tv.fresh (h : Tv V vs tr) (hn : Lit V n) (hz : lv (va vs) n = 0) {t : Int} (ht : t ∈ tr) : t.natAbs ≠ n.natAbs := fun e => by
  obtain ⟨h1, h2⟩ := h.of_open hn hz
  have : t = n ∨ t = -n := by omega
  rcases this with e | e
  · subst e; exact h1 ht
  · subst e; exact h2 ht
theorem Tv.one (h : Tv V vs tr) {t u : Int} (ht : t ∈ tr) (hu : u ∈ tr) (e : t.natAbs = u.natAbs) : t = u := by
  have : t = u ∨ t = -u := by omega
  rcases this with e2 | e2
  · exact e2
  · subst e2; exact absurd ht (h.not_both (h.trv _ hu).1 hu)
theorem ofM_ok (h : Tv V vs tr) (hn : n.natAbs ≤ V) : ofM vs n = some (lv (va vs) n) := by
  obtain ⟨x, hx⟩ := at_lt (l := vs) (i := n.natAbs) (by rw [h.len]; omega)
  have hx2 := h.ok x (List.mem_of_getElem? hx)
  unfold ofM
  rw [hx]
  dsimp only
  rw [if_pos hx2]
  unfold lv va
  rw [List.getD_eq_getElem?_getD, hx]
  rfl
theorem Tv.set_ (h : Tv V vs tr) (ha : Lit V a) (hz : lv (va vs) a = 0) : Tv V (vs.set a.natAbs (sg a)) (tr ++ [a]) := by
  refine ⟨by rw [List.length_set]; exact h.len, fun x hx => ?_, fun n hn => ?_, fun n hn hv => ?_, ?_⟩
  · rcases List.mem_or_eq_of_mem_set hx with e | e
    · exact h.ok x e
    · subst e; unfold sg; split <;> omega
  · rcases List.mem_append.1 hn with e | e
    · obtain ⟨h1, h2⟩ := h.trv n e
      refine ⟨h1, ?_⟩
      rw [lv_set h.len ha h1.1]
      by_cases e1 : n = a
      · rw [if_pos e1]
      · rw [if_neg e1]
        by_cases e2 : n = -a
        · subst e2; exact absurd e (h.of_open ha hz).2
        · rw [if_neg e2]; exact h2
    · obtain rfl := List.mem_singleton.1 e
      exact ⟨ha, by rw [lv_set h.len ha ha.1, if_pos rfl]⟩
  · rw [lv_set h.len ha hn.1] at hv
    by_cases e1 : n = a
    · subst e1; exact List.mem_append_right _ (List.mem_singleton.2 rfl)
    · rw [if_neg e1] at hv
      by_cases e2 : n = -a
      · rw [if_pos e2] at hv; exact absurd hv (by decide)
      · rw [if_neg e2] at hv
        exact List.mem_append_left _ (h.trs n hn hv)
  · rw [List.nodup_append]
    refine ⟨h.nd, by simp, fun x hx y hy => ?_⟩
    obtain rfl := List.mem_singleton.1 hy
    intro e
    subst e
    exact (h.of_open ha hz).1 hx
theorem lv_unset (hl : vs.length = V + 1) (ha : Lit V a) (n : Int) : lv (va (vs.set a.natAbs 0)) n = if n.natAbs = a.natAbs then 0 else lv (va vs) n := by
  have hlt : a.natAbs < vs.length := by have := ha.2; omega
  unfold lv
  rw [va_set hlt]
  by_cases e : n.natAbs = a.natAbs
  · rw [if_pos e, if_pos e]; split <;> rfl
  · rw [if_neg e, if_neg e]
theorem Tv.unset {pre r : List Int} (h : Tv V vs (pre ++ n :: r)) : Tv V (vs.set n.natAbs 0) (pre ++ r) := by
  have hmem : n ∈ pre ++ n :: r := List.mem_append_right _ List.mem_cons_self
  obtain ⟨hn, hv⟩ := h.trv n hmem
  have hsub : ∀ x, x ∈ pre ++ r → x ∈ pre ++ n :: r := fun x hx => by
    rcases List.mem_append.1 hx with e | e
    · exact List.mem_append_left _ e
    · exact List.mem_append_right _ (List.mem_cons_of_mem _ e)
  have hnd := h.nd
  have hnot : n ∉ pre ++ r := fun hx => by
    rw [List.nodup_append, List.nodup_cons] at hnd
    rcases List.mem_append.1 hx with e | e
    · exact hnd.2.2 n e n List.mem_cons_self rfl
    · exact hnd.2.1.1 e
  refine ⟨by rw [List.length_set]; exact h.len, fun x hx => ?_, fun x hx => ?_, fun x hx hxv => ?_, ?_⟩
  · rcases List.mem_or_eq_of_mem_set hx with e | e
    · exact h.ok x e
    · subst e; exact .inr (.inl rfl)
  · obtain ⟨h1, h2⟩ := h.trv x (hsub x hx)
    refine ⟨h1, ?_⟩
    rw [lv_unset h.len hn, if_neg (fun e => ?_)]
    · exact h2
    · have := h.one (hsub x hx) hmem e
      subst this
      exact hnot hx
  · rw [lv_unset h.len hn] at hxv
    by_cases e : x.natAbs = n.natAbs
    · rw [if_pos e] at hxv; exact absurd hxv (by decide)
    · rw [if_neg e] at hxv
      have := h.trs x hx hxv
      rcases List.mem_append.1 this with e2 | e2
      · exact List.mem_append_left _ e2
      · rcases List.mem_cons.1 e2 with e3 | e3
        · subst e3; exact absurd rfl e
        · exact List.mem_append_right _ e3
  · rw [List.nodup_append] at hnd ⊢
    exact ⟨hnd.1, (List.nodup_cons.1 hnd.2.1).2, fun x hx y hy => hnd.2.2 x hx y (List.mem_cons_of_mem _ hy)⟩
theorem nd_abs : ∀ {l : List Int}, l.Nodup → (∀ n ∈ l, Lit V n ∧ lv (va vs) n = 1) → (l.map Int.natAbs).Nodup
  | [], _, _ => by simp
  | x :: t, hnd, hv => by
    rw [List.map_cons, List.nodup_cons]
    obtain ⟨n1, n2⟩ := List.nodup_cons.1 hnd
    refine ⟨fun hm => ?_, nd_abs n2 fun y hy => hv y (List.mem_cons_of_mem _ hy)⟩
    obtain ⟨y, hy, e⟩ := List.mem_map.1 hm
    obtain ⟨hx0, hx1⟩ := hv x (by simp)
    obtain ⟨hy0, hy1⟩ := hv y (List.mem_cons_of_mem _ hy)
    have : y = x ∨ y = -x := by omega
    rcases this with e | e
    · subst e; exact n1 hy
    · subst e; rw [lv_neg hx0.1] at hy1; omega
theorem Tv.le (h : Tv V vs tr) : tr.length ≤ V := by
  have h1 := nd_abs h.nd h.trv
  have h2 : tr.map Int.natAbs ⊆ (List.range V).map (· + 1) := fun v hv => by
    obtain ⟨n, hn, e⟩ := List.mem_map.1 hv
    obtain ⟨⟨h0, h1⟩, _⟩ := h.trv n hn
    exact List.mem_map.2 ⟨v - 1, List.mem_range.2 (by omega), by omega⟩
  have := h1.length_le_of_subset h2
  simpa using this
/-- room for an open one -/
theorem Tv.lt (h : Tv V vs tr) (hn : Lit V n) (hz : lv (va vs) n = 0) : tr.length < V := by
  have := (h.set_ hn hz).le
  rw [List.length_append, List.length_singleton] at this
  omega
end
/-! ### levels -/
structure Lev (V : Nat) (lvs tr : List Int) (lm : List Nat) : Prop where
  len : lvs.length = V + 1
  asc : ∀ (i j m m' : Nat), i < j → lm[i]? = some m → lm[j]? = some m' → m < m'
  lt : ∀ m ∈ lm, m < tr.length
  lev : ∀ (i : Nat) n, tr[i]? = some n → ∃ L : Nat, lvs[n.natAbs]? = some (L : Int) ∧ L ≤ lm.length ∧ ∀ (j m : Nat), lm[j]? = some m → (m ≤ i ↔ j < L)
section
variable {V : Nat} {lvs tr : List Int} {lm : List Nat} {n : Int}
theorem snoc_cases {α : Type} {l : List α} {x y : α} {i : Nat} (h : (l ++ [x])[i]? = some y) : l[i]? = some y ∨ i = l.length ∧ y = x := by
  by_cases hi : i < l.length
  · rw [List.getElem?_append_left hi] at h; exact .inl h
  · have h2 := lt_of_at h
    rw [List.length_append, List.length_singleton] at h2
    obtain rfl : i = l.length := by omega
    rw [List.getElem?_append_right (Nat.le_refl _), Nat.sub_self] at h
    injection h with h
    exact .inr ⟨rfl, h.symm⟩
theorem snoc_left {α : Type} {l : List α} {x y : α} {i : Nat} (h : l[i]? = some y) : (l ++ [x])[i]? = some y := by rw [List.getElem?_append_left (lt_of_at h)]; exact h
theorem snoc_last {α : Type} {l : List α} {x : α} : (l ++ [x])[l.length]? = some x := by simp
theorem Lev.set_ (h : Lev V lvs tr lm) (hn : n.natAbs ≤ V) (hf : ∀ t ∈ tr, t.natAbs ≠ n.natAbs) : Lev V (lvs.set n.natAbs (lm.length : Nat)) (tr ++ [n]) lm := by
  have hl : n.natAbs < lvs.length := by rw [h.len]; omega
  refine ⟨by rw [List.length_set]; exact h.len, h.asc, fun m hm => by rw [List.length_append]; have := h.lt m hm; omega, fun i t ht => ?_⟩
  rcases snoc_cases ht with e | ⟨e1, e2⟩
  · obtain ⟨L, h1, h2, h3⟩ := h.lev i t e
    refine ⟨L, ?_, h2, h3⟩
    rw [at_set hl, if_neg (hf t (List.mem_of_getElem? e))]
    exact h1
  · subst e1; subst e2
    refine ⟨lm.length, by rw [at_set hl, if_pos rfl], Nat.le_refl _, fun j m hj => ?_⟩
    have h1 := h.lt m (List.mem_of_getElem? hj)
    have h2 := lt_of_at hj
    constructor <;> intro _ <;> omega
theorem Lev.dec (h : Lev V lvs tr lm) (hn : n.natAbs ≤ V) (hf : ∀ t ∈ tr, t.natAbs ≠ n.natAbs) : Lev V (lvs.set n.natAbs (lm.length + 1 : Nat)) (tr ++ [n]) (lm ++ [tr.length]) := by
  have hl : n.natAbs < lvs.length := by rw [h.len]; omega
  refine ⟨by rw [List.length_set]; exact h.len, fun i j m m' hij hi hj => ?_, fun m hm => ?_, fun i t ht => ?_⟩
  · rcases snoc_cases hj with e | ⟨e1, e2⟩
    · rcases snoc_cases hi with e3 | ⟨e3, _⟩
      · exact h.asc i j m m' hij e3 e
      · have := lt_of_at e; omega
    · rcases snoc_cases hi with e3 | ⟨e3, _⟩
      · subst e2; exact h.lt m (List.mem_of_getElem? e3)
      · omega
  · rw [List.length_append, List.length_singleton]
    rcases List.mem_append.1 hm with e | e
    · have := h.lt m e; omega
    · obtain rfl := List.mem_singleton.1 e; omega
  · rcases snoc_cases ht with e | ⟨e1, e2⟩
    · obtain ⟨L, h1, h2, h3⟩ := h.lev i t e
      refine ⟨L, ?_, by rw [List.length_append]; omega, fun j m hj => ?_⟩
      · rw [at_set hl, if_neg (hf t (List.mem_of_getElem? e))]
        exact h1
      · rcases snoc_cases hj with e3 | ⟨e3, e4⟩
        · exact h3 j m e3
        · subst e4; have := lt_of_at e
          constructor <;> intro _ <;> omega
    · subst e1; subst e2
      refine ⟨lm.length + 1, by rw [at_set hl, if_pos rfl], by simp, fun j m hj => ?_⟩
      have h2 := lt_of_at hj
      rw [List.length_append, List.length_singleton] at h2
      refine ⟨fun _ => h2, fun _ => ?_⟩
      rcases snoc_cases hj with e3 | ⟨e3, e4⟩
      · have := h.lt m (List.mem_of_getElem? e3); omega
      · omega
theorem take_at {α : Type} {l : List α} {m i : Nat} {x : α} (h : (l.take m)[i]? = some x) : i < m ∧ l[i]? = some x := by
  have h1 := lt_of_at h
  rw [List.length_take] at h1
  rw [List.getElem?_take, if_pos (by omega)] at h
  exact ⟨by omega, h⟩
theorem take_of {α : Type} {l : List α} {m i : Nat} {x : α} (hi : i < m) (h : l[i]? = some x) : (l.take m)[i]? = some x := by
  rw [List.getElem?_take, if_pos hi]; exact h
theorem Lev.cut (h : Lev V lvs tr lm) {l m : Nat} (hm : lm[l]? = some m) : Lev V lvs (tr.take m) (lm.take l) := by
  refine ⟨h.len, fun i j a b hij hi hj => h.asc i j a b hij (take_at hi).2 (take_at hj).2, fun a ha => ?_, fun i n hn => ?_⟩
  · obtain ⟨i, hi, e⟩ := List.getElem_of_mem ha
    obtain ⟨h1, h2⟩ := take_at (List.getElem?_eq_getElem hi)
    rw [e] at h2
    have h3 := h.asc i l a m h1 h2 hm
    have h4 := h.lt m (List.mem_of_getElem? hm)
    rw [List.length_take]; omega
  · obtain ⟨h1, h2⟩ := take_at hn
    obtain ⟨L, e1, e2, e3⟩ := h.lev i n h2
    have hL : L ≤ l := by
      by_cases hc : l < L
      · have := (e3 l m hm).2 hc; omega
      · omega
    refine ⟨L, e1, ?_, fun j a hj => e3 j a (take_at hj).2⟩
    rw [List.length_take]
    have := lt_of_at hm
    omega
theorem Lev.le (h : Lev V lvs tr lm) : lm.length ≤ tr.length := by
  have key : ∀ (i m : Nat), lm[i]? = some m → i ≤ m := by
    intro i
    induction i with
    | zero => intro m _; exact Nat.zero_le _
    | succ i ih =>
      intro m hm
      obtain ⟨m0, h0⟩ := at_lt (l := lm) (i := i) (by have := lt_of_at hm; omega)
      have h1 := ih m0 h0
      have h2 := h.asc i (i + 1) m0 m (by omega) h0 hm
      omega
  by_cases h0 : lm.length = 0
  · omega
  · obtain ⟨m, hm⟩ := at_lt (l := lm) (i := lm.length - 1) (by omega)
    have h1 := key _ m hm
    have h2 := h.lt m (List.mem_of_getElem? hm)
    omega
end
/-! ### clauses -/
def ClOk (V : Nat) (c : List Int) : Prop := 2 ≤ c.length ∧ c.Nodup ∧ ∀ n ∈ c, Lit V n ∧ -n ∉ c
def SameC (c d : List Int) : Prop := ∀ y, y ∈ c ↔ y ∈ d
structure Xs (V : Nat) (G xs : List (List Int)) : Prop where
  ok : ∀ (k : Nat) c, xs[k]? = some c → ClOk V c
  src : ∀ (k : Nat) c, xs[k]? = some c → ∃ d ∈ G, SameC c d
/-- clauses as they were, but for the order of their numbers -/
def PermX (xs xs' : List (List Int)) : Prop := xs'.length = xs.length ∧ ∀ (k : Nat) c, xs[k]? = some c → ∃ c', xs'[k]? = some c' ∧ c'.Perm c
section
variable {V : Nat} {G G' xs xs' xs'' : List (List Int)} {c d : List Int}
theorem PermX.refl (xs : List (List Int)) : PermX xs xs := ⟨rfl, fun _ c h => ⟨c, h, List.Perm.refl _⟩⟩
theorem PermX.trans (h : PermX xs xs') (g : PermX xs' xs'') : PermX xs xs'' := ⟨g.1.trans h.1, fun k c hc => by
  obtain ⟨c', h1, h2⟩ := h.2 k c hc
  obtain ⟨c'', h3, h4⟩ := g.2 k c' h1
  exact ⟨c'', h3, h4.trans h2⟩⟩
theorem PermX.set_ {k : Nat} {c c' : List Int} (hc : xs[k]? = some c) (hp : c'.Perm c) : PermX xs (xs.set k c') := ⟨List.length_set, fun j d hd => by
  rw [at_set (lt_of_at hc)]
  by_cases e : j = k
  · subst e
    rw [hc] at hd
    injection hd with hd
    subst hd
    exact ⟨c', by rw [if_pos rfl], hp⟩
  · exact ⟨d, by rw [if_neg e]; exact hd, List.Perm.refl _⟩⟩
theorem PermX.back (h : PermX xs xs') {k : Nat} {c' : List Int} (hc : xs'[k]? = some c') : ∃ c, xs[k]? = some c ∧ c'.Perm c := by
  obtain ⟨c, e⟩ := at_lt (l := xs) (i := k) (by rw [← h.1]; exact lt_of_at hc)
  obtain ⟨c2, h1, h2⟩ := h.2 k c e
  rw [hc] at h1
  injection h1 with h1
  subst h1
  exact ⟨c, e, h2⟩
theorem ClOk.perm (h : ClOk V c) (hp : d.Perm c) : ClOk V d :=
  ⟨by rw [hp.length_eq]; exact h.1, hp.nodup_iff.2 h.2.1, fun n hn => ⟨(h.2.2 n (hp.mem_iff.1 hn)).1, fun h2 => (h.2.2 n (hp.mem_iff.1 hn)).2 (hp.mem_iff.1 h2)⟩⟩
theorem Xs.perm (h : Xs V G xs) (hp : PermX xs xs') : Xs V G xs' :=
  ⟨fun k c hc => by obtain ⟨d, h1, h2⟩ := hp.back hc; exact (h.ok k d h1).perm h2,
   fun k c hc => by
    obtain ⟨d, h1, h2⟩ := hp.back hc
    obtain ⟨e, h3, h4⟩ := h.src k d h1
    exact ⟨e, h3, fun y => h2.mem_iff.trans (h4 y)⟩⟩
theorem Xs.mono (h : Xs V G xs) (hs : ∀ x ∈ G, x ∈ G') : Xs V G' xs := ⟨h.ok, fun k c hc => by obtain ⟨d, h1, h2⟩ := h.src k c hc; exact ⟨d, hs d h1, h2⟩⟩
theorem Xs.snoc (h : Xs V G xs) (hc : ClOk V c) (hd : ∃ d ∈ G, SameC c d) : Xs V G (xs ++ [c]) :=
  ⟨fun k x hx => by
    rcases snoc_cases hx with e | ⟨_, e⟩
    · exact h.ok k x e
    · subst e; exact hc,
   fun k x hx => by
    rcases snoc_cases hx with e | ⟨_, e⟩
    · exact h.src k x e
    · subst e; exact hd⟩
end
/-! ### reasons -/
def L0 (lm : List Nat) (i : Nat) : Prop := ∀ m ∈ lm, i < m
structure Rs (V : Nat) (G xs : List (List Int)) (rs tr : List Int) (lm : List Nat) : Prop where
  len : rs.length = V + 1
  rea : ∀ (i : Nat) n, tr[i]? = some n → ∃ r, rs[n.natAbs]? = some r ∧ ((r = -1 ∧ (i ∈ lm ∨ L0 lm i ∧ ∃ d ∈ G, ∀ y, y ∈ d ↔ y = n)) ∨ ∃ (k : Nat) (c : List Int), r = (k : Int) ∧ xs[k]? = some c ∧ n ∈ c ∧ ∀ y ∈ c, y ≠ n → -y ∈ tr.take i)
section
variable {V : Nat} {G G' xs xs' : List (List Int)} {rs tr : List Int} {lm : List Nat} {n : Int}
theorem take_snoc {α : Type} {l : List α} {x : α} {i : Nat} (h : i ≤ l.length) : (l ++ [x]).take i = l.take i := by rw [List.take_append, show i - l.length = 0 by omega, List.take_zero, List.append_nil]
theorem Rs.old (h : Rs V G xs rs tr lm) (hf : ∀ t ∈ tr, t.natAbs ≠ n.natAbs) {r : Int} {lm' : List Nat} (hn : n.natAbs ≤ V) (hlm : ∀ i, i < tr.length → (i ∈ lm → i ∈ lm') ∧ (L0 lm i → L0 lm' i)) {i : Nat} {t : Int} (ht : tr[i]? = some t) :
    ∃ r', (rs.set n.natAbs r)[t.natAbs]? = some r' ∧ ((r' = -1 ∧ (i ∈ lm' ∨ L0 lm' i ∧ ∃ d ∈ G, ∀ y, y ∈ d ↔ y = t)) ∨ ∃ (k : Nat) (c : List Int), r' = (k : Int) ∧ xs[k]? = some c ∧ t ∈ c ∧ ∀ y ∈ c, y ≠ t → -y ∈ (tr ++ [n]).take i) := by
  have hl : n.natAbs < rs.length := by rw [h.len]; omega
  have hi := lt_of_at ht
  obtain ⟨r', h1, h2⟩ := h.rea i t ht
  refine ⟨r', by rw [at_set hl, if_neg (hf t (List.mem_of_getElem? ht))]; exact h1, ?_⟩
  rw [take_snoc (by omega)]
  rcases h2 with ⟨e, e1 | ⟨e1, e2⟩⟩ | h2
  · exact .inl ⟨e, .inl ((hlm i hi).1 e1)⟩
  · exact .inl ⟨e, .inr ⟨(hlm i hi).2 e1, e2⟩⟩
  · exact .inr h2
/-- set by a clause -/
theorem Rs.by_ (h : Rs V G xs rs tr lm) (hf : ∀ t ∈ tr, t.natAbs ≠ n.natAbs) (hn : n.natAbs ≤ V) {k : Nat} {c : List Int} (hk : xs[k]? = some c) (hc : n ∈ c) (ho : ∀ y ∈ c, y ≠ n → -y ∈ tr) : Rs V G xs (rs.set n.natAbs (k : Int)) (tr ++ [n]) lm := by
  refine ⟨by rw [List.length_set]; exact h.len, fun i t ht => ?_⟩
  rcases snoc_cases ht with e | ⟨e1, e2⟩
  · exact h.old hf hn (fun _ _ => ⟨id, id⟩) e
  · subst e1; subst e2
    exact ⟨_, by rw [at_set (by rw [h.len]; omega), if_pos rfl], .inr ⟨k, c, rfl, hk, hc, fun y hy hne => by rw [take_snoc (Nat.le_refl _), List.take_length]; exact ho y hy hne⟩⟩
/-- set at level 0, alone in a clause -/
theorem Rs.unit_ (h : Rs V G xs rs tr []) (hf : ∀ t ∈ tr, t.natAbs ≠ n.natAbs) (hn : n.natAbs ≤ V) (hd : ∃ d ∈ G, ∀ y, y ∈ d ↔ y = n) : Rs V G xs (rs.set n.natAbs (-1)) (tr ++ [n]) [] := by
  refine ⟨by rw [List.length_set]; exact h.len, fun i t ht => ?_⟩
  rcases snoc_cases ht with e | ⟨e1, e2⟩
  · exact h.old hf hn (fun _ _ => ⟨id, id⟩) e
  · subst e1; subst e2
    exact ⟨_, by rw [at_set (by rw [h.len]; omega), if_pos rfl], .inl ⟨rfl, .inr ⟨fun _ hm => (by cases hm), hd⟩⟩⟩
/-- decided -/
theorem Rs.dec (h : Rs V G xs rs tr lm) (hf : ∀ t ∈ tr, t.natAbs ≠ n.natAbs) (hn : n.natAbs ≤ V) : Rs V G xs (rs.set n.natAbs (-1)) (tr ++ [n]) (lm ++ [tr.length]) := by
  refine ⟨by rw [List.length_set]; exact h.len, fun i t ht => ?_⟩
  rcases snoc_cases ht with e | ⟨e1, e2⟩
  · refine h.old hf hn (fun i hi => ⟨fun e => List.mem_append_left _ e, fun e m hm => ?_⟩) e
    rcases List.mem_append.1 hm with e2 | e2
    · exact e m e2
    · obtain rfl := List.mem_singleton.1 e2; exact hi
  · subst e1; subst e2
    exact ⟨_, by rw [at_set (by rw [h.len]; omega), if_pos rfl], .inl ⟨rfl, .inl (List.mem_append_right _ (List.mem_singleton.2 rfl))⟩⟩
theorem Rs.perm (h : Rs V G xs rs tr lm) (hp : PermX xs xs') : Rs V G xs' rs tr lm := ⟨h.len, fun i t ht => by
  obtain ⟨r, h1, h2⟩ := h.rea i t ht
  refine ⟨r, h1, ?_⟩
  rcases h2 with h2 | ⟨k, c, e1, e2, e3, e4⟩
  · exact .inl h2
  · obtain ⟨c', f1, f2⟩ := hp.2 k c e2
    exact .inr ⟨k, c', e1, f1, f2.mem_iff.2 e3, fun y hy => e4 y (f2.mem_iff.1 hy)⟩⟩
theorem Rs.more (h : Rs V G xs rs tr lm) (hp : ∀ (k : Nat) c, xs[k]? = some c → xs'[k]? = some c) : Rs V G xs' rs tr lm := ⟨h.len, fun i t ht => by
  obtain ⟨r, h1, h2⟩ := h.rea i t ht
  refine ⟨r, h1, ?_⟩
  rcases h2 with h2 | ⟨k, c, e1, e2, e3⟩
  · exact .inl h2
  · exact .inr ⟨k, c, e1, hp k c e2, e3⟩⟩
theorem Rs.mono (h : Rs V G xs rs tr lm) (hs : ∀ x ∈ G, x ∈ G') : Rs V G' xs rs tr lm := ⟨h.len, fun i t ht => by
  obtain ⟨r, h1, h2⟩ := h.rea i t ht
  refine ⟨r, h1, ?_⟩
  rcases h2 with ⟨e1, e2 | ⟨e2, d, e3, e4⟩⟩ | h2
  · exact .inl ⟨e1, .inl e2⟩
  · exact .inl ⟨e1, .inr ⟨e2, d, hs d e3, e4⟩⟩
  · exact .inr h2⟩
theorem Rs.cut (h : Rs V G xs rs tr lm) {l m : Nat} (hm : lm[l]? = some m) (hasc : ∀ (i j a b : Nat), i < j → lm[i]? = some a → lm[j]? = some b → a < b) : Rs V G xs rs (tr.take m) (lm.take l) := ⟨h.len, fun i t ht => by
  obtain ⟨hi, ht⟩ := take_at ht
  obtain ⟨r, h1, h2⟩ := h.rea i t ht
  refine ⟨r, h1, ?_⟩
  rcases h2 with ⟨e1, e2 | ⟨e2, e3⟩⟩ | ⟨k, c, e1, e2, e3, e4⟩
  · refine .inl ⟨e1, .inl ?_⟩
    obtain ⟨j, hj, e⟩ := List.getElem_of_mem e2
    have hj2 : lm[j]? = some i := by rw [List.getElem?_eq_getElem hj, e]
    have hjl : j < l := by
      by_cases hc : j < l
      · exact hc
      · by_cases hc2 : j = l
        · subst hc2; rw [hm] at hj2; injection hj2 with hj2; omega
        · have := hasc l j m i (by omega) hm hj2; omega
    exact List.mem_of_getElem? (take_of hjl hj2)
  · exact .inl ⟨e1, .inr ⟨fun a ha => e2 a (List.mem_of_mem_take ha), e3⟩⟩
  · refine .inr ⟨k, c, e1, e2, e3, fun y hy hne => ?_⟩
    rw [List.take_take, Nat.min_eq_left (by omega)]
    exact e4 y hy hne⟩
end
/-! ### watched numbers -/
structure Wt (xs : List (List Int)) (wt : Nat → List Nat) : Prop where
  mem : ∀ (i k : Nat), k ∈ wt i ↔ ∃ a b t, xs[k]? = some (a :: b :: t) ∧ (ix a = i ∨ ix b = i)
  nd : ∀ i, (wt i).Nodup
section
variable {V : Nat} {xs : List (List Int)} {wt : Nat → List Nat} {a b n : Int}
theorem ix_inj (h : ix a = ix b) : a = b := by
  unfold ix at h
  by_cases h1 : a < 0 <;> by_cases h2 : b < 0
  · rw [if_pos h1, if_pos h2] at h; omega
  · rw [if_pos h1, if_neg h2] at h; omega
  · rw [if_neg h1, if_pos h2] at h; omega
  · rw [if_neg h1, if_neg h2] at h; omega
theorem Wt.lt (h : Wt xs wt) {i k : Nat} (hk : k ∈ wt i) : k < xs.length := by
  obtain ⟨a, b, t, e, _⟩ := (h.mem i k).1 hk
  exact lt_of_at e
theorem Wt.le (h : Wt xs wt) (i : Nat) : (wt i).length ≤ xs.length := by
  have h2 : wt i ⊆ List.range xs.length := fun k hk => List.mem_range.2 (h.lt hk)
  have := (h.nd i).length_le_of_subset h2
  simpa using this
theorem Wt.swap {k : Nat} {t : List Int} (h : Wt xs wt) (hx : xs[k]? = some (a :: b :: t)) : Wt (xs.set k (b :: a :: t)) wt := by
  refine ⟨fun i j => ?_, h.nd⟩
  rw [h.mem, at_set (lt_of_at hx)]
  by_cases e : j = k
  · subst e
    rw [if_pos rfl, hx]
    constructor
    · rintro ⟨a', b', t', e, hh⟩
      injection e with e; injection e with e1 e; injection e with e2 e3
      subst e1; subst e2
      exact ⟨_, _, _, rfl, hh.symm⟩
    · rintro ⟨a', b', t', e, hh⟩
      injection e with e; injection e with e1 e; injection e with e2 e3
      subst e1; subst e2
      exact ⟨_, _, _, rfl, hh.symm⟩
  · rw [if_neg e]
theorem upd_at {i j : Nat} {l : List Nat} : upd wt i l j = if j = i then l else wt j := rfl
/-- another number is watched instead of the second -/
theorem Wt.move {k j : Nat} {t : List Int} {y : Int} {p q : List Nat} (h : Wt xs wt) (hx : xs[k]? = some (a :: n :: t)) (hj : t[j]? = some y) (hw : wt (ix n) = p ++ k :: q)
    (hnd : (a :: n :: t).Nodup) : Wt (xs.set k (a :: y :: t.set j n)) (upd (upd wt (ix n) (p ++ q)) (ix y) (wt (ix y) ++ [k])) := by
  have hyt : y ∈ t := List.mem_of_getElem? hj
  obtain ⟨n1, n2⟩ := List.nodup_cons.1 hnd
  obtain ⟨n3, n4⟩ := List.nodup_cons.1 n2
  have hya : y ≠ a := fun e => by subst e; exact n1 (List.mem_cons_of_mem _ hyt)
  have hyn : y ≠ n := fun e => by subst e; exact n3 hyt
  have hna : n ≠ a := fun e => by subst e; exact n1 List.mem_cons_self
  have iyn : ix y ≠ ix n := fun e => hyn (ix_inj e)
  have iya : ix y ≠ ix a := fun e => hya (ix_inj e)
  have ina : ix n ≠ ix a := fun e => hna (ix_inj e)
  have hkp : k ∉ p ++ q := by
    have := h.nd (ix n)
    rw [hw, List.nodup_append, List.nodup_cons] at this
    intro hm
    rcases List.mem_append.1 hm with e | e
    · exact this.2.2 k e k List.mem_cons_self rfl
    · exact this.2.1.1 e
  have hkey : k ∉ wt (ix y) := fun hm => by
    obtain ⟨a', b', t', e, hh⟩ := (h.mem (ix y) k).1 hm
    rw [hx] at e
    injection e with e; injection e with e1 e; injection e with e2 e3
    subst e1; subst e2
    rcases hh with e | e
    · exact iya e.symm
    · exact iyn e.symm
  have hlk := lt_of_at hx
  refine ⟨fun i k' => ?_, fun i => ?_⟩
  · rw [at_set hlk]
    by_cases e : k' = k
    · subst e
      rw [if_pos rfl]
      have hr : (∃ a' b' t', some (a :: y :: t.set j n) = some (a' :: b' :: t') ∧ (ix a' = i ∨ ix b' = i)) ↔ (ix a = i ∨ ix y = i) := by
        constructor
        · rintro ⟨a', b', t', e, hh⟩
          injection e with e; injection e with e1 e; injection e with e2 e3
          subst e1; subst e2
          exact hh
        · intro hh; exact ⟨_, _, _, rfl, hh⟩
      rw [hr]
      unfold upd
      by_cases e1 : i = ix y
      · subst e1
        rw [if_pos rfl]
        simp
      · rw [if_neg e1]
        by_cases e2 : i = ix n
        · subst e2
          rw [if_pos rfl]
          constructor
          · intro hm; exact absurd hm hkp
          · rintro (e | e)
            · exact absurd e.symm ina
            · exact absurd e iyn
        · rw [if_neg e2, h.mem]
          constructor
          · rintro ⟨a', b', t', e, hh⟩
            rw [hx] at e
            injection e with e; injection e with e3 e; injection e with e4 e5
            subst e3; subst e4
            rcases hh with e | e
            · exact .inl e
            · exact absurd e.symm e2
          · rintro (e | e)
            · exact ⟨_, _, _, hx, .inl e⟩
            · exact absurd e.symm e1
    · rw [if_neg e]
      unfold upd
      by_cases e1 : i = ix y
      · subst e1
        rw [if_pos rfl, ← h.mem]
        simp [e]
      · rw [if_neg e1]
        by_cases e2 : i = ix n
        · subst e2
          rw [if_pos rfl, ← h.mem, hw]
          simp [e]
        · rw [if_neg e2]
          exact h.mem i k'
  · unfold upd
    by_cases e1 : i = ix y
    · rw [if_pos e1, List.nodup_append]
      refine ⟨h.nd _, by simp, fun x hx' z hz e => ?_⟩
      rw [List.mem_singleton.1 hz] at e
      exact hkey (e ▸ hx')
    · rw [if_neg e1]
      by_cases e2 : i = ix n
      · rw [if_pos e2]
        have := h.nd (ix n)
        rw [hw, List.nodup_append] at this
        rw [List.nodup_append]
        exact ⟨this.1, (List.nodup_cons.1 this.2.1).2, fun x hx z hz => this.2.2 x hx z (List.mem_cons_of_mem _ hz)⟩
      · rw [if_neg e2]; exact h.nd i
/-- one clause more -/
theorem Wt.snoc {t : List Int} (h : Wt xs wt) :
    Wt (xs ++ [a :: b :: t]) (upd (upd wt (ix a) (wt (ix a) ++ [xs.length])) (ix b) (wt (ix b) ++ [xs.length])) := by
  have hno : ∀ i, xs.length ∉ wt i := fun i hm => absurd (h.lt hm) (Nat.lt_irrefl _)
  refine ⟨fun i k => ?_, fun i => ?_⟩
  · by_cases e : k = xs.length
    · subst e
      rw [snoc_last]
      have hr : (∃ a' b' t', some (a :: b :: t) = some (a' :: b' :: t') ∧ (ix a' = i ∨ ix b' = i)) ↔ (ix a = i ∨ ix b = i) := by
        constructor
        · rintro ⟨a', b', t', e, hh⟩
          injection e with e; injection e with e1 e; injection e with e2 e3
          subst e1; subst e2
          exact hh
        · intro hh; exact ⟨_, _, _, rfl, hh⟩
      rw [hr]
      unfold upd
      by_cases e1 : i = ix b
      · subst e1; rw [if_pos rfl]; simp
      · rw [if_neg e1]
        by_cases e2 : i = ix a
        · subst e2; rw [if_pos rfl]; simp
        · rw [if_neg e2]
          constructor
          · intro hm; exact absurd hm (hno i)
          · rintro (e | e)
            · exact absurd e.symm e2
            · exact absurd e.symm e1
    · have hk : ∀ c, (xs ++ [a :: b :: t])[k]? = some c ↔ xs[k]? = some c := fun c => by
        constructor
        · intro hc
          rcases snoc_cases hc with e2 | ⟨e2, _⟩
          · exact e2
          · exact absurd e2 e
        · exact snoc_left
      have hr : (∃ a' b' t', (xs ++ [a :: b :: t])[k]? = some (a' :: b' :: t') ∧ (ix a' = i ∨ ix b' = i)) ↔ k ∈ wt i := by
        rw [h.mem]
        constructor
        · rintro ⟨a', b', t', e, hh⟩; exact ⟨a', b', t', (hk _).1 e, hh⟩
        · rintro ⟨a', b', t', e, hh⟩; exact ⟨a', b', t', (hk _).2 e, hh⟩
      rw [hr]
      unfold upd
      by_cases e1 : i = ix b
      · subst e1; rw [if_pos rfl]; simp [e]
      · rw [if_neg e1]
        by_cases e2 : i = ix a
        · subst e2; rw [if_pos rfl]; simp [e]
        · rw [if_neg e2]
  · have hsn : ∀ i, (wt i ++ [xs.length]).Nodup := fun i => by
      rw [List.nodup_append]
      refine ⟨h.nd i, by simp, fun x hx z hz => ?_⟩
      obtain rfl := List.mem_singleton.1 hz
      intro e; subst e
      exact hno i hx
    unfold upd
    split
    · exact hsn _
    · split
      · exact hsn _
      · exact h.nd i
end
end Go.Proofs.YtaedbnbeelkkcaaDoor.slv
namespace Go.Proofs.YtaedbnbeelkkcaaDoor.slv
/-- a clause is told by the solver's clauses, or by what is true at level 0 -/
def Cov (xs : List (List Int)) (tr : List Int) (lm : List Nat) (d : List Int) : Prop :=
  (∃ n ∈ d, -n ∈ d) ∨ (∃ (k : Nat) (c : List Int), xs[k]? = some c ∧ SameC c d) ∨ ∃ (a : Int) (i : Nat), a ∈ d ∧ tr[i]? = some a ∧ L0 lm i
structure Inv (V : Nat) (G : List (List Int)) (s : SS) : Prop where
  tv : Tv V s.vs s.tr
  le : Lev V s.lv s.tr s.lm
  rs : Rs V G s.xs s.rs s.tr s.lm
  cl : Xs V G s.xs
  hp : Hp V s.hp s.pl
  sc : Sc V s.sc s.gr
  ih : ∀ v, 1 ≤ v → v ≤ V → va s.vs v = 0 → v ∈ s.hp
  ph : s.ph.length = V + 1
  cov : s.dead = false → ∀ d ∈ G, Cov s.xs s.tr s.lm d
  ded : s.dead = true → Ref G []
  bnd : ∀ m ∈ s.lm, m ≤ s.hd ∧ Wi s.xs (s.tr.take m) (s.tr.take m)
structure Full (V : Nat) (G : List (List Int)) (s : SS) : Prop where
  inv : Inv V G s
  wt : Wt s.xs s.wt
  wi : Wi s.xs (s.tr.take s.hd) s.tr
  hd : s.hd ≤ s.tr.length
/-- what spreading leaves -/
structure Fra (s s' : SS) : Prop where
  lm : s'.lm = s.lm
  pf : s'.pf = s.pf
  dead : s'.dead = s.dead
  xs : PermX s.xs s'.xs
  tr : ∃ new, s'.tr = s.tr ++ new
section
variable {V : Nat} {G G' : List (List Int)} {s s' s'' : SS} {n a : Int}
theorem Fra.refl (s : SS) : Fra s s := ⟨rfl, rfl, rfl, PermX.refl _, ⟨[], by simp⟩⟩
theorem Fra.trans (h : Fra s s') (g : Fra s' s'') : Fra s s'' := ⟨g.lm.trans h.lm, g.pf.trans h.pf, g.dead.trans h.dead, h.xs.trans g.xs, by
  obtain ⟨a, e1⟩ := h.tr
  obtain ⟨b, e2⟩ := g.tr
  exact ⟨a ++ b, by rw [e2, e1, List.append_assoc]⟩⟩
theorem Cov.more {xs : List (List Int)} {tr tr' : List Int} {lm : List Nat} {d : List Int} (h : Cov xs tr lm d) (ht : ∃ new, tr' = tr ++ new) : Cov xs tr' lm d := by
  rcases h with h | h | ⟨a, i, h1, h2, h3⟩
  · exact .inl h
  · exact .inr (.inl h)
  · obtain ⟨new, e⟩ := ht
    exact .inr (.inr ⟨a, i, h1, by rw [e, List.getElem?_append_left (lt_of_at h2)]; exact h2, h3⟩)
theorem Cov.perm {xs xs' : List (List Int)} {tr : List Int} {lm : List Nat} {d : List Int} (h : Cov xs tr lm d) (hp : PermX xs xs') : Cov xs' tr lm d := by
  rcases h with h | ⟨k, c, h1, h2⟩ | h
  · exact .inl h
  · obtain ⟨c', e1, e2⟩ := hp.2 k c h1
    exact .inr (.inl ⟨k, c', e1, fun y => e2.mem_iff.trans (h2 y)⟩)
  · exact .inr (.inr h)
theorem Inv.room (h : Inv V G s) : s.tr.length ≤ V ∧ s.lm.length ≤ V := ⟨h.tv.le, Nat.le_trans h.le.le h.tv.le⟩
theorem setM_do (h : Inv V G s) (ha : Lit V a) (b : Int) : setM V s a b = some (setS s a b) := by
  unfold setM
  rw [if_pos ⟨by have := ha.1; omega, ha.2, h.room.1, h.room.2⟩]
theorem va_set_ne {vs : List Int} (hl : vs.length = V + 1) (ha : Lit V a) {v : Nat} (h : va (vs.set a.natAbs (sg a)) v = 0) : va vs v = 0 := by
  rw [va_set (by have := ha.2; omega)] at h
  by_cases e : v = a.natAbs
  · rw [if_pos e] at h; unfold sg at h; split at h <;> exact absurd h (by decide)
  · rw [if_neg e] at h; exact h
theorem Inv.setBy (h : Inv V G s) (ha : Lit V a) (hz : lv (va s.vs) a = 0) {k : Nat} {c : List Int} (hk : s.xs[k]? = some c) (hc : a ∈ c) (ho : ∀ y ∈ c, y ≠ a → -y ∈ s.tr) : Inv V G (setS s a (k : Int)) := by
  have hf : ∀ t ∈ s.tr, t.natAbs ≠ a.natAbs := fun t ht => h.tv.fresh ha hz ht
  exact {
    tv := h.tv.set_ ha hz
    le := h.le.set_ ha.2 hf
    rs := h.rs.by_ hf ha.2 hk hc ho
    cl := h.cl
    hp := h.hp
    sc := h.sc
    ih := fun v v1 v2 v3 => h.ih v v1 v2 (va_set_ne h.tv.len ha v3)
    ph := by show (s.ph.set _ _).length = _; rw [List.length_set]; exact h.ph
    cov := fun e d hd => (h.cov e d hd).more ⟨[a], rfl⟩
    ded := h.ded
    bnd := fun m hm => ⟨(h.bnd m hm).1, by
      show Wi s.xs ((s.tr ++ [a]).take m) ((s.tr ++ [a]).take m)
      rw [take_snoc (Nat.le_of_lt (h.le.lt m hm))]
      exact (h.bnd m hm).2⟩ }
/-- clauses in another order -/
theorem Inv.clauses (h : Inv V G s) {xs' : List (List Int)} (wt' : Nat → List Nat) (hp : PermX s.xs xs') (hw : ∀ m ∈ s.lm, Wi xs' (s.tr.take m) (s.tr.take m)) : Inv V G { s with xs := xs', wt := wt' } :=
  { tv := h.tv, le := h.le, rs := h.rs.perm hp, cl := h.cl.perm hp, hp := h.hp, sc := h.sc, ih := h.ih, ph := h.ph
    cov := fun e d hd => (h.cov e d hd).perm hp
    ded := h.ded
    bnd := fun m hm => ⟨(h.bnd m hm).1, hw m hm⟩ }
/-- amid the clauses that watch n -/
structure SJ (V : Nat) (G : List (List Int)) (s0 s : SS) (h : Nat) (n : Int) (kept rest : List Nat) : Prop where
  inv : Inv V G s
  hd : s.hd = h + 1
  at_ : s.tr[h]? = some (-n)
  wt : Wt s.xs (upd s.wt (ix n) (kept ++ rest))
  wi : Wi s.xs (s.tr.take h) s.tr
  kp : Kp kept s.xs n s.tr
  fr : Fra s0 s
variable {s0 : SS} {h : Nat} {kept rest : List Nat} {k : Nat} {t : List Int}
theorem SJ.mem (j : SJ V G s0 s h n kept rest) : -n ∈ s.tr := List.mem_of_getElem? j.at_
theorem SJ.lit (j : SJ V G s0 s h n kept rest) : Lit V n := by
  have := (j.inv.tv.trv _ j.mem).1.neg
  rwa [Int.neg_neg] at this
theorem SJ.val (j : SJ V G s0 s h n kept rest) : lv (va s.vs) n = -1 := j.inv.tv.neg_val j.lit j.mem
theorem SJ.notin (j : SJ V G s0 s h n kept rest) : n ∉ s.tr := fun h1 => j.inv.tv.not_both j.lit h1 j.mem
theorem upd_same (wt : Nat → List Nat) (i : Nat) (l : List Nat) : upd wt i l i = l := by simp [upd]
theorem updSelf (wt : Nat → List Nat) (i : Nat) : upd wt i (wt i) = wt := by
  funext j
  unfold upd
  split
  · rename_i e; rw [e]
  · rfl
theorem upd_twice (wt : Nat → List Nat) (i : Nat) (l l' : List Nat) : upd (upd wt i l) i l' = upd wt i l' := by
  funext j
  unfold upd
  split <;> rfl
theorem upd_comm (wt : Nat → List Nat) {i j : Nat} (l l' : List Nat) (h : i ≠ j) : upd (upd wt i l) j l' = upd (upd wt j l') i l := by
  funext x
  unfold upd
  by_cases e1 : x = j
  · subst e1; rw [if_pos rfl, if_neg (fun e => h e.symm), if_pos rfl]
  · rw [if_neg e1]
    by_cases e2 : x = i
    · rw [if_pos e2]; rw [if_pos e2]
    · rw [if_neg e2, if_neg e2, if_neg e1]
theorem upd_ne {wt : Nat → List Nat} {i j : Nat} {l : List Nat} (h : j ≠ i) : upd wt i l j = wt j := by simp [upd, h]
theorem SJ.knot (j : SJ V G s0 s h n kept (k :: rest)) : k ∉ kept := fun hk => by
  have := j.wt.nd (ix n)
  rw [upd_same, List.nodup_append] at this
  exact this.2.2 k hk k List.mem_cons_self rfl
/-- the watched number comes second -/
theorem SJ.swap (j : SJ V G s0 s h n kept (k :: rest)) : ∃ c0 a t, s.xs[k]? = some c0 ∧ swap2 n c0 = a :: n :: t ∧ SJ V G s0 { s with xs := s.xs.set k (a :: n :: t) } h n kept (k :: rest) ∧ (s.xs.set k (a :: n :: t))[k]? = some (a :: n :: t) ∧ ClOk V (a :: n :: t) := by
  have hm : k ∈ upd s.wt (ix n) (kept ++ k :: rest) (ix n) := by rw [upd_same]; exact List.mem_append_right _ List.mem_cons_self
  obtain ⟨a0, b0, t, e, hh⟩ := (j.wt.mem (ix n) k).1 hm
  have hok := j.inv.cl.ok k _ e
  have hlk := lt_of_at e
  by_cases ea : a0 = n
  · subst ea
    refine ⟨_, b0, t, e, by show (if a0 = a0 then b0 :: a0 :: t else a0 :: b0 :: t) = _; rw [if_pos rfl], ?_, by rw [at_set hlk, if_pos rfl], hok.perm (List.Perm.swap _ _ _)⟩
    have hp : PermX s.xs (s.xs.set k (b0 :: a0 :: t)) := PermX.set_ e (List.Perm.swap _ _ _)
    exact {
      inv := j.inv.clauses s.wt hp (fun m hm => ((j.inv.bnd m hm).2).swap e)
      hd := j.hd
      at_ := j.at_
      wt := j.wt.swap e
      wi := j.wi.swap e
      kp := j.kp.set_ j.knot
      fr := ⟨j.fr.lm, j.fr.pf, j.fr.dead, j.fr.xs.trans hp, j.fr.tr⟩ }
  · obtain rfl : b0 = n := by
      rcases hh with h1 | h1
      · exact absurd (ix_inj h1) ea
      · exact ix_inj h1
    have es : s.xs.set k (a0 :: b0 :: t) = s.xs := setSelf e
    refine ⟨_, a0, t, e, by show (if a0 = b0 then b0 :: a0 :: t else a0 :: b0 :: t) = _; rw [if_neg ea], ?_, by rw [es]; exact e, hok⟩
    rw [es]
    exact j
theorem seekM_ok {vs tr : List Int} (hv : Tv V vs tr) : ∀ {t : List Int}, (∀ y ∈ t, Lit V y) → ∃ j, seekM vs t = some j ∧ j ≤ t.length ∧ (∀ y ∈ t.take j, lv (va vs) y = -1) ∧ ∀ y, t[j]? = some y → lv (va vs) y ≠ -1
  | [], _ => ⟨0, rfl, Nat.le_refl _, fun y hy => (by simp at hy), fun y hy => (by simp at hy)⟩
  | a :: r, hl => by
    unfold seekM
    rw [ofM_ok hv (hl a List.mem_cons_self).2]
    dsimp only
    by_cases e : lv (va vs) a = -1
    · rw [if_pos e]
      obtain ⟨j, e1, e2, e3, e4⟩ := seekM_ok hv (t := r) fun y hy => hl y (List.mem_cons_of_mem _ hy)
      rw [e1]
      refine ⟨j + 1, rfl, by simp; omega, fun y hy => ?_, fun y hy => e4 y (by simpa using hy)⟩
      rw [List.take_succ_cons] at hy
      rcases List.mem_cons.1 hy with e5 | e5
      · subst e5; exact e
      · exact e3 y e5
    · rw [if_neg e]
      refine ⟨0, rfl, Nat.zero_le _, fun y hy => (by simp at hy), fun y hy => ?_⟩
      injection hy with hy
      subst hy; exact e
/-- behind a conflict -/
structure Cfl (V : Nat) (G : List (List Int)) (s : SS) (k : Nat) : Prop where
  inv : Inv V G s
  cl : ∃ c, s.xs[k]? = some c ∧ ∀ y ∈ c, -y ∈ s.tr
theorem spr1_ok (j : SJ V G s0 s h n kept (k :: rest)) (hsz : s.xs.length < 4000000) :
    ∃ R, spr1 V n k rest kept s = some R ∧ match R with
      | .go l s' => SJ V G s0 s' h n l rest
      | .bad k' l s' => Cfl V G s' k' ∧ Fra s0 s' ∧ Wt s'.xs (upd s'.wt (ix n) l) := by
  obtain ⟨c0, a, t, e0, e1, j1, hk1, hok⟩ := j.swap
  have hla : Lit V a := (hok.2.2 a (by simp)).1
  have hne : a ≠ n := fun e => by subst e; exact (List.nodup_cons.1 hok.2.1).1 List.mem_cons_self
  have hlt : ∀ y ∈ t, Lit V y := fun y hy => (hok.2.2 y (by simp [hy])).1
  unfold spr1
  rw [e0]
  dsimp only
  rw [e1]
  dsimp only
  rw [ofM_ok j.inv.tv hla.2]
  dsimp only
  by_cases x1 : lv (va s.vs) a = 1
  · rw [if_pos x1]
    refine ⟨_, rfl, ?_⟩
    have haT : a ∈ s.tr := j.inv.tv.trs a hla x1
    exact { inv := j1.inv, hd := j1.hd, at_ := j1.at_, wt := by rw [List.append_assoc]; exact j1.wt, wi := j1.wi, kp := j1.kp.snoc hk1 haT hne, fr := j1.fr }
  · rw [if_neg x1]
    obtain ⟨q, eq, q1, q2, q3⟩ := seekM_ok j.inv.tv hlt
    rw [eq]
    dsimp only
    cases hy : t[q]? with
    | some y =>
      dsimp only
      have hyt : y ∈ t := List.mem_of_getElem? hy
      have hyv := q3 y hy
      have hyl := hlt y hyt
      have hyn : y ≠ n := fun e => by subst e; exact hyv j.val
      have hix : ix y ≠ ix n := fun e => hyn (ix_inj e)
      have hwy : upd s.wt (ix n) (kept ++ k :: rest) (ix y) = s.wt (ix y) := upd_ne hix
      have hle := j.wt.le (ix y)
      rw [hwy] at hle
      rw [if_pos ⟨hyl.2, hix, by omega⟩]
      refine ⟨_, rfl, ?_⟩
      have hyF : -y ∉ s.tr := fun hm => hyv (j.inv.tv.neg_val hyl hm)
      have hnn := j.notin
      have es : s.xs.set k (a :: y :: t.set q n) = (s.xs.set k (a :: n :: t)).set k (a :: y :: t.set q n) := by rw [List.set_set]
      have hp : PermX (s.xs.set k (a :: n :: t)) (s.xs.set k (a :: y :: t.set q n)) := by rw [es]; exact PermX.set_ hk1 (perm_move hy).symm
      have hwm := j1.wt.move (p := kept) (q := rest) hk1 hy (by rw [upd_same]) hok.2.1
      rw [upd_twice] at hwm
      rw [show (upd s.wt (ix n) (kept ++ k :: rest)) (ix y) = s.wt (ix y) from hwy] at hwm
      exact {
        inv := j1.inv.clauses _ hp (fun m hm => by
          rw [es]
          exact ((j1.inv.bnd m hm).2).move hk1 (fun e => hnn (List.mem_of_mem_take e)) (fun e => hyF (List.mem_of_mem_take e)))
        hd := j.hd
        at_ := j.at_
        wt := by
          show Wt (s.xs.set k (a :: y :: t.set q n)) (upd (upd s.wt (ix y) (s.wt (ix y) ++ [k])) (ix n) (kept ++ rest))
          rw [es, upd_comm _ _ _ hix]
          exact hwm
        wi := by
          show Wi (s.xs.set k (a :: y :: t.set q n)) _ _
          rw [es]
          exact j1.wi.move hk1 hnn (fun e => hyF (List.mem_of_mem_take e))
        kp := by
          show Kp kept (s.xs.set k (a :: y :: t.set q n)) n s.tr
          exact j.kp.set_ j.knot
        fr := ⟨j1.fr.lm, j1.fr.pf, j1.fr.dead, j1.fr.xs.trans hp, j1.fr.tr⟩ }
    | none =>
      dsimp only
      have hq : q = t.length := by have := List.getElem?_eq_none_iff.1 hy; omega
      have hall : ∀ y ∈ t, -y ∈ s.tr := fun y hyt => j.inv.tv.val_neg (hlt y hyt) (q2 y (by rw [hq, List.take_length]; exact hyt))
      by_cases x2 : lv (va s.vs) a = -1
      · rw [if_pos x2]
        refine ⟨_, rfl, ⟨j1.inv, _, hk1, fun y hyc => ?_⟩, j1.fr, by rw [List.append_assoc]; exact j1.wt⟩
        rcases List.mem_cons.1 hyc with e | hyc
        · subst e; exact j.inv.tv.val_neg hla x2
        · rcases List.mem_cons.1 hyc with e | hyc
          · subst e; exact j.mem
          · exact hall y hyc
      · rw [if_neg x2]
        have x0 : lv (va s.vs) a = 0 := by rcases j.inv.tv.cases a with e | e | e <;> omega
        rw [setM_do j1.inv hla]
        refine ⟨_, rfl, ?_⟩
        have hinv := j1.inv.setBy hla x0 hk1 List.mem_cons_self (fun y hyc hya => by
          rcases List.mem_cons.1 hyc with e | hyc
          · exact absurd e hya
          · rcases List.mem_cons.1 hyc with e | hyc
            · subst e; exact j.mem
            · exact hall y hyc)
        have hsub : ∀ x ∈ s.tr, x ∈ s.tr ++ [a] := fun x hx => List.mem_append_left _ hx
        have hh := lt_of_at j.at_
        exact {
          inv := hinv
          hd := j1.hd
          at_ := snoc_left j.at_
          wt := by rw [List.append_assoc]; exact j1.wt
          wi := by
            show Wi (s.xs.set k (a :: n :: t)) ((s.tr ++ [a]).take h) (s.tr ++ [a])
            rw [take_snoc (by omega)]
            exact j1.wi.mono hsub
          kp := (j1.kp.mono hsub).snoc hk1 (List.mem_append_right _ (List.mem_singleton.2 rfl)) hne
          fr := ⟨j1.fr.lm, j1.fr.pf, j1.fr.dead, j1.fr.xs, by
            obtain ⟨new, e⟩ := j1.fr.tr
            exact ⟨new ++ [a], by show s.tr ++ [a] = _; rw [show s.tr = s0.tr ++ new from e, List.append_assoc]⟩⟩ }
theorem sprI_ok : ∀ {rest kept : List Nat} {s : SS}, SJ V G s0 s h n kept rest → s.xs.length < 4000000 →
    ∃ R, sprI V n rest kept s = some R ∧ match R with
      | .go l s' => SJ V G s0 s' h n l []
      | .bad k' l s' => Cfl V G s' k' ∧ Fra s0 s' ∧ Wt s'.xs (upd s'.wt (ix n) l)
  | [], kept, s, j, _ => ⟨_, rfl, j⟩
  | k :: r, kept, s, j, hsz => by
    obtain ⟨R, e, hR⟩ := spr1_ok j hsz
    unfold sprI
    rw [e]
    cases R with
    | bad k' l s' => exact ⟨_, rfl, hR⟩
    | go l s' =>
      dsimp only at hR ⊢
      exact sprI_ok hR (by rw [hR.fr.xs.1, ← j.fr.xs.1]; exact hsz)
theorem SJ.stop (j : SJ V G s0 s h n kept []) : Full V G { s with wt := upd s.wt (ix n) kept } := by
  have hw := j.wt
  rw [List.append_nil] at hw
  have hh := lt_of_at j.at_
  refine ⟨j.inv.clauses _ (PermX.refl _) fun m hm => (j.inv.bnd m hm).2, hw, ?_, by show s.hd ≤ s.tr.length; rw [j.hd]; omega⟩
  show Wi s.xs (s.tr.take s.hd) s.tr
  rw [j.hd]
  intro k a b r hk
  have key : ∀ x, -x ∈ s.tr.take (h + 1) → -x ∈ s.tr.take h ∨ x = n := fun x hx => by
    rw [List.take_add_one, j.at_] at hx
    rcases List.mem_append.1 hx with e | e
    · exact .inl e
    · have := List.mem_singleton.1 (by simpa using e); exact .inr (by omega)
  have hkk : a = n ∨ b = n → k ∈ kept := fun e => by
    have := (hw.mem (ix n) k).2 ⟨a, b, r, hk, by rcases e with e | e <;> subst e <;> simp⟩
    rwa [upd_same] at this
  refine ⟨fun hf => ?_, fun hf => ?_⟩
  · rcases key a hf with e | e
    · exact (j.wi k a b r hk).1 e
    · exact (j.kp k (hkk (.inl e)) a b r hk).1 e
  · rcases key b hf with e | e
    · exact (j.wi k a b r hk).2 e
    · exact (j.kp k (hkk (.inr e)) a b r hk).2 e
/-- what spreading comes to -/
def SpE (V : Nat) (G : List (List Int)) (s0 : SS) : Option Nat → SS → Prop
  | none, s => Full V G s ∧ s.hd = s.tr.length ∧ Fra s0 s
  | some k, s => Cfl V G s k ∧ Wt s.xs s.wt ∧ Fra s0 s
theorem sprL_ok : ∀ {f : Nat} {s : SS}, V + 1 < f + s.hd → Full V G s → s.xs.length < 4000000 → Fra s0 s → ∃ r s', sprL V f s = some (r, s') ∧ SpE V G s0 r s'
  | 0, s, hf, hs, _, _ => absurd hf (by have := hs.hd; have := hs.inv.room.1; omega)
  | f + 1, s, hf, hs, hsz, hfr => by
    unfold sprL
    cases ht : s.tr[s.hd]? with
    | none =>
      have := List.getElem?_eq_none_iff.1 ht
      dsimp only
      rw [if_pos this]
      exact ⟨_, _, rfl, hs, Nat.le_antisymm hs.hd this, hfr⟩
    | some t =>
      dsimp only
      have htl := (hs.inv.tv.trv t (List.mem_of_getElem? ht)).1
      rw [if_pos htl.2]
      have j : SJ V G s0 { s with hd := s.hd + 1 } s.hd (-t) [] (s.wt (ix (-t))) := {
        inv := { tv := hs.inv.tv, le := hs.inv.le, rs := hs.inv.rs, cl := hs.inv.cl, hp := hs.inv.hp, sc := hs.inv.sc, ih := hs.inv.ih, ph := hs.inv.ph, cov := hs.inv.cov, ded := hs.inv.ded
                 bnd := fun m hm => ⟨Nat.le_succ_of_le (hs.inv.bnd m hm).1, (hs.inv.bnd m hm).2⟩ }
        hd := rfl
        at_ := by rw [Int.neg_neg]; exact ht
        wt := by rw [List.nil_append]; show Wt s.xs (upd s.wt _ (s.wt _)); rw [updSelf]; exact hs.wt
        wi := hs.wi
        kp := fun _ hm => (by cases hm)
        fr := ⟨hfr.lm, hfr.pf, hfr.dead, hfr.xs, hfr.tr⟩ }
      obtain ⟨R, e, hR⟩ := sprI_ok j hsz
      rw [e]
      cases R with
      | bad k l s2 =>
        dsimp only at hR ⊢
        obtain ⟨h1, h2, h3⟩ := hR
        refine ⟨_, _, rfl, ⟨h1.inv.clauses _ (PermX.refl _) fun m hm => (h1.inv.bnd m hm).2, h1.cl⟩, h3, ⟨h2.lm, h2.pf, h2.dead, h2.xs, h2.tr⟩⟩
      | go l s2 =>
        dsimp only at hR ⊢
        have h2 := hR.fr
        exact sprL_ok (f := f) (by show V + 1 < f + s2.hd; rw [hR.hd]; omega) hR.stop (by show s2.xs.length < _; rw [h2.xs.1, ← hfr.xs.1]; exact hsz) ⟨h2.lm, h2.pf, h2.dead, h2.xs, h2.tr⟩
theorem spreadM_ok (hs : Full V G s) (hsz : s.xs.length < 4000000) : ∃ r s', spreadM V s = some (r, s') ∧ SpE V G s r s' := sprL_ok (by omega) hs hsz (Fra.refl s)
end
end Go.Proofs.YtaedbnbeelkkcaaDoor.slv
