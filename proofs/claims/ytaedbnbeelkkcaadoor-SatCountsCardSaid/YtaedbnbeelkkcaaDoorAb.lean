/-
  PLAIN: the solver's heap: places and heap agree; up, down, pop, bump go through, and who is in the heap stays. No program in sight.
  PLAIN: the solver's scores: no sum and no product of them is a NaN; bump goes through. No program in sight.
-/
import Derived.Test.YtaedbnbeelkkcaaDoorAa
namespace Go.Proofs.YtaedbnbeelkkcaaDoor.slv
/-- heap and places agree -/
structure Hp (V : Nat) (hp : List Nat) (pl : List Int) : Prop where
  len : pl.length = V + 1
  at_ : ∀ (i v : Nat), hp[i]? = some v → 1 ≤ v ∧ v ≤ V ∧ pl[v]? = some (i : Int)
  of_ : ∀ (v : Nat) (p : Int), 1 ≤ v → pl[v]? = some p → p = -1 ∨ ∃ i : Nat, p = (i : Int) ∧ hp[i]? = some v
section
variable {V : Nat} {hp : List Nat} {pl : List Int}
theorem Hp.inj (h : Hp V hp pl) {i j v : Nat} (hi : hp[i]? = some v) (hj : hp[j]? = some v) : i = j := by
  have h1 := (h.at_ i v hi).2.2
  have h2 := (h.at_ j v hj).2.2
  rw [h1] at h2
  injection h2 with h2
  omega
theorem lt_of_at {α : Type} {l : List α} {i : Nat} {x : α} (h : l[i]? = some x) : i < l.length := (List.getElem?_eq_some_iff.1 h).1
theorem at_set {α : Type} {l : List α} {i j : Nat} {x : α} (hi : i < l.length) : (l.set i x)[j]? = if j = i then some x else l[j]? := by
  rw [List.getElem?_set]
  by_cases e : j = i
  · subst e; simp [hi]
  · rw [if_neg (fun e' => e e'.symm), if_neg e]
theorem Hp.swap (h : Hp V hp pl) {i j v u : Nat} (hi : hp[i]? = some v) (hj : hp[j]? = some u) : Hp V ((hp.set i u).set j v) ((pl.set u (i : Int)).set v (j : Int)) := by
  have li := lt_of_at hi
  have lj := lt_of_at hj
  obtain ⟨v1, v2, v3⟩ := h.at_ i v hi
  obtain ⟨u1, u2, u3⟩ := h.at_ j u hj
  have lv := lt_of_at v3
  have lu := lt_of_at u3
  have hhp : ∀ k, ((hp.set i u).set j v)[k]? = if k = j then some v else if k = i then some u else hp[k]? := fun k => by
    rw [at_set (by rw [List.length_set]; exact lj), at_set li]
  have hpl : ∀ k, ((pl.set u (i : Int)).set v (j : Int))[k]? = if k = v then some (j : Int) else if k = u then some (i : Int) else pl[k]? := fun k => by
    rw [at_set (by rw [List.length_set]; exact lv), at_set lu]
  refine ⟨by rw [List.length_set, List.length_set]; exact h.len, fun k x hx => ?_, fun x p hx1 hx => ?_⟩
  · rw [hhp] at hx
    rw [hpl]
    by_cases k1 : k = j
    · rw [if_pos k1] at hx
      injection hx with hx
      subst hx; subst k1
      exact ⟨v1, v2, by rw [if_pos rfl]⟩
    · rw [if_neg k1] at hx
      by_cases k2 : k = i
      · rw [if_pos k2] at hx
        injection hx with hx
        subst hx; subst k2
        refine ⟨u1, u2, ?_⟩
        rw [if_neg (fun e => ?_), if_pos rfl]
        subst e
        exact k1 (h.inj hi hj)
      · rw [if_neg k2] at hx
        obtain ⟨x1, x2, x3⟩ := h.at_ k x hx
        refine ⟨x1, x2, ?_⟩
        rw [if_neg (fun e => ?_), if_neg (fun e => ?_)]
        · exact x3
        · subst e; exact k1 (h.inj hx hj)
        · subst e; exact k2 (h.inj hx hi)
  · rw [hpl] at hx
    by_cases k1 : x = v
    · rw [if_pos k1] at hx
      injection hx with hx
      subst hx; subst k1
      exact .inr ⟨j, rfl, by rw [hhp, if_pos rfl]⟩
    · rw [if_neg k1] at hx
      by_cases k2 : x = u
      · rw [if_pos k2] at hx
        injection hx with hx
        subst hx; subst k2
        refine .inr ⟨i, rfl, ?_⟩
        rw [hhp]
        by_cases e : i = j
        · subst e
          rw [hi] at hj
          injection hj with hj
          exact absurd hj.symm k1
        · rw [if_neg e, if_pos rfl]
      · rw [if_neg k2] at hx
        rcases h.of_ x p hx1 hx with e | ⟨k, rfl, hk⟩
        · exact .inl e
        · refine .inr ⟨k, rfl, ?_⟩
          rw [hhp, if_neg (fun e => ?_), if_neg (fun e => ?_)]
          · exact hk
          · subst e; rw [hi] at hk; injection hk with hk; exact k1 hk.symm
          · subst e; rw [hj] at hk; injection hk with hk; exact k2 hk.symm
theorem swap_perm {l : List Nat} {i j v u : Nat} (hi : l[i]? = some v) (hj : l[j]? = some u) : ((l.set i u).set j v).Perm l := by
  obtain ⟨l1, e1⟩ := List.getElem?_eq_some_iff.1 hi
  obtain ⟨l2, e2⟩ := List.getElem?_eq_some_iff.1 hj
  subst e1; subst e2
  exact List.set_set_perm l1 l2
/-- the hole has moved from i to j -/
theorem hole_move {i j v u : Nat} (h : Hp V (hp.set i v) (pl.set v (i : Int))) (hi : i < hp.length) (hv : v < pl.length) (hj : hp[j]? = some u) (hne : j ≠ i) :
    Hp V ((hp.set i u).set j v) ((pl.set u (i : Int)).set v (j : Int)) ∧ ((hp.set i u).set j v).Perm (hp.set i v) ∧ u ≤ V ∧ 1 ≤ u := by
  have h1 : (hp.set i v)[i]? = some v := by rw [at_set hi, if_pos rfl]
  have h2 : (hp.set i v)[j]? = some u := by rw [at_set hi, if_neg hne]; exact hj
  have hs := h.swap h1 h2
  have hp' := swap_perm h1 h2
  rw [List.set_set] at hs hp'
  refine ⟨?_, hp', (h.at_ j u h2).2.1, (h.at_ j u h2).1⟩
  have hne2 : u ≠ v := fun e => by subst e; exact hne (h.inj h2 h1)
  rw [List.set_comm _ _ (fun e => hne2 e.symm), List.set_set] at hs
  exact hs
theorem at_lt {α : Type} {l : List α} {i : Nat} (h : i < l.length) : ∃ x, l[i]? = some x := ⟨_, List.getElem?_eq_getElem h⟩
theorem upL_ok {v : Nat} : ∀ {f i : Nat} {s : SS}, i < f → Hp V (s.hp.set i v) (s.pl.set v (i : Int)) → i < s.hp.length → v < s.pl.length → s.sc.length = V + 1 → v ≤ V →
    ∃ hp' pl', upL v f i s = some { s with hp := hp', pl := pl' } ∧ Hp V hp' pl' ∧ hp'.Perm (s.hp.set i v)
  | 0, _, _, h, _, _, _, _, _ => absurd h (Nat.not_lt_zero _)
  | f + 1, i, s, hf, h, hi, hv, hsc, hvV => by
    unfold upL
    by_cases h0 : i = 0
    · rw [if_pos h0]
      exact ⟨_, _, rfl, h, List.Perm.refl _⟩
    · rw [if_neg h0]
      obtain ⟨u, hu⟩ := at_lt (l := s.hp) (i := (i - 1) / 2) (by omega)
      obtain ⟨hm, hpm, hu2, _⟩ := hole_move h hi hv hu (by omega)
      obtain ⟨a, ha⟩ := at_lt (l := s.sc) (i := u) (by omega)
      obtain ⟨b, hb⟩ := at_lt (l := s.sc) (i := v) (by omega)
      rw [hu]
      dsimp only
      rw [ha, hb]
      dsimp only
      cases flt a b with
      | false => exact ⟨_, _, rfl, h, List.Perm.refl _⟩
      | true =>
        obtain ⟨hp', pl', e, hh, hp2⟩ := upL_ok (f := f) (i := (i - 1) / 2) (s := stopH s i u) (by omega) (by show Hp V ((s.hp.set i u).set _ v) ((s.pl.set u _).set v _); exact hm)
          (by show _ < (s.hp.set i u).length; rw [List.length_set]; omega) (by show v < (s.pl.set u _).length; rw [List.length_set]; exact hv) hsc hvV
        refine ⟨hp', pl', ?_, hh, hp2.trans ?_⟩
        · simp only [if_true]
          rw [e]
          rfl
        · exact hpm
theorem upM_ok {i : Nat} {s : SS} (h : Hp V s.hp s.pl) (hi : i < s.hp.length) (hsc : s.sc.length = V + 1) :
    ∃ hp' pl', upM V s i = some { s with hp := hp', pl := pl' } ∧ Hp V hp' pl' ∧ hp'.Perm s.hp := by
  obtain ⟨v, hv⟩ := at_lt hi
  obtain ⟨v1, v2, v3⟩ := h.at_ i v hv
  unfold upM
  rw [hv]
  dsimp only
  rw [if_pos v2]
  have e1 : s.hp.set i v = s.hp := by
    obtain ⟨l, e⟩ := List.getElem?_eq_some_iff.1 hv
    subst e; exact List.set_getElem_self l
  have e2 : s.pl.set v (i : Int) = s.pl := by
    obtain ⟨l, e⟩ := List.getElem?_eq_some_iff.1 v3
    rw [← e]; exact List.set_getElem_self l
  have := upL_ok (f := i + 1) (i := i) (s := s) (v := v) (by omega) (by rw [e1, e2]; exact h) hi (lt_of_at v3) hsc v2
  rw [e1] at this
  exact this
theorem kidM_ok {i v : Nat} {s : SS} (h : Hp V (s.hp.set i v) (s.pl.set v (i : Int))) (hi : i < s.hp.length) (hsc : s.sc.length = V + 1) (hk : 2 * i + 1 < s.hp.length) :
    ∃ k, kidM s i = some k ∧ k < s.hp.length ∧ i < k ∧ k ≤ 2 * i + 2 := by
  unfold kidM
  by_cases h2 : 2 * i + 2 < s.hp.length
  · rw [if_pos h2]
    obtain ⟨u1, hu1⟩ := at_lt h2
    obtain ⟨u0, hu0⟩ := at_lt hk
    have b1 := (h.at_ (2 * i + 2) u1 (by rw [at_set hi, if_neg (by omega)]; exact hu1)).2.1
    have b0 := (h.at_ (2 * i + 1) u0 (by rw [at_set hi, if_neg (by omega)]; exact hu0)).2.1
    obtain ⟨a1, ha1⟩ := at_lt (l := s.sc) (i := u1) (by omega)
    obtain ⟨a0, ha0⟩ := at_lt (l := s.sc) (i := u0) (by omega)
    rw [hu1, hu0]
    dsimp only
    rw [ha1, ha0]
    dsimp only
    refine ⟨_, rfl, ?_⟩
    split <;> omega
  · rw [if_neg h2]
    exact ⟨_, rfl, hk, by omega, by omega⟩
theorem downL_ok {v : Nat} : ∀ {f i : Nat} {s : SS}, s.hp.length < f + i → Hp V (s.hp.set i v) (s.pl.set v (i : Int)) → i < s.hp.length → v < s.pl.length → s.sc.length = V + 1 → v ≤ V →
    ∃ hp' pl', downL v f i s = some { s with hp := hp', pl := pl' } ∧ Hp V hp' pl' ∧ hp'.Perm (s.hp.set i v)
  | 0, _, _, hf, _, hi, _, _, _ => absurd hi (by omega)
  | f + 1, i, s, hf, h, hi, hv, hsc, hvV => by
    unfold downL
    by_cases h0 : 2 * i + 1 < s.hp.length
    · rw [if_pos h0]
      obtain ⟨k, ek, hk, hik, _⟩ := kidM_ok h hi hsc h0
      rw [ek]
      dsimp only
      obtain ⟨u, hu⟩ := at_lt hk
      obtain ⟨hm, hpm, hu2, _⟩ := hole_move h hi hv hu (by omega)
      obtain ⟨a, ha⟩ := at_lt (l := s.sc) (i := u) (by omega)
      obtain ⟨b, hb⟩ := at_lt (l := s.sc) (i := v) (by omega)
      rw [hu]
      dsimp only
      rw [ha, hb]
      dsimp only
      cases fle a b with
      | true => exact ⟨_, _, rfl, h, List.Perm.refl _⟩
      | false =>
        obtain ⟨hp', pl', e, hh, hp2⟩ := downL_ok (f := f) (i := k) (s := stopH s i u) (by show (s.hp.set i u).length < _; rw [List.length_set]; omega) (by show Hp V ((s.hp.set i u).set _ v) ((s.pl.set u _).set v _); exact hm)
          (by show _ < (s.hp.set i u).length; rw [List.length_set]; omega) (by show v < (s.pl.set u _).length; rw [List.length_set]; exact hv) hsc hvV
        refine ⟨hp', pl', ?_, hh, hp2.trans ?_⟩
        · simp only [Bool.false_eq_true, if_false]
          rw [e]
          rfl
        · exact hpm
    · rw [if_neg h0]
      exact ⟨_, _, rfl, h, List.Perm.refl _⟩
theorem setSelf {α : Type} {l : List α} {i : Nat} {x : α} (h : l[i]? = some x) : l.set i x = l := by
  obtain ⟨l1, e⟩ := List.getElem?_eq_some_iff.1 h
  subst e; exact List.set_getElem_self l1
theorem downM_ok {s : SS} (h : Hp V s.hp s.pl) (hi : 0 < s.hp.length) (hsc : s.sc.length = V + 1) :
    ∃ hp' pl', downM V s = some { s with hp := hp', pl := pl' } ∧ Hp V hp' pl' ∧ hp'.Perm s.hp := by
  obtain ⟨v, hv⟩ := at_lt hi
  obtain ⟨v1, v2, v3⟩ := h.at_ 0 v hv
  unfold downM
  rw [hv]
  dsimp only
  rw [if_pos v2]
  have e1 : s.hp.set 0 v = s.hp := setSelf hv
  have e2 : s.pl.set v ((0 : Nat) : Int) = s.pl := setSelf v3
  have := downL_ok (f := s.hp.length + 1) (i := 0) (s := s) (v := v) (by omega) (by rw [e1, e2]; exact h) hi (lt_of_at v3) hsc v2
  rw [e1] at this
  exact this
/-- the last goes -/
theorem Hp.pop (h : Hp V hp pl) {v n : Nat} (hn : hp.length = n + 1) (hv : hp[n]? = some v) : Hp V (hp.take n) (pl.set v (-1)) := by
  obtain ⟨v1, v2, v3⟩ := h.at_ n v hv
  have lv := lt_of_at v3
  refine ⟨by rw [List.length_set]; exact h.len, fun k x hx => ?_, fun x p hx1 hx => ?_⟩
  · have hk : k < n := by have := lt_of_at hx; rw [List.length_take] at this; omega
    rw [List.getElem?_take, if_pos hk] at hx
    obtain ⟨x1, x2, x3⟩ := h.at_ k x hx
    refine ⟨x1, x2, ?_⟩
    rw [at_set lv, if_neg (fun e => ?_)]
    · exact x3
    · subst e; have := h.inj hx hv; omega
  · rw [at_set lv] at hx
    by_cases e : x = v
    · rw [if_pos e] at hx; injection hx with hx; exact .inl hx.symm
    · rw [if_neg e] at hx
      rcases h.of_ x p hx1 hx with e2 | ⟨k, rfl, hk⟩
      · exact .inl e2
      · refine .inr ⟨k, rfl, ?_⟩
        have hkn : k < n := by
          have := lt_of_at hk
          by_cases e3 : k = n
          · subst e3; rw [hv] at hk; injection hk with hk; exact absurd hk.symm e
          · omega
        rw [List.getElem?_take, if_pos hkn]
        exact hk
theorem perm_last {l : List Nat} {v n : Nat} (hn : l.length = n + 1) (hv : l[n]? = some v) : (v :: l.take n).Perm l := by
  have e : l = l.take n ++ [v] := by
    have h1 := List.take_append_drop n l
    obtain ⟨l1, e⟩ := List.getElem?_eq_some_iff.1 hv
    rw [List.drop_eq_getElem_cons l1, e, List.drop_eq_nil_of_le (by omega)] at h1
    exact h1.symm
  have h2 := (List.perm_append_singleton v (l.take n)).symm
  rw [← e] at h2
  exact h2
theorem popM_ok {s : SS} (h : Hp V s.hp s.pl) (hi : 0 < s.hp.length) (hsc : s.sc.length = V + 1) :
    ∃ v hp' pl', popM V s = some (v, { s with hp := hp', pl := pl' }) ∧ Hp V hp' pl' ∧ (v :: hp').Perm s.hp ∧ 1 ≤ v ∧ v ≤ V := by
  obtain ⟨v, hv⟩ := at_lt hi
  obtain ⟨v1, v2, v3⟩ := h.at_ 0 v hv
  obtain ⟨n, hn⟩ : ∃ n, s.hp.length = n + 1 := ⟨s.hp.length - 1, by omega⟩
  obtain ⟨l, hl⟩ := at_lt (l := s.hp) (i := n) (by omega)
  obtain ⟨l1, l2, l3⟩ := h.at_ n l hl
  unfold popM
  rw [hv, hn, Nat.add_sub_cancel, hl]
  dsimp only
  rw [if_pos ⟨v2, l2⟩]
  by_cases h0 : n = 0
  · subst h0
    rw [if_pos rfl]
    exact ⟨v, _, _, rfl, h.pop hn hv, perm_last hn hv, v1, v2⟩
  · rw [if_neg h0]
    have hne : v ≠ l := fun e => by subst e; exact h0 (h.inj hl hv)
    have hs := h.swap hv hl
    have hsp := swap_perm hv hl
    have hlen : ((s.hp.set 0 l).set n v).length = n + 1 := by rw [List.length_set, List.length_set, hn]
    have hat : ((s.hp.set 0 l).set n v)[n]? = some v := by rw [at_set (by rw [List.length_set]; omega), if_pos rfl]
    have hd := hs.pop hlen hat
    have hdp := (perm_last hlen hat).trans hsp
    have e1 : ((s.hp.set 0 l).set n v).take n = (s.hp.take n).set 0 l := by
      rw [List.take_set_of_le (Nat.le_refl n), List.take_set]
    have e2 : ((s.pl.set l ((0 : Nat) : Int)).set v (n : Int)).set v (-1) = (s.pl.set v (-1)).set l ((0 : Nat) : Int) := by
      rw [List.set_set, List.set_comm _ _ (fun e => hne e.symm)]
    rw [e1, e2] at hd
    rw [e1] at hdp
    obtain ⟨hp', pl', e, hh, hp2⟩ := downM_ok (s := stopH { s with hp := s.hp.take n, pl := s.pl.set v (-1) } 0 l) hd (by show 0 < ((s.hp.take n).set 0 l).length; rw [List.length_set, List.length_take]; omega) hsc
    rw [e]
    exact ⟨v, hp', pl', rfl, hh, (List.Perm.cons v hp2).trans hdp, v1, v2⟩
/-- one more comes in, at the end -/
theorem Hp.push (h : Hp V hp pl) {v : Nat} (v1 : 1 ≤ v) (v2 : v ≤ V) (hv : v ∉ hp) : Hp V (hp ++ [v]) (pl.set v (hp.length : Int)) := by
  have lv : v < pl.length := by rw [h.len]; omega
  refine ⟨by rw [List.length_set]; exact h.len, fun k x hx => ?_, fun x p hx1 hx => ?_⟩
  · by_cases hk : k < hp.length
    · rw [List.getElem?_append_left hk] at hx
      obtain ⟨x1, x2, x3⟩ := h.at_ k x hx
      refine ⟨x1, x2, ?_⟩
      rw [at_set lv, if_neg (fun e => ?_)]
      · exact x3
      · subst e; exact hv (List.mem_of_getElem? hx)
    · have hk2 : k = hp.length := by have := lt_of_at hx; simp at this; omega
      subst hk2
      rw [List.getElem?_append_right (Nat.le_refl _), Nat.sub_self] at hx
      injection hx with hx
      subst hx
      exact ⟨v1, v2, by rw [at_set lv, if_pos rfl]⟩
  · rw [at_set lv] at hx
    by_cases e : x = v
    · rw [if_pos e] at hx
      injection hx with hx
      subst hx; subst e
      exact .inr ⟨hp.length, rfl, by simp⟩
    · rw [if_neg e] at hx
      rcases h.of_ x p hx1 hx with e2 | ⟨k, rfl, hk⟩
      · exact .inl e2
      · exact .inr ⟨k, rfl, by rw [List.getElem?_append_left (lt_of_at hk)]; exact hk⟩
theorem Hp.place (h : Hp V hp pl) {v : Nat} {p : Int} (v1 : 1 ≤ v) (hv : pl[v]? = some p) : (p < 0 ↔ v ∉ hp) := by
  constructor
  · intro hp0 hm
    obtain ⟨i, hi, e⟩ := List.getElem_of_mem hm
    have := (h.at_ i v (by rw [List.getElem?_eq_getElem hi, e])).2.2
    rw [hv] at this
    injection this with this
    omega
  · intro hm
    rcases h.of_ v p v1 hv with e | ⟨i, _, hi⟩
    · omega
    · exact absurd (List.mem_of_getElem? hi) hm
theorem Hp.nodup (h : Hp V hp pl) : hp.Nodup := by
  rw [List.nodup_iff_pairwise_ne, List.pairwise_iff_getElem]
  intro i j hi hj hij e
  have := h.inj (i := i) (j := j) (v := hp[i]) (List.getElem?_eq_getElem hi) (by rw [e]; exact List.getElem?_eq_getElem hj)
  omega
end
end Go.Proofs.YtaedbnbeelkkcaaDoor.slv
namespace Go.Proofs.YtaedbnbeelkkcaaDoor.slv
open Ieee
/-- neither negative nor a NaN -/
def Fin0 (a : Nat) : Prop := a ≤ double.infRung
theorem read_fin {a : Nat} (h : Fin0 a) : (∃ m i, double.read a = .number false m i) ∨ double.read a = .infinity false := by
  have h1 : double.infRung < double.signWeight := by decide
  have h0 : a < double.signWeight := Nat.lt_of_le_of_lt h h1
  have e1 : a / double.signWeight = 0 := Nat.div_eq_of_lt h0
  have e2 : a % double.signWeight = a := Nat.mod_eq_of_lt h0
  unfold Format.read
  rw [e1, e2]
  dsimp only
  by_cases c1 : a < double.binade
  · rw [if_pos c1]; exact .inl ⟨_, _, rfl⟩
  · rw [if_neg c1]
    by_cases c2 : a < double.infRung
    · rw [if_pos c2]; exact .inl ⟨_, _, rfl⟩
    · rw [if_neg c2, if_pos (Nat.le_antisymm h (Nat.le_of_not_lt c2))]; exact .inr rfl
theorem nearest_le (f : Format) (m : Nat) (i : Int) : f.nearest false m i ≤ f.infRung := by
  unfold Format.nearest Format.word
  by_cases h : m = 0
  · rw [if_pos h, if_neg (by decide)]; exact Nat.zero_le _
  · rw [if_neg h, if_neg (by decide)]
    exact Nat.min_le_right _ _
theorem inf_le (f : Format) : f.write (.infinity false) ≤ f.infRung := by
  unfold Format.write Format.word
  dsimp only
  rw [if_neg (by decide)]
  exact Nat.le_refl _
theorem write_num (m : Nat) (i : Int) : Fin0 (double.write (.number false m i)) := nearest_le double m i
theorem write_inf : Fin0 (double.write (.infinity false)) := inf_le double
theorem sum_num (m n : Nat) (i j : Int) : ∃ k b, (Datum.number false m i).sum (.number false n j) = some (.number false k b) := by
  have e : ∀ (total : Int), 0 ≤ total → (if total = 0 then (false && false) else decide (total < 0)) = false := fun t ht => by
    by_cases h : t = 0
    · rw [if_pos h]; rfl
    · rw [if_neg h]; exact decide_eq_false (by omega)
  unfold Datum.sum
  dsimp only
  rw [e _ (by unfold signed; rw [if_neg (by decide), if_neg (by decide)]; exact Int.add_nonneg (Int.natCast_nonneg _) (Int.natCast_nonneg _))]
  exact ⟨_, _, rfl⟩
theorem fadd_ok {a b : Nat} (ha : Fin0 a) (hb : Fin0 b) : ∃ c, fadd a b = some c ∧ Fin0 c := by
  unfold fadd Format.add
  rcases read_fin ha with ⟨m, i, e1⟩ | e1 <;> rcases read_fin hb with ⟨n, j, e2⟩ | e2 <;> rw [e1, e2]
  · obtain ⟨k, q, e⟩ := sum_num m n i j
    rw [e]
    exact ⟨_, rfl, write_num _ _⟩
  · exact ⟨_, rfl, write_inf⟩
  · exact ⟨_, rfl, write_inf⟩
  · exact ⟨_, rfl, write_inf⟩
theorem fmul_ok {a b m : Nat} {i : Int} (ha : Fin0 a) (hb : double.read b = .number false m i) (hm : m ≠ 0) : ∃ c, fmul a b = some c ∧ Fin0 c := by
  unfold fmul Format.mul
  rcases read_fin ha with ⟨n, j, e1⟩ | e1 <;> rw [e1, hb]
  · exact ⟨_, rfl, write_num _ _⟩
  · unfold Datum.product
    dsimp only
    rw [if_neg hm]
    exact ⟨_, rfl, write_inf⟩
theorem tiny_ok {a : Nat} (ha : Fin0 a) : ∃ c, fmul a fTiny = some c ∧ Fin0 c := fmul_ok ha (b := fTiny) (by rfl) (by decide)
theorem grow_ok {a : Nat} (ha : Fin0 a) : ∃ c, fmul a fGrow = some c ∧ Fin0 c := fmul_ok ha (b := fGrow) (by rfl) (by decide)
theorem mulAll_ok : ∀ {l : List Nat}, (∀ a ∈ l, Fin0 a) → ∃ l', mulAll fTiny l = some l' ∧ (∀ a ∈ l', Fin0 a) ∧ l'.length = l.length
  | [], _ => ⟨[], rfl, fun _ h => (by cases h), rfl⟩
  | a :: r, h => by
    obtain ⟨c, ec, hc⟩ := tiny_ok (h a List.mem_cons_self)
    obtain ⟨r', er, hr, hl⟩ := mulAll_ok (l := r) fun x hx => h x (List.mem_cons_of_mem _ hx)
    unfold mulAll
    rw [ec, er]
    refine ⟨_, rfl, fun x hx => ?_, by simp [hl]⟩
    rcases List.mem_cons.1 hx with rfl | hx
    · exact hc
    · exact hr x hx
theorem mem_set_or {α : Type} {l : List α} {i : Nat} {x y : α} (h : y ∈ l.set i x) : y ∈ l ∨ y = x := List.mem_or_eq_of_mem_set h
/-- scores are sums of what they were -/
structure Sc (V : Nat) (sc : List Nat) (gr : Nat) : Prop where
  len : sc.length = V + 1
  fin : ∀ a ∈ sc, Fin0 a
  gr : Fin0 gr
theorem bumpF_ok {V : Nat} {sc : List Nat} {gr v : Nat} (h : Sc V sc gr) (hv : v ≤ V) : ∃ sc' gr', bumpF sc gr v = some (sc', gr') ∧ Sc V sc' gr' := by
  have hl := h.len
  obtain ⟨a, ha⟩ := at_lt (l := sc) (i := v) (by omega)
  obtain ⟨b, eb, hb⟩ := fadd_ok (h.fin a (List.mem_of_getElem? ha)) h.gr
  have hs : ∀ x ∈ sc.set v b, Fin0 x := fun x hx => by
    rcases mem_set_or hx with e | e
    · exact h.fin x e
    · subst e; exact hb
  unfold bumpF
  rw [ha]
  dsimp only
  rw [eb]
  dsimp only
  by_cases hg : fgt b fBig = true
  · rw [if_pos hg]
    obtain ⟨l', el, hl1, hl2⟩ := mulAll_ok hs
    obtain ⟨g, eg, hg1⟩ := tiny_ok h.gr
    rw [el, eg]
    exact ⟨_, _, rfl, by rw [hl2, List.length_set]; exact hl, hl1, hg1⟩
  · rw [if_neg hg]
    exact ⟨_, _, rfl, by rw [List.length_set]; exact hl, hs, h.gr⟩
theorem bumpM_ok {V v : Nat} {s : SS} (h : Hp V s.hp s.pl) (hs : Sc V s.sc s.gr) (v1 : 1 ≤ v) (v2 : v ≤ V) :
    ∃ sc' gr' hp' pl', bumpM V s v = some { s with sc := sc', gr := gr', hp := hp', pl := pl' } ∧ Hp V hp' pl' ∧ hp'.Perm s.hp ∧ Sc V sc' gr' := by
  obtain ⟨sc', gr', e, hsc⟩ := bumpF_ok hs v2
  have hpl := h.len
  obtain ⟨p, hp⟩ := at_lt (l := s.pl) (i := v) (by omega)
  unfold bumpM
  rw [e]
  dsimp only
  rw [hp]
  dsimp only
  by_cases h0 : 0 ≤ p
  · rw [if_pos h0]
    rcases h.of_ v p v1 hp with e2 | ⟨i, e2, hi⟩
    · omega
    · subst e2
      obtain ⟨hp', pl', e3, h3, h4⟩ := upM_ok (s := { s with sc := sc', gr := gr' }) h (i := (i : Int).toNat) (by show _ < s.hp.length; have := lt_of_at hi; omega) hsc.len
      rw [e3]
      exact ⟨sc', gr', hp', pl', rfl, h3, h4, hsc⟩
  · rw [if_neg h0]
    exact ⟨sc', gr', s.hp, s.pl, rfl, h, List.Perm.refl _, hsc⟩
end Go.Proofs.YtaedbnbeelkkcaaDoor.slv
