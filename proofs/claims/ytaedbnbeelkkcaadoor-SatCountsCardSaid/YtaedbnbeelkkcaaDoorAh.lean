/-
  PLAIN: the solver goes back, decides, and what follows a conflict. No program in sight.
  PLAIN: the solver's search goes through: an answer yes has values of all variables that all clauses hold by, an answer no a proof; every learned clause follows by units, and none of them was there. No program in sight.
-/
import Derived.Test.YtaedbnbeelkkcaaDoorAf
namespace Go.Proofs.YtaedbnbeelkkcaaDoor.slv
section
variable {V : Nat} {G : List (List Int)} {s : SS}
theorem Hp.le {hp : List Nat} {pl : List Int} (h : Hp V hp pl) : hp.length ≤ V := by
  have h2 : hp ⊆ (List.range V).map (· + 1) := fun v hv => by
    obtain ⟨i, hi, e⟩ := List.getElem_of_mem hv
    obtain ⟨h1, h2, _⟩ := h.at_ i v (by rw [List.getElem?_eq_getElem hi, e])
    exact List.mem_map.2 ⟨v - 1, List.mem_range.2 (by omega), by omega⟩
  have := h.nodup.length_le_of_subset h2
  simpa using this
theorem va_at {vs : List Int} {v : Nat} {x : Int} (h : vs[v]? = some x) : va vs v = x := by
  unfold va; rw [List.getD_eq_getElem?_getD, h]; rfl
theorem lv_zero {A : Nat → Int} {n : Int} : lv A n = 0 ↔ A n.natAbs = 0 := by
  unfold lv; split <;> omega
theorem wi_snoc {xs : List (List Int)} {F T x : List Int} (h : Wi xs F T) (hx : ∀ a b r, x = a :: b :: r → (-a ∈ F → b ∈ T) ∧ (-b ∈ F → a ∈ T)) : Wi (xs ++ [x]) F T := fun j a b r hj => by
  rcases snoc_cases hj with e | ⟨_, e⟩
  · exact h j a b r e
  · exact hx a b r e.symm
/-- some numbers are taken back -/
theorem backL_ok (hV : V ≤ 400000) (hsc : s.sc.length = V + 1) : ∀ {r pre : List Int} {vs : List Int} {hp : List Nat} {pl : List Int}, Tv V vs (pre ++ r) → Hp V hp pl → (∀ v, 1 ≤ v → v ≤ V → va vs v = 0 → v ∈ hp) →
    ∃ vs' hp' pl', backL V r { s with vs := vs, hp := hp, pl := pl } = some { s with vs := vs', hp := hp', pl := pl' } ∧ Tv V vs' pre ∧ Hp V hp' pl' ∧ ∀ v, 1 ≤ v → v ≤ V → va vs' v = 0 → v ∈ hp'
  | [], pre, vs, hp, pl, hv, hh, hi => ⟨vs, hp, pl, rfl, by rwa [List.append_nil] at hv, hh, hi⟩
  | n :: r, pre, vs, hp, pl, hv, hh, hi => by
    have hn := (hv.trv n (List.mem_append_right _ List.mem_cons_self)).1
    have hn0 := hn.1
    have hnV := hn.2
    obtain ⟨x, hx⟩ := at_lt (l := vs) (i := n.natAbs) (by rw [hv.len]; omega)
    obtain ⟨p, hp1⟩ := at_lt (l := pl) (i := n.natAbs) (by rw [hh.len]; omega)
    unfold backL
    dsimp only
    rw [hx, hp1]
    dsimp only
    have hz : ∀ v, va (vs.set n.natAbs 0) v = if v = n.natAbs then 0 else va vs v := fun v => va_set (by rw [hv.len]; omega)
    have hpl := hh.place (v := n.natAbs) (by omega) hp1
    by_cases hp0 : p < 0
    · rw [if_pos hp0, if_pos (by have := hh.le; omega)]
      have hnot := hpl.1 hp0
      have hpush := hh.push (v := n.natAbs) (by omega) hnV hnot
      obtain ⟨hp', pl', e, h1, h2⟩ := upM_ok (s := { s with vs := vs.set n.natAbs 0, hp := hp ++ [n.natAbs], pl := pl.set n.natAbs (hp.length : Int) }) hpush (i := hp.length) (by simp) hsc
      rw [e]
      dsimp only
      exact backL_ok hV hsc (pre := pre) (r := r) (vs := vs.set n.natAbs 0) (hp := hp') (pl := pl') hv.unset h1 fun v v1 v2 v3 => by
        rw [h2.mem_iff]
        rw [hz] at v3
        by_cases c : v = n.natAbs
        · subst c; exact List.mem_append_right _ (List.mem_singleton.2 rfl)
        · rw [if_neg c] at v3; exact List.mem_append_left _ (hi v v1 v2 v3)
    · rw [if_neg hp0]
      exact backL_ok hV hsc (pre := pre) (r := r) (vs := vs.set n.natAbs 0) (hp := hp) (pl := pl) hv.unset hh fun v v1 v2 v3 => by
        rw [hz] at v3
        by_cases c : v = n.natAbs
        · subst c
          by_cases hm : n.natAbs ∈ hp
          · exact hm
          · exact absurd (hpl.2 hm) hp0
        · rw [if_neg c] at v3; exact hi v v1 v2 v3
/-- all is spread -/
def Done (s : SS) : Prop := s.hd = s.tr.length
/-- behind a way back -/
structure Bk (V : Nat) (G : List (List Int)) (s s' : SS) (l m : Nat) : Prop where
  full : Full V G s'
  done : Done s'
  tr : s'.tr = s.tr.take m
  lm : s'.lm = s.lm.take l
  xs : s'.xs = s.xs
  wt : s'.wt = s.wt
  pf : s'.pf = s.pf
  dead : s'.dead = s.dead
theorem backM_ok (hV : V ≤ 400000) (h : Inv V G s) (hw : Wt s.xs s.wt) {l m : Nat} (hm : s.lm[l]? = some m) : ∃ s', backM V s l = some s' ∧ Bk V G s s' l m := by
  have hl := lt_of_at hm
  have hmt := h.le.lt m (List.mem_of_getElem? hm)
  have hmm : m ∈ s.lm := List.mem_of_getElem? hm
  unfold backM
  rw [if_neg (by omega), hm]
  dsimp only
  rw [if_pos hmt]
  obtain ⟨vs', hp', pl', e, h1, h2, h3⟩ := backL_ok (s := s) hV h.sc.len (r := s.tr.drop m) (pre := s.tr.take m) (vs := s.vs) (hp := s.hp) (pl := s.pl) (by rw [List.take_append_drop]; exact h.tv) h.hp h.ih
  rw [show ({ s with vs := s.vs, hp := s.hp, pl := s.pl } : SS) = s from rfl] at e
  rw [e]
  dsimp only
  have hlt : ∀ m' ∈ s.lm.take l, m' < m := fun m' hm' => by
    obtain ⟨i, hi, e⟩ := List.getElem_of_mem hm'
    have h6 := take_at (List.getElem?_eq_getElem hi)
    rw [e] at h6
    exact h.le.asc i l m' m h6.1 h6.2 hm
  have htk : (s.tr.take m).length = m := by rw [List.length_take]; omega
  refine ⟨_, rfl, {
    full := ?_
    done := by show m = (s.tr.take m).length; rw [htk]
    tr := rfl, lm := rfl, xs := rfl, wt := rfl, pf := rfl, dead := rfl }⟩
  exact {
    inv := {
      tv := h1
      le := h.le.cut hm
      rs := h.rs.cut hm h.le.asc
      cl := h.cl
      hp := h2
      sc := h.sc
      ih := h3
      ph := h.ph
      cov := fun e d hd => by
        rcases h.cov e d hd with g | g | ⟨a, i, g1, g2, g3⟩
        · exact .inl g
        · exact .inr (.inl g)
        · exact .inr (.inr ⟨a, i, g1, take_of (g3 m hmm) g2, fun m' hm' => g3 m' (List.mem_of_mem_take hm')⟩)
      ded := h.ded
      bnd := fun m' hm' => ⟨Nat.le_of_lt (hlt m' hm'), by
        show Wi s.xs ((s.tr.take m).take m') ((s.tr.take m).take m')
        rw [List.take_take, Nat.min_eq_left (Nat.le_of_lt (hlt m' hm'))]
        exact (h.bnd m' (List.mem_of_mem_take hm')).2⟩ }
    wt := hw
    wi := by
      show Wi s.xs ((s.tr.take m).take m) (s.tr.take m)
      rw [List.take_take, Nat.min_self]
      exact (h.bnd m hmm).2
    hd := by show m ≤ (s.tr.take m).length; rw [htk]; exact Nat.le_refl _ }
theorem backM_none {l : Nat} (hl : s.lm.length ≤ l) : backM V s l = some s := by
  unfold backM; rw [if_pos hl]
/-! ### deciding -/
theorem Inv.setDec (h : Full V G s) (hd : Done s) {a : Int} (ha : Lit V a) (hz : lv (va s.vs) a = 0) {hp' : List Nat} {pl' : List Int} (hh : Hp V hp' pl') (hi : ∀ v, 1 ≤ v → v ≤ V → va s.vs v = 0 → v = a.natAbs ∨ v ∈ hp') :
    Full V G (setS { s with hp := hp', pl := pl', lm := s.lm ++ [s.tr.length] } a (-1)) := by
  have hf : ∀ t ∈ s.tr, t.natAbs ≠ a.natAbs := fun t ht => h.inv.tv.fresh ha hz ht
  have hhd : s.hd = s.tr.length := hd
  have hwt := h.wi
  rw [hhd, List.take_length] at hwt
  exact {
    inv := {
      tv := h.inv.tv.set_ ha hz
      le := by
        show Lev V (s.lv.set a.natAbs ((s.lm ++ [s.tr.length]).length : Nat)) (s.tr ++ [a]) (s.lm ++ [s.tr.length])
        rw [List.length_append, List.length_singleton]
        exact h.inv.le.dec ha.2 hf
      rs := h.inv.rs.dec hf ha.2
      cl := h.inv.cl
      hp := hh
      sc := h.inv.sc
      ih := fun v v1 v2 v3 => by
        rcases hi v v1 v2 (va_set_ne h.inv.tv.len ha v3) with e | e
        · exfalso
          rw [e] at v3
          have v4 : va (s.vs.set a.natAbs (sg a)) a.natAbs = 0 := v3
          rw [va_set (by rw [h.inv.tv.len]; have := ha.2; omega), if_pos rfl] at v4
          unfold sg at v4
          split at v4 <;> exact absurd v4 (by decide)
        · exact e
      ph := by show (s.ph.set _ _).length = _; rw [List.length_set]; exact h.inv.ph
      cov := fun e d hd2 => by
        rcases h.inv.cov e d hd2 with g | g | ⟨u, i, g1, g2, g3⟩
        · exact .inl g
        · exact .inr (.inl g)
        · refine .inr (.inr ⟨u, i, g1, snoc_left g2, fun m hm => ?_⟩)
          rcases List.mem_append.1 hm with e2 | e2
          · exact g3 m e2
          · rw [List.mem_singleton.1 e2]; exact lt_of_at g2
      ded := h.inv.ded
      bnd := fun m hm => by
        show m ≤ s.hd ∧ Wi s.xs ((s.tr ++ [a]).take m) ((s.tr ++ [a]).take m)
        rcases List.mem_append.1 hm with e2 | e2
        · rw [take_snoc (Nat.le_of_lt (h.inv.le.lt m e2))]
          exact h.inv.bnd m e2
        · rw [List.mem_singleton.1 e2, take_snoc (Nat.le_refl _), List.take_length]
          exact ⟨by rw [hhd]; exact Nat.le_refl _, hwt⟩ }
    wt := h.wt
    wi := by
      show Wi s.xs ((s.tr ++ [a]).take s.hd) (s.tr ++ [a])
      rw [hhd, take_snoc (Nat.le_refl _), List.take_length]
      exact hwt.mono fun x hx => List.mem_append_left _ hx
    hd := by show s.hd ≤ (s.tr ++ [a]).length; rw [List.length_append, hhd]; omega }
/-- what a decision comes to -/
structure DcE (V : Nat) (G : List (List Int)) (s : SS) (b : Bool) (s' : SS) : Prop where
  full : Full V G s'
  xs : s'.xs = s.xs
  pf : s'.pf = s.pf
  dead : s'.dead = s.dead
  yes : b = true → s'.lm.length = s.lm.length + 1
  no : b = false → s'.vs = s.vs ∧ s'.tr = s.tr ∧ Done s' ∧ s'.lm = s.lm ∧ ∀ v, 1 ≤ v → v ≤ V → va s.vs v ≠ 0
theorem decL_ok : ∀ {f : Nat} {s : SS}, s.hp.length < f → Full V G s → Done s → ∃ b s', decL V f s = some (b, s') ∧ DcE V G s b s'
  | 0, _, hf, _, _ => absurd hf (Nat.not_lt_zero _)
  | f + 1, s, hf, h, hd => by
    unfold decL
    by_cases h0 : s.hp.length = 0
    · rw [if_pos h0]
      refine ⟨_, _, rfl, h, rfl, rfl, rfl, fun e => (by cases e), fun _ => ⟨rfl, rfl, hd, rfl, fun v v1 v2 v3 => ?_⟩⟩
      have := h.inv.ih v v1 v2 v3
      rw [List.length_eq_zero_iff.1 h0] at this
      cases this
    · rw [if_neg h0]
      obtain ⟨v, hp', pl', e, h1, h2, v1, v2⟩ := popM_ok h.inv.hp (by omega) h.inv.sc.len
      rw [e]
      dsimp only
      obtain ⟨x, hx⟩ := at_lt (l := s.vs) (i := v) (by rw [h.inv.tv.len]; omega)
      rw [hx]
      dsimp only
      have hih : ∀ u, 1 ≤ u → u ≤ V → va s.vs u = 0 → u = v ∨ u ∈ hp' := fun u u1 u2 u3 => List.mem_cons.1 (h2.mem_iff.2 (h.inv.ih u u1 u2 u3))
      by_cases hx0 : x ≠ 0
      · rw [if_pos hx0]
        have hlen := h2.length_eq
        rw [List.length_cons] at hlen
        have hfull : Full V G { s with hp := hp', pl := pl' } := {
          inv := { tv := h.inv.tv, le := h.inv.le, rs := h.inv.rs, cl := h.inv.cl, hp := h1, sc := h.inv.sc
                   ih := fun u u1 u2 u3 => by
                     rcases hih u u1 u2 u3 with e | e
                     · subst e; exact absurd ((va_at hx).symm.trans u3) hx0
                     · exact e
                   ph := h.inv.ph, cov := h.inv.cov, ded := h.inv.ded, bnd := h.inv.bnd }
          wt := h.wt, wi := h.wi, hd := h.hd }
        obtain ⟨b, s', e2, g⟩ := decL_ok (f := f) (s := { s with hp := hp', pl := pl' }) (by show hp'.length < f; omega) hfull hd
        exact ⟨b, s', e2, g.full, g.xs, g.pf, g.dead, g.yes, g.no⟩
      · rw [if_neg hx0]
        have hx0' : x = 0 := by omega
        subst hx0'
        obtain ⟨b, hb⟩ := at_lt (l := s.ph) (i := v) (by rw [h.inv.ph]; omega)
        rw [hb]
        dsimp only
        have hlit : ∀ a : Int, (a = (v : Int) ∨ a = -(v : Int)) → Lit V a ∧ a.natAbs = v ∧ lv (va s.vs) a = 0 := fun a ha => by
          have hn : a.natAbs = v := by omega
          exact ⟨⟨by omega, by omega⟩, hn, by rw [lv_zero, hn]; exact va_at hx⟩
        obtain ⟨a, ha, hae⟩ : ∃ a, (if b = true then (v : Int) else -(v : Int)) = a ∧ (a = (v : Int) ∨ a = -(v : Int)) := by
          cases b with
          | true => exact ⟨_, if_pos rfl, .inl rfl⟩
          | false => exact ⟨_, if_neg (by decide), .inr rfl⟩
        rw [ha]
        obtain ⟨g1, g2, g3⟩ := hlit a hae
        have hlt := h.inv.tv.lt g1 g3
        have hll := h.inv.le.le
        rw [if_pos (by omega)]
        have hset : setM V { s with hp := hp', pl := pl', lm := s.lm ++ [s.tr.length] } a (-1) = some (setS { s with hp := hp', pl := pl', lm := s.lm ++ [s.tr.length] } a (-1)) := by
          unfold setM
          rw [if_pos ⟨by have := g1.1; omega, g1.2, h.inv.room.1, by show (s.lm ++ [s.tr.length]).length ≤ V; rw [List.length_append, List.length_singleton]; omega⟩]
        rw [hset]
        dsimp only
        refine ⟨_, _, rfl, ?_, rfl, rfl, rfl, fun _ => ?_, fun e => (by cases e)⟩
        · exact Inv.setDec h hd g1 g3 h1 fun u u1 u2 u3 => by rw [g2]; exact hih u u1 u2 u3
        · show (s.lm ++ [s.tr.length]).length = _
          rw [List.length_append, List.length_singleton]
theorem decideM_ok (h : Full V G s) (hd : Done s) : ∃ b s', decideM V s = some (b, s') ∧ DcE V G s b s' := decL_ok (Nat.lt_succ_self _) h hd
/-! ### behind a conflict -/
theorem Inv.mono {G' : List (List Int)} (h : Inv V G s) (hs : ∀ x ∈ G, x ∈ G') (hc : s.dead = false → ∀ d ∈ G', d ∈ G ∨ Cov s.xs s.tr s.lm d) : Inv V G' s :=
  { tv := h.tv, le := h.le, rs := h.rs.mono hs, cl := h.cl.mono hs, hp := h.hp, sc := h.sc, ih := h.ih, ph := h.ph
    cov := fun e d hd => by
      rcases hc e d hd with g | g
      · exact h.cov e d g
      · exact g
    ded := fun e => (h.ded e).mono hs
    bnd := h.bnd }
/-- set at level 0: alone in a clause -/
theorem Full.setUnit {c : List Int} (h : Full V G s) (hl : s.lm = []) {a : Int} (ha : Lit V a) (hz : lv (va s.vs) a = 0) (hc : ∀ y, y ∈ c ↔ y = a) : Full V (G ++ [c]) (setS s a (-1)) := by
  have hf : ∀ t ∈ s.tr, t.natAbs ≠ a.natAbs := fun t ht => h.inv.tv.fresh ha hz ht
  have hmem : ∀ x ∈ G, x ∈ G ++ [c] := fun x hx => List.mem_append_left _ hx
  have hcm : c ∈ G ++ [c] := List.mem_append_right _ (List.mem_singleton.2 rfl)
  exact {
    inv := {
      tv := h.inv.tv.set_ ha hz
      le := h.inv.le.set_ ha.2 hf
      rs := by
        show Rs V (G ++ [c]) s.xs (s.rs.set a.natAbs (-1)) (s.tr ++ [a]) s.lm
        have := h.inv.rs.mono hmem
        rw [hl] at this ⊢
        exact this.unit_ hf ha.2 ⟨c, hcm, hc⟩
      cl := h.inv.cl.mono hmem
      hp := h.inv.hp
      sc := h.inv.sc
      ih := fun v v1 v2 v3 => h.inv.ih v v1 v2 (va_set_ne h.inv.tv.len ha v3)
      ph := by show (s.ph.set _ _).length = _; rw [List.length_set]; exact h.inv.ph
      cov := fun e d hd => by
        rcases List.mem_append.1 hd with hd | hd
        · exact (h.inv.cov e d hd).more ⟨[a], rfl⟩
        · rw [List.mem_singleton.1 hd]
          exact .inr (.inr ⟨a, s.tr.length, (hc a).2 rfl, snoc_last, fun m hm => by rw [show (setS s a (-1)).lm = s.lm from rfl, hl] at hm; cases hm⟩)
      ded := fun e => (h.inv.ded e).mono hmem
      bnd := fun m hm => by rw [show (setS s a (-1)).lm = s.lm from rfl, hl] at hm; cases hm }
    wt := h.wt
    wi := by
      show Wi s.xs ((s.tr ++ [a]).take s.hd) (s.tr ++ [a])
      rw [take_snoc h.hd]
      exact h.wi.mono fun x hx => List.mem_append_left _ hx
    hd := by show s.hd ≤ (s.tr ++ [a]).length; rw [List.length_append]; have := h.hd; omega }
theorem attachM_do {a b : Int} {r : List Int} (h : Wt s.xs s.wt) (hx : s.xs.length < 4000000) (ha : Lit V a) (hb : Lit V b) (hne : a ≠ b) :
    attachM V s (a :: b :: r) = some { s with xs := s.xs ++ [a :: b :: r], wt := upd (upd s.wt (ix a) (s.wt (ix a) ++ [s.xs.length])) (ix b) (s.wt (ix b) ++ [s.xs.length]) } := by
  have hix : ix b ≠ ix a := fun e => hne (ix_inj e).symm
  have e1 : upd s.wt (ix a) (s.wt (ix a) ++ [s.xs.length]) (ix b) = s.wt (ix b) := upd_ne hix
  unfold attachM
  dsimp only
  rw [e1, if_pos ⟨ha.2, hb.2, hx, Nat.lt_of_le_of_lt (h.le _) hx, Nat.lt_of_le_of_lt (h.le _) hx⟩]
/-- one clause more -/
theorem Inv.attach {c : List Int} {a b : Int} {r : List Int} (h : Inv V G s) (hok : ClOk V (a :: b :: r)) (hs : SameC (a :: b :: r) c) (hb : ∀ m ∈ s.lm, -a ∉ s.tr.take m ∧ -b ∉ s.tr.take m) (wt' : Nat → List Nat) :
    Inv V (G ++ [c]) { s with xs := s.xs ++ [a :: b :: r], wt := wt' } := by
  have hmem : ∀ x ∈ G, x ∈ G ++ [c] := fun x hx => List.mem_append_left _ hx
  have hcm : c ∈ G ++ [c] := List.mem_append_right _ (List.mem_singleton.2 rfl)
  exact {
    tv := h.tv
    le := h.le
    rs := (h.rs.mono hmem).more fun k x hx => snoc_left hx
    cl := (h.cl.mono hmem).snoc hok ⟨c, hcm, hs⟩
    hp := h.hp
    sc := h.sc
    ih := h.ih
    ph := h.ph
    cov := fun e d hd => by
      rcases List.mem_append.1 hd with hd | hd
      · rcases h.cov e d hd with g | ⟨k, x, g1, g2⟩ | g
        · exact .inl g
        · exact .inr (.inl ⟨k, x, snoc_left g1, g2⟩)
        · exact .inr (.inr g)
      · rw [List.mem_singleton.1 hd]
        exact .inr (.inl ⟨s.xs.length, _, snoc_last, hs⟩)
    ded := fun e => (h.ded e).mono hmem
    bnd := fun m hm => ⟨(h.bnd m hm).1, wi_snoc (h.bnd m hm).2 fun a' b' r' e => by
      injection e with e1 e; injection e with e2 e3
      subst e1; subst e2
      exact ⟨fun hf => absurd hf (hb m hm).1, fun hf => absurd hf (hb m hm).2⟩⟩ }
/-- what follows a conflict -/
structure Cf (V : Nat) (G : List (List Int)) (s s' : SS) (c : List Int) : Prop where
  full : Full V (G ++ [c]) s'
  pf : s'.pf = s.pf ++ [c]
  dead : s'.dead = s.dead
  xs : s'.xs.length ≤ s.xs.length + 1
  lit : ∀ y ∈ c, Lit V y ∧ -y ∉ c
  nd : c.Nodup
  ne : c ≠ []
  ref : Ref G c
  new : s.dead = false → ∀ d ∈ G, ¬ SameC d c
theorem conflictM_ok (hV : V ≤ 400000) {k : Nat} (h : Cfl V G s k) (hw : Wt s.xs s.wt) (hlm : s.lm ≠ []) (hx : s.xs.length < 4000000) (hp : s.pf.length < 4000000) : ∃ s' c, conflictM V s k = some s' ∧ Cf V G s s' c := by
  obtain ⟨c0, hk0, hc0⟩ := h.cl
  obtain ⟨c, back, s1, e1, hL⟩ := learnM_ok h.inv hlm hV hk0 hc0
  obtain ⟨l, m, hb, hm, a, r, hc, ha, hr, hr0, hrj⟩ := hL.bk
  obtain ⟨q1, q2, q3, q4, q5, q6, q7, q8, q9, q10⟩ := hL.bs.lv
  have hI1 := hL.bs.inv h.inv
  subst hb
  unfold conflictM
  rw [e1]
  dsimp only
  rw [if_neg (by rw [q6]; omega), show ((l : Nat) : Int).toNat = l from rfl]
  obtain ⟨s2, e2, hB⟩ := backM_ok (s := { s1 with pf := s1.pf ++ [c] }) hV
    { tv := hI1.tv, le := hI1.le, rs := hI1.rs, cl := hI1.cl, hp := hI1.hp, sc := hI1.sc, ih := hI1.ih, ph := hI1.ph, cov := hI1.cov, ded := hI1.ded, bnd := hI1.bnd }
    (by show Wt s1.xs s1.wt; rw [q4, q8]; exact hw) (l := l) (m := m) (by show s1.lm[l]? = _; rw [q3]; exact hm)
  rw [e2]
  dsimp only
  obtain ⟨g, eg, hg⟩ := grow_ok hB.full.inv.sc.gr
  rw [eg]
  dsimp only
  have htr : s2.tr = s.tr.take m := by rw [hB.tr]; show s1.tr.take m = _; rw [q2]
  have hlm2 : s2.lm = s.lm.take l := by rw [hB.lm]; show s1.lm.take l = _; rw [q3]
  have hxs2 : s2.xs = s.xs := by rw [hB.xs]; exact q4
  have hpf2 : s2.pf = s.pf ++ [c] := by rw [hB.pf]; show s1.pf ++ [c] = _; rw [q6]
  have hdd2 : s2.dead = s.dead := by rw [hB.dead]; exact q7
  have hF3 : Full V G { s2 with gr := g } := {
    inv := { tv := hB.full.inv.tv, le := hB.full.inv.le, rs := hB.full.inv.rs, cl := hB.full.inv.cl, hp := hB.full.inv.hp, sc := ⟨hB.full.inv.sc.len, hB.full.inv.sc.fin, hg⟩, ih := hB.full.inv.ih, ph := hB.full.inv.ph, cov := hB.full.inv.cov, ded := hB.full.inv.ded, bnd := hB.full.inv.bnd }
    wt := hB.full.wt, wi := hB.full.wi, hd := hB.full.hd }
  have hnt : ∀ y ∈ c, -y ∉ c := fun y hy hy2 => by
    have h1 := hL.fls y hy
    have h2 := hL.fls (-y) hy2
    rw [Int.neg_neg] at h2
    exact h.inv.tv.not_both (hL.lit y hy) h2 h1
  have hal : Lit V a := hL.lit a (by rw [hc]; exact List.mem_cons_self)
  have haz : lv (va s2.vs) a = 0 := by
    refine hB.full.inv.tv.open_ hal (fun hm2 => ?_) (fun hm2 => ?_)
    · rw [htr] at hm2
      exact h.inv.tv.not_both hal (List.mem_of_mem_take hm2) (hL.fls a (by rw [hc]; exact List.mem_cons_self))
    · rw [htr] at hm2; exact ha hm2
  have hlits : ∀ y ∈ c, Lit V y ∧ -y ∉ c := fun y hy => ⟨hL.lit y hy, hnt y hy⟩
  have hne : c ≠ [] := fun e => by rw [e] at hc; cases hc
  match r, hc, hr, hr0, hrj with
  | [], hc, hr, hr0, hrj =>
    have hl0 := hr0 rfl
    subst hl0
    have hlm3 : s2.lm = [] := by rw [hlm2]; rfl
    rw [hc]
    dsimp only
    have hset : setM V { s2 with gr := g } a (-1) = some (setS { s2 with gr := g } a (-1)) := setM_do hF3.inv hal (-1)
    rw [hset]
    refine ⟨_, c, rfl, ?_⟩
    exact { full := Full.setUnit hF3 hlm3 hal haz (fun y => by rw [hc]; exact List.mem_singleton), pf := hpf2, dead := hdd2, xs := by show s2.xs.length ≤ _; rw [hxs2]; omega, lit := hlits, nd := hL.nd, ne := hne, ref := hL.ref, new := hL.new }
  | b :: r, hc, hr, hr0, hrj =>
    rw [hc]
    dsimp only
    have hbl : Lit V b := hL.lit b (by rw [hc]; simp)
    have hab : a ≠ b := fun e => by have := hL.nd; rw [hc, List.nodup_cons] at this; exact this.1 (by rw [e]; simp)
    rw [attachM_do (s := { s2 with gr := g }) hF3.wt (by show s2.xs.length < _; rw [hxs2]; exact hx) hal hbl hab]
    dsimp only
    have hcl : ClOk V (a :: b :: r) := by rw [← hc]; exact ⟨by rw [hc]; simp, hL.nd, hlits⟩
    have hbnd : ∀ m' ∈ s2.lm, -a ∉ s2.tr.take m' ∧ -b ∉ s2.tr.take m' := fun m' hm' => by
      rw [hlm2] at hm'
      obtain ⟨j, hj, e⟩ := List.getElem_of_mem hm'
      have h6 := take_at (List.getElem?_eq_getElem hj)
      rw [e] at h6
      have hlt := h.inv.le.asc j l m' m h6.1 h6.2 hm
      rw [htr, List.take_take, Nat.min_eq_left (by omega)]
      refine ⟨fun hm2 => ha ?_, hrj b r rfl j m' h6.1 h6.2⟩
      obtain ⟨q, hq, e⟩ := List.getElem_of_mem hm2
      have h7 := take_at (List.getElem?_eq_getElem hq)
      rw [e] at h7
      exact List.mem_of_getElem? (take_of (by omega) h7.2)
    have hI4 := Inv.attach hF3.inv (c := c) hcl (fun y => by rw [hc]) hbnd (upd (upd s2.wt (ix a) (s2.wt (ix a) ++ [s2.xs.length])) (ix b) (s2.wt (ix b) ++ [s2.xs.length]))
    have hk4 : (s2.xs ++ [a :: b :: r])[s2.xs.length]? = some (a :: b :: r) := snoc_last
    have ho4 : ∀ y ∈ a :: b :: r, y ≠ a → -y ∈ s2.tr := fun y hy hya => by
      rcases List.mem_cons.1 hy with e | hy
      · exact absurd e hya
      · rw [htr]; exact hr y hy
    have hI5 := hI4.setBy hal haz hk4 List.mem_cons_self ho4
    rw [setM_do hI4 hal]
    refine ⟨_, c, rfl, ?_⟩
    have hnota : -a ∉ s2.tr := fun hm2 => by rw [htr] at hm2; exact ha hm2
    exact {
      full := {
        inv := hI5
        wt := hF3.wt.snoc
        wi := by
          show Wi (s2.xs ++ [a :: b :: r]) ((s2.tr ++ [a]).take s2.hd) (s2.tr ++ [a])
          rw [take_snoc hB.full.hd]
          refine wi_snoc (hB.full.wi.mono fun x hx => List.mem_append_left _ hx) fun a' b' r' e => ?_
          injection e with e1 e; injection e with e2 e3
          subst e1; subst e2
          exact ⟨fun hf => absurd (List.mem_of_mem_take hf) hnota, fun _ => List.mem_append_right _ (List.mem_singleton.2 rfl)⟩
        hd := by show s2.hd ≤ (s2.tr ++ [a]).length; rw [List.length_append]; have := hB.full.hd; omega }
      pf := hpf2, dead := hdd2, xs := by show (s2.xs ++ [a :: b :: r]).length ≤ _; rw [List.length_append, List.length_singleton, hxs2]; omega, lit := hlits, nd := hL.nd, ne := hne, ref := hL.ref, new := hL.new }
end
end Go.Proofs.YtaedbnbeelkkcaaDoor.slv
namespace Go.Proofs.YtaedbnbeelkkcaaDoor.slv
/-- learned clauses: each follows from those ahead of it, and is a new one -/
structure PfOk (V : Nat) (F pf : List (List Int)) : Prop where
  ref : ∀ (i : Nat) c, pf[i]? = some c → Ref (F ++ pf.take i) c
  lit : ∀ c ∈ pf, c.Nodup ∧ c ≠ [] ∧ ∀ y ∈ c, Lit V y ∧ -y ∉ c
  nov : pf.Pairwise fun d c => ¬ SameC d c
structure SI (V : Nat) (F : List (List Int)) (s : SS) : Prop where
  full : Full V (F ++ s.pf) s
  pf : PfOk V F s.pf
  len : s.xs.length ≤ F.length + s.pf.length
section
variable {V : Nat} {F : List (List Int)} {s : SS}
theorem PfOk.snoc {pf : List (List Int)} {c : List Int} (h : PfOk V F pf) (hr : Ref (F ++ pf) c) (hl : c.Nodup ∧ c ≠ [] ∧ ∀ y ∈ c, Lit V y ∧ -y ∉ c) (hn : ∀ d ∈ pf, ¬ SameC d c) : PfOk V F (pf ++ [c]) := by
  refine ⟨fun i x hx => ?_, fun x hx => ?_, ?_⟩
  · rcases snoc_cases hx with e | ⟨e1, e2⟩
    · rw [take_snoc (Nat.le_of_lt (lt_of_at e))]; exact h.ref i x e
    · subst e1; subst e2; rw [take_snoc (Nat.le_refl _), List.take_length]; exact hr
  · rcases List.mem_append.1 hx with e | e
    · exact h.lit x e
    · rw [List.mem_singleton.1 e]; exact hl
  · rw [List.pairwise_append]
    exact ⟨h.nov, List.pairwise_singleton _ _, fun d hd x hx => by rw [List.mem_singleton.1 hx]; exact hn d hd⟩
/-! ### how many clauses there are -/
def dig (v : Nat) (c : List Int) : Nat := if (v : Int) ∈ c then 1 else if -(v : Int) ∈ c then 2 else 0
def code (c : List Int) : Nat → Nat
  | 0 => 0
  | v + 1 => code c v * 3 + dig (v + 1) c
theorem code_lt (c : List Int) : ∀ (v : Nat), code c v < 3 ^ v
  | 0 => by show 0 < 3 ^ 0; decide
  | v + 1 => by
    have := code_lt c v
    have hd : dig (v + 1) c ≤ 2 := by unfold dig; split <;> (try split) <;> omega
    show code c v * 3 + dig (v + 1) c < 3 ^ (v + 1)
    rw [Nat.pow_succ]
    omega
theorem code_inj {c d : List Int} : ∀ {V : Nat}, code c V = code d V → ∀ v, 1 ≤ v → v ≤ V → dig v c = dig v d
  | 0, _, v, h1, h2 => by omega
  | V + 1, h, v, h1, h2 => by
    have hc : dig (V + 1) c ≤ 2 := by unfold dig; split <;> (try split) <;> omega
    have hd : dig (V + 1) d ≤ 2 := by unfold dig; split <;> (try split) <;> omega
    have e : code c V * 3 + dig (V + 1) c = code d V * 3 + dig (V + 1) d := h
    by_cases hv : v = V + 1
    · subst hv; omega
    · exact code_inj (V := V) (by omega) v h1 (by omega)
theorem dig_same {c d : List Int} (hc : ∀ y ∈ c, Lit V y ∧ -y ∉ c) (hd : ∀ y ∈ d, Lit V y ∧ -y ∉ d) (h : ∀ v, 1 ≤ v → v ≤ V → dig v c = dig v d) : SameC c d := by
  have key : ∀ {c d : List Int}, (∀ y ∈ c, Lit V y ∧ -y ∉ c) → (∀ v, 1 ≤ v → v ≤ V → dig v c = dig v d) → ∀ y ∈ c, y ∈ d := fun {c d} hc h y hy => by
    obtain ⟨h1, h2⟩ := hc y hy
    have h0 := h1.1
    have hV := h1.2
    have hdg := h y.natAbs (by omega) hV
    by_cases hp : 0 ≤ y
    · obtain ⟨v, rfl⟩ : ∃ v : Nat, y = (v : Int) := ⟨y.toNat, by omega⟩
      rw [Int.natAbs_natCast] at hdg
      unfold dig at hdg
      rw [if_pos hy] at hdg
      by_cases e : (v : Int) ∈ d
      · exact e
      · rw [if_neg e] at hdg; split at hdg <;> omega
    · obtain ⟨v, rfl⟩ : ∃ v : Nat, y = -(v : Int) := ⟨y.natAbs, by omega⟩
      rw [Int.natAbs_neg, Int.natAbs_natCast] at hdg
      rw [Int.neg_neg] at h2
      unfold dig at hdg
      rw [if_neg h2, if_pos hy] at hdg
      by_cases e : (v : Int) ∈ d
      · rw [if_pos e] at hdg; omega
      · rw [if_neg e] at hdg
        by_cases e2 : -(v : Int) ∈ d
        · exact e2
        · rw [if_neg e2] at hdg; omega
  exact fun y => ⟨key hc h y, key hd (fun v h1 h2 => (h v h1 h2).symm) y⟩
theorem PfOk.le {pf : List (List Int)} (h : PfOk V F pf) : pf.length ≤ 3 ^ V := by
  have h1 : (pf.map fun c => code c V).Nodup := by
    rw [List.nodup_iff_pairwise_ne, List.pairwise_map]
    refine List.Pairwise.imp_of_mem ?_ h.nov
    intro d c hd hc hne e
    exact hne (dig_same (h.lit d hd).2.2 (h.lit c hc).2.2 fun v v1 v2 => code_inj e v v1 v2)
  have h2 : (pf.map fun c => code c V) ⊆ List.range (3 ^ V) := fun x hx => by
    obtain ⟨c, _, e⟩ := List.mem_map.1 hx
    rw [← e]
    exact List.mem_range.2 (code_lt c V)
  have := h1.length_le_of_subset h2
  simpa using this
/-! ### the search -/
theorem luby_pos : ∀ (f i : Nat), 1 ≤ luby f i
  | 0, _ => Nat.le_refl _
  | f + 1, i => by
    unfold luby
    split
    · exact Nat.one_le_two_pow
    · exact luby_pos f _
theorem SI.of_fra {s' : SS} (h : SI V F s) (hf : Full V (F ++ s.pf) s') (hp : s'.pf = s.pf) (hx : s'.xs.length = s.xs.length) : SI V F s' :=
  ⟨by rw [hp]; exact hf, by rw [hp]; exact h.pf, by rw [hp, hx]; exact h.len⟩
theorem ref_end {k : Nat} (h : Cfl V F s k) (hl : s.lm = []) : Ref F [] := by
  obtain ⟨c, hk, hc⟩ := h.cl
  obtain ⟨d, hd, hs⟩ := h.inv.cl.src k c hk
  refine ref_conf hd fun z hz => ?_
  have hz0 := (hs z).2 hz
  refine ⟨((h.inv.cl.ok k c hk).2.2 z hz0).1.1, ?_⟩
  obtain ⟨i, hi, e⟩ := List.getElem_of_mem (hc z hz0)
  exact imp_l0 h.inv (Nat.lt_succ_self i) (by rw [List.getElem?_eq_getElem hi, e]) fun m hm => by rw [hl] at hm; cases hm
/-- what a search comes to -/
def SeE (V : Nat) (F : List (List Int)) (pf0 : List (List Int)) (effort cf : Nat) : Ans → SS → Prop
  | .yes m, s => m = modelOf V s.vs ∧ SI V F s ∧ Done s ∧ s.dead = false ∧ ∀ v, 1 ≤ v → v ≤ V → va s.vs v ≠ 0
  | .no pf, s => pf = s.pf ++ [[]] ∧ PfOk V F s.pf ∧ Ref (F ++ s.pf) []
  | .tired, s => PfOk V F s.pf ∧ s.pf.length + cf = pf0.length + effort
theorem searchL_ok (hV : V ≤ 400000) {effort : Nat} {pf0 : List (List Int)} {cf0 : Nat} : ∀ (mu : Nat) {b rd cf : Nat} {left : Int} {s : SS}, SI V F s → s.dead = false → s.pf.length + cf0 = pf0.length + cf → cf ≤ effort → (effort ≤ cf + b ∨ 3 ^ V ≤ s.pf.length + b) →
    F.length + s.pf.length + b < 4000000 → cf + b < 8000000 → rd ≤ cf → (left ≤ 0 → rd < cf) → b * (2 * V + 6) + (if left ≤ 0 then V + 3 else 0) + (V + 1 - s.lm.length) ≤ mu →
    ∃ fuel a s', searchL V effort fuel rd cf left s = some (a, s') ∧ SeE V F pf0 effort cf0 a s'
  | 0, b, rd, cf, left, s, h, _, _, _, _, _, _, _, _, hmu => by
    have := h.full.inv.room.2
    omega
  | mu + 1, b, rd, cf, left, s, h, hd, hpf, hcf, hb, hsz, hcb, hrd, hrl, hmu => by
    obtain ⟨r, s1, e1, h1⟩ := spreadM_ok h.full (by have := h.len; omega)
    cases r with
    | none =>
      obtain ⟨f1, d1, fr⟩ := h1
      have hS1 : SI V F s1 := h.of_fra f1 fr.pf fr.xs.1
      by_cases hl : left ≤ 0
      · rw [if_pos hl] at hmu
        have hbk : ∃ s2, backM V s1 0 = some s2 ∧ SI V F s2 ∧ s2.dead = false ∧ s2.pf = s.pf ∧ s2.lm.length ≤ s1.lm.length := by
          by_cases hlm : s1.lm.length = 0
          · exact ⟨s1, backM_none (by omega), hS1, fr.dead.trans hd, fr.pf, Nat.le_refl _⟩
          · obtain ⟨m, hm⟩ := at_lt (l := s1.lm) (i := 0) (by omega)
            obtain ⟨s2, e2, hB⟩ := backM_ok hV f1.inv f1.wt hm
            refine ⟨s2, e2, h.of_fra hB.full (hB.pf.trans fr.pf) (by rw [hB.xs]; exact fr.xs.1), (hB.dead.trans fr.dead).trans hd, hB.pf.trans fr.pf, by rw [hB.lm, List.length_take]; omega⟩
        obtain ⟨s2, e2, g1, g2, g3, g4⟩ := hbk
        have hleft : ¬ (100 * (luby 64 (rd + 1) : Int)) ≤ 0 := by have := luby_pos 64 (rd + 1); omega
        have hrd2 := hrl hl
        obtain ⟨fuel, a, s', e3, h3⟩ := searchL_ok hV (effort := effort) (pf0 := pf0) (cf0 := cf0) mu (b := b) (rd := rd + 1) (cf := cf) (left := 100 * (luby 64 (rd + 1) : Int)) (s := s2) g1 g2 (by rw [g3]; exact hpf) hcf (by rw [g3]; exact hb) (by rw [g3]; exact hsz) hcb (by omega) (fun e => absurd e hleft) (by
          rw [if_neg hleft]
          omega)
        refine ⟨fuel + 1, a, s', ?_, h3⟩
        unfold searchL
        rw [e1]
        dsimp only
        rw [if_pos hl, if_pos (by omega), e2]
        exact e3
      · rw [if_neg hl] at hmu
        obtain ⟨q, s2, e2, h2⟩ := decideM_ok f1 d1
        have hS2 : SI V F s2 := h.of_fra h2.full (h2.pf.trans fr.pf) (by rw [h2.xs]; exact fr.xs.1)
        cases q with
        | false =>
          obtain ⟨n1, n2, n3, n4, n5⟩ := h2.no rfl
          refine ⟨1, .yes (modelOf V s2.vs), s2, ?_, ?_⟩
          · unfold searchL
            rw [e1]
            dsimp only
            rw [if_neg hl, e2]
          · exact ⟨rfl, hS2, n3, (h2.dead.trans fr.dead).trans hd, by rw [n1]; exact n5⟩
        | true =>
          have hlm := h2.yes rfl
          have hlv := h2.full.inv.room.2
          have hsl : s1.lm.length = s.lm.length := by rw [fr.lm]
          have hpf2 : s2.pf = s.pf := h2.pf.trans fr.pf
          obtain ⟨fuel, a, s', e3, h3⟩ := searchL_ok hV (effort := effort) (pf0 := pf0) (cf0 := cf0) mu (b := b) (rd := rd) (cf := cf) (left := left) (s := s2) hS2 ((h2.dead.trans fr.dead).trans hd) (by rw [hpf2]; exact hpf) hcf (by rw [hpf2]; exact hb) (by rw [hpf2]; exact hsz) hcb hrd hrl (by
            rw [if_neg hl]
            omega)
          refine ⟨fuel + 1, a, s', ?_, h3⟩
          unfold searchL
          rw [e1]
          dsimp only
          rw [if_neg hl, e2]
          exact e3
    | some k =>
      obtain ⟨c1, w1, fr⟩ := h1
      by_cases hlm : s1.lm.length = 0
      · refine ⟨1, .no (s1.pf ++ [[]]), s1, ?_, ⟨rfl, by rw [fr.pf]; exact h.pf, by rw [fr.pf]; exact ref_end c1 (List.length_eq_zero_iff.1 hlm)⟩⟩
        unfold searchL
        rw [e1]
        dsimp only
        rw [if_pos hlm]
      · by_cases hce : cf = effort
        · refine ⟨1, .tired, s1, ?_, ⟨by rw [fr.pf]; exact h.pf, by rw [fr.pf]; omega⟩⟩
          unfold searchL
          rw [e1]
          dsimp only
          rw [if_neg hlm, if_pos hce]
        · obtain ⟨s2, c, e2, h2⟩ := conflictM_ok hV c1 w1 (fun e => hlm (by rw [e]; rfl)) (by rw [fr.xs.1]; have := h.len; omega) (by rw [fr.pf]; omega)
          have hpf2 : s2.pf = s.pf ++ [c] := by rw [h2.pf, fr.pf]
          have hP2 : PfOk V F s2.pf := by
            rw [hpf2]
            exact h.pf.snoc h2.ref ⟨h2.nd, h2.ne, h2.lit⟩ fun d hd' => h2.new (fr.dead.trans hd) d (List.mem_append_right _ hd')
          have hlen2 : s2.pf.length = s.pf.length + 1 := by rw [hpf2, List.length_append]; rfl
          have hle := hP2.le
          have hb1 : 1 ≤ b := by
            rcases hb with e | e <;> omega
          have hS2 : SI V F s2 := ⟨by rw [hpf2, ← List.append_assoc]; exact h2.full, hP2, by rw [hlen2]; have := h2.xs; have := fr.xs.1; have := h.len; omega⟩
          obtain ⟨b', rfl⟩ : ∃ b', b = b' + 1 := ⟨b - 1, by omega⟩
          have hmul : (b' + 1) * (2 * V + 6) = b' * (2 * V + 6) + (2 * V + 6) := Nat.succ_mul _ _
          obtain ⟨fuel, a, s', e3, h3⟩ := searchL_ok hV (effort := effort) (pf0 := pf0) (cf0 := cf0) mu (b := b') (rd := rd) (cf := cf + 1) (left := left - 1) (s := s2) hS2 ((h2.dead.trans fr.dead).trans hd) (by omega) (by omega) (by rcases hb with e | e <;> omega) (by omega) (by omega) (by omega) (fun _ => by omega) (by
            have : (if left - 1 ≤ 0 then V + 3 else 0) ≤ V + 3 := by split <;> omega
            omega)
          refine ⟨fuel + 1, a, s', ?_, h3⟩
          unfold searchL
          rw [e1]
          dsimp only
          rw [if_neg hlm, if_neg hce, e2]
          exact e3
/-- a search from level 0 -/
theorem searchM_ok (hV : V ≤ 400000) {effort b : Nat} (h : SI V F s) (hl : s.lm = []) (hb : effort ≤ b ∨ 3 ^ V ≤ s.pf.length + b) (hsz : F.length + s.pf.length + b < 4000000) :
    ∃ fuel a s', searchM V effort fuel s = some (a, s') ∧ SeE V F s.pf effort 0 a s' := by
  cases hd : s.dead with
  | true =>
    refine ⟨0, .no (s.pf ++ [[]]), s, ?_, ⟨rfl, h.pf, h.full.inv.ded hd⟩⟩
    unfold searchM
    rw [hd]
    rfl
  | false =>
    obtain ⟨r, s1, e1, h1⟩ := spreadM_ok h.full (by have := h.len; omega)
    cases r with
    | some k =>
      obtain ⟨c1, w1, fr⟩ := h1
      refine ⟨0, .no (s1.pf ++ [[]]), s1, ?_, ⟨rfl, by rw [fr.pf]; exact h.pf, by rw [fr.pf]; exact ref_end c1 (by rw [fr.lm]; exact hl)⟩⟩
      unfold searchM
      rw [hd, e1]
      rfl
    | none =>
      obtain ⟨f1, d1, fr⟩ := h1
      have hS1 : SI V F s1 := h.of_fra f1 fr.pf fr.xs.1
      obtain ⟨fuel, a, s', e3, h3⟩ := searchL_ok (effort := effort) (pf0 := s.pf) (cf0 := 0) hV _ (b := b) (rd := 0) (cf := 0) (left := 100) (s := s1) hS1 (fr.dead.trans hd) (by rw [fr.pf]) (Nat.zero_le _) (by rw [fr.pf]; rcases hb with e | e; exact .inl (by omega); exact .inr e) (by rw [fr.pf]; exact hsz) (by omega) (Nat.le_refl _) (fun e => by omega) (Nat.le_refl _)
      refine ⟨fuel, a, s', ?_, h3⟩
      unfold searchM
      rw [hd, e1]
      exact e3
/-! ### what an answer yes says -/
theorem yes_holds (h : Full V F s) (hd : Done s) (hdead : s.dead = false) (hall : ∀ v, 1 ≤ v → v ≤ V → va s.vs v ≠ 0) (hF : ∀ d ∈ F, ∀ n ∈ d, Lit V n) : ∀ d ∈ F, ∃ n ∈ d, lv (va s.vs) n = 1 := fun d hd2 => by
  have htot : ∀ n, Lit V n → lv (va s.vs) n = 1 ∨ lv (va s.vs) n = -1 := fun n hn => by
    rcases h.inv.tv.cases n with e | e | e
    · exact .inr e
    · exact absurd (lv_zero.1 e) (hall _ (by have := hn.1; omega) hn.2)
    · exact .inl e
  have hw := h.wi
  rw [show s.hd = s.tr.length from hd, List.take_length] at hw
  rcases h.inv.cov hdead d hd2 with ⟨n, h1, h2⟩ | ⟨k, c, h1, h2⟩ | ⟨a, i, h1, h2, _⟩
  · have hn := hF d hd2 n h1
    rcases htot n hn with e | e
    · exact ⟨n, h1, e⟩
    · exact ⟨-n, h2, by rw [lv_neg hn.1]; omega⟩
  · have hok := h.inv.cl.ok k c h1
    match c, hok, h1, h2 with
    | x :: y :: t, hok, h1, h2 =>
      have hx := (hok.2.2 x (by simp)).1
      have hy := (hok.2.2 y (by simp)).1
      rcases htot x hx with e | e
      · exact ⟨x, (h2 x).1 (by simp), e⟩
      · exact ⟨y, (h2 y).1 (by simp), (h.inv.tv.trv y ((hw k x y t h1).1 (h.inv.tv.val_neg hx e))).2⟩
    | [p], hok, _, _ => exact absurd hok.1 (by simp)
    | [], hok, _, _ => exact absurd hok.1 (by simp)
  · exact ⟨a, h1, (h.inv.tv.trv a (List.mem_of_getElem? h2)).2⟩
end
end Go.Proofs.YtaedbnbeelkkcaaDoor.slv
