/-
  PLAIN: the solver's learning goes through; what it tells of the trail. No program in sight.
-/
import Derived.Test.YtaedbnbeelkkcaaDoorAe
namespace Go.Proofs.YtaedbnbeelkkcaaDoor.slv
section
variable {V : Nat} {lvs tr : List Int} {lm : List Nat} {b : Nat}
/-- the last level's beginning -/
def LastB (lm : List Nat) (b : Nat) : Prop := lm ≠ [] ∧ lm[lm.length - 1]? = some b
theorem Lev.cur (h : Lev V lvs tr lm) (hb : LastB lm b) {i : Nat} {n : Int} (hi : tr[i]? = some n) : ∃ L : Nat, lvs[n.natAbs]? = some (L : Int) ∧ L ≤ lm.length ∧ (L = lm.length ↔ b ≤ i) ∧ (L = 0 ↔ L0 lm i) ∧ ∀ (j m : Nat), lm[j]? = some m → (m ≤ i ↔ j < L) := by
  obtain ⟨L, h1, h2, h3⟩ := h.lev i n hi
  have hl : 0 < lm.length := List.length_pos_iff.2 hb.1
  have h4 := h3 _ b hb.2
  refine ⟨L, h1, h2, ?_, ?_, h3⟩
  · rw [h4]; omega
  · constructor
    · intro e m hm
      obtain ⟨j, hj, e2⟩ := List.getElem_of_mem hm
      have := h3 j m (by rw [List.getElem?_eq_getElem hj, e2])
      omega
    · intro e
      obtain ⟨m, hm⟩ := at_lt hl
      have h5 := h3 0 m hm
      have h6 := e m (List.mem_of_getElem? hm)
      omega
theorem LastB.max (h : Lev V lvs tr lm) (hb : LastB lm b) {m : Nat} (hm : m ∈ lm) : m ≤ b := by
  obtain ⟨j, hj, e⟩ := List.getElem_of_mem hm
  have hj2 : lm[j]? = some m := by rw [List.getElem?_eq_getElem hj, e]
  by_cases hc : j = lm.length - 1
  · subst hc; rw [hb.2] at hj2; injection hj2 with hj2; omega
  · have := h.asc j (lm.length - 1) m b (by omega) hj2 hb.2; omega
theorem LastB.mem (hb : LastB lm b) : b ∈ lm := List.mem_of_getElem? hb.2
end
/-! ### how many are open -/
def snB (seen : List Bool) (v : Nat) : Bool := seen.getD v false
def cnt (tr : List Int) (b : Nat) (seen : List Bool) : Nat → Nat
  | 0 => 0
  | i + 1 => cnt tr b seen i + if b ≤ i ∧ snB seen (tr.getD i 0).natAbs = true then 1 else 0
section
variable {tr : List Int} {b : Nat} {seen : List Bool}
theorem cnt_le : ∀ (a : Nat), cnt tr b seen a ≤ a
  | 0 => Nat.le_refl _
  | a + 1 => by
    have := cnt_le a
    unfold cnt
    split <;> omega
theorem cnt_mono {a : Nat} : ∀ {c : Nat}, a ≤ c → cnt tr b seen a ≤ cnt tr b seen c
  | 0, h => by obtain rfl : a = 0 := by omega
               exact Nat.le_refl _
  | c + 1, h => by
    by_cases e : a = c + 1
    · subst e; exact Nat.le_refl _
    · have := cnt_mono (c := c) (a := a) (by omega)
      show _ ≤ cnt tr b seen c + _
      omega
theorem cnt_low : ∀ {a : Nat}, a ≤ b → cnt tr b seen a = 0
  | 0, _ => rfl
  | a + 1, h => by
    show cnt tr b seen a + _ = 0
    rw [cnt_low (by omega), if_neg (by omega)]
theorem snB_set {v u : Nat} (hv : v < seen.length) : snB (seen.set v true) u = if u = v then true else snB seen u := by
  unfold snB
  rw [List.getD_eq_getElem?_getD, at_set hv, List.getD_eq_getElem?_getD]
  split <;> rfl
theorem snB_at {v : Nat} {x : Bool} (h : seen[v]? = some x) : snB seen v = x := by
  unfold snB; rw [List.getD_eq_getElem?_getD, h]; rfl
theorem at_snB {v : Nat} (h : v < seen.length) : seen[v]? = some (snB seen v) := by
  obtain ⟨x, hx⟩ := at_lt h
  rw [snB_at hx]; exact hx
theorem getD_at {i : Nat} {u : Int} (h : tr[i]? = some u) : tr.getD i 0 = u := by rw [List.getD_eq_getElem?_getD, h]; rfl
/-- none of the places below is of this variable -/
theorem cnt_other {v : Nat} (hv : v < seen.length) : ∀ {a : Nat}, (∀ i, i < a → b ≤ i → (tr.getD i 0).natAbs ≠ v) → cnt tr b (seen.set v true) a = cnt tr b seen a
  | 0, _ => rfl
  | a + 1, h => by
    show cnt tr b (seen.set v true) a + _ = cnt tr b seen a + _
    rw [cnt_other hv (a := a) fun i hi hb => h i (by omega) hb]
    congr 1
    by_cases hb : b ≤ a
    · rw [snB_set hv, if_neg (h a (by omega) hb)]
    · rw [if_neg (by omega), if_neg (by omega)]
theorem cnt_one {v : Nat} (hv : v < seen.length) (hs : snB seen v = false) : ∀ {a p : Nat}, p < a → b ≤ p → (tr.getD p 0).natAbs = v → (∀ i, i < a → i ≠ p → (tr.getD i 0).natAbs ≠ v) → cnt tr b (seen.set v true) a = cnt tr b seen a + 1
  | 0, _, h, _, _, _ => absurd h (Nat.not_lt_zero _)
  | a + 1, p, h, hb, he, ho => by
    show cnt tr b (seen.set v true) a + _ = cnt tr b seen a + _ + 1
    by_cases e : p = a
    · subst e
      rw [cnt_other hv fun i hi _ => ho i (by omega) (by omega), if_pos ⟨hb, by rw [snB_set hv, if_pos he]⟩, if_neg (by rw [he, hs]; simp)]
    · rw [cnt_one hv hs (by omega) hb he fun i hi hp => ho i (by omega) hp]
      have : snB (seen.set v true) (tr.getD a 0).natAbs = snB seen (tr.getD a 0).natAbs := by rw [snB_set hv, if_neg (ho a (by omega) (by omega))]
      rw [this]
      omega
theorem cnt_pos : ∀ {a : Nat}, 0 < cnt tr b seen a → ∃ i, i < a ∧ b ≤ i ∧ snB seen (tr.getD i 0).natAbs = true
  | 0, h => absurd h (Nat.lt_irrefl _)
  | a + 1, h => by
    by_cases e : b ≤ a ∧ snB seen (tr.getD a 0).natAbs = true
    · exact ⟨a, by omega, e⟩
    · have h2 : 0 < cnt tr b seen a + if b ≤ a ∧ snB seen (tr.getD a 0).natAbs = true then 1 else 0 := h
      rw [if_neg e] at h2
      obtain ⟨i, h3, h4⟩ := cnt_pos (a := a) h2
      exact ⟨i, by omega, h4⟩
theorem pos_cnt {a i : Nat} (hi : i < a) (hb : b ≤ i) (hs : snB seen (tr.getD i 0).natAbs = true) : 0 < cnt tr b seen a := by
  have h1 : cnt tr b seen (i + 1) = cnt tr b seen i + 1 := by
    show cnt tr b seen i + _ = _
    rw [if_pos ⟨hb, hs⟩]
  have h2 := cnt_mono (tr := tr) (b := b) (seen := seen) (a := i + 1) (c := a) (by omega)
  omega
theorem cnt_gap {c : Nat} : ∀ {a : Nat}, c ≤ a → (∀ i, c ≤ i → i < a → snB seen (tr.getD i 0).natAbs = false) → cnt tr b seen a = cnt tr b seen c
  | 0, h, _ => by obtain rfl : c = 0 := by omega
                  rfl
  | a + 1, h, hg => by
    by_cases e : c = a + 1
    · subst e; rfl
    · show cnt tr b seen a + _ = _
      rw [cnt_gap (c := c) (a := a) (by omega) fun i h1 h2 => hg i h1 (by omega), if_neg (by rw [hg a (by omega) (by omega)]; simp)]
      omega
end
/-! ### bumps leave all but scores and heap -/
def Bs (V : Nat) (s0 s : SS) : Prop := ∃ sc gr hp pl, s = { s0 with sc := sc, gr := gr, hp := hp, pl := pl } ∧ Hp V hp pl ∧ hp.Perm s0.hp ∧ Sc V sc gr
theorem Bs.bump {V v : Nat} {s0 s : SS} (h : Bs V s0 s) (v1 : 1 ≤ v) (v2 : v ≤ V) : ∃ s', bumpM V s v = some s' ∧ Bs V s0 s' := by
  obtain ⟨sc, gr, hp, pl, rfl, h1, h2, h3⟩ := h
  obtain ⟨sc', gr', hp', pl', e, g1, g2, g3⟩ := bumpM_ok (s := { s0 with sc := sc, gr := gr, hp := hp, pl := pl }) h1 h3 v1 v2
  exact ⟨_, e, sc', gr', hp', pl', rfl, g1, g2.trans h2, g3⟩
theorem Bs.inv {V : Nat} {G : List (List Int)} {s0 s : SS} (h : Bs V s0 s) (hi : Inv V G s0) : Inv V G s := by
  obtain ⟨sc, gr, hp, pl, rfl, h1, h2, h3⟩ := h
  exact { tv := hi.tv, le := hi.le, rs := hi.rs, cl := hi.cl, hp := h1, sc := h3, ih := fun v v1 v2 v3 => h2.mem_iff.2 (hi.ih v v1 v2 v3), ph := hi.ph, cov := hi.cov, ded := hi.ded, bnd := hi.bnd }
theorem Bs.lv {V : Nat} {s0 s : SS} (h : Bs V s0 s) : s.lv = s0.lv ∧ s.tr = s0.tr ∧ s.lm = s0.lm ∧ s.xs = s0.xs ∧ s.rs = s0.rs ∧ s.pf = s0.pf ∧ s.dead = s0.dead ∧ s.wt = s0.wt ∧ s.vs = s0.vs ∧ s.hd = s0.hd := by
  obtain ⟨sc, gr, hp, pl, rfl, _⟩ := h
  exact ⟨rfl, rfl, rfl, rfl, rfl, rfl, rfl, rfl, rfl, rfl⟩
/-! ### one clause -/
section
variable {V : Nat} {G : List (List Int)} {s0 : SS} {b : Nat}
/-- a false number, on the trail below a place -/
def FalseBy (tr : List Int) (a : Nat) (y : Int) (i : Nat) : Prop := i < a ∧ tr[i]? = some (-y)
/-- amid learning -/
structure LI (V : Nat) (s0 : SS) (b at_ : Nat) (l : LS) : Prop where
  bs : Bs V s0 l.s
  sl : l.seen.length = V + 1
  sv : ∀ v, snB l.seen v = true → ∃ i u, s0.tr[i]? = some u ∧ u.natAbs = v ∧ ¬ L0 s0.lm i
  op : l.op = cnt s0.tr b l.seen at_
  out : ∃ r, l.out = 0 :: r ∧ r.Nodup ∧ (∀ x ∈ r, ∃ i, s0.tr[i]? = some (-x) ∧ i < b ∧ ¬ L0 s0.lm i ∧ snB l.seen x.natAbs = true) ∧ ∀ i u, s0.tr[i]? = some u → i < b → snB l.seen u.natAbs = true → -u ∈ r
def Okk (s0 : SS) (l : LS) (y : Int) : Prop := ∃ i, s0.tr[i]? = some (-y) ∧ (L0 s0.lm i ∨ snB l.seen y.natAbs = true)
theorem idx_one (h : Inv V G s0) {i j : Nat} {u t : Int} (hi : s0.tr[i]? = some u) (hj : s0.tr[j]? = some t) (e : u.natAbs = t.natAbs) : i = j := by
  have := h.tv.one (List.mem_of_getElem? hi) (List.mem_of_getElem? hj) e
  subst this
  have hnd := h.tv.nd
  rw [List.nodup_iff_pairwise_ne, List.pairwise_iff_getElem] at hnd
  have li := lt_of_at hi
  have lj := lt_of_at hj
  have ei : s0.tr[i] = u := by rw [List.getElem?_eq_getElem li] at hi; injection hi
  have ej : s0.tr[j] = u := by rw [List.getElem?_eq_getElem lj] at hj; injection hj
  by_cases c : i < j
  · exact absurd (ei.trans ej.symm) (hnd i j li lj c)
  · by_cases c2 : j < i
    · exact absurd (ej.trans ei.symm) (hnd j i lj li c2)
    · omega
theorem lcl_ok (h : Inv V G s0) (hb : LastB s0.lm b) (hV : V ≤ 400000) {n : Int} {at_ : Nat} (hat : at_ ≤ s0.tr.length) : ∀ {c : List Int} {l : LS}, LI V s0 b at_ l → (∀ y ∈ c, Lit V y) → (∀ y ∈ c, y ≠ n → ∃ i, FalseBy s0.tr at_ y i) →
    ∃ l', lcl V n c l = some l' ∧ LI V s0 b at_ l' ∧ (∀ y ∈ c, y ≠ n → Okk s0 l' y) ∧ (∀ v, snB l.seen v = true → snB l'.seen v = true) ∧ ∀ i u, s0.tr[i]? = some u → snB l'.seen u.natAbs = true → snB l.seen u.natAbs = true ∨ i < at_
  | [], l, hl, _, _ => ⟨l, rfl, hl, fun _ hy => (by cases hy), fun _ hv => hv, fun _ _ _ hv => .inl hv⟩
  | x :: r, l, hl, hlit, hf => by
    have hx := hlit x List.mem_cons_self
    have hx0 := hx.1
    have hxs : x.natAbs < l.seen.length := by rw [hl.sl]; have := hx.2; omega
    obtain ⟨v, hv⟩ := at_lt (l := s0.lv) (i := x.natAbs) (by rw [h.le.len]; have := hx.2; omega)
    unfold lcl
    rw [at_snB hxs, hl.bs.lv.1, hv]
    dsimp only
    have hrl : ∀ y ∈ r, Lit V y := fun y hy => hlit y (List.mem_cons_of_mem _ hy)
    have hrf : ∀ y ∈ r, y ≠ n → ∃ i, FalseBy s0.tr at_ y i := fun y hy => hf y (List.mem_cons_of_mem _ hy)
    by_cases hc : x = n ∨ snB l.seen x.natAbs = true ∨ v = 0
    · rw [if_pos hc]
      obtain ⟨l', e1, e2, e3, e4, e5⟩ := lcl_ok h hb hV hat (c := r) hl hrl hrf
      refine ⟨l', e1, e2, fun y hy hyn => ?_, e4, e5⟩
      rcases List.mem_cons.1 hy with e | hy
      · subst e
        rcases hc with hc | hc | hc
        · exact absurd hc hyn
        · obtain ⟨i, _, hi⟩ := hf y List.mem_cons_self hyn
          exact ⟨i, hi, .inr (e4 _ hc)⟩
        · obtain ⟨i, _, hi⟩ := hf y List.mem_cons_self hyn
          obtain ⟨L, h1, _, _, h4, _⟩ := h.le.cur hb hi
          rw [Int.natAbs_neg, hv] at h1
          injection h1 with h1
          exact ⟨i, hi, .inl (h4.1 (by omega))⟩
      · exact e3 y hy hyn
    · rw [if_neg hc]
      have hxn : x ≠ n := fun e => hc (.inl e)
      have hns : snB l.seen x.natAbs = false := by
        cases e : snB l.seen x.natAbs with
        | false => rfl
        | true => exact absurd (.inr (.inl e)) hc
      have hv0 : v ≠ 0 := fun e => hc (.inr (.inr e))
      obtain ⟨i, hia, hi⟩ := hf x List.mem_cons_self hxn
      obtain ⟨L, h1, h2, h3, h4, _⟩ := h.le.cur hb hi
      rw [Int.natAbs_neg, hv] at h1
      injection h1 with h1
      subst h1
      have hL0 : ¬ L0 s0.lm i := fun e => hv0 (by have := h4.2 e; omega)
      obtain ⟨s', es, hbs⟩ := hl.bs.bump (v := x.natAbs) (by omega) hx.2
      rw [es]
      dsimp only
      obtain ⟨r0, ho, hnd, hr1, hr2⟩ := hl.out
      have hrlen : r0.length ≤ V := by
        have hsub : r0.map (fun z => -z) ⊆ s0.tr := fun z hz => by
          obtain ⟨y, hy, e⟩ := List.mem_map.1 hz
          obtain ⟨i, h1, _⟩ := hr1 y hy
          rw [← e]; exact List.mem_of_getElem? h1
        have hnd2 : (r0.map (fun z => -z)).Nodup := by
          rw [List.nodup_iff_pairwise_ne, List.pairwise_map]
          rw [List.nodup_iff_pairwise_ne] at hnd
          exact hnd.imp fun hne e => hne (by omega)
        have := hnd2.length_le_of_subset hsub
        rw [List.length_map] at this
        have := h.room.1
        omega
      have hop : l.op ≤ V := by rw [hl.op]; exact Nat.le_trans (cnt_le _) (Nat.le_trans hat h.room.1)
      rw [if_pos ⟨by omega, by rw [ho, List.length_cons]; omega⟩, hl.bs.lv.2.2.1]
      have hsee : ∀ u, snB (l.seen.set x.natAbs true) u = if u = x.natAbs then true else snB l.seen u := fun u => snB_set hxs
      have hmono : ∀ u, snB l.seen u = true → snB (l.seen.set x.natAbs true) u = true := fun u hu => by rw [hsee]; split; rfl; exact hu
      have hsv : ∀ v, snB (l.seen.set x.natAbs true) v = true → ∃ i u, s0.tr[i]? = some u ∧ u.natAbs = v ∧ ¬ L0 s0.lm i := fun v hv => by
        rw [hsee] at hv
        by_cases e : v = x.natAbs
        · subst e; exact ⟨i, -x, hi, Int.natAbs_neg x, hL0⟩
        · rw [if_neg e] at hv; exact hl.sv v hv
      have hdiff : ∀ j, j < at_ → j ≠ i → (s0.tr.getD j 0).natAbs ≠ x.natAbs := fun j hj hji e => by
        obtain ⟨u, hu⟩ := at_lt (l := s0.tr) (i := j) (by omega)
        rw [getD_at hu] at e
        exact hji (idx_one h hu hi (by rw [Int.natAbs_neg]; exact e))
      have hback : ∀ j u, s0.tr[j]? = some u → (snB (l.seen.set x.natAbs true) u.natAbs = true ∨ j < at_) → snB l.seen u.natAbs = true ∨ j < at_ := fun j u hj hu => by
        rcases hu with hu | hu
        · rw [hsee] at hu
          by_cases e : u.natAbs = x.natAbs
          · have := idx_one h hj hi (by rw [Int.natAbs_neg]; exact e)
            exact .inr (by omega)
          · rw [if_neg e] at hu; exact .inl hu
        · exact .inr hu
      by_cases hcur : (L : Int) = (s0.lm.length : Int)
      · rw [if_pos hcur]
        have hbi : b ≤ i := h3.1 (by omega)
        obtain ⟨l', e1, e2, e3, e4, e5⟩ := lcl_ok h hb hV hat (c := r) (l := { s := s', seen := l.seen.set x.natAbs true, op := l.op + 1, out := l.out })
          { bs := hbs
            sl := by show (l.seen.set _ _).length = _; rw [List.length_set]; exact hl.sl
            sv := hsv
            op := by
              show l.op + 1 = _
              rw [cnt_one hxs hns hia hbi (by rw [getD_at hi, Int.natAbs_neg]) hdiff, hl.op]
            out := ⟨r0, ho, hnd, fun y hy => by obtain ⟨j, h1, h2, h3, h4⟩ := hr1 y hy; exact ⟨j, h1, h2, h3, hmono _ h4⟩, fun j u hj hjb hu => by
              rw [hsee] at hu
              by_cases e : u.natAbs = x.natAbs
              · have := idx_one h hj hi (by rw [Int.natAbs_neg]; exact e); omega
              · rw [if_neg e] at hu; exact hr2 j u hj hjb hu⟩ } hrl hrf
        refine ⟨l', e1, e2, fun y hy hyn => ?_, fun u hu => e4 u (hmono u hu), fun j u hj hu => hback j u hj (e5 j u hj hu)⟩
        rcases List.mem_cons.1 hy with e | hy
        · subst e; exact ⟨i, hi, .inr (e4 _ (by rw [hsee, if_pos rfl]))⟩
        · exact e3 y hy hyn
      · rw [if_neg hcur]
        have hbi : i < b := by
          by_cases c : b ≤ i
          · exact absurd (by have := h3.2 c; omega) hcur
          · omega
        have hxr : x ∉ r0 := fun hm => by
          obtain ⟨_, _, _, _, h4⟩ := hr1 x hm
          rw [hns] at h4; exact absurd h4 (by decide)
        obtain ⟨l', e1, e2, e3, e4, e5⟩ := lcl_ok h hb hV hat (c := r) (l := { s := s', seen := l.seen.set x.natAbs true, op := l.op, out := l.out ++ [x] })
          { bs := hbs
            sl := by show (l.seen.set _ _).length = _; rw [List.length_set]; exact hl.sl
            sv := hsv
            op := by
              show l.op = _
              rw [cnt_other hxs (fun j hj hbj => hdiff j hj (by omega)), hl.op]
            out := ⟨r0 ++ [x], by show l.out ++ [x] = _; rw [ho]; rfl, by
              rw [List.nodup_append]
              refine ⟨hnd, by simp, fun y hy z hz e => ?_⟩
              rw [List.mem_singleton.1 hz] at e
              exact hxr (e ▸ hy), fun y hy => by
              rcases List.mem_append.1 hy with hy | hy
              · obtain ⟨j, h1, h2, h3, h4⟩ := hr1 y hy; exact ⟨j, h1, h2, h3, hmono _ h4⟩
              · rw [List.mem_singleton.1 hy]; exact ⟨i, hi, hbi, hL0, by rw [hsee, if_pos rfl]⟩, fun j u hj hjb hu => by
              rw [hsee] at hu
              by_cases e : u.natAbs = x.natAbs
              · have := idx_one h hj hi (by rw [Int.natAbs_neg]; exact e)
                subst this
                rw [hi] at hj
                injection hj with hj
                subst hj
                rw [Int.neg_neg]
                exact List.mem_append_right _ (List.mem_singleton.2 rfl)
              · rw [if_neg e] at hu; exact List.mem_append_left _ (hr2 j u hj hjb hu)⟩ } hrl hrf
        refine ⟨l', e1, e2, fun y hy hyn => ?_, fun u hu => e4 u (hmono u hu), fun j u hj hu => hback j u hj (e5 j u hj hu)⟩
        rcases List.mem_cons.1 hy with e | hy
        · subst e; exact ⟨i, hi, .inr (e4 _ (by rw [hsee, if_pos rfl]))⟩
        · exact e3 y hy hyn
/-! ### the next one -/
theorem lseek_ok (h : Inv V G s0) {seen : List Bool} (hs : seen.length = V + 1) : ∀ {a : Nat}, a < s0.tr.length → (∃ i, i ≤ a ∧ snB seen (s0.tr.getD i 0).natAbs = true) →
    ∃ q, lseek s0.tr seen a = some q ∧ q ≤ a ∧ snB seen (s0.tr.getD q 0).natAbs = true ∧ ∀ i, q < i → i ≤ a → snB seen (s0.tr.getD i 0).natAbs = false := by
  have look : ∀ {a : Nat} (ha : a < s0.tr.length), ∃ t, s0.tr[a]? = some t ∧ seen[t.natAbs]? = some (snB seen (s0.tr.getD a 0).natAbs) := fun {a} ha => by
    obtain ⟨t, ht⟩ := at_lt ha
    have hl := (h.tv.trv t (List.mem_of_getElem? ht)).1.2
    exact ⟨t, ht, by rw [getD_at ht]; exact at_snB (by omega)⟩
  intro a
  induction a with
  | zero =>
    intro ha hex
    obtain ⟨i, hi, he⟩ := hex
    obtain rfl : i = 0 := by omega
    obtain ⟨t, ht, e⟩ := look ha
    unfold lseek
    rw [ht]
    dsimp only
    rw [e, he]
    exact ⟨0, rfl, Nat.le_refl _, he, fun i h1 h2 => by omega⟩
  | succ a ih =>
    intro ha hex
    obtain ⟨t, ht, e⟩ := look ha
    unfold lseek
    rw [ht]
    dsimp only
    rw [e]
    cases hc : snB seen (s0.tr.getD (a + 1) 0).natAbs with
    | true => exact ⟨a + 1, rfl, Nat.le_refl _, hc, fun i h1 h2 => by omega⟩
    | false =>
      obtain ⟨i, hi, he⟩ := hex
      obtain ⟨q, e1, e2, e3, e4⟩ := ih (by omega) ⟨i, by
        by_cases c : i = a + 1
        · subst c; rw [hc] at he; exact absurd he (by decide)
        · omega, he⟩
      refine ⟨q, e1, by omega, e3, fun i h1 h2 => ?_⟩
      by_cases c : i = a + 1
      · subst c; exact hc
      · exact e4 i h1 (by omega)
/-- set by a clause whose other numbers are told -/
def Dn (s0 : SS) (l : LS) (i : Nat) (u : Int) : Prop := ∃ (k : Nat) (c : List Int), s0.xs[k]? = some c ∧ u ∈ c ∧ ∀ y ∈ c, y ≠ u → ∃ j, j < i ∧ s0.tr[j]? = some (-y) ∧ (L0 s0.lm j ∨ snB l.seen y.natAbs = true)
/-- what learning has at its end -/
structure LE (V : Nat) (s0 : SS) (b : Nat) (c0 : List Int) (t : Int) (l : LS) : Prop where
  bs : Bs V s0 l.s
  sv : ∀ v, snB l.seen v = true → ∃ i u, s0.tr[i]? = some u ∧ u.natAbs = v ∧ ¬ L0 s0.lm i
  out : ∃ r, l.out = 0 :: r ∧ r.Nodup ∧ (∀ x ∈ r, ∃ i, s0.tr[i]? = some (-x) ∧ i < b ∧ ¬ L0 s0.lm i ∧ snB l.seen x.natAbs = true) ∧ ∀ i u, s0.tr[i]? = some u → i < b → snB l.seen u.natAbs = true → -u ∈ r
  uip : ∃ a, s0.tr[a]? = some t ∧ b ≤ a ∧ (∀ i u, s0.tr[i]? = some u → b ≤ i → i < a → snB l.seen u.natAbs = false) ∧ ∀ i u, s0.tr[i]? = some u → a < i → snB l.seen u.natAbs = true → Dn s0 l i u
  cf : ∀ y ∈ c0, Okk s0 l y
theorem Dn.mono {l l' : LS} {i : Nat} {u : Int} (h : Dn s0 l i u) (hs : ∀ v, snB l.seen v = true → snB l'.seen v = true) : Dn s0 l' i u := by
  obtain ⟨k, c, h1, h2, h3⟩ := h
  refine ⟨k, c, h1, h2, fun y hy hyu => ?_⟩
  obtain ⟨j, g1, g2, g3⟩ := h3 y hy hyu
  exact ⟨j, g1, g2, g3.imp id (hs _)⟩
theorem Okk.mono {l l' : LS} {y : Int} (h : Okk s0 l y) (hs : ∀ v, snB l.seen v = true → snB l'.seen v = true) : Okk s0 l' y := by
  obtain ⟨j, g2, g3⟩ := h
  exact ⟨j, g2, g3.imp id (hs _)⟩
/-- a clause that does not hold has a number of the last level -/
theorem cfl_cur (h : Inv V G s0) (hb : LastB s0.lm b) {k : Nat} {c : List Int} (hk : s0.xs[k]? = some c) (hc : ∀ y ∈ c, -y ∈ s0.tr) : ∃ y i, y ∈ c ∧ s0.tr[i]? = some (-y) ∧ b ≤ i := by
  obtain ⟨h2, hnd, hl⟩ := h.cl.ok k c hk
  match c, h2, hnd, hl, hk, hc with
  | x :: y :: t, _, hnd, hl, hk, hc =>
    have hw := (h.bnd b hb.mem).2 k x y t hk
    obtain ⟨i, hi, e⟩ := List.getElem_of_mem (hc x (by simp))
    have hi2 : s0.tr[i]? = some (-x) := by rw [List.getElem?_eq_getElem hi, e]
    by_cases c1 : b ≤ i
    · exact ⟨x, i, by simp, hi2, c1⟩
    · exfalso
      have h3 := hw.1 (List.mem_of_getElem? (take_of (by omega) hi2))
      exact h.tv.not_both (hl y (by simp)).1 (List.mem_of_mem_take h3) (hc y (by simp))
theorem lrnL_ok (h : Inv V G s0) (hb : LastB s0.lm b) (hV : V ≤ 400000) {k0 : Nat} {c0 : List Int} (hk0 : s0.xs[k0]? = some c0) (hc0 : ∀ y ∈ c0, -y ∈ s0.tr) : ∀ {f at_ kn : Nat} {n : Int} {l : LS} {c : List Int}, at_ < f → at_ ≤ s0.tr.length → LI V s0 b at_ l → s0.xs[kn]? = some c →
    (∀ y ∈ c, y ≠ n → ∃ i, FalseBy s0.tr at_ y i) → (∀ i u, s0.tr[i]? = some u → at_ ≤ i → snB l.seen u.natAbs = true → (u = n ∧ n ∈ c) ∨ Dn s0 l i u) →
    ((kn = k0 ∧ n = 0) ∨ 0 < l.op ∧ ∀ y ∈ c0, Okk s0 l y) → ∃ t l', lrnL V f (kn : Int) n at_ l = some (t, l') ∧ LE V s0 b c0 t l'
  | 0, _, _, _, _, _, hf, _, _, _, _, _, _ => absurd hf (Nat.not_lt_zero _)
  | f + 1, at_, kn, n, l, c, hf, hat, hl, hk, hcf, hdn, hcase => by
    have hok := h.cl.ok kn c hk
    unfold lrnL
    rw [if_neg (by omega), show ((kn : Nat) : Int).toNat = kn from rfl, hl.bs.lv.2.2.2.1, hk]
    dsimp only
    obtain ⟨l1, e1, hl1, hok1, hmono, hback⟩ := lcl_ok h hb hV hat (n := n) hl (fun y hy => (hok.2.2 y hy).1) hcf
    rw [e1]
    dsimp only
    -- the conflict's numbers are told
    have hcfl : ∀ y ∈ c0, Okk s0 l1 y := by
      rcases hcase with ⟨e, e2⟩ | ⟨_, e⟩
      · subst e
        rw [hk] at hk0
        injection hk0 with hk0
        subst hk0
        exact fun y hy => hok1 y hy (by have := (hok.2.2 y hy).1.1; omega)
      · exact fun y hy => (e y hy).mono hmono
    have hop : 0 < l1.op := by
      rcases hcase with ⟨e, e2⟩ | ⟨e, _⟩
      · subst e
        rw [hk] at hk0
        injection hk0 with hk0
        subst hk0
        obtain ⟨y, i, hy, hi, hbi⟩ := cfl_cur h hb hk hc0
        have hy0 := (hok.2.2 y hy).1.1
        obtain ⟨j, hj1, hj2⟩ := hcf y hy (by omega)
        have hij := idx_one h hj2 hi rfl
        subst hij
        obtain ⟨j2, hj3, hj4⟩ := hok1 y hy (by omega)
        have := idx_one h hj3 hi rfl
        subst this
        have hs : snB l1.seen y.natAbs = true := by
          rcases hj4 with e | e
          · have := e b hb.mem; omega
          · exact e
        rw [hl1.op]
        exact pos_cnt hj1 hbi (by rw [getD_at hi, Int.natAbs_neg]; exact hs)
      · rw [hl.op] at e
        obtain ⟨i, h1, h2, h3⟩ := cnt_pos e
        rw [hl1.op]
        exact pos_cnt h1 h2 (hmono _ h3)
    -- what is behind the place is told
    have hdn1 : ∀ i u, s0.tr[i]? = some u → at_ ≤ i → snB l1.seen u.natAbs = true → Dn s0 l1 i u := fun i u hi hia hs => by
      by_cases hs0 : snB l.seen u.natAbs = true
      · rcases hdn i u hi hia hs0 with ⟨e1, e2⟩ | e
        · subst e1
          refine ⟨kn, c, hk, e2, fun y hy hyu => ?_⟩
          obtain ⟨j, g1, g2⟩ := hcf y hy hyu
          obtain ⟨j2, g3, g4⟩ := hok1 y hy hyu
          have := idx_one h g2 g3 rfl
          subst this
          exact ⟨j, by omega, g2, g4⟩
        · exact e.mono hmono
      · -- seen in this clause: below the place
        rcases hback i u hi hs with e | e
        · exact absurd e hs0
        · omega
    match at_, hl1, hdn1, hat, hf with
    | 0, hl1, _, _, _ => rw [hl1.op] at hop; exact absurd hop (Nat.lt_irrefl _)
    | at1 + 1, hl1, hdn1, hat, hf =>
      dsimp only
      rw [hl1.bs.lv.2.1]
      have hopc := hl1.op
      rw [hopc] at hop
      obtain ⟨i0, i1, i2, i3⟩ := cnt_pos hop
      obtain ⟨q, eq, q1, q2, q3⟩ := lseek_ok h hl1.sl (a := at1) (by omega) ⟨i0, by omega, i3⟩
      rw [eq]
      dsimp only
      have hbq : b ≤ q := by
        by_cases c : i0 ≤ q
        · omega
        · have := q3 i0 (by omega) (by omega); rw [i3] at this; exact absurd this (by decide)
      obtain ⟨t, ht⟩ := at_lt (l := s0.tr) (i := q) (by omega)
      rw [ht]
      dsimp only
      rw [hl1.bs.lv.2.2.2.2.1]
      obtain ⟨r, hr, hr2⟩ := h.rs.rea q t ht
      rw [hr]
      dsimp only
      have hcq : cnt s0.tr b l1.seen (at1 + 1) = cnt s0.tr b l1.seen q + 1 := by
        rw [cnt_gap (c := q + 1) (a := at1 + 1) (by omega) fun i h1 h2 => q3 i (by omega) (by omega)]
        show cnt s0.tr b l1.seen q + _ = _
        rw [if_pos ⟨hbq, q2⟩]
      rw [hcq] at hopc
      have hseq : snB l1.seen t.natAbs = true := by rw [getD_at ht] at q2; exact q2
      have hab : ∀ i u, s0.tr[i]? = some u → q < i → snB l1.seen u.natAbs = true → Dn s0 l1 i u := fun i u hi hqi hs => by
        by_cases c : at1 + 1 ≤ i
        · exact hdn1 i u hi c hs
        · have := q3 i hqi (by omega)
          rw [getD_at hi, hs] at this
          exact absurd this (by decide)
      cases hcz : cnt s0.tr b l1.seen q with
      | zero =>
        rw [hopc, hcz]
        refine ⟨_, _, rfl, ?_⟩
        exact {
          bs := hl1.bs
          sv := hl1.sv
          out := hl1.out
          uip := ⟨q, ht, hbq, fun i u hi hbi hiq => by
            cases hs : snB l1.seen u.natAbs with
            | false => rfl
            | true =>
              have := pos_cnt (tr := s0.tr) (seen := l1.seen) hiq hbi (by rw [getD_at hi]; exact hs)
              omega, hab⟩
          cf := hcfl }
      | succ o =>
        rw [hopc, hcz]
        dsimp only
        rcases hr2 with ⟨e1, e2⟩ | ⟨k', c', e1, e2, e3, e4⟩
        · exfalso
          rcases e2 with e2 | ⟨e2, _⟩
          · have := hb.max h.le e2
            obtain rfl : q = b := by omega
            rw [cnt_low (Nat.le_refl _)] at hcz
            exact absurd hcz (by omega)
          · have := e2 b hb.mem; omega
        · subst e1
          exact lrnL_ok h hb hV hk0 hc0 (f := f) (at_ := q) (kn := k') (n := t) (c := c') (by omega) (by omega)
            { bs := hl1.bs, sl := hl1.sl, sv := hl1.sv, op := hcz.symm, out := hl1.out } e2
            (fun y hy hyt => by
              have h5 := e4 y hy hyt
              obtain ⟨i, hi, e⟩ := List.getElem_of_mem h5
              have h6 := take_at (List.getElem?_eq_getElem hi)
              rw [e] at h6
              exact ⟨i, h6.1, h6.2⟩)
            (fun i u hi hqi hs => by
              by_cases c : i = q
              · subst c
                rw [ht] at hi
                injection hi with hi
                exact .inl ⟨hi.symm, e3⟩
              · exact .inr (hab i u hi (by omega) hs))
            (.inr ⟨Nat.succ_pos _, hcfl⟩)
/-! ### the deepest level comes second -/
theorem swap_perm_int {l : List Int} {i j : Nat} {v u : Int} (hi : l[i]? = some v) (hj : l[j]? = some u) : ((l.set i u).set j v).Perm l := by
  obtain ⟨l1, e1⟩ := List.getElem?_eq_some_iff.1 hi
  obtain ⟨l2, e2⟩ := List.getElem?_eq_some_iff.1 hj
  subst e1; subst e2
  exact List.set_set_perm l1 l2
/-- the first places are looked at -/
structure Sw (lvs : List Int) (out0 out : List Int) (back : Int) (i : Nat) : Prop where
  perm : out.Perm out0
  hd : out[0]? = out0[0]?
  lv : ∀ (j : Nat) x, 1 ≤ j → out[j]? = some x → ∃ L : Int, lvs[x.natAbs]? = some L ∧ 0 < L ∧ (j < i → L ≤ back)
  bk : (i = 1 ∧ back = 0) ∨ 1 < i ∧ ∃ x, out[1]? = some x ∧ lvs[x.natAbs]? = some back ∧ 0 < back
theorem lswap_ok {lvs out0 : List Int} : ∀ {f i : Nat} {out : List Int} {back : Int}, out.length < f + i → 1 ≤ i → i ≤ out.length → Sw lvs out0 out back i → ∃ out' back', lswap lvs f i out back = some (out', back') ∧ Sw lvs out0 out' back' out'.length
  | 0, i, out, back, hf, _, hi, _ => absurd hf (by omega)
  | f + 1, i, out, back, hf, h1, hi, h => by
    unfold lswap
    by_cases hc : i < out.length
    · rw [if_pos hc]
      obtain ⟨x, hx⟩ := at_lt hc
      obtain ⟨y, hy⟩ := at_lt (l := out) (i := 1) (by omega)
      rw [hx, hy]
      dsimp only
      obtain ⟨L, hL, hL0, _⟩ := h.lv i x h1 hx
      rw [hL]
      dsimp only
      by_cases hb : back < L
      · rw [if_pos hb]
        have hsw : ∀ j, ((out.set 1 x).set i y)[j]? = if j = i then some y else if j = 1 then some x else out[j]? := fun j => by
          rw [at_set (by rw [List.length_set]; exact hc), at_set (by omega)]
        have hp := swap_perm_int hy hx
        refine lswap_ok (f := f) (i := i + 1) (by rw [List.length_set, List.length_set]; omega) (by omega) (by rw [List.length_set, List.length_set]; omega) ?_
        exact {
          perm := hp.trans h.perm
          hd := by rw [hsw, if_neg (by omega), if_neg (by omega)]; exact h.hd
          lv := fun j z hj hz => by
            rw [hsw] at hz
            by_cases c1 : j = i
            · rw [if_pos c1] at hz
              injection hz with hz
              subst hz; subst c1
              obtain ⟨M, m1, m2, m3⟩ := h.lv 1 y (Nat.le_refl _) hy
              refine ⟨M, m1, m2, fun _ => ?_⟩
              by_cases c2 : j = 1
              · subst c2
                rw [hx] at hy; injection hy with hy; subst hy
                rw [hL] at m1; injection m1 with m1; omega
              · have := m3 (by omega); omega
            · rw [if_neg c1] at hz
              by_cases c2 : j = 1
              · rw [if_pos c2] at hz
                injection hz with hz
                subst hz
                exact ⟨L, hL, hL0, fun _ => Int.le_refl _⟩
              · rw [if_neg c2] at hz
                obtain ⟨M, m1, m2, m3⟩ := h.lv j z hj hz
                exact ⟨M, m1, m2, fun hji => by have := m3 (by omega); omega⟩
          bk := .inr ⟨by omega, x, by
            rw [hsw]
            by_cases c1 : 1 = i
            · rw [if_pos c1]; rw [← c1] at hx; rw [hx] at hy; exact hy.symm
            · rw [if_neg c1, if_pos rfl], hL, hL0⟩ }
      · rw [if_neg hb]
        refine lswap_ok (f := f) (i := i + 1) (by omega) (by omega) (by omega) ?_
        exact {
          perm := h.perm
          hd := h.hd
          lv := fun j z hj hz => by
            obtain ⟨M, m1, m2, m3⟩ := h.lv j z hj hz
            refine ⟨M, m1, m2, fun hji => ?_⟩
            by_cases c1 : j = i
            · subst c1
              rw [hx] at hz; injection hz with hz; subst hz
              rw [hL] at m1; injection m1 with m1; omega
            · exact m3 (by omega)
          bk := by
            rcases h.bk with ⟨e1, e2⟩ | ⟨e1, e2⟩
            · exfalso; omega
            · exact .inr ⟨by omega, e2⟩ }
    · rw [if_neg hc]
      obtain rfl : i = out.length := by omega
      exact ⟨_, _, rfl, h⟩
/-! ### what is learned -/
/-- what is true at level 0 follows by units -/
theorem imp_l0 (h : Inv V G s0) {c : List Int} : ∀ {m i : Nat} {u : Int}, i < m → s0.tr[i]? = some u → L0 s0.lm i → Imp G c u
  | 0, _, _, hm, _, _ => absurd hm (Nat.not_lt_zero _)
  | m + 1, i, u, hm, hi, h0 => by
    obtain ⟨r, hr, hr2⟩ := h.rs.rea i u hi
    rcases hr2 with ⟨_, e2 | ⟨_, d, e3, e4⟩⟩ | ⟨k, x, _, e2, e3, e4⟩
    · exact absurd (h0 i e2) (Nat.lt_irrefl _)
    · exact imp_unit e3 fun z hz hzu => absurd ((e4 z).1 hz) hzu
    · obtain ⟨d, hd, hs⟩ := h.cl.src k x e2
      refine imp_unit hd fun z hz hzu => ?_
      have hzx := (hs z).2 hz
      refine ⟨((h.cl.ok k x e2).2.2 z hzx).1.1, ?_⟩
      obtain ⟨j, hj, e⟩ := List.getElem_of_mem (e4 z hzx hzu)
      have h6 := take_at (List.getElem?_eq_getElem hj)
      rw [e] at h6
      exact imp_l0 h (m := m) (by omega) h6.2 fun a ha => by have := h0 a ha; omega
/-- the learned clause, and where it leads -/
structure Lrn (V : Nat) (G : List (List Int)) (s0 s : SS) (c : List Int) (back : Int) : Prop where
  bs : Bs V s0 s
  lit : ∀ y ∈ c, Lit V y
  nd : c.Nodup
  fls : ∀ y ∈ c, -y ∈ s0.tr
  ref : Ref G c
  new : s0.dead = false → ∀ d ∈ G, ¬ SameC d c
  bk : ∃ (l m : Nat), back = (l : Int) ∧ s0.lm[l]? = some m ∧ ∃ a r, c = a :: r ∧ -a ∉ s0.tr.take m ∧ (∀ x ∈ r, -x ∈ s0.tr.take m) ∧ (r = [] → l = 0) ∧ ∀ x r', r = x :: r' → ∀ (j m' : Nat), j < l → s0.lm[j]? = some m' → -x ∉ s0.tr.take m'
theorem LE.told (h : Inv V G s0) (hb : LastB s0.lm b) {c0 : List Int} {t : Int} {l : LS} (he : LE V s0 b c0 t l) {c : List Int} (hc : ∀ y, y ∈ c ↔ y = -t ∨ ∃ r, l.out = 0 :: r ∧ y ∈ r) :
    ∀ {m i : Nat} {u : Int}, i < m → s0.tr[i]? = some u → (L0 s0.lm i ∨ snB l.seen u.natAbs = true) → Imp G c u
  | 0, _, _, hm, _, _ => absurd hm (Nat.not_lt_zero _)
  | m + 1, i, u, hm, hi, hs => by
    have hu0 := (h.tv.trv u (List.mem_of_getElem? hi)).1.1
    rcases hs with hs | hs
    · exact imp_l0 h (Nat.lt_succ_self i) hi hs
    · obtain ⟨a, ha, hba, hlow, habv⟩ := he.uip
      obtain ⟨r, ho, hnd, hr1, hr2⟩ := he.out
      by_cases c1 : i < b
      · have h1 := hr2 i u hi c1 hs
        have := imp_self (L := G) ((hc (-u)).2 (.inr ⟨r, ho, h1⟩)) (by omega)
        rwa [Int.neg_neg] at this
      · by_cases c2 : i < a
        · have := hlow i u hi (by omega) c2
          rw [hs] at this; exact absurd this (by decide)
        · by_cases c3 : i = a
          · subst c3
            rw [ha] at hi; injection hi with hi; subst hi
            have := imp_self (L := G) ((hc (-t)).2 (.inl rfl)) (by omega)
            rwa [Int.neg_neg] at this
          · obtain ⟨k, x, e1, e2, e3⟩ := habv i u hi (by omega) hs
            obtain ⟨d, hd, hs2⟩ := h.cl.src k x e1
            refine imp_unit hd fun z hz hzu => ?_
            have hzx := (hs2 z).2 hz
            refine ⟨((h.cl.ok k x e1).2.2 z hzx).1.1, ?_⟩
            obtain ⟨j, j1, j2, j3⟩ := e3 z hzx hzu
            exact LE.told h hb he hc (m := m) (by omega) j2 (by rw [Int.natAbs_neg]; exact j3)
theorem learnM_ok (h : Inv V G s0) (hlm : s0.lm ≠ []) (hV : V ≤ 400000) {k0 : Nat} {c0 : List Int} (hk0 : s0.xs[k0]? = some c0) (hc0 : ∀ y ∈ c0, -y ∈ s0.tr) :
    ∃ c back s, learnM V s0 k0 = some (c, back, s) ∧ Lrn V G s0 s c back := by
  obtain ⟨b, hbm⟩ := at_lt (l := s0.lm) (i := s0.lm.length - 1) (by have := List.length_pos_iff.2 hlm; omega)
  have hb : LastB s0.lm b := ⟨hlm, hbm⟩
  have hrep : ∀ v, snB (List.replicate (V + 1) false) v = false := fun v => by
    unfold snB
    rw [List.getD_eq_getElem?_getD, List.getElem?_replicate]
    split <;> rfl
  have hno : ∀ a, cnt s0.tr b (List.replicate (V + 1) false) a = 0 := fun a => by
    cases e : cnt s0.tr b (List.replicate (V + 1) false) a with
    | zero => rfl
    | succ n =>
      obtain ⟨i, _, _, h3⟩ := cnt_pos (tr := s0.tr) (b := b) (seen := List.replicate (V + 1) false) (a := a) (by omega)
      rw [hrep] at h3; exact absurd h3 (by decide)
  have hL : LI V s0 b s0.tr.length { s := s0, seen := List.replicate (V + 1) false, op := 0, out := [0] } := {
    bs := ⟨s0.sc, s0.gr, s0.hp, s0.pl, rfl, h.hp, List.Perm.refl _, h.sc⟩
    sl := by simp
    sv := fun v hv => by rw [hrep] at hv; exact absurd hv (by decide)
    op := (hno _).symm
    out := ⟨[], rfl, List.nodup_nil, fun _ hx => (by cases hx), fun i u _ _ hs => by rw [hrep] at hs; exact absurd hs (by decide)⟩ }
  obtain ⟨t, l, e1, he⟩ := lrnL_ok h hb hV hk0 hc0 (f := s0.tr.length + 1) (at_ := s0.tr.length) (kn := k0) (n := 0) (Nat.lt_succ_self _) (Nat.le_refl _) hL hk0
    (fun y hy _ => by
      obtain ⟨i, hi, e⟩ := List.getElem_of_mem (hc0 y hy)
      exact ⟨i, hi, by rw [List.getElem?_eq_getElem hi, e]⟩)
    (fun i u hi hia _ => absurd (lt_of_at hi) (by omega)) (.inl ⟨rfl, rfl⟩)
  unfold learnM
  rw [e1]
  dsimp only
  obtain ⟨a, ha, hba, hlow, habv⟩ := he.uip
  obtain ⟨r, ho, hnd, hr1, hr2⟩ := he.out
  rw [ho, he.bs.lv.1]
  have ht := (h.tv.trv t (List.mem_of_getElem? ha)).1
  have hset : (0 :: r : List Int).set 0 (-t) = -t :: r := rfl
  rw [hset, show (0 :: r : List Int).length = (-t :: r).length from rfl]
  obtain ⟨c, back, e2, hsw⟩ := lswap_ok (lvs := s0.lv) (out0 := -t :: r) (f := (-t :: r).length + 1) (i := 1) (out := -t :: r) (back := 0) (by omega) (Nat.le_refl _) (by simp) {
    perm := List.Perm.refl _
    hd := rfl
    lv := fun j x hj hx => by
      obtain ⟨j0, rfl⟩ : ∃ j0, j = j0 + 1 := ⟨j - 1, by omega⟩
      rw [List.getElem?_cons_succ] at hx
      obtain ⟨i, h1, h2, h3, _⟩ := hr1 x (List.mem_of_getElem? hx)
      obtain ⟨L, g1, g2, g3, g4, _⟩ := h.le.cur hb h1
      rw [Int.natAbs_neg] at g1
      refine ⟨(L : Int), g1, ?_, fun _ => by omega⟩
      have : L ≠ 0 := fun e => h3 (g4.1 e)
      omega
    bk := .inl ⟨rfl, rfl⟩ }
  rw [e2]
  refine ⟨c, back, l.s, rfl, ?_⟩
  -- the clause's numbers
  have hmem : ∀ y, y ∈ c ↔ y = -t ∨ y ∈ r := fun y => by rw [hsw.perm.mem_iff, List.mem_cons]
  have hfls : ∀ y ∈ c, -y ∈ s0.tr := fun y hy => by
    rcases (hmem y).1 hy with e | e
    · subst e; rw [Int.neg_neg]; exact List.mem_of_getElem? ha
    · obtain ⟨i, h1, _⟩ := hr1 y e
      exact List.mem_of_getElem? h1
  have hlit : ∀ y ∈ c, Lit V y := fun y hy => by
    have := (h.tv.trv _ (hfls y hy)).1.neg
    rwa [Int.neg_neg] at this
  have htr : -t ∉ r := fun hm => by
    obtain ⟨i, h1, h2, _⟩ := hr1 _ hm
    rw [Int.neg_neg] at h1
    have := idx_one h h1 ha rfl
    omega
  have hcnd : c.Nodup := hsw.perm.nodup_iff.2 (List.nodup_cons.2 ⟨htr, hnd⟩)
  obtain ⟨a0, r', hcr⟩ : ∃ a0 r', c = a0 :: r' := by
    cases c with
    | nil => have := hsw.hd; simp at this
    | cons x y => exact ⟨x, y, rfl⟩
  have ha0 : a0 = -t := by have := hsw.hd; rw [hcr] at this; simpa using this
  have hr' : ∀ y ∈ r', y ∈ r := fun y hy => by
    rcases (hmem y).1 (by rw [hcr]; exact List.mem_cons_of_mem _ hy) with e | e
    · exfalso
      rw [hcr, ha0, List.nodup_cons] at hcnd
      subst e
      exact hcnd.1 hy
    · exact e
  have hrr : ∀ y ∈ r, y ∈ r' := fun y hy => by
    have := (hmem y).2 (.inr hy)
    rw [hcr] at this
    rcases List.mem_cons.1 this with e | e
    · subst e; rw [ha0] at hy; exact absurd hy htr
    · exact e
  -- levels of the others
  have hlvl : ∀ x ∈ r', ∃ (i L : Nat), s0.tr[i]? = some (-x) ∧ i < b ∧ s0.lv[x.natAbs]? = some (L : Int) ∧ L ≠ 0 ∧ L < s0.lm.length ∧ (L : Int) ≤ back ∧ ∀ (j m : Nat), s0.lm[j]? = some m → (m ≤ i ↔ j < L) := fun x hx => by
    obtain ⟨i, h1, h2, h3, _⟩ := hr1 x (hr' x hx)
    obtain ⟨L, g1, g2, g3, g4, g5⟩ := h.le.cur hb h1
    rw [Int.natAbs_neg] at g1
    obtain ⟨j, hj, e⟩ := List.getElem_of_mem hx
    obtain ⟨M, m1, m2, m3⟩ := hsw.lv (j + 1) x (by omega) (by rw [hcr, List.getElem?_cons_succ, List.getElem?_eq_getElem hj, e])
    rw [g1] at m1
    injection m1 with m1
    have m4 := m3 (by rw [hcr, List.length_cons]; omega)
    refine ⟨i, L, h1, h2, g1, by omega, ?_, by omega, g5⟩
    by_cases c1 : L = s0.lm.length
    · have := g3.1 c1; omega
    · omega
  have hback : ∃ l : Nat, back = (l : Int) ∧ l < s0.lm.length ∧ (r' = [] → l = 0) ∧ ∀ x r'', r' = x :: r'' → ∃ i, s0.tr[i]? = some (-x) ∧ ∀ (j m' : Nat), j < l → s0.lm[j]? = some m' → m' ≤ i := by
    rcases hsw.bk with ⟨e3, e4⟩ | ⟨e3, x, e4, e5, e6⟩
    · have hn : r' = [] := by
        rw [hcr, List.length_cons] at e3
        exact List.length_eq_zero_iff.1 (by omega)
      exact ⟨0, by omega, List.length_pos_iff.2 hlm, fun _ => rfl, fun x r'' e => (by rw [hn] at e; cases e)⟩
    · rw [hcr, List.getElem?_cons_succ] at e4
      have hxr : x ∈ r' := List.mem_of_getElem? e4
      obtain ⟨i, L, g1, g2, g3, g4, g5, g6, g7⟩ := hlvl x hxr
      rw [g3] at e5
      injection e5 with e5
      refine ⟨L, e5.symm, g5, fun e => (by rw [e] at hxr; cases hxr), fun z r'' e => ?_⟩
      rw [e] at e4
      injection e4 with e4
      subst e4
      exact ⟨i, g1, fun j m' hj hm' => (g7 j m' hm').2 hj⟩
  obtain ⟨lv0, hl1, hl2, hl3, hl4⟩ := hback
  obtain ⟨m, hm⟩ := at_lt hl2
  have hmb : m ≤ b := hb.max h.le (List.mem_of_getElem? hm)
  exact {
    bs := he.bs
    lit := hlit
    nd := hcnd
    fls := hfls
    ref := by
      obtain ⟨d, hd, hs⟩ := h.cl.src k0 c0 hk0
      refine ref_conf hd fun z hz => ?_
      have hz0 := (hs z).2 hz
      refine ⟨((h.cl.ok k0 c0 hk0).2.2 z hz0).1.1, ?_⟩
      obtain ⟨i, h1, h2⟩ := he.cf z hz0
      exact LE.told h hb he (fun y => by rw [hmem]; constructor
                                         · rintro (e | e)
                                           · exact .inl e
                                           · exact .inr ⟨r, ho, e⟩
                                         · rintro (e | ⟨r2, e3, e4⟩)
                                           · exact .inl e
                                           · rw [ho] at e3; injection e3 with _ e3; subst e3; exact .inr e4) (Nat.lt_succ_self i) h1 (by rw [Int.natAbs_neg]; exact h2)
    new := fun hdead d hd hs => by
      rcases h.cov hdead d hd with ⟨n, hn1, hn2⟩ | ⟨k, x, hx1, hx2⟩ | ⟨u, i, hu1, hu2, hu3⟩
      · have h1 := hfls n ((hs n).1 hn1)
        have h2 := hfls (-n) ((hs (-n)).1 hn2)
        rw [Int.neg_neg] at h2
        exact h.tv.not_both (hlit n ((hs n).1 hn1)) h2 h1
      · -- the clause would not hold below the last level, or set there
        have hxm : ∀ y, y ∈ x ↔ y ∈ c := fun y => (hx2 y).trans (hs y)
        have hxok := h.cl.ok k x hx1
        have hw := (h.bnd b hb.mem).2 k
        match x, hxok, hx1, hxm with
        | p :: q :: tl, hxok, hx1, hxm =>
          have hw := hw p q tl hx1
          have hpc := (hxm p).1 (by simp)
          have hqc := (hxm q).1 (by simp)
          have hpq : p ≠ q := fun e => by subst e; exact (List.nodup_cons.1 hxok.2.1).1 List.mem_cons_self
          have hlow2 : ∀ y ∈ c, y ≠ -t → -y ∈ s0.tr.take b := fun y hy hyt => by
            rcases (hmem y).1 hy with e | e
            · exact absurd e hyt
            · obtain ⟨i, h1, h2, _⟩ := hr1 y e
              exact List.mem_of_getElem? (take_of h2 h1)
          by_cases e : p = -t
          · have h3 := hw.2 (hlow2 q hqc (fun e2 => hpq (e.trans e2.symm)))
            exact h.tv.not_both (hlit p hpc) (List.mem_of_mem_take h3) (hfls p hpc)
          · have h3 := hw.1 (hlow2 p hpc e)
            exact h.tv.not_both (hlit q hqc) (List.mem_of_mem_take h3) (hfls q hqc)
        | [p], hxok, _, _ => exact absurd hxok.1 (by simp)
        | [], hxok, _, _ => exact absurd hxok.1 (by simp)
      · have huc := (hs u).1 hu1
        exact h.tv.not_both (hlit u huc) (List.mem_of_getElem? hu2) (hfls u huc)
    bk := ⟨lv0, m, hl1, hm, a0, r', hcr, fun hmm => by
        rw [ha0, Int.neg_neg] at hmm
        obtain ⟨j, hj, e⟩ := List.getElem_of_mem hmm
        have h6 := take_at (List.getElem?_eq_getElem hj)
        rw [e] at h6
        have := idx_one h h6.2 ha rfl
        omega, fun x hx => by
        obtain ⟨i, L, g1, g2, g3, g4, g5, g6, g7⟩ := hlvl x hx
        have : i < m := by
          by_cases c1 : m ≤ i
          · have := (g7 lv0 m hm).1 c1; omega
          · omega
        exact List.mem_of_getElem? (take_of this g1), hl3, fun x r'' e j m' hj hm' hmm => by
        obtain ⟨i, g1, g2⟩ := hl4 x r'' e
        have g3 := g2 j m' hj hm'
        obtain ⟨q, hq, e⟩ := List.getElem_of_mem hmm
        have h6 := take_at (List.getElem?_eq_getElem hq)
        rw [e] at h6
        have := idx_one h h6.2 g1 rfl
        omega⟩ }
end
end Go.Proofs.YtaedbnbeelkkcaaDoor.slv
