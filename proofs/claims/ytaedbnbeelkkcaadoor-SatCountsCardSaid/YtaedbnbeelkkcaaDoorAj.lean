/-
  PLAIN: a new solver, clauses added to it; counting goes through, and tells how many models there are. No program in sight.
  PLAIN: counting: more fuel leaves an answer; each answer yes takes one model away; what is told is how many there are. No program in sight.
-/
import Derived.Test.YtaedbnbeelkkcaaDoorAh
import Derived.Test.YtaedbnbeelkkcaaDoorUq
namespace Go.Proofs.YtaedbnbeelkkcaaDoor.slv
/-! ### mirror: a new solver, more clauses, counting -/
def newS (V : Nat) : SS where
  xs := []
  wt := fun _ => []
  vs := List.replicate (V + 1) 0
  lv := List.replicate (V + 1) 0
  rs := List.replicate (V + 1) 0
  tr := []
  lm := []
  hd := 0
  sc := List.replicate (V + 1) 0
  gr := 4607182418800017408
  ph := List.replicate (V + 1) false
  hp := (List.range V).map (· + 1)
  pl := (List.range (V + 1)).map fun v => ((v - 1 : Nat) : Int)
  pf := []
  dead := false
def addAll (V : Nat) : List (List Int) → SS → Option SS
  | [], s => some s
  | c :: r, s => match addM V s c with | none => none | some s' => addAll V r s'
def newM (V : Nat) (F : List (List Int)) : Option SS := addAll V F (newS V)
/-- numbers that are open; none within: one of them is true -/
def openM (vs : List Int) : List Int → Option (Option (List Int))
  | [] => some (some [])
  | n :: r =>
    match ofM vs n with
    | none => none
    | some x =>
      if x = 1 then some none
      else
        match openM vs r with
        | none => none
        | some none => some none
        | some (some l) => if x = 0 then some (some (n :: l)) else some (some l)
def moreM (V : Nat) (s : SS) (c : List Int) : Option SS :=
  match openM s.vs c with
  | none => none
  | some none => some s
  | some (some l) => addM V s l
/-- not this one again -/
def blkL : Nat → List Bool → List Int
  | _, [] => []
  | i, x :: r => (if x then -(i : Int) - 1 else (i : Int) + 1) :: blkL (i + 1) r
def countL (V most fuel : Nat) : Nat → Nat → SS → Option (Option Nat)
  | 0, _, _ => none
  | f + 1, n, s =>
    match searchM V 1099511627776 fuel s with
    | none => none
    | some (.yes m, s1) =>
      if most < n + 1 then some none
      else
        match backM V s1 0 with
        | none => none
        | some s2 =>
          match moreM V s2 (blkL 0 m) with
          | none => none
          | some s3 => countL V most fuel f (n + 1) s3
    | some (_, _) => some (some n)
section
variable {V : Nat} {F : List (List Int)} {s : SS} {c : List Int}
/-! ### one clause more -/
theorem neat_mem (c : List Int) (n : Int) : n ∈ neat c ↔ n ∈ c := by unfold neat; rw [compact_mem, sort_mem]
theorem neat_nd (c : List Int) : (neat c).Nodup := compact_nodup (sort_sorted c)
theorem Full.same {G G' : List (List Int)} (h : Full V G s) (hs : ∀ x, x ∈ G ↔ x ∈ G') : Full V G' s :=
  { inv := h.inv.mono (fun x hx => (hs x).1 hx) (fun _ d hd => .inl ((hs d).2 hd)), wt := h.wt, wi := h.wi, hd := h.hd }
theorem SI.grow {s' : SS} (h : SI V F s) (hf : Full V (F ++ s.pf ++ [c]) s') (hp : s'.pf = s.pf) (hx : s'.xs.length ≤ s.xs.length + 1) : SI V (F ++ [c]) s' := by
  refine ⟨?_, ?_, by rw [hp, List.length_append, List.length_singleton]; have := h.len; omega⟩
  · rw [hp]
    exact hf.same fun x => by simp only [List.mem_append, List.mem_singleton]; constructor <;> (rintro ((h | h) | h) <;> simp [h])
  · rw [hp]
    exact ⟨fun i d hd => (h.pf.ref i d hd).mono fun x hx => by
      rcases List.mem_append.1 hx with e | e
      · exact List.mem_append_left _ (List.mem_append_left _ e)
      · exact List.mem_append_right _ e, h.pf.lit, h.pf.nov⟩
/-- one clause more, that is told -/
theorem Full.told {G : List (List Int)} (h : Full V G s) (hc : s.dead = false → Cov s.xs s.tr s.lm c) : Full V (G ++ [c]) s :=
  { inv := h.inv.mono (fun x hx => List.mem_append_left _ hx) (fun e d hd => by
      rcases List.mem_append.1 hd with g | g
      · exact .inl g
      · rw [List.mem_singleton.1 g]; exact .inr (hc e))
    wt := h.wt, wi := h.wi, hd := h.hd }
/-- none can hold -/
theorem Full.die {G : List (List Int)} (h : Full V G s) (hr : Ref (G ++ [c]) []) : Full V (G ++ [c]) { s with dead := true } := by
  have hmem : ∀ x ∈ G, x ∈ G ++ [c] := fun x hx => List.mem_append_left _ hx
  exact { inv := { tv := h.inv.tv, le := h.inv.le, rs := h.inv.rs.mono hmem, cl := h.inv.cl.mono hmem, hp := h.inv.hp, sc := h.inv.sc, ih := h.inv.ih, ph := h.inv.ph, cov := fun e => (by cases e), ded := fun _ => hr, bnd := h.inv.bnd }
          wt := h.wt, wi := h.wi, hd := h.hd }
/-- what adding leaves -/
structure Ad (V : Nat) (F : List (List Int)) (s : SS) (c : List Int) (s' : SS) : Prop where
  si : SI V (F ++ [c]) s'
  lm : s'.lm = []
  hd : s'.hd = s.hd
  pf : s'.pf = s.pf
theorem addM_ok (h : SI V F s) (hl : s.lm = []) (hc : ∀ n ∈ c, Lit V n) (hf : ∀ n ∈ c, -n ∉ s.tr.take s.hd) (hsz : s.xs.length < 4000000) : ∃ s', addM V s c = some s' ∧ Ad V F s c s' := by
  have hm := neat_mem c
  have hnd := neat_nd c
  have hL0 : ∀ i, L0 s.lm i := fun i m hm => by rw [hl] at hm; cases hm
  unfold addM
  by_cases ht : (neat c).any (fun n => decide (0 < n) && (neat c).contains (-n)) = true
  · rw [if_pos ht]
    obtain ⟨n, hn, h2⟩ := List.any_eq_true.1 ht
    rw [Bool.and_eq_true] at h2
    have h3 : -n ∈ neat c := by simpa using h2.2
    exact ⟨s, rfl, h.grow (h.full.told fun _ => .inl ⟨n, (hm n).1 hn, (hm _).1 h3⟩) rfl (by omega), hl, rfl, rfl⟩
  · rw [if_neg ht]
    have hnt : ∀ n ∈ neat c, -n ∉ neat c := fun n hn hn2 => by
      have h0 := (hc n ((hm n).1 hn)).1
      by_cases hp : 0 < n
      · exact ht (List.any_eq_true.2 ⟨n, hn, by rw [Bool.and_eq_true]; exact ⟨decide_eq_true hp, by simpa using hn2⟩⟩)
      · exact ht (List.any_eq_true.2 ⟨-n, hn2, by rw [Bool.and_eq_true]; exact ⟨decide_eq_true (by omega), by rw [Int.neg_neg]; simpa using hn⟩⟩)
    have hlit : ∀ n ∈ neat c, Lit V n := fun n hn => hc n ((hm n).1 hn)
    match hne : neat c, hnd, hm, hnt, hlit with
    | [], hnd, hm, hnt, hlit =>
      dsimp only
      have hc0 : c = [] := by
        cases c with
        | nil => rfl
        | cons x r => have := (hm x).2 List.mem_cons_self; cases this
      refine ⟨_, rfl, h.grow (h.full.die (fun A _ hS => ?_)) rfl (by show s.xs.length ≤ _; omega), hl, rfl, rfl⟩
      subst hc0
      rcases hS [] (List.mem_append_right _ (List.mem_singleton.2 rfl)) with ⟨n, hn, _⟩ | ⟨n, hn, _⟩ <;> cases hn
    | [a], hnd, hm, hnt, hlit =>
      dsimp only
      have ha := hlit a (by simp)
      have hca : ∀ y, y ∈ c ↔ y = a := fun y => by rw [← hm]; exact List.mem_singleton
      rw [ofM_ok h.full.inv.tv ha.2]
      dsimp only
      by_cases x1 : lv (va s.vs) a = -1
      · rw [if_pos x1]
        refine ⟨_, rfl, h.grow (h.full.die ?_) rfl (by show s.xs.length ≤ _; omega), hl, rfl, rfl⟩
        refine ref_conf (l := c) (List.mem_append_right _ (List.mem_singleton.2 rfl)) fun z hz => ?_
        rw [hca] at hz
        subst hz
        refine ⟨ha.1, ?_⟩
        obtain ⟨i, hi, e⟩ := List.getElem_of_mem (h.full.inv.tv.val_neg ha x1)
        exact (imp_l0 h.full.inv (Nat.lt_succ_self i) (by rw [List.getElem?_eq_getElem hi, e]) (hL0 i)).mono fun x hx => List.mem_append_left _ hx
      · rw [if_neg x1]
        by_cases x0 : lv (va s.vs) a = 0
        · rw [if_pos x0, setM_do h.full.inv ha]
          exact ⟨_, rfl, h.grow (h.full.setUnit hl ha x0 hca) rfl (by show s.xs.length ≤ _; omega), hl, rfl, rfl⟩
        · rw [if_neg x0]
          have hv : lv (va s.vs) a = 1 := by rcases h.full.inv.tv.cases a with e | e | e <;> omega
          obtain ⟨i, hi, e⟩ := List.getElem_of_mem (h.full.inv.tv.trs a ha hv)
          exact ⟨s, rfl, h.grow (h.full.told fun _ => .inr (.inr ⟨a, i, (hca a).2 rfl, by rw [List.getElem?_eq_getElem hi, e], hL0 i⟩)) rfl (by omega), hl, rfl, rfl⟩
    | a :: b :: r, hnd, hm, hnt, hlit =>
      dsimp only
      have ha := hlit a (by simp)
      have hb := hlit b (by simp)
      have hab : a ≠ b := fun e => by subst e; exact (List.nodup_cons.1 hnd).1 (by simp)
      rw [attachM_do h.full.wt hsz ha hb hab]
      have hok : ClOk V (a :: b :: r) := ⟨by simp, hnd, fun n hn => ⟨hlit n hn, hnt n hn⟩⟩
      refine ⟨_, rfl, h.grow ?_ rfl (by show (s.xs ++ [a :: b :: r]).length ≤ _; rw [List.length_append]; exact Nat.le_refl _), hl, rfl, rfl⟩
      exact {
        inv := Inv.attach h.full.inv hok hm (fun m hm => by rw [hl] at hm; cases hm) _
        wt := h.full.wt.snoc
        wi := wi_snoc h.full.wi fun a' b' r' e => by
          injection e with e1 e; injection e with e2 e3
          subst e1; subst e2
          exact ⟨fun hx => absurd hx (hf a ((hm a).1 (by simp))), fun hx => absurd hx (hf b ((hm b).1 (by simp)))⟩
        hd := h.full.hd }
/-! ### a new solver -/
theorem rep_at {α : Type} {n i : Nat} {x y : α} (h : (List.replicate n x)[i]? = some y) : y = x := by
  rw [List.getElem?_replicate] at h
  split at h
  · injection h with h; exact h.symm
  · cases h
theorem newS_ok (V : Nat) : SI V [] (newS V) := by
  have hva : ∀ v, va (List.replicate (V + 1) 0) v = 0 := fun v => by
    unfold va
    rw [List.getD_eq_getElem?_getD, List.getElem?_replicate]
    split <;> rfl
  exact {
    full := {
      inv := {
        tv := ⟨by show (List.replicate _ _).length = _; simp, fun x hx => .inr (.inl (List.eq_of_mem_replicate hx)), fun n hn => (by cases hn), fun n hn hv => by
          have : lv (va (List.replicate (V + 1) 0)) n = 0 := lv_zero.2 (hva _)
          have hv' : lv (va (List.replicate (V + 1) 0)) n = 1 := hv
          omega, List.nodup_nil⟩
        le := ⟨by show (List.replicate _ _).length = _; simp, fun i j m m' _ hi => (by simp [newS] at hi), fun m hm => (by cases hm), fun i n hi => (by simp [newS] at hi)⟩
        rs := ⟨by show (List.replicate _ _).length = _; simp, fun i n hi => (by simp [newS] at hi)⟩
        cl := ⟨fun k c hk => (by simp [newS] at hk), fun k c hk => (by simp [newS] at hk)⟩
        hp := ⟨by show (List.map _ _).length = _; simp, fun i v hi => by
            have hi' : ((List.range V).map (· + 1))[i]? = some v := hi
            rw [List.getElem?_map] at hi'
            cases e : (List.range V)[i]? with
            | none => rw [e] at hi'; cases hi'
            | some u =>
              rw [e] at hi'
              injection hi' with hi'
              have hi2 : u + 1 = v := hi'
              have hiV := lt_of_at e
              rw [List.length_range] at hiV
              rw [List.getElem?_range hiV] at e
              injection e with e
              refine ⟨by omega, by omega, ?_⟩
              show ((List.range (V + 1)).map fun v => ((v - 1 : Nat) : Int))[v]? = _
              rw [List.getElem?_map, List.getElem?_range (by omega)]
              show some (((v - 1 : Nat) : Int)) = _
              congr 1; omega, fun v p hv hp => by
            have hp' : ((List.range (V + 1)).map fun v => ((v - 1 : Nat) : Int))[v]? = some p := hp
            have hlt := lt_of_at hp'
            rw [List.length_map, List.length_range] at hlt
            rw [List.getElem?_map, List.getElem?_range hlt] at hp'
            injection hp' with hp'
            refine .inr ⟨v - 1, hp'.symm, ?_⟩
            show ((List.range V).map (· + 1))[v - 1]? = _
            rw [List.getElem?_map, List.getElem?_range (by omega)]
            show some (v - 1 + 1) = _
            congr 1; omega⟩
        sc := ⟨by show (List.replicate _ _).length = _; simp, fun a ha => by rw [List.eq_of_mem_replicate ha]; exact Nat.zero_le _, by show (4607182418800017408 : Nat) ≤ _; decide⟩
        ih := fun v v1 v2 _ => by
          show v ∈ (List.range V).map (· + 1)
          exact List.mem_map.2 ⟨v - 1, List.mem_range.2 (by omega), by omega⟩
        ph := by show (List.replicate _ _).length = _; simp
        cov := fun _ d hd => (by cases hd)
        ded := fun e => (by cases e)
        bnd := fun m hm => (by cases hm) }
      wt := ⟨fun i k => ⟨fun hk => (by cases hk), fun ⟨a, b, t, hk, _⟩ => (by simp [newS] at hk)⟩, fun i => List.nodup_nil⟩
      wi := fun k a b r hk => (by simp [newS] at hk)
      hd := Nat.le_refl _ }
    pf := ⟨fun i c hi => (by simp [newS] at hi), fun c hc => (by cases hc), List.Pairwise.nil⟩
    len := Nat.le_refl _ }
theorem addAll_ok : ∀ {R F : List (List Int)} {s : SS}, SI V F s → s.lm = [] → s.hd = 0 → s.pf = [] → (∀ c ∈ R, ∀ n ∈ c, Lit V n) → F.length + R.length < 4000000 → ∃ s', addAll V R s = some s' ∧ SI V (F ++ R) s' ∧ s'.lm = [] ∧ s'.hd = 0 ∧ s'.pf = []
  | [], F, s, h, h1, h2, h3, _, _ => ⟨s, rfl, by rw [List.append_nil]; exact h, h1, h2, h3⟩
  | c :: R, F, s, h, h1, h2, h3, hl, hsz => by
    rw [List.length_cons] at hsz
    have hxl := h.len
    rw [h3] at hxl
    obtain ⟨s1, e1, g⟩ := addM_ok (c := c) h h1 (hl c List.mem_cons_self) (fun n _ => by rw [h2, List.take_zero]; exact List.not_mem_nil) (by simp at hxl; omega)
    unfold addAll
    rw [e1]
    obtain ⟨s', e2, g1, g2, g3, g4⟩ := addAll_ok (R := R) (F := F ++ [c]) g.si g.lm (g.hd.trans h2) (g.pf.trans h3) (fun d hd => hl d (List.mem_cons_of_mem _ hd)) (by rw [List.length_append, List.length_singleton]; omega)
    refine ⟨s', e2, ?_, g2, g3, g4⟩
    rw [List.append_assoc] at g1
    exact g1
theorem newM_ok (hl : ∀ c ∈ F, ∀ n ∈ c, Lit V n) (hsz : F.length < 4000000) : ∃ s, newM V F = some s ∧ SI V F s ∧ s.lm = [] ∧ s.hd = 0 ∧ s.pf = [] := by
  have := addAll_ok (R := F) (newS_ok V) rfl rfl rfl hl (by simpa using hsz)
  rwa [List.nil_append] at this
/-! ### more amid the search -/
theorem openM_ok (h : Full V (F ++ s.pf) s) : ∀ {c : List Int}, (∀ n ∈ c, Lit V n) → (openM s.vs c = some none ∧ ∃ n ∈ c, lv (va s.vs) n = 1) ∨ ∃ l, openM s.vs c = some (some l) ∧ (∀ n ∈ l, n ∈ c ∧ lv (va s.vs) n = 0) ∧ ∀ n ∈ c, n ∉ l → lv (va s.vs) n = -1
  | [], _ => .inr ⟨[], rfl, fun _ hn => (by cases hn), fun _ hn => (by cases hn)⟩
  | n :: r, hc => by
    have ih := openM_ok h (c := r) fun x hx => hc x (List.mem_cons_of_mem _ hx)
    unfold openM
    rw [ofM_ok h.inv.tv (hc n List.mem_cons_self).2]
    dsimp only
    by_cases x1 : lv (va s.vs) n = 1
    · rw [if_pos x1]; exact .inl ⟨rfl, n, List.mem_cons_self, x1⟩
    · rw [if_neg x1]
      rcases ih with ⟨e, m, hm, hv⟩ | ⟨l, e, h1, h2⟩
      · rw [e]; exact .inl ⟨rfl, m, List.mem_cons_of_mem _ hm, hv⟩
      · rw [e]
        dsimp only
        by_cases x0 : lv (va s.vs) n = 0
        · rw [if_pos x0]
          refine .inr ⟨_, rfl, fun y hy => ?_, fun y hy hy2 => ?_⟩
          · rcases List.mem_cons.1 hy with e2 | e2
            · subst e2; exact ⟨List.mem_cons_self, x0⟩
            · exact ⟨List.mem_cons_of_mem _ (h1 y e2).1, (h1 y e2).2⟩
          · rcases List.mem_cons.1 hy with e2 | e2
            · subst e2; exact absurd List.mem_cons_self hy2
            · exact h2 y e2 fun e3 => hy2 (List.mem_cons_of_mem _ e3)
        · rw [if_neg x0]
          refine .inr ⟨_, rfl, fun y hy => ⟨List.mem_cons_of_mem _ (h1 y hy).1, (h1 y hy).2⟩, fun y hy hy2 => ?_⟩
          rcases List.mem_cons.1 hy with e2 | e2
          · subst e2; rcases h.inv.tv.cases y with e | e | e <;> omega
          · exact h2 y e2 hy2
/-! ### models -/
def Sat (F : List (List Int)) (A : Nat → Int) : Prop := ∀ d ∈ F, ∃ n ∈ d, lv A n = 1
def Tot (A : Nat → Int) : Prop := ∀ v, A v = 1 ∨ A v = -1
theorem Tot.lit {A : Nat → Int} (h : Tot A) (n : Int) : lv A n = 1 ∨ lv A n = -1 := by
  unfold lv
  have := h n.natAbs
  split <;> omega
theorem Tot.ok {A : Nat → Int} (h : Tot A) : OkA A := fun v => by have := h v; omega
theorem Sat.stable {A : Nat → Int} {L : List (List Int)} (h : Sat L A) : Stable L A := fun x hx => .inl (h x hx)
theorem PfOk.sat {pf : List (List Int)} (h : PfOk V F pf) {A : Nat → Int} (hT : Tot A) (hA : Sat F A) : Sat (F ++ pf) A := by
  have key : ∀ i, i ≤ pf.length → Sat (F ++ pf.take i) A := by
    intro i
    induction i with
    | zero => intro _; rw [List.take_zero, List.append_nil]; exact hA
    | succ i ih =>
      intro hi d hd
      obtain ⟨c, hc⟩ := at_lt (l := pf) (i := i) (by omega)
      have h1 := ih (by omega)
      rw [List.take_add_one, hc] at hd
      rcases List.mem_append.1 hd with e | e
      · exact h1 d (List.mem_append_left _ e)
      · rcases List.mem_append.1 e with e | e
        · exact h1 d (List.mem_append_right _ e)
        · have e2 : d = c := by simpa using e
          subst e2
          obtain ⟨n, hn, hne⟩ := h.ref i d hc A hT.ok h1.stable
          refine ⟨n, hn, ?_⟩
          rcases hT.lit n with e3 | e3
          · exact e3
          · exact absurd e3 hne
  have := key pf.length (Nat.le_refl _)
  rwa [List.take_length] at this
/-- what is true at level 0 is true in every model -/
theorem l0_sat (h : SI V F s) (hl : s.lm = []) {A : Nat → Int} (hT : Tot A) (hA : Sat F A) {u : Int} (hu : u ∈ s.tr) : lv A u = 1 := by
  obtain ⟨i, hi, e⟩ := List.getElem_of_mem hu
  exact imp_l0 h.full.inv (c := []) (Nat.lt_succ_self i) (by rw [List.getElem?_eq_getElem hi, e]) (fun m hm => by rw [hl] at hm; cases hm) A hT.ok (h.pf.sat hT hA).stable fun m hm => (by cases hm)
/-- a clause amid the search: what is added has the same models -/
structure Mo (V : Nat) (F : List (List Int)) (c : List Int) (s' : SS) (F' : List (List Int)) : Prop where
  si : SI V F' s'
  lm : s'.lm = []
  len : F'.length ≤ F.length + 1
  sat : ∀ A, Tot A → (Sat F' A ↔ Sat F A ∧ ∃ n ∈ c, lv A n = 1)
  lit : (∀ d ∈ F, ∀ n ∈ d, Lit V n) → ∀ d ∈ F', ∀ n ∈ d, Lit V n
theorem moreM_ok (h : SI V F s) (hl : s.lm = []) (hc : ∀ n ∈ c, Lit V n) (hsz : s.xs.length < 4000000) : ∃ s' F', moreM V s c = some s' ∧ Mo V F c s' F' ∧ s'.pf = s.pf := by
  unfold moreM
  rcases openM_ok h.full hc with ⟨e, n, hn, hv⟩ | ⟨l, e, h1, h2⟩
  · rw [e]
    refine ⟨s, F, rfl, ⟨h, hl, by omega, fun A hT => ⟨fun hA => ⟨hA, n, hn, ?_⟩, fun hA => hA.1⟩, id⟩, rfl⟩
    exact l0_sat h hl hT hA (h.full.inv.tv.trs n (hc n hn) hv)
  · rw [e]
    obtain ⟨s', e2, g⟩ := addM_ok (c := l) h hl (fun n hn => hc n (h1 n hn).1) (fun n hn hm => (h.full.inv.tv.of_open (hc n (h1 n hn).1) (h1 n hn).2).2 (List.mem_of_mem_take hm)) hsz
    refine ⟨s', F ++ [l], e2, ⟨g.si, g.lm, by simp, fun A hT => ⟨fun hA => ?_, fun hA d hd => ?_⟩, fun hF d hd n hn => by
      rcases List.mem_append.1 hd with hd | hd
      · exact hF d hd n hn
      · rw [List.mem_singleton.1 hd] at hn; exact hc n (h1 n hn).1⟩, g.pf⟩
    · refine ⟨fun d hd => hA d (List.mem_append_left _ hd), ?_⟩
      obtain ⟨n, hn, hv⟩ := hA l (List.mem_append_right _ (List.mem_singleton.2 rfl))
      exact ⟨n, (h1 n hn).1, hv⟩
    · rcases List.mem_append.1 hd with hd | hd
      · exact hA.1 d hd
      · rw [List.mem_singleton.1 hd]
        obtain ⟨n, hn, hv⟩ := hA.2
        by_cases hnl : n ∈ l
        · exact ⟨n, hnl, hv⟩
        · have hf := h.full.inv.tv.val_neg (hc n hn) (h2 n hn hnl)
          have := l0_sat h hl hT hA.1 hf
          rw [lv_neg (hc n hn).1] at this
          omega
end
end Go.Proofs.YtaedbnbeelkkcaaDoor.slv
namespace Go.Proofs.YtaedbnbeelkkcaaDoor.slv
theorem searchL_more {V effort : Nat} : ∀ {f rd cf : Nat} {left : Int} {s : SS} {r : Ans × SS}, searchL V effort f rd cf left s = some r → searchL V effort (f + 1) rd cf left s = some r
  | 0, _, _, _, _, _, h => by cases h
  | f + 1, rd, cf, left, s, r, h => by
    unfold searchL at h ⊢
    cases hs : spreadM V s with
    | none => rw [hs] at h; cases h
    | some q =>
      obtain ⟨k, s1⟩ := q
      rw [hs] at h
      cases k with
      | none =>
        dsimp only at h ⊢
        by_cases hl : left ≤ 0
        · rw [if_pos hl] at h ⊢
          by_cases hr : rd < 1000000000
          · rw [if_pos hr] at h ⊢
            cases hb : backM V s1 0 with
            | none => rw [hb] at h; cases h
            | some s2 =>
              rw [hb] at h
              dsimp only at h ⊢
              exact searchL_more h
          · rw [if_neg hr] at h; cases h
        · rw [if_neg hl] at h ⊢
          cases hd : decideM V s1 with
          | none => rw [hd] at h; cases h
          | some q2 =>
            obtain ⟨b, s2⟩ := q2
            rw [hd] at h
            cases b with
            | false => exact h
            | true =>
              dsimp only at h ⊢
              exact searchL_more h
      | some k =>
        dsimp only at h ⊢
        by_cases hl : s1.lm.length = 0
        · rw [if_pos hl] at h ⊢; exact h
        · rw [if_neg hl] at h ⊢
          by_cases hc : cf = effort
          · rw [if_pos hc] at h ⊢; exact h
          · rw [if_neg hc] at h ⊢
            cases hcf : conflictM V s1 k with
            | none => rw [hcf] at h; cases h
            | some s2 =>
              rw [hcf] at h
              dsimp only at h ⊢
              exact searchL_more h
theorem searchL_le {V effort f : Nat} {rd cf : Nat} {left : Int} {s : SS} {r : Ans × SS} (h : searchL V effort f rd cf left s = some r) : ∀ k, searchL V effort (f + k) rd cf left s = some r
  | 0 => h
  | k + 1 => searchL_more (searchL_le h k)
theorem searchM_le {V effort f : Nat} {s : SS} {r : Ans × SS} (h : searchM V effort f s = some r) (k : Nat) : searchM V effort (f + k) s = some r := by
  unfold searchM at h ⊢
  by_cases hd : s.dead = true
  · rw [if_pos hd] at h ⊢; exact h
  · rw [if_neg hd] at h ⊢
    cases hs : spreadM V s with
    | none => rw [hs] at h; cases h
    | some q =>
      obtain ⟨b, s1⟩ := q
      rw [hs] at h
      cases b with
      | some _ => exact h
      | none => dsimp only at h ⊢; exact searchL_le h k
theorem searchM_one {V effort f f' : Nat} {s : SS} {r r' : Ans × SS} (h : searchM V effort f s = some r) (h' : searchM V effort f' s = some r') : r = r' := by
  have h1 := searchM_le h f'
  have h2 := searchM_le h' f
  rw [Nat.add_comm] at h2
  rw [h1] at h2
  injection h2
/-! ### models by their numbers -/
/-- the k-th assignment -/
def asg (k : Nat) : Nat → Int := fun v => if k.testBit (v - 1) then 1 else -1
theorem asg_tot (k : Nat) : Tot (asg k) := fun v => by unfold asg; split <;> omega
def satB (F : List (List Int)) (k : Nat) : Bool := F.all fun d => d.any fun n => decide (lv (asg k) n = 1)
theorem satB_iff {F : List (List Int)} {k : Nat} : satB F k = true ↔ Sat F (asg k) := by
  unfold satB Sat
  rw [List.all_eq_true]
  constructor
  · intro h d hd
    obtain ⟨n, hn, e⟩ := List.any_eq_true.1 (h d hd)
    exact ⟨n, hn, by simpa using e⟩
  · intro h d hd
    obtain ⟨n, hn, e⟩ := h d hd
    exact List.any_eq_true.2 ⟨n, hn, by simpa using e⟩
def cntM (V : Nat) (F : List (List Int)) : Nat := (List.range (2 ^ V)).countP (satB F)
/-- the number of an assignment -/
def numA (A : Nat → Int) : Nat → Nat
  | 0 => 0
  | v + 1 => numA A v + (if A (v + 1) = 1 then 2 ^ v else 0)
theorem numA_lt (A : Nat → Int) : ∀ v, numA A v < 2 ^ v
  | 0 => by show 0 < 2 ^ 0; decide
  | v + 1 => by
    have := numA_lt A v
    show numA A v + _ < 2 ^ (v + 1)
    rw [Nat.pow_succ]
    split <;> omega
theorem numA_bit (A : Nat → Int) : ∀ {v i : Nat}, i < v → (numA A v).testBit i = decide (A (i + 1) = 1)
  | 0, _, h => absurd h (Nat.not_lt_zero _)
  | v + 1, i, h => by
    show (numA A v + _).testBit i = _
    have hlt := numA_lt A v
    by_cases e : i = v
    · subst e
      by_cases c : A (i + 1) = 1
      · rw [if_pos c, decide_eq_true c, Nat.add_comm, Nat.testBit_two_pow_add_eq, Nat.testBit_lt_two_pow hlt]; rfl
      · rw [if_neg c, decide_eq_false c, Nat.add_zero, Nat.testBit_lt_two_pow hlt]
    · have ih := numA_bit A (v := v) (i := i) (by omega)
      by_cases c : A (v + 1) = 1
      · rw [if_pos c, Nat.add_comm, Nat.testBit_two_pow_add_gt (by omega)]; exact ih
      · rw [if_neg c, Nat.add_zero]; exact ih
theorem asg_num {A : Nat → Int} (hA : ∀ v, A v = 1 ∨ A v = -1) {V v : Nat} (h1 : 1 ≤ v) (h2 : v ≤ V) : asg (numA A V) v = A v := by
  unfold asg
  rw [numA_bit A (by omega), show v - 1 + 1 = v by omega]
  rcases hA v with e | e
  · rw [e]; rfl
  · rw [e]; rfl
/-! ### one model less -/
theorem countP_less {p p' : Nat → Bool} {k0 : Nat} (h0 : p k0 = true) : ∀ {N : Nat}, (∀ k, k < N → (p' k = true ↔ p k = true ∧ k ≠ k0)) → (List.range N).countP p = (List.range N).countP p' + if k0 < N then 1 else 0
  | 0, _ => by simp
  | N + 1, h => by
    rw [List.range_succ, List.countP_append, List.countP_append, countP_less h0 (N := N) fun k hk => h k (by omega)]
    have hN := h N (Nat.lt_succ_self N)
    have e1 : [N].countP p = if p N = true then 1 else 0 := by cases e : p N <;> simp [e]
    have e2 : [N].countP p' = if p' N = true then 1 else 0 := by cases e : p' N <;> simp [e]
    rw [e1, e2]
    by_cases c : k0 = N
    · subst c
      have : ¬ p' k0 = true := fun e => (hN.1 e).2 rfl
      rw [if_pos h0, if_neg this, if_neg (Nat.lt_irrefl _), if_pos (Nat.lt_succ_self _)]
    · by_cases c2 : p N = true
      · rw [if_pos c2, if_pos (hN.2 ⟨c2, fun e => c e.symm⟩)]
        by_cases c3 : k0 < N
        · rw [if_pos c3, if_pos (by omega)]
        · rw [if_neg c3, if_neg (by omega)]
      · rw [if_neg c2, if_neg (fun e => c2 (hN.1 e).1)]
        by_cases c3 : k0 < N
        · rw [if_pos c3, if_pos (by omega)]
        · rw [if_neg c3, if_neg (by omega)]
theorem blkL_mem : ∀ {m : List Bool} {i : Nat} {n : Int}, n ∈ blkL i m ↔ ∃ (j : Nat) (x : Bool), m[j]? = some x ∧ n = if x then -((i + j : Nat) : Int) - 1 else ((i + j : Nat) : Int) + 1
  | [], i, n => by simp [blkL]
  | x :: r, i, n => by
    unfold blkL
    rw [List.mem_cons, blkL_mem]
    constructor
    · rintro (e | ⟨j, z, h1, h2⟩)
      · exact ⟨0, x, rfl, by simpa using e⟩
      · exact ⟨j + 1, z, by simpa using h1, by rw [h2, show i + 1 + j = i + (j + 1) by omega]⟩
    · rintro ⟨j, z, h1, h2⟩
      cases j with
      | zero =>
        have e : x = z := by simpa using h1
        subst e
        exact .inl (by simpa using h2)
      | succ j => exact .inr ⟨j, z, by simpa using h1, by rw [h2, show i + 1 + j = i + (j + 1) by omega]⟩
section
variable {V : Nat} {F : List (List Int)} {s : SS}
theorem countL_fuel {most : Nat} : ∀ {k n fuel : Nat} {s : SS} {r : Option Nat}, countL V most fuel k n s = some r → ∀ j, countL V most (fuel + j) k n s = some r
  | 0, _, _, _, _, h, _ => by cases h
  | k + 1, n, fuel, s, r, h, j => by
    unfold countL at h ⊢
    cases hs : searchM V 1099511627776 fuel s with
    | none => rw [hs] at h; cases h
    | some q =>
      obtain ⟨a, s1⟩ := q
      rw [searchM_le hs j]
      rw [hs] at h
      cases a with
      | no pf => exact h
      | tired => exact h
      | yes m =>
        dsimp only at h ⊢
        by_cases hm : most < n + 1
        · rw [if_pos hm] at h ⊢; exact h
        · rw [if_neg hm] at h ⊢
          cases hb : backM V s1 0 with
          | none => rw [hb] at h; cases h
          | some s2 =>
            rw [hb] at h
            dsimp only at h ⊢
            cases hmo : moreM V s2 (blkL 0 m) with
            | none => rw [hmo] at h; cases h
            | some s3 =>
              rw [hmo] at h
              dsimp only at h ⊢
              exact countL_fuel h j
/-- back to level 0 behind an answer yes -/
theorem back0_ok (hV : V ≤ 400000) (h : SI V F s) : ∃ s', backM V s 0 = some s' ∧ SI V F s' ∧ s'.lm = [] ∧ s'.pf = s.pf := by
  by_cases hl : s.lm.length = 0
  · exact ⟨s, backM_none (by omega), h, List.length_eq_zero_iff.1 hl, rfl⟩
  · obtain ⟨m, hm⟩ := at_lt (l := s.lm) (i := 0) (by omega)
    obtain ⟨s', e, hB⟩ := backM_ok hV h.full.inv h.full.wt hm
    exact ⟨s', e, h.of_fra hB.full hB.pf (by rw [hB.xs]), by rw [hB.lm]; rfl, hB.pf⟩
/-- the model that is answered, and the clause against it -/
theorem yes_model (h : SI V F s) (hd : Done s) (hdead : s.dead = false) (hall : ∀ v, 1 ≤ v → v ≤ V → va s.vs v ≠ 0) (hF : ∀ d ∈ F, ∀ n ∈ d, Lit V n) :
    ∃ k0, k0 < 2 ^ V ∧ satB F k0 = true ∧ (∀ n ∈ blkL 0 (modelOf V s.vs), Lit V n) ∧ ∀ k, k < 2 ^ V → ((∃ n ∈ blkL 0 (modelOf V s.vs), lv (asg k) n = 1) ↔ k ≠ k0) := by
  have hA : ∀ v, (if va s.vs v = 1 then (1 : Int) else -1) = 1 ∨ (if va s.vs v = 1 then (1 : Int) else -1) = -1 := fun v => by split <;> omega
  obtain ⟨A, hAd⟩ : ∃ A : Nat → Int, A = fun v => if va s.vs v = 1 then (1 : Int) else -1 := ⟨_, rfl⟩
  have hA' : ∀ v, A v = 1 ∨ A v = -1 := fun v => by rw [hAd]; exact hA v
  have hAv : ∀ v, 1 ≤ v → v ≤ V → A v = va s.vs v := fun v h1 h2 => by
    have h3 := hall v h1 h2
    have h4 := va_ok h.full.inv.tv.ok v
    rw [hAd]
    dsimp only
    split <;> omega
  have hmod : ∀ j, j < V → (modelOf V s.vs)[j]? = some (decide (A (j + 1) = 1)) := fun j hj => by
    unfold modelOf
    rw [List.getElem?_map, List.getElem?_range hj]
    show some (s.vs.getD (j + 1) 0 == 1) = _
    rw [hAv (j + 1) (by omega) (by omega)]
    unfold va
    congr 1
  have hml : (modelOf V s.vs).length = V := by unfold modelOf; simp
  have key : ∀ n, n ∈ blkL 0 (modelOf V s.vs) ↔ ∃ j, j < V ∧ n = if A (j + 1) = 1 then -((j : Nat) : Int) - 1 else ((j : Nat) : Int) + 1 := fun n => by
    rw [blkL_mem]
    constructor
    · rintro ⟨j, x, h1, h2⟩
      have hj : j < V := by have := lt_of_at h1; omega
      rw [hmod j hj] at h1
      injection h1 with h1
      refine ⟨j, hj, ?_⟩
      rw [h2, ← h1, Nat.zero_add]
      by_cases c : A (j + 1) = 1
      · rw [decide_eq_true c]; simp [c]
      · rw [decide_eq_false c]; simp [c]
    · rintro ⟨j, hj, h2⟩
      refine ⟨j, _, hmod j hj, ?_⟩
      rw [h2, Nat.zero_add]
      by_cases c : A (j + 1) = 1
      · rw [decide_eq_true c]; simp [c]
      · rw [decide_eq_false c]; simp [c]
  have hasg : ∀ v, 1 ≤ v → v ≤ V → asg (numA A V) v = A v := fun v h1 h2 => asg_num hA' h1 h2
  refine ⟨numA A V, numA_lt A V, satB_iff.2 fun d hd2 => ?_, fun n hn => ?_, fun k hk => ?_⟩
  · obtain ⟨n, hn, e⟩ := yes_holds h.full hd hdead hall (fun d hd n hn => by
      rcases List.mem_append.1 hd with g | g
      · exact hF d g n hn
      · exact ((h.pf.lit d g).2.2 n hn).1) d (List.mem_append_left _ hd2)
    refine ⟨n, hn, ?_⟩
    have hl := hF d hd2 n hn
    have hl0 := hl.1
    have : asg (numA A V) n.natAbs = va s.vs n.natAbs := by rw [hasg _ (by omega) hl.2, hAv _ (by omega) hl.2]
    unfold lv at e ⊢
    rw [this]
    exact e
  · obtain ⟨j, hj, e⟩ := (key n).1 hn
    constructor
    · split at e <;> omega
    · split at e <;> omega
  · constructor
    · rintro ⟨n, hn, e⟩ hk0
      subst hk0
      obtain ⟨j, hj, e2⟩ := (key n).1 hn
      have h1 := hasg (j + 1) (by omega) (by omega)
      by_cases c : A (j + 1) = 1
      · rw [if_pos c] at e2
        have h2 : n.natAbs = j + 1 := by omega
        unfold lv at e
        rw [if_pos (by omega), h2, h1, c] at e
        omega
      · rw [if_neg c] at e2
        have h2 : n.natAbs = j + 1 := by omega
        unfold lv at e
        rw [if_neg (by omega), h2, h1] at e
        exact c e
    · intro hne
      -- they differ somewhere
      have hex : ∃ j, j < V ∧ asg k (j + 1) ≠ A (j + 1) := by
        by_cases hc : ∃ j, j < V ∧ asg k (j + 1) ≠ A (j + 1)
        · exact hc
        · exfalso
          refine hne (Nat.eq_of_testBit_eq fun i => ?_)
          by_cases hi : i < V
          · have h1 : asg k (i + 1) = A (i + 1) := by
              by_cases e : asg k (i + 1) = A (i + 1)
              · exact e
              · exact absurd ⟨i, hi, e⟩ hc
            rw [numA_bit A hi]
            unfold asg at h1
            rw [Nat.add_sub_cancel] at h1
            cases hb : k.testBit i with
            | true => rw [hb, if_pos rfl] at h1; rw [← h1]; rfl
            | false => rw [hb, if_neg (by decide)] at h1; rw [← h1]; rfl
          · rw [Nat.testBit_lt_two_pow (Nat.lt_of_lt_of_le hk (Nat.pow_le_pow_right (by omega) (by omega))), Nat.testBit_lt_two_pow (Nat.lt_of_lt_of_le (numA_lt A V) (Nat.pow_le_pow_right (by omega) (by omega)))]
      obtain ⟨j, hj, hd2⟩ := hex
      refine ⟨_, (key _).2 ⟨j, hj, rfl⟩, ?_⟩
      have hT := asg_tot k (j + 1)
      by_cases c : A (j + 1) = 1
      · rw [if_pos c]
        unfold lv
        rw [if_pos (by omega), show (-((j : Nat) : Int) - 1).natAbs = j + 1 by omega]
        rw [c] at hd2
        omega
      · rw [if_neg c]
        unfold lv
        rw [if_neg (by omega), show (((j : Nat) : Int) + 1).natAbs = j + 1 by omega]
        have := hA' (j + 1)
        omega
theorem countL_ok (hV : V ≤ 9) {most : Nat} : ∀ (m : Nat) {F : List (List Int)} {s : SS} {n : Nat}, cntM V F = m → SI V F s → s.lm = [] → (∀ d ∈ F, ∀ n ∈ d, Lit V n) → F.length + m < 3000000 → n ≤ most →
    ∃ k fuel, countL V most fuel k n s = some (if n + m ≤ most then some (n + m) else none) := by
  have h3 : 3 ^ V ≤ 19683 := Nat.pow_le_pow_right (n := 3) (by omega) hV
  intro m
  induction m with
  | zero =>
    intro F s n hm h hl hF hsz hn
    obtain ⟨fuel, a, s', e, hE⟩ := searchM_ok (effort := 1099511627776) (b := 3 ^ V) (by omega) h hl (.inr (by omega)) (by have := h.pf.le; omega)
    cases a with
    | yes mo =>
      exfalso
      obtain ⟨_, h1, h2, h3', h4⟩ := hE
      obtain ⟨k0, k1, k2, _⟩ := yes_model h1 h2 h3' h4 hF
      have : 0 < cntM V F := by
        unfold cntM
        rw [List.countP_pos_iff]
        exact ⟨k0, List.mem_range.2 k1, k2⟩
      omega
    | no pf =>
      refine ⟨1, fuel, ?_⟩
      unfold countL
      rw [e, if_pos (show n + 0 ≤ most from hn)]
      rfl
    | tired =>
      exfalso
      have h1 := hE.2
      have h2 := hE.1.le
      omega
  | succ m ih =>
    intro F s n hm h hl hF hsz hn
    obtain ⟨fuel, a, s', e, hE⟩ := searchM_ok (effort := 1099511627776) (b := 3 ^ V) (by omega) h hl (.inr (by omega)) (by have := h.pf.le; omega)
    cases a with
    | no pf =>
      exfalso
      obtain ⟨_, h1, h2⟩ := hE
      have : 0 < cntM V F := by omega
      unfold cntM at this
      rw [List.countP_pos_iff] at this
      obtain ⟨k, _, hk⟩ := this
      obtain ⟨z, hz, _⟩ := h2 _ (asg_tot k).ok (h1.sat (asg_tot k) (satB_iff.1 hk)).stable
      cases hz
    | tired =>
      exfalso
      have h1 := hE.2
      have h2 := hE.1.le
      omega
    | yes mo =>
      obtain ⟨e1, h1, h2, h3', h4⟩ := hE
      obtain ⟨k0, k1, k2, k3, k4⟩ := yes_model h1 h2 h3' h4 hF
      by_cases hmo : most < n + 1
      · refine ⟨1, fuel, ?_⟩
        unfold countL
        rw [e]
        dsimp only
        rw [if_pos hmo, if_neg (by omega)]
      · obtain ⟨s2, e2, g1, g2, g3⟩ := back0_ok (by omega) h1
        obtain ⟨s3, F', e3, hM, hp3⟩ := moreM_ok g1 g2 k3 (by have := g1.len; have := g1.pf.le; omega)
        have hcnt : cntM V F = cntM V F' + 1 := by
          unfold cntM
          rw [countP_less (p := satB F) (p' := satB F') k2 fun k hk => by
            rw [satB_iff, satB_iff, hM.sat _ (asg_tot k), k4 k hk], if_pos k1]
        obtain ⟨k, f2, e4⟩ := ih (F := F') (s := s3) (n := n + 1) (by omega) hM.si hM.lm (hM.lit hF) (by have := hM.len; omega) (by omega)
        refine ⟨k + 1, fuel + f2, ?_⟩
        unfold countL
        rw [searchM_le e f2]
        dsimp only
        rw [if_neg hmo, e2]
        dsimp only
        rw [e1, e3]
        dsimp only
        have e5 := countL_fuel e4 fuel
        rw [Nat.add_comm f2 fuel] at e5
        rw [e5, show n + 1 + m = n + (m + 1) by omega]
end
end Go.Proofs.YtaedbnbeelkkcaaDoor.slv
