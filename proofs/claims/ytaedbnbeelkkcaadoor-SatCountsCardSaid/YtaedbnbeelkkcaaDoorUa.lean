/-
  PLAIN: WHAT FOLLOWS BY UNITS. Stable assignments, Ref, Imp; a checker's state (clauses, watched numbers, values, trail) and what stays of it step by step. No program in sight.
-/
import Derived.WalkKit
namespace Go.Proofs.YtaedbnbeelkkcaaDoor
/-- a number's value by values of variables -/
def lv (A : Nat → Int) (n : Int) : Int := if n < 0 then -A n.natAbs else A n.natAbs
def OkA (A : Nat → Int) : Prop := ∀ v, A v = -1 ∨ A v = 0 ∨ A v = 1
/-- each clause holds, or two of its numbers are open -/
def Stable (L : List (List Int)) (A : Nat → Int) : Prop := ∀ x ∈ L, (∃ n ∈ x, lv A n = 1) ∨ ∃ n ∈ x, ∃ m ∈ x, n ≠ m ∧ lv A n = 0 ∧ lv A m = 0
/-- a clause follows by units: no stable assignment makes all of it false -/
def Ref (L : List (List Int)) (c : List Int) : Prop := ∀ A, OkA A → Stable L A → ∃ n ∈ c, lv A n ≠ -1
def Imp (L : List (List Int)) (c : List Int) (n : Int) : Prop := ∀ A, OkA A → Stable L A → (∀ m ∈ c, lv A m = -1) → lv A n = 1
def Lit (V : Nat) (n : Int) : Prop := n ≠ 0 ∧ n.natAbs ≤ V
section
variable {A : Nat → Int} {n m a : Int} {L L' : List (List Int)} {c l : List Int} {V : Nat}
theorem lv_neg (hn : n ≠ 0) : lv A (-n) = -lv A n := by
  unfold lv
  rw [Int.natAbs_neg]
  by_cases h : n < 0
  · rw [if_neg (by omega), if_pos h]; omega
  · rw [if_pos (by omega), if_neg h]
theorem lv_ok (h : OkA A) (n : Int) : lv A n = -1 ∨ lv A n = 0 ∨ lv A n = 1 := by
  unfold lv
  have := h n.natAbs
  split <;> omega
theorem Lit.neg (h : Lit V n) : Lit V (-n) := ⟨by have := h.1; omega, by rw [Int.natAbs_neg]; exact h.2⟩
theorem Stable.sub (h : Stable L' A) (hs : ∀ x ∈ L, x ∈ L') : Stable L A := fun x hx => h x (hs x hx)
theorem Ref.mono (h : Ref L c) (hs : ∀ x ∈ L, x ∈ L') : Ref L' c := fun A hA hS => h A hA (hS.sub hs)
theorem Imp.mono (h : Imp L c n) (hs : ∀ x ∈ L, x ∈ L') : Imp L' c n := fun A hA hS => h A hA (hS.sub hs)
theorem Ref.nil (h : Ref L []) : Ref L c := fun A hA hS => by obtain ⟨n, hn, _⟩ := h A hA hS; cases hn
theorem Imp.nil (h : Imp L [] n) : Imp L c n := fun A hA hS _ => h A hA hS (fun _ h => by cases h)
theorem imp_self (hm : m ∈ c) (h0 : m ≠ 0) : Imp L c (-m) := fun A _ _ hc => by rw [lv_neg h0, hc m hm]; rfl
theorem ref_false (h : ∀ A, OkA A → Stable L A → (∀ m ∈ c, lv A m = -1) → False) : Ref L c := fun A hA hS => by
  by_cases hc : ∃ n ∈ c, lv A n ≠ -1
  · exact hc
  · exact absurd (h A hA hS fun m hm => by
      by_cases he : lv A m = -1
      · exact he
      · exact absurd ⟨m, hm, he⟩ hc) id
theorem not_ref (hA : OkA A) (hS : Stable L A) (hc : ∀ m ∈ c, lv A m = -1) : ¬ Ref L c := fun h => by
  obtain ⟨n, hn, hne⟩ := h A hA hS
  exact hne (hc n hn)
theorem ref_true (hn : n ∈ c) (h : Imp L c n) : Ref L c := ref_false fun A hA hS hc => by
  have h1 := h A hA hS hc
  have h2 := hc n hn
  omega
theorem ref_conf (hl : l ∈ L) (h : ∀ m ∈ l, m ≠ 0 ∧ Imp L c (-m)) : Ref L c := ref_false fun A hA hS hc => by
  have key : ∀ m ∈ l, lv A m = -1 := fun m hm => by
    obtain ⟨h0, hi⟩ := h m hm
    have := hi A hA hS hc
    rw [lv_neg h0] at this
    omega
  rcases hS l hl with ⟨n, hn, h1⟩ | ⟨n, hn, _, _, _, h1, _⟩
  · have := key n hn; omega
  · have := key n hn; omega
theorem imp_unit (hl : l ∈ L) (h : ∀ m ∈ l, m ≠ a → m ≠ 0 ∧ Imp L c (-m)) : Imp L c a := fun A hA hS hc => by
  have key : ∀ m ∈ l, m ≠ a → lv A m = -1 := fun m hm hne => by
    obtain ⟨h0, hi⟩ := h m hm hne
    have := hi A hA hS hc
    rw [lv_neg h0] at this
    omega
  rcases hS l hl with ⟨n, hn, h1⟩ | ⟨n, hn, m, hm, hne, h1, h2⟩
  · by_cases e : n = a
    · subst e; exact h1
    · have := key n hn e; omega
  · by_cases e : n = a
    · have := key m hm (fun e2 => hne (e.trans e2.symm)); omega
    · have := key n hn e; omega
end
/-- values of variables as a list -/
def va (vs : List Int) : Nat → Int := fun v => vs.getD v 0
def sg (a : Int) : Int := if a < 0 then -1 else 1
section
variable {vs : List Int} {V : Nat} {a n : Int}
theorem va_set {v u : Nat} {x : Int} (hv : v < vs.length) : va (vs.set v x) u = if u = v then x else va vs u := by
  unfold va
  rw [List.getD_eq_getElem?_getD, List.getElem?_set, List.getD_eq_getElem?_getD]
  by_cases h : u = v
  · subst h; simp [hv]
  · rw [if_neg (fun e => h e.symm), if_neg h]
theorem lv_set (hl : vs.length = V + 1) (ha : Lit V a) (hn : n ≠ 0) : lv (va (vs.set a.natAbs (sg a))) n = if n = a then 1 else if n = -a then -1 else lv (va vs) n := by
  have hlt : a.natAbs < vs.length := by have := ha.2; omega
  have h0 := ha.1
  unfold lv sg
  rw [va_set hlt]
  by_cases e1 : n = a
  · subst e1
    rw [if_pos rfl, if_pos rfl]
    by_cases hneg : n < 0
    · rw [if_pos hneg, if_pos hneg]; rfl
    · rw [if_neg hneg, if_neg hneg]
  · rw [if_neg e1]
    by_cases e2 : n = -a
    · subst e2
      rw [if_pos rfl, if_pos (Int.natAbs_neg a)]
      by_cases hneg : a < 0
      · rw [if_neg (by omega), if_pos hneg]
      · rw [if_pos (by omega), if_neg hneg]
    · have e3 : ¬ n.natAbs = a.natAbs := fun e => by omega
      rw [if_neg e2, if_neg e3]
theorem va_ok (h : ∀ x ∈ vs, x = -1 ∨ x = 0 ∨ x = 1) : OkA (va vs) := fun v => by
  unfold va
  rw [List.getD_eq_getElem?_getD]
  cases e : vs[v]? with
  | none => exact .inr (.inl rfl)
  | some x => exact h x (List.mem_of_getElem? e)
end
def upd (wt : Int → List Nat) (n : Int) (l : List Nat) : Int → List Nat := fun m => if m = n then l else wt m
theorem upd_same (wt : Int → List Nat) (n : Int) (l : List Nat) : upd wt n l n = l := by simp [upd]
theorem upd_other {wt : Int → List Nat} {n m : Int} {l : List Nat} (h : m ≠ n) : upd wt n l m = wt m := by simp [upd, h]
structure St where
  xs : List (List Int)
  wt : Int → List Nat
  vs : List Int
  tr : List Int
/-- what always holds of a checker -/
structure SI (V : Nat) (L : List (List Int)) (s : St) : Prop where
  vlen : s.vs.length = V + 1
  vok : ∀ x ∈ s.vs, x = -1 ∨ x = 0 ∨ x = 1
  trv : ∀ n ∈ s.tr, Lit V n ∧ lv (va s.vs) n = 1
  trs : ∀ n, Lit V n → lv (va s.vs) n = 1 → n ∈ s.tr
  trn : s.tr.Nodup
  xlen : s.xs.length = L.length
  xmem : ∀ (k : Nat) x l, s.xs[k]? = some x → L[k]? = some l → ∀ n, n ∈ x ↔ n ∈ l
  xnd : ∀ x ∈ s.xs, x.Nodup
  xlit : ∀ x ∈ s.xs, ∀ n ∈ x, Lit V n
  wnd : ∀ n, (s.wt n).Nodup
  wiff : ∀ n k, k ∈ s.wt n ↔ ∃ a b r, s.xs[k]? = some (a :: b :: r) ∧ (a = n ∨ b = n)
def Wi (xs : List (List Int)) (F T : List Int) : Prop := ∀ (k : Nat) a b r, xs[k]? = some (a :: b :: r) → (-a ∈ F → b ∈ T) ∧ (-b ∈ F → a ∈ T)
def Kp (kept : List Nat) (xs : List (List Int)) (n : Int) (T : List Int) : Prop := ∀ k ∈ kept, ∀ a b r, xs[k]? = some (a :: b :: r) → (a = n → b ∈ T) ∧ (b = n → a ∈ T)
def Un (xs : List (List Int)) (T : List Int) : Prop := ∀ (k : Nat) a, xs[k]? = some [a] → a ∈ T
/-- short clauses are as they were -/
def Same1 (xs xs' : List (List Int)) : Prop := ∀ (k : Nat) x, xs'[k]? = some x → x.length < 2 → xs[k]? = some x
section
variable {V : Nat} {L : List (List Int)} {s : St} {c : List Int} {n m a b : Int} {r : List Int} {k : Nat}
theorem Same1.refl (xs : List (List Int)) : Same1 xs xs := fun _ _ h _ => h
theorem Same1.trans {xs ys zs : List (List Int)} (h : Same1 xs ys) (g : Same1 ys zs) : Same1 xs zs := fun k x hx hl => h k x (g k x hx hl) hl
theorem Same1.set_ {xs : List (List Int)} {x : List Int} (hx : 2 ≤ x.length) : Same1 xs (xs.set k x) := fun j y hy hl => by
  rw [List.getElem?_set] at hy
  split at hy
  · split at hy
    · injection hy with hy; subst hy; omega
    · cases hy
  · exact hy
theorem Un.same {xs ys : List (List Int)} {T : List Int} (h : Un xs T) (g : Same1 xs ys) : Un ys T := fun k a hk => h k a (g k _ hk (by simp))
theorem Wi.mono {xs : List (List Int)} {F T T' : List Int} (h : Wi xs F T) (ht : ∀ x ∈ T, x ∈ T') : Wi xs F T' := fun k a b r hk => ⟨fun hf => ht _ ((h k a b r hk).1 hf), fun hf => ht _ ((h k a b r hk).2 hf)⟩
theorem Wi.set_ {xs : List (List Int)} {F T : List Int} {x : List Int} (h : Wi xs F T) (hx : ∀ a b r, x = a :: b :: r → (-a ∈ F → b ∈ T) ∧ (-b ∈ F → a ∈ T)) : Wi (xs.set k x) F T := fun j a b r hj => by
  rw [List.getElem?_set] at hj
  split at hj
  · split at hj
    · injection hj with hj; exact hx a b r hj
    · cases hj
  · exact h j a b r hj
theorem Kp.set_ {kept : List Nat} {xs : List (List Int)} {T : List Int} {x : List Int} (h : Kp kept xs n T) (hk : k ∉ kept) : Kp kept (xs.set k x) n T := fun j hj a b r hx => by
  rw [List.getElem?_set, if_neg (fun e => hk (by rw [e]; exact hj))] at hx
  exact h j hj a b r hx
theorem Kp.mono {kept : List Nat} {xs : List (List Int)} {T T' : List Int} (h : Kp kept xs n T) (ht : ∀ x ∈ T, x ∈ T') : Kp kept xs n T' := fun k hk a b r hx => ⟨fun e => ht _ ((h k hk a b r hx).1 e), fun e => ht _ ((h k hk a b r hx).2 e)⟩
theorem Kp.snoc {kept : List Nat} {xs : List (List Int)} {T : List Int} (h : Kp kept xs n T) (hx : xs[k]? = some (a :: n :: r)) (ha : a ∈ T) (hne : a ≠ n) : Kp (kept ++ [k]) xs n T := fun j hj a' b' r' hx' => by
  rcases List.mem_append.1 hj with hj | hj
  · exact h j hj a' b' r' hx'
  · obtain rfl : j = k := by simpa using hj
    rw [hx] at hx'
    injection hx' with hx'
    injection hx' with e1 hx'
    injection hx' with e2 _
    subst e1; subst e2
    exact ⟨fun e => absurd e hne, fun _ => ha⟩
theorem SI.neg_val (h : SI V L s) (hn : Lit V n) (ht : -n ∈ s.tr) : lv (va s.vs) n = -1 := by
  have := (h.trv _ ht).2
  rw [lv_neg hn.1] at this
  omega
theorem SI.val_neg (h : SI V L s) (hn : Lit V n) (hv : lv (va s.vs) n = -1) : -n ∈ s.tr := h.trs _ hn.neg (by rw [lv_neg hn.1, hv]; rfl)
theorem SI.ok (h : SI V L s) (n : Int) : lv (va s.vs) n = -1 ∨ lv (va s.vs) n = 0 ∨ lv (va s.vs) n = 1 := lv_ok (va_ok h.vok) n
theorem SI.clause (h : SI V L s) {x : List Int} (hx : s.xs[k]? = some x) : ∃ l, L[k]? = some l ∧ l ∈ L ∧ ∀ n, n ∈ x ↔ n ∈ l := by
  have hk : k < L.length := by have := (List.getElem?_eq_some_iff.1 hx).1; have := h.xlen; omega
  have hl : L[k]? = some L[k] := List.getElem?_eq_getElem hk
  exact ⟨_, hl, List.mem_of_getElem? hl, h.xmem k x _ hx hl⟩
/-- a variable is set -/
theorem SI.set_ (h : SI V L s) (ha : Lit V a) (hz : lv (va s.vs) a = 0) : SI V L { s with vs := s.vs.set a.natAbs (sg a), tr := s.tr ++ [a] } := by
  have hset : ∀ n, n ≠ 0 → lv (va (s.vs.set a.natAbs (sg a))) n = if n = a then 1 else if n = -a then -1 else lv (va s.vs) n := fun n hn => lv_set h.vlen ha hn
  refine { h with vlen := by simpa using h.vlen, vok := fun x hx => ?_, trv := fun n hn => ?_, trs := fun n hn hv => ?_, trn := ?_ }
  · rcases List.mem_or_eq_of_mem_set hx with hx | hx
    · exact h.vok x hx
    · subst hx; unfold sg; split
      · exact .inl rfl
      · exact .inr (.inr rfl)
  · rcases List.mem_append.1 hn with hn | hn
    · obtain ⟨h1, h2⟩ := h.trv n hn
      refine ⟨h1, ?_⟩
      show lv (va (s.vs.set a.natAbs (sg a))) n = 1
      rw [hset n h1.1]
      by_cases e : n = a
      · rw [if_pos e]
      · rw [if_neg e, if_neg (fun e2 => ?_), h2]
        subst e2
        rw [lv_neg ha.1, hz] at h2
        omega
    · obtain rfl : n = a := by simpa using hn
      exact ⟨ha, by show lv (va (s.vs.set n.natAbs (sg n))) n = 1; rw [hset n ha.1, if_pos rfl]⟩
  · have hv : lv (va (s.vs.set a.natAbs (sg a))) n = 1 := hv
    rw [hset n hn.1] at hv
    by_cases e : n = a
    · subst e; simp
    · rw [if_neg e] at hv
      by_cases e2 : n = -a
      · rw [if_pos e2] at hv; omega
      · rw [if_neg e2] at hv
        exact List.mem_append_left _ (h.trs n hn hv)
  · refine List.nodup_append.2 ⟨h.trn, by simp, fun x hx y hy => ?_⟩
    obtain rfl : y = a := by simpa using hy
    rintro rfl
    have := (h.trv x hx).2
    omega
/-- the first two change places -/
theorem SI.swap (h : SI V L s) (hx : s.xs[k]? = some (a :: b :: r)) : SI V L { s with xs := s.xs.set k (b :: a :: r) } := by
  have hmem : (a :: b :: r) ∈ s.xs := List.mem_of_getElem? hx
  have hp : (a :: b :: r).Perm (b :: a :: r) := List.Perm.swap b a r
  refine { h with xlen := by simpa using h.xlen, xmem := fun j x l hj hl n => ?_, xnd := fun x hm => ?_, xlit := fun x hm n hn => ?_, wiff := fun n j => ?_ }
  · replace hj : (s.xs.set k (b :: a :: r))[j]? = some x := hj
    rw [List.getElem?_set] at hj
    split at hj
    · rename_i e; subst e
      split at hj
      · injection hj with hj; subst hj
        rw [← hp.mem_iff]; exact h.xmem _ _ l hx hl n
      · cases hj
    · exact h.xmem j x l hj hl n
  · rcases List.mem_or_eq_of_mem_set hm with hm | hm
    · exact h.xnd x hm
    · subst hm; exact (h.xnd _ hmem).perm hp
  · rcases List.mem_or_eq_of_mem_set hm with hm | hm
    · exact h.xlit x hm n hn
    · subst hm; exact h.xlit _ hmem n (hp.mem_iff.2 hn)
  · rw [h.wiff n j]
    show _ ↔ ∃ a' b' r', (s.xs.set k (b :: a :: r))[j]? = some (a' :: b' :: r') ∧ _
    rw [List.getElem?_set]
    have hlt : k < s.xs.length := (List.getElem?_eq_some_iff.1 hx).1
    by_cases e : k = j
    · subst e
      rw [if_pos rfl, if_pos hlt, hx]
      constructor
      · rintro ⟨a', b', r', e, hh⟩
        injection e with e; injection e with e1 e; injection e with e2 e3
        subst e1; subst e2
        exact ⟨b, a, r, rfl, hh.symm⟩
      · rintro ⟨a', b', r', e, hh⟩
        injection e with e; injection e with e1 e; injection e with e2 e3
        subst e1; subst e2
        exact ⟨a, b, r, rfl, hh.symm⟩
    · rw [if_neg e]
theorem Wi.swap {xs : List (List Int)} {F T : List Int} (h : Wi xs F T) (hx : xs[k]? = some (a :: b :: r)) : Wi (xs.set k (b :: a :: r)) F T :=
  h.set_ fun a' b' r' e => by
    injection e with e1 e; injection e with e2 e3
    subst e1; subst e2
    exact (h k _ _ _ hx).symm
theorem perm_move {j : Nat} (hj : r[j]? = some m) : (a :: n :: r).Perm (a :: m :: r.set j n) := by
  refine List.Perm.cons a ?_
  obtain ⟨hlt, e⟩ := List.getElem?_eq_some_iff.1 hj
  have e1 : r = r.take j ++ m :: r.drop (j + 1) := by rw [← e, List.getElem_cons_drop, List.take_append_drop]
  have e2 : r.set j n = r.take j ++ n :: r.drop (j + 1) := by rw [List.set_eq_take_append_cons_drop, if_pos hlt]
  rw [e2]
  conv => lhs; rw [e1]
  refine (List.Perm.cons n List.perm_middle).trans ?_
  refine (List.Perm.swap m n _).trans ?_
  exact List.Perm.cons m List.perm_middle.symm
/-- another number is watched -/
theorem SI.move {j : Nat} {p q : List Nat} (h : SI V L s) (hx : s.xs[k]? = some (a :: n :: r)) (hj : r[j]? = some m) (hw : s.wt n = p ++ k :: q) :
    SI V L { s with xs := s.xs.set k (a :: m :: r.set j n), wt := upd (upd s.wt n (p ++ q)) m (s.wt m ++ [k]) } := by
  have hmem : (a :: n :: r) ∈ s.xs := List.mem_of_getElem? hx
  have hp : (a :: n :: r).Perm (a :: m :: r.set j n) := perm_move hj
  have hlt : k < s.xs.length := (List.getElem?_eq_some_iff.1 hx).1
  have hnd := h.xnd _ hmem
  have hmr : m ∈ r := List.mem_of_getElem? hj
  have hmn : m ≠ n := fun e => by
    subst e
    exact (List.nodup_cons.1 (List.nodup_cons.1 hnd).2).1 hmr
  have hma : m ≠ a := fun e => by
    subst e
    exact (List.nodup_cons.1 hnd).1 (List.mem_cons_of_mem _ hmr)
  have han : a ≠ n := fun e => by
    subst e
    exact (List.nodup_cons.1 hnd).1 (List.mem_cons_self ..)
  have hkm : k ∉ s.wt m := fun hk => by
    obtain ⟨a', b', r', e, hh⟩ := (h.wiff m k).1 hk
    rw [hx] at e
    injection e with e; injection e with e1 e; injection e with e2 e3
    subst e1; subst e2
    rcases hh with hh | hh
    · exact hma hh.symm
    · exact hmn hh.symm
  have hwn := h.wnd n
  rw [hw] at hwn
  have hwn' : (k :: (p ++ q)).Nodup := hwn.perm List.perm_middle
  have hkpq : k ∉ p ++ q := (List.nodup_cons.1 hwn').1
  refine { h with xlen := by simpa using h.xlen, xmem := fun i x l hi hl y => ?_, xnd := fun x hm => ?_, xlit := fun x hm y hy => ?_, wnd := fun y => ?_, wiff := fun y i => ?_ }
  · replace hi : (s.xs.set k (a :: m :: r.set j n))[i]? = some x := hi
    rw [List.getElem?_set] at hi
    by_cases e : k = i
    · subst e
      rw [if_pos rfl, if_pos hlt] at hi
      injection hi with hi; subst hi
      rw [← hp.mem_iff]; exact h.xmem _ _ l hx hl y
    · rw [if_neg e] at hi; exact h.xmem i x l hi hl y
  · rcases List.mem_or_eq_of_mem_set hm with hm | hm
    · exact h.xnd x hm
    · subst hm; exact (h.xnd _ hmem).perm hp
  · rcases List.mem_or_eq_of_mem_set hm with hm | hm
    · exact h.xlit x hm y hy
    · subst hm; exact h.xlit _ hmem y (hp.mem_iff.2 hy)
  · show (upd (upd s.wt n (p ++ q)) m (s.wt m ++ [k]) y).Nodup
    by_cases e : y = m
    · subst e
      rw [upd_same]
      refine List.nodup_append.2 ⟨h.wnd y, by simp, fun x hxy z hz => ?_⟩
      obtain rfl : z = k := by simpa using hz
      rintro rfl
      exact hkm hxy
    · rw [upd_other e]
      by_cases e2 : y = n
      · subst e2; rw [upd_same]; exact (List.nodup_cons.1 hwn').2
      · rw [upd_other e2]; exact h.wnd y
  · show i ∈ upd (upd s.wt n (p ++ q)) m (s.wt m ++ [k]) y ↔ ∃ a' b' r', (s.xs.set k (a :: m :: r.set j n))[i]? = some (a' :: b' :: r') ∧ _
    rw [List.getElem?_set]
    by_cases ei : k = i
    · subst ei
      rw [if_pos rfl, if_pos hlt]
      by_cases e : y = m
      · subst e
        rw [upd_same]
        exact ⟨fun _ => ⟨a, y, _, rfl, .inr rfl⟩, fun _ => by simp⟩
      · rw [upd_other e]
        by_cases e2 : y = n
        · subst e2
          rw [upd_same]
          refine ⟨fun hk => absurd hk hkpq, ?_⟩
          rintro ⟨a', b', r', e', hh⟩
          injection e' with e'; injection e' with e1 e'; injection e' with e3 e4
          subst e1; subst e3
          rcases hh with hh | hh
          · exact absurd hh han
          · exact absurd hh hmn
        · rw [upd_other e2, h.wiff y k, hx]
          constructor
          · rintro ⟨a', b', r', e', hh⟩
            injection e' with e'; injection e' with e1 e'; injection e' with e3 e4
            subst e1; subst e3
            rcases hh with hh | hh
            · exact ⟨a, m, _, rfl, .inl hh⟩
            · exact absurd hh.symm e2
          · rintro ⟨a', b', r', e', hh⟩
            injection e' with e'; injection e' with e1 e'; injection e' with e3 e4
            subst e1; subst e3
            rcases hh with hh | hh
            · exact ⟨a, n, _, rfl, .inl hh⟩
            · exact absurd hh.symm e
    · rw [if_neg ei]
      by_cases e : y = m
      · subst e
        rw [upd_same, ← h.wiff y i]
        simp only [List.mem_append, List.mem_singleton]
        exact ⟨fun hh => hh.resolve_right (fun e => ei e.symm), .inl⟩
      · rw [upd_other e]
        by_cases e2 : y = n
        · subst e2
          rw [upd_same, ← h.wiff y i, hw]
          simp only [List.mem_append, List.mem_cons]
          constructor
          · rintro (hh | hh)
            · exact .inl hh
            · exact .inr (.inr hh)
          · rintro (hh | rfl | hh)
            · exact .inl hh
            · exact absurd rfl ei
            · exact .inr hh
        · rw [upd_other e2, h.wiff y i]
theorem Wi.move {xs : List (List Int)} {F T : List Int} {j : Nat} (h : Wi xs F T) (hx : xs[k]? = some (a :: n :: r)) (hn : n ∉ T) (hm : -m ∉ F) : Wi (xs.set k (a :: m :: r.set j n)) F T :=
  h.set_ fun a' b' r' e => by
    injection e with e1 e; injection e with e2 e3
    subst e1; subst e2
    exact ⟨fun hf => absurd ((h k _ _ _ hx).1 hf) hn, fun hf => absurd hf hm⟩
/-- all is spread: the values are stable -/
theorem stable_end (h : SI V L s) (hw : Wi s.xs s.tr s.tr) (hu : Un s.xs s.tr) (hne : ∀ x ∈ s.xs, x ≠ []) : Stable L (va s.vs) := by
  intro l hl
  obtain ⟨k, hk, e⟩ := List.getElem_of_mem hl
  have hkx : k < s.xs.length := by have := h.xlen; omega
  have hx : s.xs[k]? = some s.xs[k] := List.getElem?_eq_getElem hkx
  have hm := h.xmem k _ l hx (by rw [List.getElem?_eq_getElem hk, e])
  have hxm : s.xs[k] ∈ s.xs := List.mem_of_getElem? hx
  generalize s.xs[k] = x at hx hm hxm
  match x, hx, hm, hxm with
  | [], _, _, hxm => exact absurd rfl (hne _ hxm)
  | [a], hx, hm, _ =>
    have := hu k a hx
    exact .inl ⟨a, (hm a).1 (by simp), (h.trv a this).2⟩
  | a :: b :: r, hx, hm, hxm =>
    have ha := h.xlit _ hxm a (by simp)
    have hb := h.xlit _ hxm b (by simp)
    have hab : a ≠ b := fun e => (List.nodup_cons.1 (h.xnd _ hxm)).1 (by simp [e])
    have hma := (hm a).1 (by simp)
    have hmb := (hm b).1 (by simp)
    obtain ⟨w1, w2⟩ := hw k a b r hx
    rcases h.ok a with ea | ea | ea
    · exact .inl ⟨b, hmb, (h.trv b (w1 (h.val_neg ha ea))).2⟩
    · rcases h.ok b with eb | eb | eb
      · exact .inl ⟨a, hma, (h.trv a (w2 (h.val_neg hb eb))).2⟩
      · exact .inr ⟨a, hma, b, hmb, hab, ea, eb⟩
      · exact .inl ⟨b, hmb, eb⟩
    · exact .inl ⟨a, hma, ea⟩
/-- no more numbers on a trail than variables -/
theorem SI.tr_le (h : SI V L s) : s.tr.length ≤ V := by
  have h1 : (s.tr.map Int.natAbs).Nodup := by
    have key : ∀ l : List Int, l.Nodup → (∀ n ∈ l, Lit V n ∧ lv (va s.vs) n = 1) → (l.map Int.natAbs).Nodup := by
      intro l
      induction l with
      | nil => intro _ _; simp
      | cons x t ih =>
        intro hnd hv
        rw [List.map_cons, List.nodup_cons]
        obtain ⟨n1, n2⟩ := List.nodup_cons.1 hnd
        refine ⟨fun hm => ?_, ih n2 fun y hy => hv y (List.mem_cons_of_mem _ hy)⟩
        obtain ⟨y, hy, e⟩ := List.mem_map.1 hm
        obtain ⟨hx0, hx1⟩ := hv x (by simp)
        obtain ⟨hy0, hy1⟩ := hv y (List.mem_cons_of_mem _ hy)
        have : y = x ∨ y = -x := by omega
        rcases this with e | e
        · subst e; exact n1 hy
        · subst e; rw [lv_neg hx0.1] at hy1; omega
    exact key _ h.trn h.trv
  have h2 : s.tr.map Int.natAbs ⊆ (List.range V).map (· + 1) := fun v hv => by
    obtain ⟨n, hn, e⟩ := List.mem_map.1 hv
    obtain ⟨⟨h0, h1⟩, _⟩ := h.trv n hn
    refine List.mem_map.2 ⟨v - 1, List.mem_range.2 (by omega), by omega⟩
  have := h1.length_le_of_subset h2
  simpa using this
end
end Go.Proofs.YtaedbnbeelkkcaaDoor
