/-
  PLAIN: a checker between its clauses: what holds, what a clause more and a question leave. No program in sight.
-/
import Derived.Test.YtgchepkcjkhmmaaDoorUc
import Derived.Test.YtgchepkcjkhmmaaDoorUb
namespace Go.Proofs.YtgchepkcjkhmmaaDoor
/-- all is spread, no clause is false -/
structure Live (V : Nat) (L : List (List Int)) (s : St) (fx : Int) : Prop where
  si : SI V L s
  wi : Wi s.xs s.tr s.tr
  un : Un s.xs s.tr
  ne : ∀ x ∈ s.xs, x ≠ []
  fx : fx = (s.tr.length : Int)
  imp : ∀ m ∈ s.tr, Imp L [] m
/-- what holds of a checker between its clauses -/
structure CkI (V : Nat) (L : List (List Int)) (s : St) (fx dd : Int) : Prop where
  xlen : s.xs.length = L.length
  vlen : s.vs.length = V + 1
  live : dd = -1 → Live V L s fx
  dead : dd ≠ -1 → (0 ≤ dd ∧ dd < (L.length : Int)) ∧ Ref L []
section
variable {V : Nat} {L : List (List Int)} {s : St} {l x : List Int} {a b : Int} {r : List Int} {k : Nat} {fx dd : Int}
theorem mem_snoc {x : List Int} (h : x ∈ L) : x ∈ L ++ [l] := List.mem_append_left _ h
theorem snoc_at {xs : List (List Int)} {j : Nat} {y : List Int} (h : (xs ++ [x])[j]? = some y) : xs[j]? = some y ∨ j = xs.length ∧ y = x := by
  rcases Nat.lt_trichotomy j xs.length with h1 | h1 | h1
  · rw [List.getElem?_append_left h1] at h; exact .inl h
  · subst h1; rw [List.getElem?_concat_length] at h; injection h with h; exact .inr ⟨rfl, h.symm⟩
  · rw [List.getElem?_eq_none (by simp; omega)] at h; cases h
theorem SI.add1 (h : SI V L s) (hx : x.length < 2) (hm : ∀ n, n ∈ x ↔ n ∈ l) (hnd : x.Nodup) (hlit : ∀ n ∈ x, Lit V n) : SI V (L ++ [l]) { s with xs := s.xs ++ [x] } := by
  refine { vlen := h.vlen, vok := h.vok, trv := h.trv, trs := h.trs, trn := h.trn, xlen := by simp [h.xlen], xmem := fun j y l' hj hl n => ?_, xnd := fun y hy => ?_, xlit := fun y hy => ?_, wnd := h.wnd, wiff := fun n j => ?_ }
  · rcases snoc_at hj with hj | ⟨e, rfl⟩
    · rcases snoc_at hl with hl | ⟨e, rfl⟩
      · exact h.xmem j y l' hj hl n
      · have := (List.getElem?_eq_some_iff.1 hj).1; have := h.xlen; omega
    · rcases snoc_at hl with hl | ⟨_, rfl⟩
      · have := (List.getElem?_eq_some_iff.1 hl).1; have := h.xlen; omega
      · exact hm n
  · rcases List.mem_append.1 hy with hy | hy
    · exact h.xnd y hy
    · obtain rfl : y = x := by simpa using hy
      exact hnd
  · rcases List.mem_append.1 hy with hy | hy
    · exact h.xlit y hy
    · obtain rfl : y = x := by simpa using hy
      exact hlit
  · show j ∈ s.wt n ↔ _
    rw [h.wiff n j]
    constructor
    · rintro ⟨a, b, r, e, hh⟩
      exact ⟨a, b, r, by show (s.xs ++ [x])[j]? = _; rw [List.getElem?_append_left (List.getElem?_eq_some_iff.1 e).1]; exact e, hh⟩
    · rintro ⟨a, b, r, e, hh⟩
      rcases snoc_at e with e | ⟨_, e⟩
      · exact ⟨a, b, r, e, hh⟩
      · subst e; simp at hx; omega
theorem SI.add2 (h : SI V L s) (hk : s.xs.length = k) (hm : ∀ n, n ∈ a :: b :: r ↔ n ∈ l) (hnd : (a :: b :: r).Nodup) (hlit : ∀ n ∈ a :: b :: r, Lit V n) :
    SI V (L ++ [l]) { s with xs := s.xs ++ [a :: b :: r], wt := upd (upd s.wt a (s.wt a ++ [k])) b (s.wt b ++ [k]) } := by
  have hab : a ≠ b := fun e => by subst e; exact (List.nodup_cons.1 hnd).1 (by simp)
  have hno : ∀ n, k ∉ s.wt n := fun n hn => by
    obtain ⟨a', b', r', e, _⟩ := (h.wiff n k).1 hn
    have := (List.getElem?_eq_some_iff.1 e).1; omega
  refine { vlen := h.vlen, vok := h.vok, trv := h.trv, trs := h.trs, trn := h.trn, xlen := by simp [h.xlen], xmem := fun j y l' hj hl n => ?_, xnd := fun y hy => ?_, xlit := fun y hy => ?_, wnd := fun n => ?_, wiff := fun n j => ?_ }
  · rcases snoc_at hj with hj | ⟨e, rfl⟩
    · rcases snoc_at hl with hl | ⟨e, rfl⟩
      · exact h.xmem j y l' hj hl n
      · have := (List.getElem?_eq_some_iff.1 hj).1; have := h.xlen; omega
    · rcases snoc_at hl with hl | ⟨_, rfl⟩
      · have := (List.getElem?_eq_some_iff.1 hl).1; have := h.xlen; omega
      · exact hm n
  · rcases List.mem_append.1 hy with hy | hy
    · exact h.xnd y hy
    · obtain rfl : y = a :: b :: r := by simpa using hy
      exact hnd
  · rcases List.mem_append.1 hy with hy | hy
    · exact h.xlit y hy
    · obtain rfl : y = a :: b :: r := by simpa using hy
      exact hlit
  · show (upd (upd s.wt a (s.wt a ++ [k])) b (s.wt b ++ [k]) n).Nodup
    have key : ∀ m, (s.wt m ++ [k]).Nodup := fun m => List.nodup_append.2 ⟨h.wnd m, by simp, fun y hy z hz => by
      obtain rfl : z = k := by simpa using hz
      rintro rfl; exact hno m hy⟩
    unfold upd
    split
    · exact key b
    · split
      · exact key a
      · exact h.wnd n
  · show j ∈ upd (upd s.wt a (s.wt a ++ [k])) b (s.wt b ++ [k]) n ↔ ∃ a' b' r', (s.xs ++ [a :: b :: r])[j]? = some (a' :: b' :: r') ∧ (a' = n ∨ b' = n)
    have hold : (∃ a' b' r', (s.xs ++ [a :: b :: r])[j]? = some (a' :: b' :: r') ∧ (a' = n ∨ b' = n)) ↔ (j ∈ s.wt n ∨ (j = k ∧ (a = n ∨ b = n))) := by
      constructor
      · rintro ⟨a', b', r', e, hh⟩
        rcases snoc_at e with e | ⟨e1, e⟩
        · exact .inl ((h.wiff n j).2 ⟨a', b', r', e, hh⟩)
        · injection e with e2 e; injection e with e3 e
          subst e2; subst e3
          exact .inr ⟨by omega, hh⟩
      · rintro (hj | ⟨rfl, hh⟩)
        · obtain ⟨a', b', r', e, hh⟩ := (h.wiff n j).1 hj
          exact ⟨a', b', r', by rw [List.getElem?_append_left (List.getElem?_eq_some_iff.1 e).1]; exact e, hh⟩
        · exact ⟨a, b, r, by rw [← hk, List.getElem?_concat_length], hh⟩
    rw [hold]
    unfold upd
    by_cases e1 : n = b
    · subst e1
      rw [if_pos rfl, List.mem_append, List.mem_singleton]
      constructor
      · rintro (hj | hj)
        · exact .inl hj
        · exact .inr ⟨hj, .inr rfl⟩
      · rintro (hj | hj)
        · exact .inl hj
        · exact .inr hj.1
    · rw [if_neg e1]
      by_cases e2 : n = a
      · subst e2
        rw [if_pos rfl, List.mem_append, List.mem_singleton]
        constructor
        · rintro (hj | hj)
          · exact .inl hj
          · exact .inr ⟨hj, .inl rfl⟩
        · rintro (hj | hj)
          · exact .inl hj
          · exact .inr hj.1
      · rw [if_neg e2]
        constructor
        · exact .inl
        · rintro (hj | ⟨_, hj | hj⟩)
          · exact hj
          · exact absurd hj.symm e2
          · exact absurd hj.symm e1
theorem Wi.snoc {xs : List (List Int)} {F T : List Int} (h : Wi xs F T) (hx : ∀ a b r, x = a :: b :: r → (-a ∈ F → b ∈ T) ∧ (-b ∈ F → a ∈ T)) : Wi (xs ++ [x]) F T := fun j a b r hj => by
  rcases snoc_at hj with hj | ⟨_, e⟩
  · exact h j a b r hj
  · exact hx a b r e.symm
theorem Un.snoc {xs : List (List Int)} {T : List Int} (h : Un xs T) (hx : ∀ a, x = [a] → a ∈ T) : Un (xs ++ [x]) T := fun j a hj => by
  rcases snoc_at hj with hj | ⟨_, e⟩
  · exact h j a hj
  · exact hx a e.symm
theorem Un.mono {xs : List (List Int)} {T T' : List Int} (h : Un xs T) (ht : ∀ x ∈ T, x ∈ T') : Un xs T' := fun j a hj => ht a (h j a hj)
theorem ne_same {xs ys : List (List Int)} (h : ∀ x ∈ xs, x ≠ []) (g : Same1 xs ys) : ∀ x ∈ ys, x ≠ [] := fun x hx e => by
  subst e
  obtain ⟨j, hj, e⟩ := List.getElem_of_mem hx
  exact h [] (List.mem_of_getElem? (g j [] (by rw [List.getElem?_eq_getElem hj, e]) (by simp))) rfl
/-- sorted by values, those that are not false ahead -/
def Dsc (vs : List Int) (x : List Int) : Prop := ∀ (i j : Nat) a b, i ≤ j → x[i]? = some a → x[j]? = some b → lv (va vs) b ≤ lv (va vs) a
/-- a clause that is false by what is fixed -/
theorem Live.false_ (h : Live V L s fx) (hm : ∀ n, n ∈ x ↔ n ∈ l) (hlit : ∀ n ∈ x, Lit V n) (hf : ∀ n ∈ x, lv (va s.vs) n = -1) : Ref (L ++ [l]) [] :=
  ref_conf (l := l) (by simp) fun n hn => by
    have hx := (hm n).2 hn
    exact ⟨(hlit n hx).1, (h.imp _ (h.si.val_neg (hlit n hx) (hf n hx))).mono fun _ => mem_snoc⟩
/-- one number of a clause is left -/
theorem Live.unit_ (h : Live V L s fx) (hm : ∀ n, n ∈ a :: r ↔ n ∈ l) (hlit : ∀ n ∈ a :: r, Lit V n) (hf : ∀ n ∈ r, lv (va s.vs) n = -1) : Imp (L ++ [l]) [] a :=
  imp_unit (l := l) (by simp) fun n hn hne => by
    have hx := (hm n).2 hn
    have hr : n ∈ r := (List.mem_cons.1 hx).resolve_left hne
    exact ⟨(hlit n hx).1, (h.imp _ (h.si.val_neg (hlit n hx) (hf n hr))).mono fun _ => mem_snoc⟩
/-- the state with a clause more -/
def more1 (s : St) (x : List Int) : St := { s with xs := s.xs ++ [x] }
def more2 (s : St) (a b : Int) (r : List Int) : St := { s with xs := s.xs ++ [a :: b :: r], wt := upd (upd s.wt a (s.wt a ++ [s.xs.length])) b (s.wt b ++ [s.xs.length]) }
def setS (s : St) (a : Int) : St := { s with vs := s.vs.set a.natAbs (sg a), tr := s.tr ++ [a] }
/-- nothing is to be done: of one number, that holds -/
theorem Live.add1 (h : Live V L s fx) (hm : ∀ n, n ∈ [a] ↔ n ∈ l) (hlit : Lit V a) (hv : lv (va s.vs) a = 1) : Live V (L ++ [l]) (more1 s [a]) fx :=
  ⟨h.si.add1 (by simp) hm (by simp) (fun n hn => by obtain rfl : n = a := by simpa using hn
                                                    exact hlit), h.wi.snoc (fun _ _ _ e => by cases e), h.un.snoc (fun b e => by injection e with e; subst e; exact h.si.trs a hlit hv),
    fun y hy => by
      rcases List.mem_append.1 hy with hy | hy
      · exact h.ne y hy
      · obtain rfl : y = [a] := by simpa using hy
        simp, h.fx, fun m hm => (h.imp m hm).mono fun _ => mem_snoc⟩
theorem Live.add2 (h : Live V L s fx) (hm : ∀ n, n ∈ a :: b :: r ↔ n ∈ l) (hnd : (a :: b :: r).Nodup) (hlit : ∀ n ∈ a :: b :: r, Lit V n) (hv : lv (va s.vs) a = 1 ∨ lv (va s.vs) a = 0 ∧ lv (va s.vs) b = 0) : Live V (L ++ [l]) (more2 s a b r) fx := by
  have ha := hlit a (by simp)
  have hb := hlit b (by simp)
  refine ⟨h.si.add2 rfl hm hnd hlit, h.wi.snoc (fun a' b' r' e => ?_), h.un.snoc (fun b e => by cases e), fun y hy => ?_, h.fx, fun m hm => (h.imp m hm).mono fun _ => mem_snoc⟩
  · injection e with e1 e; injection e with e2 e
    subst e1; subst e2
    refine ⟨fun hf => ?_, fun hf => ?_⟩
    · have := h.si.neg_val ha hf
      omega
    · rcases hv with hv | ⟨_, hv⟩
      · exact h.si.trs a ha hv
      · have := h.si.neg_val hb hf
        omega
  · rcases List.mem_append.1 hy with hy | hy
    · exact h.ne y hy
    · obtain rfl : y = a :: b :: r := by simpa using hy
      simp
/-- what is unit is set: the beginning of a spread -/
theorem Live.start1 (h : Live V L s fx) (hm : ∀ n, n ∈ [a] ↔ n ∈ l) (hlit : Lit V a) (hv : lv (va s.vs) a = 0) : SpI V (L ++ [l]) [] [] (setS (more1 s [a]) a) (setS (more1 s [a]) a) s.tr.length ∧ Un (setS (more1 s [a]) a).xs (setS (more1 s [a]) a).tr ∧ ∀ y ∈ (setS (more1 s [a]) a).xs, y ≠ [] := by
  have hlit' : ∀ n ∈ [a], Lit V n := fun n hn => by
    obtain rfl : n = a := by simpa using hn
    exact hlit
  have hs := h.si.add1 (x := [a]) (by simp) hm (by simp) hlit'
  refine ⟨⟨hs.set_ hlit hv, ?_, fun _ _ _ _ _ => ⟨fun hf => absurd hf (by simp), fun hf => absurd hf (by simp)⟩, Same1.refl _, rfl, ⟨[], by simp⟩, ⟨_, rfl⟩, ?_⟩, ?_, ?_⟩
  · show Wi (s.xs ++ [[a]]) ((s.tr ++ [a]).take s.tr.length) (s.tr ++ [a])
    rw [List.take_left']
    · exact (h.wi.mono fun x hx => List.mem_append_left _ hx).snoc fun _ _ _ e => by cases e
    · rfl
  · intro m hmm
    rcases List.mem_append.1 hmm with hmm | hmm
    · exact (h.imp m hmm).mono fun _ => mem_snoc
    · obtain rfl : m = a := by simpa using hmm
      exact h.unit_ hm hlit' fun n hn => by cases hn
  · show Un (s.xs ++ [[a]]) (s.tr ++ [a])
    exact (h.un.mono fun x hx => List.mem_append_left _ hx).snoc fun b e => by injection e with e; subst e; simp
  · intro y hy
    rcases List.mem_append.1 hy with hy | hy
    · exact h.ne y hy
    · obtain rfl : y = [a] := by simpa using hy
      simp
theorem Live.start2 (h : Live V L s fx) (hm : ∀ n, n ∈ a :: b :: r ↔ n ∈ l) (hnd : (a :: b :: r).Nodup) (hlit : ∀ n ∈ a :: b :: r, Lit V n) (hv : lv (va s.vs) a = 0) (hf : ∀ n ∈ b :: r, lv (va s.vs) n = -1) :
    SpI V (L ++ [l]) [] [] (setS (more2 s a b r) a) (setS (more2 s a b r) a) s.tr.length ∧ Un (setS (more2 s a b r) a).xs (setS (more2 s a b r) a).tr ∧ ∀ y ∈ (setS (more2 s a b r) a).xs, y ≠ [] := by
  have ha := hlit a (by simp)
  have hs := h.si.add2 (k := s.xs.length) rfl hm hnd hlit
  refine ⟨⟨hs.set_ ha hv, ?_, fun _ _ _ _ _ => ⟨fun hf => absurd hf (by simp), fun hf => absurd hf (by simp)⟩, Same1.refl _, rfl, ⟨[], by simp⟩, ⟨_, rfl⟩, ?_⟩, ?_, ?_⟩
  · show Wi (s.xs ++ [a :: b :: r]) ((s.tr ++ [a]).take s.tr.length) (s.tr ++ [a])
    rw [List.take_left']
    · refine (h.wi.mono fun x hx => List.mem_append_left _ hx).snoc fun a' b' r' e => ?_
      injection e with e1 e; injection e with e2 e
      subst e1; subst e2
      refine ⟨fun hf => ?_, fun _ => by simp⟩
      have := h.si.neg_val ha hf
      omega
    · rfl
  · intro m hmm
    rcases List.mem_append.1 hmm with hmm | hmm
    · exact (h.imp m hmm).mono fun _ => mem_snoc
    · obtain rfl : m = a := by simpa using hmm
      exact h.unit_ hm hlit hf
  · show Un (s.xs ++ [a :: b :: r]) (s.tr ++ [a])
    exact (h.un.mono fun x hx => List.mem_append_left _ hx).snoc fun b e => by cases e
  · intro y hy
    rcases List.mem_append.1 hy with hy | hy
    · exact h.ne y hy
    · obtain rfl : y = a :: b :: r := by simpa using hy
      simp
/-- spread: all is stable again -/
theorem live_end {s1 : St} {fx : Int} (hsi : SI V L s) (hsame : Same1 s1.xs s.xs) (hpre : ∃ new, s.tr = s1.tr ++ new) (himp : ∀ m ∈ s.tr, Imp L [] m) (hw : Wi s.xs s.tr s.tr) (hu : Un s1.xs s1.tr) (hne : ∀ y ∈ s1.xs, y ≠ []) (hfx : fx = (s.tr.length : Int)) : Live V L s fx :=
  ⟨hsi, hw, (hu.mono fun x hx => by obtain ⟨new, e⟩ := hpre; rw [e]; exact List.mem_append_left _ hx).same hsame, ne_same hne hsame, hfx, himp⟩
theorem dsc_false {vs : List Int} (h : Dsc vs (a :: r)) (hv : lv (va vs) a = -1) (hok : ∀ x ∈ vs, x = -1 ∨ x = 0 ∨ x = 1) : ∀ n ∈ a :: r, lv (va vs) n = -1 := fun n hn => by
  obtain ⟨j, hj, e⟩ := List.getElem_of_mem hn
  have := h 0 j a n (Nat.zero_le _) rfl (by rw [List.getElem?_eq_getElem hj, e])
  have := lv_ok (va_ok hok) n
  omega
theorem Dsc.tail {vs : List Int} (h : Dsc vs (a :: r)) : Dsc vs r := fun i j x y hij hx hy => h (i + 1) (j + 1) x y (by omega) (by simpa using hx) (by simpa using hy)
theorem Dsc.head {vs : List Int} (h : Dsc vs (a :: b :: r)) : lv (va vs) b ≤ lv (va vs) a := h 0 1 a b (by omega) rfl rfl
theorem dsc_of {vs : List Int} {d : List Int} (h : srt.Srt (fun n => -(lv (va vs) n)) d 0 d.length) : Dsc vs d := fun i j a b hij ha hb => by
  have h1 : -(lv (va vs) a) ≤ -(lv (va vs) b) := h i j a b (Nat.zero_le _) hij (List.getElem?_eq_some_iff.1 hb).1 ha hb
  omega
/-! ### a question -/
/-- amid a question's numbers -/
structure FoI (V : Nat) (L : List (List Int)) (l : List Int) (s0 s : St) (i : Nat) : Prop where
  si : SI V L s
  xs : s.xs = s0.xs
  wt : s.wt = s0.wt
  pre : ∃ new, s.tr = s0.tr ++ new
  imp : ∀ m ∈ s.tr, Imp L l m
  neg : ∀ n ∈ l.take i, -n ∈ s.tr
theorem FoI.start (h : Live V L s fx) (l : List Int) : FoI V L l s s 0 := ⟨h.si, rfl, rfl, ⟨[], by simp⟩, fun m hm => (h.imp m hm).nil, fun n hn => by simp at hn⟩
theorem take_mem {i : Nat} {n m : Int} (h : l[i]? = some n) (hm : m ∈ l.take (i + 1)) : m ∈ l.take i ∨ m = n := by
  rw [List.take_add_one, h] at hm
  simpa using hm
theorem FoI.skip {s0 : St} {i : Nat} {n : Int} (h : FoI V L l s0 s i) (hn : l[i]? = some n) (hl : Lit V n) (hv : lv (va s.vs) n = -1) : FoI V L l s0 s (i + 1) :=
  ⟨h.si, h.xs, h.wt, h.pre, h.imp, fun m hm => by
    rcases take_mem hn hm with hm | rfl
    · exact h.neg m hm
    · exact h.si.val_neg hl hv⟩
theorem FoI.set_ {s0 : St} {i : Nat} {n : Int} (h : FoI V L l s0 s i) (hn : l[i]? = some n) (hl : Lit V n) (hv : lv (va s.vs) n = 0) : FoI V L l s0 (setS s (-n)) (i + 1) := by
  refine ⟨h.si.set_ hl.neg (by rw [lv_neg hl.1, hv]; rfl), h.xs, h.wt, ?_, fun m hm => ?_, fun m hm => ?_⟩
  · obtain ⟨new, e⟩ := h.pre
    exact ⟨new ++ [-n], by show s.tr ++ [-n] = _; rw [e, List.append_assoc]⟩
  · rcases List.mem_append.1 hm with hm | hm
    · exact h.imp m hm
    · obtain rfl : m = -n := by simpa using hm
      exact imp_self (List.mem_of_getElem? hn) hl.1
  · rcases take_mem hn hm with hm | rfl
    · exact List.mem_append_left _ (h.neg m hm)
    · exact List.mem_append_right _ (by simp)
theorem FoI.true_ {s0 : St} {i : Nat} {n : Int} (h : FoI V L l s0 s i) (hn : l[i]? = some n) (hl : Lit V n) (hv : lv (va s.vs) n = 1) : Ref L l :=
  ref_true (List.mem_of_getElem? hn) (h.imp n (h.si.trs n hl hv))
theorem FoI.spread {s0 : St} (h : FoI V L l s0 s l.length) (h0 : Live V L s0 fx) : SpI V L l s0.tr s s s0.tr.length := by
  obtain ⟨new, e⟩ := h.pre
  refine ⟨h.si, ?_, by rw [h.xs]; exact h0.wi, Same1.refl _, rfl, ⟨[], by simp⟩, ⟨new, e⟩, h.imp⟩
  rw [e, h.xs, List.take_left']
  · exact h0.wi.mono fun x hx => List.mem_append_left _ hx
  · rfl
/-- it does not follow -/
theorem FoI.no {s0 s1 : St} (h : FoI V L l s0 s l.length) (h0 : Live V L s0 fx) (hlit : ∀ n ∈ l, Lit V n) (hsi : SI V L s1) (hsame : Same1 s.xs s1.xs) (hpre : ∃ new, s1.tr = s.tr ++ new) (hw : Wi s1.xs s1.tr s1.tr) : ¬ Ref L l := by
  obtain ⟨n1, e1⟩ := h.pre
  obtain ⟨n2, e2⟩ := hpre
  have hu : Un s1.xs s1.tr := by
    refine Un.same ?_ hsame
    rw [h.xs]
    exact h0.un.mono fun x hx => by rw [e2, e1]; simp [hx]
  have hne : ∀ y ∈ s1.xs, y ≠ [] := ne_same (by rw [h.xs]; exact h0.ne) hsame
  refine not_ref (va_ok hsi.vok) (stable_end hsi hw hu hne) fun m hm => ?_
  have := h.neg m (by rw [List.take_length]; exact hm)
  exact hsi.neg_val (hlit m hm) (by rw [e2]; exact List.mem_append_left _ this)
/-- back behind a question -/
theorem live_back {s0 s1 : St} {sb : St} (h0 : Live V L s0 fx) (hsb : SI V L sb) (hxs : sb.xs = s1.xs) (htr : sb.tr = s0.tr) (hsame : Same1 s0.xs s1.xs) (hw0 : Wi s1.xs s0.tr s0.tr) : Live V L sb fx :=
  ⟨hsb, by rw [hxs, htr]; exact hw0, by rw [hxs, htr]; exact h0.un.same hsame, by rw [hxs]; exact ne_same h0.ne hsame, by rw [htr]; exact h0.fx, by rw [htr]; exact h0.imp⟩
end
end Go.Proofs.YtgchepkcjkhmmaaDoor
