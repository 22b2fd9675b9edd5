/-
  PLAIN: a checker between its clauses: what holds, what a clause more and a question leave. No program in sight.
  A ROW OF INTS WRITTEN AS A WHOLE (a sort's, a compaction's world); compact of a sorted list; a checker with one clause more, with one clause written anew.
  WALKS: the comparison of (*checker).add (its closure); Sort, Compact, SortStableFunc of a nil slice.
  WALK of (*checker).add: a clause that has a row.
  WALK of (*checker).add: a nil clause; whatever clause.
-/
import Derived.Test.YtgchepkcjkhmmaaDoorUc
import Derived.Test.YtgchepkcjkhmmaaDoorUg
import Derived.Test.YtgchepkcjkhmmaaDoorUr
import Derived.Test.YtgchepkcjkhmmaaDoorUq
import Derived.Test.YtgchepkcjkhmmaaDoorUx
import Derived.Test.YtgchepkcjkhmmaaDoorHt
namespace Go.Proofs.YtgchepkcjkhmmaaDoor
/-- all is spread, no clause is false -/
structure Live (V : Nat) (L : List (List Int)) (s : St) (fx : Int) : Prop where
  si : SI V L s
  wi : Wi s.xs s.tr s.tr
  un : Un s.xs s.tr
  ne : ∀ x ∈ s.xs, x ≠ []
  fx : fx = (s.tr.length : Int)
  imp : ∀ m ∈ s.tr, Imp L [] m
/-- what holds of a checker between its clauses -/
structure CkI (V : Nat) (L : List (List Int)) (s : St) (fx dd : Int) : Prop where
  xlen : s.xs.length = L.length
  vlen : s.vs.length = V + 1
  live : dd = -1 → Live V L s fx
  dead : dd ≠ -1 → (0 ≤ dd ∧ dd < (L.length : Int)) ∧ Ref L []
section
variable {V : Nat} {L : List (List Int)} {s : St} {l x : List Int} {a b : Int} {r : List Int} {k : Nat} {fx dd : Int}
theorem mem_snoc {x : List Int} (h : x ∈ L) : x ∈ L ++ [l] := List.mem_append_left _ h
theorem snoc_at {xs : List (List Int)} {j : Nat} {y : List Int} (h : (xs ++ [x])[j]? = some y) : xs[j]? = some y ∨ j = xs.length ∧ y = x := by
  rcases Nat.lt_trichotomy j xs.length with h1 | h1 | h1
  · rw [List.getElem?_append_left h1] at h; exact .inl h
  · subst h1; rw [List.getElem?_concat_length] at h; injection h with h; exact .inr ⟨rfl, h.symm⟩
  · rw [List.getElem?_eq_none (by simp; omega)] at h; cases h
theorem SI.add1 (h : SI V L s) (hx : x.length < 2) (hm : ∀ n, n ∈ x ↔ n ∈ l) (hnd : x.Nodup) (hlit : ∀ n ∈ x, Lit V n) : SI V (L ++ [l]) { s with xs := s.xs ++ [x] } := by
  refine { vlen := h.vlen, vok := h.vok, trv := h.trv, trs := h.trs, trn := h.trn, xlen := by simp [h.xlen], xmem := fun j y l' hj hl n => ?_, xnd := fun y hy => ?_, xlit := fun y hy => ?_, wnd := h.wnd, wiff := fun n j => ?_ }
  · rcases snoc_at hj with hj | ⟨e, rfl⟩
    · rcases snoc_at hl with hl | ⟨e, rfl⟩
      · exact h.xmem j y l' hj hl n
      · have := (List.getElem?_eq_some_iff.1 hj).1; have := h.xlen; omega
    · rcases snoc_at hl with hl | ⟨_, rfl⟩
      · have := (List.getElem?_eq_some_iff.1 hl).1; have := h.xlen; omega
      · exact hm n
  · rcases List.mem_append.1 hy with hy | hy
    · exact h.xnd y hy
    · obtain rfl : y = x := by simpa using hy
      exact hnd
  · rcases List.mem_append.1 hy with hy | hy
    · exact h.xlit y hy
    · obtain rfl : y = x := by simpa using hy
      exact hlit
  · show j ∈ s.wt n ↔ _
    rw [h.wiff n j]
    constructor
    · rintro ⟨a, b, r, e, hh⟩
      exact ⟨a, b, r, by show (s.xs ++ [x])[j]? = _; rw [List.getElem?_append_left (List.getElem?_eq_some_iff.1 e).1]; exact e, hh⟩
    · rintro ⟨a, b, r, e, hh⟩
      rcases snoc_at e with e | ⟨_, e⟩
      · exact ⟨a, b, r, e, hh⟩
      · subst e; simp at hx; omega
theorem SI.add2 (h : SI V L s) (hk : s.xs.length = k) (hm : ∀ n, n ∈ a :: b :: r ↔ n ∈ l) (hnd : (a :: b :: r).Nodup) (hlit : ∀ n ∈ a :: b :: r, Lit V n) :
    SI V (L ++ [l]) { s with xs := s.xs ++ [a :: b :: r], wt := upd (upd s.wt a (s.wt a ++ [k])) b (s.wt b ++ [k]) } := by
  have hab : a ≠ b := fun e => by subst e; exact (List.nodup_cons.1 hnd).1 (by simp)
  have hno : ∀ n, k ∉ s.wt n := fun n hn => by
    obtain ⟨a', b', r', e, _⟩ := (h.wiff n k).1 hn
    have := (List.getElem?_eq_some_iff.1 e).1; omega
  refine { vlen := h.vlen, vok := h.vok, trv := h.trv, trs := h.trs, trn := h.trn, xlen := by simp [h.xlen], xmem := fun j y l' hj hl n => ?_, xnd := fun y hy => ?_, xlit := fun y hy => ?_, wnd := fun n => ?_, wiff := fun n j => ?_ }
  · rcases snoc_at hj with hj | ⟨e, rfl⟩
    · rcases snoc_at hl with hl | ⟨e, rfl⟩
      · exact h.xmem j y l' hj hl n
      · have := (List.getElem?_eq_some_iff.1 hj).1; have := h.xlen; omega
    · rcases snoc_at hl with hl | ⟨_, rfl⟩
      · have := (List.getElem?_eq_some_iff.1 hl).1; have := h.xlen; omega
      · exact hm n
  · rcases List.mem_append.1 hy with hy | hy
    · exact h.xnd y hy
    · obtain rfl : y = a :: b :: r := by simpa using hy
      exact hnd
  · rcases List.mem_append.1 hy with hy | hy
    · exact h.xlit y hy
    · obtain rfl : y = a :: b :: r := by simpa using hy
      exact hlit
  · show (upd (upd s.wt a (s.wt a ++ [k])) b (s.wt b ++ [k]) n).Nodup
    have key : ∀ m, (s.wt m ++ [k]).Nodup := fun m => List.nodup_append.2 ⟨h.wnd m, by simp, fun y hy z hz => by
      obtain rfl : z = k := by simpa using hz
      rintro rfl; exact hno m hy⟩
    unfold upd
    split
    · exact key b
    · split
      · exact key a
      · exact h.wnd n
  · show j ∈ upd (upd s.wt a (s.wt a ++ [k])) b (s.wt b ++ [k]) n ↔ ∃ a' b' r', (s.xs ++ [a :: b :: r])[j]? = some (a' :: b' :: r') ∧ (a' = n ∨ b' = n)
    have hold : (∃ a' b' r', (s.xs ++ [a :: b :: r])[j]? = some (a' :: b' :: r') ∧ (a' = n ∨ b' = n)) ↔ (j ∈ s.wt n ∨ (j = k ∧ (a = n ∨ b = n))) := by
      constructor
      · rintro ⟨a', b', r', e, hh⟩
        rcases snoc_at e with e | ⟨e1, e⟩
        · exact .inl ((h.wiff n j).2 ⟨a', b', r', e, hh⟩)
        · injection e with e2 e; injection e with e3 e
          subst e2; subst e3
          exact .inr ⟨by omega, hh⟩
      · rintro (hj | ⟨rfl, hh⟩)
        · obtain ⟨a', b', r', e, hh⟩ := (h.wiff n j).1 hj
          exact ⟨a', b', r', by rw [List.getElem?_append_left (List.getElem?_eq_some_iff.1 e).1]; exact e, hh⟩
        · exact ⟨a, b, r, by rw [← hk, List.getElem?_concat_length], hh⟩
    rw [hold]
    unfold upd
    by_cases e1 : n = b
    · subst e1
      rw [if_pos rfl, List.mem_append, List.mem_singleton]
      constructor
      · rintro (hj | hj)
        · exact .inl hj
        · exact .inr ⟨hj, .inr rfl⟩
      · rintro (hj | hj)
        · exact .inl hj
        · exact .inr hj.1
    · rw [if_neg e1]
      by_cases e2 : n = a
      · subst e2
        rw [if_pos rfl, List.mem_append, List.mem_singleton]
        constructor
        · rintro (hj | hj)
          · exact .inl hj
          · exact .inr ⟨hj, .inl rfl⟩
        · rintro (hj | hj)
          · exact .inl hj
          · exact .inr hj.1
      · rw [if_neg e2]
        constructor
        · exact .inl
        · rintro (hj | ⟨_, hj | hj⟩)
          · exact hj
          · exact absurd hj.symm e2
          · exact absurd hj.symm e1
theorem Wi.snoc {xs : List (List Int)} {F T : List Int} (h : Wi xs F T) (hx : ∀ a b r, x = a :: b :: r → (-a ∈ F → b ∈ T) ∧ (-b ∈ F → a ∈ T)) : Wi (xs ++ [x]) F T := fun j a b r hj => by
  rcases snoc_at hj with hj | ⟨_, e⟩
  · exact h j a b r hj
  · exact hx a b r e.symm
theorem Un.snoc {xs : List (List Int)} {T : List Int} (h : Un xs T) (hx : ∀ a, x = [a] → a ∈ T) : Un (xs ++ [x]) T := fun j a hj => by
  rcases snoc_at hj with hj | ⟨_, e⟩
  · exact h j a hj
  · exact hx a e.symm
theorem Un.mono {xs : List (List Int)} {T T' : List Int} (h : Un xs T) (ht : ∀ x ∈ T, x ∈ T') : Un xs T' := fun j a hj => ht a (h j a hj)
theorem ne_same {xs ys : List (List Int)} (h : ∀ x ∈ xs, x ≠ []) (g : Same1 xs ys) : ∀ x ∈ ys, x ≠ [] := fun x hx e => by
  subst e
  obtain ⟨j, hj, e⟩ := List.getElem_of_mem hx
  exact h [] (List.mem_of_getElem? (g j [] (by rw [List.getElem?_eq_getElem hj, e]) (by simp))) rfl
/-- sorted by values, those that are not false ahead -/
def Dsc (vs : List Int) (x : List Int) : Prop := ∀ (i j : Nat) a b, i ≤ j → x[i]? = some a → x[j]? = some b → lv (va vs) b ≤ lv (va vs) a
/-- a clause that is false by what is fixed -/
theorem Live.false_ (h : Live V L s fx) (hm : ∀ n, n ∈ x ↔ n ∈ l) (hlit : ∀ n ∈ x, Lit V n) (hf : ∀ n ∈ x, lv (va s.vs) n = -1) : Ref (L ++ [l]) [] :=
  ref_conf (l := l) (by simp) fun n hn => by
    have hx := (hm n).2 hn
    exact ⟨(hlit n hx).1, (h.imp _ (h.si.val_neg (hlit n hx) (hf n hx))).mono fun _ => mem_snoc⟩
/-- one number of a clause is left -/
theorem Live.unit_ (h : Live V L s fx) (hm : ∀ n, n ∈ a :: r ↔ n ∈ l) (hlit : ∀ n ∈ a :: r, Lit V n) (hf : ∀ n ∈ r, lv (va s.vs) n = -1) : Imp (L ++ [l]) [] a :=
  imp_unit (l := l) (by simp) fun n hn hne => by
    have hx := (hm n).2 hn
    have hr : n ∈ r := (List.mem_cons.1 hx).resolve_left hne
    exact ⟨(hlit n hx).1, (h.imp _ (h.si.val_neg (hlit n hx) (hf n hr))).mono fun _ => mem_snoc⟩
/-- the state with a clause more -/
def more1 (s : St) (x : List Int) : St := { s with xs := s.xs ++ [x] }
def more2 (s : St) (a b : Int) (r : List Int) : St := { s with xs := s.xs ++ [a :: b :: r], wt := upd (upd s.wt a (s.wt a ++ [s.xs.length])) b (s.wt b ++ [s.xs.length]) }
def setS (s : St) (a : Int) : St := { s with vs := s.vs.set a.natAbs (sg a), tr := s.tr ++ [a] }
/-- nothing is to be done: of one number, that holds -/
theorem Live.add1 (h : Live V L s fx) (hm : ∀ n, n ∈ [a] ↔ n ∈ l) (hlit : Lit V a) (hv : lv (va s.vs) a = 1) : Live V (L ++ [l]) (more1 s [a]) fx :=
  ⟨h.si.add1 (by simp) hm (by simp) (fun n hn => by obtain rfl : n = a := by simpa using hn
                                                    exact hlit), h.wi.snoc (fun _ _ _ e => by cases e), h.un.snoc (fun b e => by injection e with e; subst e; exact h.si.trs a hlit hv),
    fun y hy => by
      rcases List.mem_append.1 hy with hy | hy
      · exact h.ne y hy
      · obtain rfl : y = [a] := by simpa using hy
        simp, h.fx, fun m hm => (h.imp m hm).mono fun _ => mem_snoc⟩
theorem Live.add2 (h : Live V L s fx) (hm : ∀ n, n ∈ a :: b :: r ↔ n ∈ l) (hnd : (a :: b :: r).Nodup) (hlit : ∀ n ∈ a :: b :: r, Lit V n) (hv : lv (va s.vs) a = 1 ∨ lv (va s.vs) a = 0 ∧ lv (va s.vs) b = 0) : Live V (L ++ [l]) (more2 s a b r) fx := by
  have ha := hlit a (by simp)
  have hb := hlit b (by simp)
  refine ⟨h.si.add2 rfl hm hnd hlit, h.wi.snoc (fun a' b' r' e => ?_), h.un.snoc (fun b e => by cases e), fun y hy => ?_, h.fx, fun m hm => (h.imp m hm).mono fun _ => mem_snoc⟩
  · injection e with e1 e; injection e with e2 e
    subst e1; subst e2
    refine ⟨fun hf => ?_, fun hf => ?_⟩
    · have := h.si.neg_val ha hf
      omega
    · rcases hv with hv | ⟨_, hv⟩
      · exact h.si.trs a ha hv
      · have := h.si.neg_val hb hf
        omega
  · rcases List.mem_append.1 hy with hy | hy
    · exact h.ne y hy
    · obtain rfl : y = a :: b :: r := by simpa using hy
      simp
/-- what is unit is set: the beginning of a spread -/
theorem Live.start1 (h : Live V L s fx) (hm : ∀ n, n ∈ [a] ↔ n ∈ l) (hlit : Lit V a) (hv : lv (va s.vs) a = 0) : SpI V (L ++ [l]) [] [] (setS (more1 s [a]) a) (setS (more1 s [a]) a) s.tr.length ∧ Un (setS (more1 s [a]) a).xs (setS (more1 s [a]) a).tr ∧ ∀ y ∈ (setS (more1 s [a]) a).xs, y ≠ [] := by
  have hlit' : ∀ n ∈ [a], Lit V n := fun n hn => by
    obtain rfl : n = a := by simpa using hn
    exact hlit
  have hs := h.si.add1 (x := [a]) (by simp) hm (by simp) hlit'
  refine ⟨⟨hs.set_ hlit hv, ?_, fun _ _ _ _ _ => ⟨fun hf => absurd hf (by simp), fun hf => absurd hf (by simp)⟩, Same1.refl _, rfl, ⟨[], by simp⟩, ⟨_, rfl⟩, ?_⟩, ?_, ?_⟩
  · show Wi (s.xs ++ [[a]]) ((s.tr ++ [a]).take s.tr.length) (s.tr ++ [a])
    rw [List.take_left']
    · exact (h.wi.mono fun x hx => List.mem_append_left _ hx).snoc fun _ _ _ e => by cases e
    · rfl
  · intro m hmm
    rcases List.mem_append.1 hmm with hmm | hmm
    · exact (h.imp m hmm).mono fun _ => mem_snoc
    · obtain rfl : m = a := by simpa using hmm
      exact h.unit_ hm hlit' fun n hn => by cases hn
  · show Un (s.xs ++ [[a]]) (s.tr ++ [a])
    exact (h.un.mono fun x hx => List.mem_append_left _ hx).snoc fun b e => by injection e with e; subst e; simp
  · intro y hy
    rcases List.mem_append.1 hy with hy | hy
    · exact h.ne y hy
    · obtain rfl : y = [a] := by simpa using hy
      simp
theorem Live.start2 (h : Live V L s fx) (hm : ∀ n, n ∈ a :: b :: r ↔ n ∈ l) (hnd : (a :: b :: r).Nodup) (hlit : ∀ n ∈ a :: b :: r, Lit V n) (hv : lv (va s.vs) a = 0) (hf : ∀ n ∈ b :: r, lv (va s.vs) n = -1) :
    SpI V (L ++ [l]) [] [] (setS (more2 s a b r) a) (setS (more2 s a b r) a) s.tr.length ∧ Un (setS (more2 s a b r) a).xs (setS (more2 s a b r) a).tr ∧ ∀ y ∈ (setS (more2 s a b r) a).xs, y ≠ [] := by
  have ha := hlit a (by simp)
  have hs := h.si.add2 (k := s.xs.length) rfl hm hnd hlit
  refine ⟨⟨hs.set_ ha hv, ?_, fun _ _ _ _ _ => ⟨fun hf => absurd hf (by simp), fun hf => absurd hf (by simp)⟩, Same1.refl _, rfl, ⟨[], by simp⟩, ⟨_, rfl⟩, ?_⟩, ?_, ?_⟩
  · show Wi (s.xs ++ [a :: b :: r]) ((s.tr ++ [a]).take s.tr.length) (s.tr ++ [a])
    rw [List.take_left']
    · refine (h.wi.mono fun x hx => List.mem_append_left _ hx).snoc fun a' b' r' e => ?_
      injection e with e1 e; injection e with e2 e
      subst e1; subst e2
      refine ⟨fun hf => ?_, fun _ => by simp⟩
      have := h.si.neg_val ha hf
      omega
    · rfl
  · intro m hmm
    rcases List.mem_append.1 hmm with hmm | hmm
    · exact (h.imp m hmm).mono fun _ => mem_snoc
    · obtain rfl : m = a := by simpa using hmm
      exact h.unit_ hm hlit hf
  · show Un (s.xs ++ [a :: b :: r]) (s.tr ++ [a])
    exact (h.un.mono fun x hx => List.mem_append_left _ hx).snoc fun b e => by cases e
  · intro y hy
    rcases List.mem_append.1 hy with hy | hy
    · exact h.ne y hy
    · obtain rfl : y = a :: b :: r := by simpa using hy
      simp
/-- spread: all is stable again -/
theorem live_end {s1 : St} {fx : Int} (hsi : SI V L s) (hsame : Same1 s1.xs s.xs) (hpre : ∃ new, s.tr = s1.tr ++ new) (himp : ∀ m ∈ s.tr, Imp L [] m) (hw : Wi s.xs s.tr s.tr) (hu : Un s1.xs s1.tr) (hne : ∀ y ∈ s1.xs, y ≠ []) (hfx : fx = (s.tr.length : Int)) : Live V L s fx :=
  ⟨hsi, hw, (hu.mono fun x hx => by obtain ⟨new, e⟩ := hpre; rw [e]; exact List.mem_append_left _ hx).same hsame, ne_same hne hsame, hfx, himp⟩
theorem dsc_false {vs : List Int} (h : Dsc vs (a :: r)) (hv : lv (va vs) a = -1) (hok : ∀ x ∈ vs, x = -1 ∨ x = 0 ∨ x = 1) : ∀ n ∈ a :: r, lv (va vs) n = -1 := fun n hn => by
  obtain ⟨j, hj, e⟩ := List.getElem_of_mem hn
  have := h 0 j a n (Nat.zero_le _) rfl (by rw [List.getElem?_eq_getElem hj, e])
  have := lv_ok (va_ok hok) n
  omega
theorem Dsc.tail {vs : List Int} (h : Dsc vs (a :: r)) : Dsc vs r := fun i j x y hij hx hy => h (i + 1) (j + 1) x y (by omega) (by simpa using hx) (by simpa using hy)
theorem Dsc.head {vs : List Int} (h : Dsc vs (a :: b :: r)) : lv (va vs) b ≤ lv (va vs) a := h 0 1 a b (by omega) rfl rfl
theorem dsc_of {vs : List Int} {d : List Int} (h : srt.Srt (fun n => -(lv (va vs) n)) d 0 d.length) : Dsc vs d := fun i j a b hij ha hb => by
  have h1 : -(lv (va vs) a) ≤ -(lv (va vs) b) := h i j a b (Nat.zero_le _) hij (List.getElem?_eq_some_iff.1 hb).1 ha hb
  omega
/-! ### a question -/
/-- amid a question's numbers -/
structure FoI (V : Nat) (L : List (List Int)) (l : List Int) (s0 s : St) (i : Nat) : Prop where
  si : SI V L s
  xs : s.xs = s0.xs
  wt : s.wt = s0.wt
  pre : ∃ new, s.tr = s0.tr ++ new
  imp : ∀ m ∈ s.tr, Imp L l m
  neg : ∀ n ∈ l.take i, -n ∈ s.tr
theorem FoI.start (h : Live V L s fx) (l : List Int) : FoI V L l s s 0 := ⟨h.si, rfl, rfl, ⟨[], by simp⟩, fun m hm => (h.imp m hm).nil, fun n hn => by simp at hn⟩
theorem take_mem {i : Nat} {n m : Int} (h : l[i]? = some n) (hm : m ∈ l.take (i + 1)) : m ∈ l.take i ∨ m = n := by
  rw [List.take_add_one, h] at hm
  simpa using hm
theorem FoI.skip {s0 : St} {i : Nat} {n : Int} (h : FoI V L l s0 s i) (hn : l[i]? = some n) (hl : Lit V n) (hv : lv (va s.vs) n = -1) : FoI V L l s0 s (i + 1) :=
  ⟨h.si, h.xs, h.wt, h.pre, h.imp, fun m hm => by
    rcases take_mem hn hm with hm | rfl
    · exact h.neg m hm
    · exact h.si.val_neg hl hv⟩
theorem FoI.set_ {s0 : St} {i : Nat} {n : Int} (h : FoI V L l s0 s i) (hn : l[i]? = some n) (hl : Lit V n) (hv : lv (va s.vs) n = 0) : FoI V L l s0 (setS s (-n)) (i + 1) := by
  refine ⟨h.si.set_ hl.neg (by rw [lv_neg hl.1, hv]; rfl), h.xs, h.wt, ?_, fun m hm => ?_, fun m hm => ?_⟩
  · obtain ⟨new, e⟩ := h.pre
    exact ⟨new ++ [-n], by show s.tr ++ [-n] = _; rw [e, List.append_assoc]⟩
  · rcases List.mem_append.1 hm with hm | hm
    · exact h.imp m hm
    · obtain rfl : m = -n := by simpa using hm
      exact imp_self (List.mem_of_getElem? hn) hl.1
  · rcases take_mem hn hm with hm | rfl
    · exact List.mem_append_left _ (h.neg m hm)
    · exact List.mem_append_right _ (by simp)
theorem FoI.true_ {s0 : St} {i : Nat} {n : Int} (h : FoI V L l s0 s i) (hn : l[i]? = some n) (hl : Lit V n) (hv : lv (va s.vs) n = 1) : Ref L l :=
  ref_true (List.mem_of_getElem? hn) (h.imp n (h.si.trs n hl hv))
theorem FoI.spread {s0 : St} (h : FoI V L l s0 s l.length) (h0 : Live V L s0 fx) : SpI V L l s0.tr s s s0.tr.length := by
  obtain ⟨new, e⟩ := h.pre
  refine ⟨h.si, ?_, by rw [h.xs]; exact h0.wi, Same1.refl _, rfl, ⟨[], by simp⟩, ⟨new, e⟩, h.imp⟩
  rw [e, h.xs, List.take_left']
  · exact h0.wi.mono fun x hx => List.mem_append_left _ hx
  · rfl
/-- it does not follow -/
theorem FoI.no {s0 s1 : St} (h : FoI V L l s0 s l.length) (h0 : Live V L s0 fx) (hlit : ∀ n ∈ l, Lit V n) (hsi : SI V L s1) (hsame : Same1 s.xs s1.xs) (hpre : ∃ new, s1.tr = s.tr ++ new) (hw : Wi s1.xs s1.tr s1.tr) : ¬ Ref L l := by
  obtain ⟨n1, e1⟩ := h.pre
  obtain ⟨n2, e2⟩ := hpre
  have hu : Un s1.xs s1.tr := by
    refine Un.same ?_ hsame
    rw [h.xs]
    exact h0.un.mono fun x hx => by rw [e2, e1]; simp [hx]
  have hne : ∀ y ∈ s1.xs, y ≠ [] := ne_same (by rw [h.xs]; exact h0.ne) hsame
  refine not_ref (va_ok hsi.vok) (stable_end hsi hw hu hne) fun m hm => ?_
  have := h.neg m (by rw [List.take_length]; exact hm)
  exact hsi.neg_val (hlit m hm) (by rw [e2]; exact List.mem_append_left _ this)
/-- back behind a question -/
theorem live_back {s0 s1 : St} {sb : St} (h0 : Live V L s0 fx) (hsb : SI V L sb) (hxs : sb.xs = s1.xs) (htr : sb.tr = s0.tr) (hsame : Same1 s0.xs s1.xs) (hw0 : Wi s1.xs s0.tr s0.tr) : Live V L sb fx :=
  ⟨hsb, by rw [hxs, htr]; exact hw0, by rw [hxs, htr]; exact h0.un.same hsame, by rw [hxs]; exact ne_same h0.ne hsame, by rw [htr]; exact h0.fx, by rw [htr]; exact h0.imp⟩
end
end Go.Proofs.YtgchepkcjkhmmaaDoor
namespace Go.Proofs.YtgchepkcjkhmmaaDoor
open Go.RowKit Go.Sort
section
variable {w w' : World} {tag tag' : Nat → Tag} {t : Tag} {base g c : Nat} {e : TypeId} {zs zs' : List Int}
theorem rowW_eq (w : World) (g : Nat) (d : List Int) (m : Nat) : srt.rowW w g d m = grow (putRow (Value.int .i64) (Sort.ahead w m) g 0 d.toArray) #[] := by
  rw [grow_empty]; rfl
end
section
variable {w w' : World} {tag tag' : Nat → Tag} {p V : Nat} {y : Lay} {xs : List (List Int)} {wt : Int → List Nat} {vs tr us : List Int} {fx dd : Int}
/-- a clause more -/
theorem Chk.addX {A : Option Addr} {n c : Nat} {x : List Int} {u : Value} (h : Chk w tag p V y xs wt vs tr us fx dd) (hu : Row w tag (3, (xs.length : Int)) 0 3 u (litVals x)) (ho : w'.ownsRow 0 27 1 (.slice A n c) n (y.rows ++ [u])) (hl : xs.length + 1 = n) (hg : w.grownBy w' y.vC.ownBlock)
    (hloc : (Value.slice A n c).ownBlock = y.vC.ownBlock ∨ (Value.slice A n c).ownBlock = some w.heap.size) :
    ∃ tag', Re w tag tag' ∧ Cg tag (Fr 8) w (w'.setCell ⟨p, 0, none⟩ (.slice A n c)) ∧ Chk (w'.setCell ⟨p, 0, none⟩ (.slice A n c)) tag' p V { y with vC := .slice A n c, rows := y.rows ++ [u] } (xs ++ [x]) wt vs tr us fx dd := by
  obtain ⟨tag', hr, hrow, hc⟩ := h.hdr.grown ho (by rw [List.length_append, h.rlen]; exact hl) hg hloc
  have hp' : tag' p = (1, 0) := (hr _ h.blk.lt).trans h.tp
  have hc' := hc.re_ hr
  have h' := h.re hr
  have hu' := hu.re hr
  have hk : Cg tag' (fun s => s = (1, 0)) w' (w'.setCell ⟨p, 0, none⟩ (.slice A n c)) := cg_store (by show tag' p = _; exact hp') _
  refine ⟨tag', hr, (hc.mono_ (S' := Fr 8) fun t e => by subst e; exact ⟨by decide, by decide⟩).trans_ (hk.mono_ (S' := Fr 8) fun t e => by subst e; exact ⟨by decide, by decide⟩) hr, ?_⟩
  refine ⟨(h'.blk.tchg h'.tp hc' (by decide)).set_ 0 _, hp', hrow.chg hk (by decide), by simp [h.rlen], fun k x' u' hx hu2 => ?_, (h'.val.chg hc' (by decide)).chg hk (by decide),
    (h'.usd.chg hc' (by decide)).chg hk (by decide), h.ul, (h'.trl.chg hc' (by decide)).chg hk (by decide), h'.tm, (h'.map.chg hc' fun o => (by show ¬ tag' y.bm = _; rw [h'.tm]; decide)).chg hk fun o => (by show ¬ tag' y.bm = _; rw [h'.tm]; decide),
    fun n hn => ((h'.wts n hn).chg hc' (by simp)).chg hk (by simp)⟩
  have hu2 : (y.rows ++ [u])[k]? = some u' := hu2
  rcases Nat.lt_or_ge k xs.length with h1 | h1
  · rw [List.getElem?_append_left h1] at hx
    rw [List.getElem?_append_left (by rw [h.rlen]; exact h1)] at hu2
    exact ((h'.cls k x' u' hx hu2).chg hc' (by simp)).chg hk (by simp)
  · have hk2 : k = xs.length := by have := (List.getElem?_eq_some_iff.1 hx).1; simp at this; omega
    subst hk2
    rw [List.getElem?_concat_length] at hx
    have e2 : y.rows.length = xs.length := h.rlen
    rw [← e2, List.getElem?_concat_length] at hu2
    injection hx with hx; injection hu2 with hu2
    subst hx; subst hu2
    exact (hu'.chg hc' (by simp)).chg hk (by simp)
/-- a clause is written anew -/
theorem Chk.anewX {k : Nat} {x X : List Int} {u : Value} (h : Chk w tag p V y xs wt vs tr us fx dd) (hx : xs[k]? = some x) (hu : y.rows[k]? = some u) (hc : Cg tag (fun s => s = (3, (k : Int))) w w') (hr : Row w' tag (3, (k : Int)) 0 3 u (litVals X)) :
    Chk w' tag p V y (xs.set k X) wt vs tr us fx dd := by
  refine ⟨h.blk.tchg h.tp hc (by simp), h.tp, h.hdr.chg hc (by simp), by rw [List.length_set]; exact h.rlen, fun k' x' u' hx' hu' => ?_, h.val.chg hc (by simp), h.usd.chg hc (by simp), h.ul, h.trl.chg hc (by simp), h.tm,
    h.map.chg hc fun o => (by show ¬ tag y.bm = _; rw [h.tm]; simp), fun n hn => (h.wts n hn).chg hc (by simp)⟩
  rw [List.getElem?_set] at hx'
  by_cases e : k = k'
  · subst e
    rw [if_pos rfl, if_pos (List.getElem?_eq_some_iff.1 hx).1] at hx'
    injection hx' with hx'
    rw [hu] at hu'
    injection hu' with hu'
    subst hx'; subst hu'
    exact hr
  · rw [if_neg e] at hx'
    exact (h.cls k' x' u' hx' hu').chg hc (by simp; omega)
end
end Go.Proofs.YtgchepkcjkhmmaaDoor
namespace Go.Proofs.YtgchepkcjkhmmaaDoor
open Go.RowKit Go.Sort
section
variable {w w' : World} {tag tag' : Nat → Tag} {p V : Nat} {y : Lay} {xs : List (List Int)} {wt : Int → List Nat} {vs tr us : List Int} {fx dd : Int}
set_option maxRecDepth 100000 in
set_option maxHeartbeats 2000000 in
theorem cmp1_any {W : World} {bx : Nat} {x z vx vz : Int} (cb : W.cell? ⟨bx, 0, none⟩ = some (.pointer (some ⟨p, 0, none⟩)))
    (hx : ∀ j, Calls Tryd.prog 36 #[.pointer (some ⟨p, 0, none⟩), .int .i64 x] (W.drewN j) fun e w' => e = .returned (.int .i8 vx) ∧ W.drewN j = w')
    (hz : ∀ j, Calls Tryd.prog 36 #[.pointer (some ⟨p, 0, none⟩), .int .i64 z] (W.drewN j) fun e w' => e = .returned (.int .i8 vz) ∧ W.drewN j = w')
    (bvx : -1 ≤ vx ∧ vx ≤ 1) (bvz : -1 ≤ vz ∧ vz ≤ 1) :
    Calls Tryd.prog 35 #[.int .i64 x, .int .i64 z, .pointer (some ⟨bx, 0, none⟩)] W fun e w' => e = .returned (.int .i64 (vz - vx)) ∧ ∃ n, w' = W.drewN n := by
  have w1 : IntKind.i64.wrap vx = vx := by rw [IntKind.wrap_i64]; omega
  have w2 : IntKind.i64.wrap vz = vz := by rw [IntKind.wrap_i64]; omega
  have w3 : IntKind.i64.wrap (vz - vx) = vz - vx := by rw [IntKind.wrap_i64]; omega
  have HX := Lib.hid hx
  have HZ := Lib.hid hz
  clear hx hz bvx bvz
  go_enter Tryd.func35, Tryd.ntmps35
  go_wp2_with fail
  go_quiet ((go_at_call 36; first | (with_reducible exact quiet_left (HX.out _)) | (with_reducible exact quiet_left (HZ.out _))))
  all_goals
    go_wp2
    go_ret
    exact ⟨rfl, _, rfl⟩
theorem cmp_ok (h : Chk w tag p V y xs wt vs tr us fx dd) (hl : vs.length = V + 1) (hok : ∀ x ∈ vs, x = -1 ∨ x = 0 ∨ x = 1) (hV : V ≤ 500000) {bx g N k : Nat} (cb : w.cell? ⟨bx, 0, none⟩ = some (.pointer (some ⟨p, 0, none⟩))) (htb : tag bx = (0, 0)) (htg : tag g = (3, (k : Int))) :
    srt.CmpOk 35 #[.pointer (some ⟨bx, 0, none⟩)] (fun n => -(lv (va vs) n)) (Lit V) w g N := by
  intro X m x z hX hx hz
  have hc : Cg tag (fun s => s = (3, (k : Int))) w (srt.rowW w g X m) := by
    rw [rowW_eq]
    have c1 : Cg tag (fun s => s = (3, (k : Int))) w (Sort.ahead w m) := cg_new (below_drewN (Below.refl _ _) m)
    have c2 : Cg tag (fun s => s = (3, (k : Int))) (Sort.ahead w m) (putRow (Value.int .i64) (Sort.ahead w m) g 0 X.toArray) := cg_put _ htg
    have c3 : Cg tag (fun s => s = (3, (k : Int))) (putRow (Value.int .i64) (Sort.ahead w m) g 0 X.toArray) (grow (putRow (Value.int .i64) (Sort.ahead w m) g 0 X.toArray) #[]) := cg_new (below_grow _ _)
    exact Chg.trans (Chg.trans c1 c2) c3
  generalize srt.rowW w g X m = W at hc ⊢
  have cb' : W.cell? ⟨bx, 0, none⟩ = some (.pointer (some ⟨p, 0, none⟩)) := by
    rw [← cb]
    refine World.cell?_of_block ?_
    cases e : w.heap[bx]? with
    | none => rw [World.cell?] at cb; simp [e] at cb
    | some o => exact hc.keep bx o e (by show ¬ tag bx = _; rw [htb]; simp)
  have key : ∀ n, Lit V n → ∀ j, Calls Tryd.prog 36 #[.pointer (some ⟨p, 0, none⟩), .int .i64 n] (W.drewN j) fun e w' => e = .returned (.int .i8 (lv (va vs) n)) ∧ W.drewN j = w' := fun n hn j => by
    obtain ⟨u, hu⟩ : ∃ u, vs[n.natAbs]? = some u := ⟨_, List.getElem?_eq_getElem (by have := hn.2; omega)⟩
    have hb := (h.blk.tchg h.tp hc (by simp)).drewN j
    have hv := ((h.val.chg hc (by simp)).chg (S := fun _ => False) (cg_new (below_drewN (Below.refl _ _) j)) id)
    have := of_raw (n := n) (hb.cell 2) (hv.cell (i8_at hu)) (hok u (List.mem_of_getElem? hu)) hn.2 (by omega)
    rw [lv_cases, show vs.getD n.natAbs 0 = u by rw [List.getD_eq_getElem?_getD, hu]; rfl]
    exact this
  have b1 := lv_ok (va_ok hok) x
  have b2 := lv_ok (va_ok hok) z
  refine (cmp1_any cb' (key x hx) (key z hz) (by omega) (by omega)).mono ?_
  rintro e w' ⟨rfl, n, hn⟩
  exact ⟨show Ending.returned (.int .i64 (lv (va vs) z - lv (va vs) x)) = .returned (.int .i64 (-(lv (va vs) x) - -(lv (va vs) z))) from by congr 2; omega, n, hn⟩
end
/-! ### nil slices -/
set_option maxRecDepth 100000 in
theorem compact_none (c : Nat) (w : World) : Calls Tryd.prog 33 #[.slice none 0 c] w fun e w' => e = .returned (.slice none 0 c) ∧ w = w' := by
  go_enter Tryd.func33, Tryd.ntmps33
  go_wp2_with fail
  go_ret
  exact ⟨rfl, rfl⟩
set_option maxRecDepth 100000 in
theorem ins2_none (c : Nat) (fv : Value) (w : World) : Calls Tryd.prog 67 #[.slice none 0 c, .int .i64 0, .int .i64 0, fv] w fun e w' => e = .returned (.tuple #[]) ∧ w = w' := by
  go_enter Tryd.func67, Tryd.ntmps67
  go_wp2_with fail
  go_loop [8] (fun iv => iv = .int .i64 1) (fun _ => 0)
  case atStart => rfl
  case round =>
    subst hrel
    go_wp2_with fail
    go_end0
    exact ⟨rfl, rfl⟩
set_option maxRecDepth 100000 in
theorem stable_none (c : Nat) (fv : Value) (w : World) : Calls Tryd.prog 52 #[.slice none 0 c, .int .i64 0, fv] w fun e w' => e = .returned (.tuple #[]) ∧ w = w' := by
  have C := Lib.hid (ins2_none c fv w)
  go_enter Tryd.func52, Tryd.ntmps52
  go_wp2_with fail
  go_loop [7, 8] (fun av bv => av = .int .i64 0 ∧ bv = .int .i64 20) (fun _ _ => 0)
  case atStart => exact ⟨rfl, rfl⟩
  case round =>
    obtain ⟨h1, h2⟩ := hrel
    subst h1
    subst h2
    go_wp2_with fail
    refine C.out.mono ?_
    rintro e w' ⟨rfl, rfl⟩
    go_wp2_with fail
    go_loop [6] (fun iv => iv = .int .i64 20) (fun _ => 0)
    case atStart => rfl
    case round =>
      subst hrel
      go_wp2_with fail
      go_end0
      exact ⟨rfl, rfl⟩
set_option maxRecDepth 100000 in
theorem sort_stable_none (c : Nat) (fv : Value) (w : World) : Calls Tryd.prog 34 #[.slice none 0 c, fv] w fun e w' => e = .returned (.tuple #[]) ∧ w = w' := by
  have C := Lib.hid (stable_none c fv w)
  go_enter Tryd.func34, Tryd.ntmps34
  go_wp2_with fail
  refine C.out.mono ?_
  rintro e w' ⟨rfl, rfl⟩
  go_wp2_with fail
  go_end0
  exact ⟨rfl, rfl⟩
end Go.Proofs.YtgchepkcjkhmmaaDoor
namespace Go.Proofs.YtgchepkcjkhmmaaDoor
open Go.RowKit Go.Sort
section
variable {w w' : World} {tag tag' : Nat → Tag} {p V : Nat} {y : Lay} {L : List (List Int)} {s : St} {us : List Int} {fx dd : Int} {l : List Int}
/-- what add leaves -/
def AdP (w : World) (tag : Nat → Tag) (p V : Nat) (L : List (List Int)) (l : List Int) (e : Ending) (w' : World) : Prop :=
  e = .returned (.tuple #[]) ∧ ∃ tag' y s us fx dd, Re w tag tag' ∧ Cg tag (Fr 9) w w' ∧ Chk w' tag' p V y s.xs s.wt s.vs s.tr us fx dd ∧ CkI V (L ++ [l]) s fx dd
theorem info_ints : (Tryd.prog.info? 27).map (fun i => (i.zero, i.size, i.bytes)) = some (some (.slice none 0 0), 1, 24) := by kernel_rfl
/-- a row that no clause is yet -/
theorem Chk.other {xs : List (List Int)} {wt : Int → List Nat} {vs tr : List Int} {k : Nat} (h : Chk w tag p V y xs wt vs tr us fx dd) (hc : Cg tag (fun s => s = (3, (k : Int))) w w') (hk : xs.length ≤ k) : Chk w' tag p V y xs wt vs tr us fx dd where
  blk := h.blk.tchg h.tp hc (by simp)
  tp := h.tp
  hdr := h.hdr.chg hc (by simp)
  rlen := h.rlen
  cls k' x u hx hu := (h.cls k' x u hx hu).chg hc (by have := (List.getElem?_eq_some_iff.1 hx).1; simp; omega)
  val := h.val.chg hc (by simp)
  usd := h.usd.chg hc (by simp)
  ul := h.ul
  trl := h.trl.chg hc (by simp)
  tm := h.tm
  map := h.map.chg hc fun o => by show ¬ tag y.bm = _; rw [h.tm]; simp
  wts n hn := (h.wts n hn).chg hc (by simp)
theorem Row.rowW_self {g c base : Nat} {e : TypeId} {t : Tag} {zs : List Int} (h : Row w tag t base e (.slice (some ⟨g, 0, none⟩) zs.length c) (litVals zs)) : srt.rowW w g zs 0 = w := by
  unfold srt.rowW
  show putRow (Value.int .i64) w g 0 zs.toArray = w
  unfold putRow
  refine mapBlock_id _ _ _ fun c e fr hb => ?_
  have hh := h.holds
  unfold putCells
  apply Array.ext_getElem?
  intro j
  rw [Array.getElem?_mapIdx]
  by_cases hj : j < zs.toArray.size
  · have := (hh j hj).1
    rw [Nat.zero_add, cell_of_row w g j c e fr hb] at this
    rw [this, Option.map_some, if_pos ⟨Nat.zero_le _, by omega⟩, Nat.sub_zero]
  · cases e : c[j]? with
    | none => rfl
    | some u => rw [Option.map_some, if_neg (by omega)]
theorem Chk.setDd {xs : List (List Int)} {wt : Int → List Nat} {vs tr : List Int} (h : Chk w tag p V y xs wt vs tr us fx dd) (d : Int) : Chk (w.setCell ⟨p, 6, none⟩ (.int .i64 d)) tag p V y xs wt vs tr us fx d ∧ Cg tag (Fr 8) w (w.setCell ⟨p, 6, none⟩ (.int .i64 d)) := by
  have hk : Cg tag (fun s => s = (1, 0)) w (w.setCell ⟨p, 6, none⟩ (.int .i64 d)) := cg_store (by show tag p = _; exact h.tp) _
  refine ⟨⟨h.blk.set_ 6 _, h.tp, h.hdr.chg hk (by decide), h.rlen, fun k x u hx hu => (h.cls k x u hx hu).chg hk (by simp), h.val.chg hk (by decide), h.usd.chg hk (by decide), h.ul, h.trl.chg hk (by decide), h.tm,
    h.map.chg hk fun o => (by show ¬ tag y.bm = _; rw [h.tm]; decide), fun n hn => (h.wts n hn).chg hk (by simp)⟩, hk.mono_ fun t e => by subst e; exact ⟨by decide, by decide⟩⟩
theorem Chk.setFx {xs : List (List Int)} {wt : Int → List Nat} {vs tr : List Int} (h : Chk w tag p V y xs wt vs tr us fx dd) (d : Int) : Chk (w.setCell ⟨p, 5, none⟩ (.int .i64 d)) tag p V y xs wt vs tr us d dd ∧ Cg tag (Fr 8) w (w.setCell ⟨p, 5, none⟩ (.int .i64 d)) := by
  have hk : Cg tag (fun s => s = (1, 0)) w (w.setCell ⟨p, 5, none⟩ (.int .i64 d)) := cg_store (by show tag p = _; exact h.tp) _
  refine ⟨⟨h.blk.set_ 5 _, h.tp, h.hdr.chg hk (by decide), h.rlen, fun k x u hx hu => (h.cls k x u hx hu).chg hk (by simp), h.val.chg hk (by decide), h.usd.chg hk (by decide), h.ul, h.trl.chg hk (by decide), h.tm,
    h.map.chg hk fun o => (by show ¬ tag y.bm = _; rw [h.tm]; decide), fun n hn => (h.wts n hn).chg hk (by simp)⟩, hk.mono_ fun t e => by subst e; exact ⟨by decide, by decide⟩⟩
theorem Cg.w89 {w1 w2 : World} {t1 : Nat → Tag} (h : Cg tag (Fr 9) w w1) (k : Cg t1 (Fr 8) w1 w2) (hr : Re w tag t1) : Cg tag (Fr 9) w w2 := h.trans_ (k.mono_ fun t ht => ⟨ht.1, by have := ht.2; omega⟩) hr
theorem adp_dead {w1 : World} {tag1 : Nat → Tag} {s1 : St} {k : Nat} (hr : Re w tag tag1) (hc : Cg tag (Fr 9) w w1) (hk : Chk w1 tag1 p V y s1.xs s1.wt s1.vs s1.tr us fx (k : Nat)) (hx : s1.xs.length = L.length + 1) (hv : s1.vs.length = V + 1) (hkl : k = L.length) (href : Ref (L ++ [l]) []) :
    AdP w tag p V L l (.returned (.tuple #[])) w1 := ⟨rfl, tag1, y, s1, us, fx, _, hr, hc, hk, by simp [hx], hv, fun e => by omega, fun _ => ⟨⟨by omega, by simp; omega⟩, href⟩⟩
theorem adp_live {w1 : World} {tag1 : Nat → Tag} {s1 : St} (hr : Re w tag tag1) (hc : Cg tag (Fr 9) w w1) (hk : Chk w1 tag1 p V y s1.xs s1.wt s1.vs s1.tr us fx (-1)) (hl : Live V (L ++ [l]) s1 fx) : AdP w tag p V L l (.returned (.tuple #[])) w1 :=
  ⟨rfl, tag1, y, s1, us, fx, -1, hr, hc, hk, hl.si.xlen, hl.si.vlen, fun _ => hl, fun e => absurd rfl e⟩
theorem lits1 (l : List Int) : ∀ u ∈ litVals l, u.oneCell' = true := ints_one fun u hu => by obtain ⟨x, _, e⟩ := List.mem_map.1 hu; exact ⟨x, e.symm⟩
set_option maxRecDepth 100000 in
set_option maxHeartbeats 4000000 in
theorem add_some (h : Chk w tag p V y s.xs s.wt s.vs s.tr us fx dd) (hi : CkI V L s fx dd) (hV : V ≤ 150000) (hL : L.length ≤ 900000) {b n c : Nat} (hn : l.length = n) (hn5 : n ≤ 100000) (hlit : ∀ m ∈ l, Lit V m)
    (hr : ∀ (j : Nat) u, (litVals l)[j]? = some u → w.cell? ⟨b, j, none⟩ = some u) :
    Calls Tryd.prog 18 #[.pointer (some ⟨p, 0, none⟩), .slice (some ⟨b, 0, none⟩) n c] w (AdP w tag p V L l) := by
  obtain ⟨i0, hi0, hz0, hz1, hz2⟩ := info_parts info_int
  have HI := Lib.hid (And.intro hi0 (And.intro hz0 (And.intro hz1 hz2)))
  clear hi0 hz0 hz1 hz2
  obtain ⟨i1, hi1, hz0, hz1, hz2⟩ := info_parts info_ints
  have HI1 := Lib.hid (And.intro hi1 (And.intro hz0 (And.intro hz1 hz2)))
  clear hi1 hz0 hz1 hz2
  obtain ⟨k, hk⟩ : ∃ k, s.xs.length = k := ⟨_, rfl⟩
  obtain ⟨W0, hW0⟩ : ∃ W0, W0 = w.alloc (.cells #[.pointer (some ⟨p, 0, none⟩)] 44) := ⟨_, rfl⟩
  have hb0 : Below w.heap.size w W0 := by rw [hW0]; exact (Below.refl _ _).alloc (Nat.le_refl _) _
  have k0 : Blk W0 w.heap.size 44 #[.pointer (some ⟨p, 0, none⟩)] := by rw [hW0]; exact Blk.new w _ _
  have hs0 : W0.heap.size = w.heap.size + 1 := by rw [hW0]; simp
  obtain ⟨tag0, htag0⟩ : ∃ tag0, tag0 = put tag w.heap.size (0, 0) := ⟨_, rfl⟩
  have hre0 : Re w tag tag0 := by rw [htag0]; exact re_put (Nat.le_refl _)
  have ht0 : tag0 w.heap.size = (0, 0) := by rw [htag0]; exact put_same _ _ _
  have h0 := (h.re hre0).new hb0
  obtain ⟨vC, rows, bm, gv, gu, vt, wv⟩ := y
  have hrl : rows.length = k := by rw [← hk]; exact h.rlen
  obtain ⟨Ac, cc, hvC⟩ := h.hdr.form
  rw [hrl] at hvC
  dsimp only at hvC
  subst hvC
  have C1 := Lib.hid (Tryd.slices_Clone_own i0 _ 1 8 HI.out.1 HI.out.2.1 HI.out.2.2.1 HI.out.2.2.2 rfl (by omega) Tryd.sizeOf3 b 0 n c (litVals l) W0 (by rw [litVals_len, hn, Nat.mul_one]) (le_maxLen (by omega)) (le_bytes (by omega) (by omega))
    (fun j u hj => by rw [Nat.zero_add]; exact (hb0.cell (p := ⟨b, j, none⟩) (World.block_lt_of_cell? w _ (hr j u hj))).trans (hr j u hj)) (lits1 l))
  have HPB := Lib.hid (show p < w.heap.size from h.blk.lt)
  have HW0 := Lib.hid hW0
  have HB0 := Lib.hid hb0
  have HS0 := Lib.hid hs0
  have K0 := Lib.hid k0
  have H0 := Lib.hid h0
  have HRE0 := Lib.hid hre0
  have HT0 := Lib.hid ht0
  have HK := Lib.hid hk
  have HRL := Lib.hid hrl
  have HII := Lib.hid hi
  have HN := Lib.hid hn
  have HLIT := Lib.hid hlit
  have hkL : k ≤ 900000 := by rw [← hk, hi.xlen]; exact hL
  clear hW0 hb0 hs0 k0 h0 hre0 ht0 htag0 hk hrl h hi hn hlit hr
  go_enter Tryd.func18, Tryd.ntmps18
  go_upto_region 1 with fail
  rw [← HW0.out]
  go_wp2_with fail
  refine C1.out.mono ?_
  rintro e W1 ⟨v1, rfl, hown1, hne1, hb1⟩
  obtain ⟨g, cp, hv1, hg0, hcp⟩ : ∃ g cp, v1 = .slice (some ⟨g, 0, none⟩) n cp ∧ W0.heap.size ≤ g ∧ n ≤ cp := by
    rcases hown1.2 with ⟨e, _⟩ | ⟨g, cp, cur, e, h1, _, h2, _⟩
    · exact absurd e hne1
    · exact ⟨g, cp, e, h1, h2⟩
  subst hv1
  obtain ⟨tag1, htag1⟩ : ∃ tag1, tag1 = put tag0 g (3, (k : Int)) := ⟨_, rfl⟩
  have hre1 : Re W0 tag0 tag1 := by rw [htag1]; exact re_put hg0
  have ht1 : tag1 g = (3, (k : Int)) := by rw [htag1]; exact put_same _ _ _
  have hr1 : Row W1 tag1 (3, (k : Int)) 0 3 (.slice (some ⟨g, 0, none⟩) l.length cp) (litVals l) := ⟨by rw [HN.out, litVals_len, HN.out]; exact own_base hown1 (Nat.zero_le _), fun g' hg' => by injection hg' with hg'; rw [← hg']; exact ht1⟩
  have h1 := (H0.out.re hre1).new hb1
  have hre01 : Re w tag tag1 := HRE0.out.trans hre1 (by have := HS0.out; omega)
  have htb1 : tag1 w.heap.size = (0, 0) := (hre1 _ (by have := HS0.out; omega)).trans HT0.out
  have k1 := K0.out.below hb1 (by have := HS0.out; omega)
  have hcg1 : Cg tag (Fr 9) w W1 := cg_new (HB0.out.trans (hb1.mono HB0.out.size))
  have C2 := sort_clause g 0 cp l W1 hr1.holds (by have h2 : tag1 g = _ := ht1; rcases hr1.own.2 with ⟨e, _⟩ | ⟨g', _, _, e, _, hh, _⟩
                                                   · injection e with e; cases e
                                                   · injection e with e; injection e with e; injection e with e; subst e; exact lt_of_heap hh) (by have := HN.out; omega)
  rw [HN.out] at C2
  have C2 := Lib.hid C2
  have HRE1 := Lib.hid hre01
  have HTB := Lib.hid htb1
  have HTG := Lib.hid ht1
  have K1 := Lib.hid k1
  have H1 := Lib.hid h1
  have R1 := Lib.hid hr1
  have HCG1 := Lib.hid hcg1
  have HGB := Lib.hid (show w.heap.size ≠ g by have := HS0.out; omega)
  clear htag1 hre1 ht1 hr1 h1 hre01 htb1 k1 hcg1 hown1 hne1 hb1 hg0 HB0 K0 H0 HRE0 HT0 C1
  go_wp2_with fail
  refine C2.out.mono ?_
  rintro e W2 ⟨rfl, m2, os2, hW2⟩
  obtain ⟨hr2, hc2⟩ := R1.out.anew (sort_len l) hW2
  obtain ⟨z1, hz1⟩ : ∃ z1, (l.mergeSort fun x y => decide (x ≤ y)) = z1 := ⟨_, rfl⟩
  rw [hz1] at hr2
  have hz1l : z1.length = n := by rw [← hz1, sort_len, HN.out]
  rw [HN.out, ← hz1l] at hr2
  have C3 := Tryd.slices_Compact_own g 0 cp z1 W2 hr2.holds (by omega) (by omega)
  rw [hz1l] at C3
  have C3 := Lib.hid C3
  have HZ1 := Lib.hid hz1
  have HZ1L := Lib.hid hz1l
  have R2 := Lib.hid hr2
  have HC2 := Lib.hid hc2
  clear hW2 hr2 hc2 hz1 hz1l C2 R1
  go_wp2_with fail
  refine C3.out.mono ?_
  rintro e W3 ⟨rfl, m3, hW3⟩
  obtain ⟨hr3, hc3⟩ := R2.out.anew (w' := W3) (m := m3) (os := #[]) (zs' := Lib.compact z1 ++ List.replicate (n - (Lib.compact z1).length) 0) (by have := Lib.compact_length_le z1; have := HZ1L.out; simp; omega) (by rw [grow_empty]; exact hW3)
  obtain ⟨z2, hz2⟩ : ∃ z2, Lib.compact z1 = z2 := ⟨_, rfl⟩
  have hzl := Lib.compact_length_le z1
  rw [hz2] at hr3 hzl ⊢
  obtain ⟨N, hN⟩ : ∃ N, z2.length = N := ⟨_, rfl⟩
  rw [hN] at hzl ⊢
  rw [hN] at hr3
  have hNn : N ≤ n := by have := HZ1L.out; omega
  have hr3' : Row W3 tag1 (3, (k : Int)) 0 3 (.slice (some ⟨g, 0, none⟩) N cp) (litVals z2) := by
    obtain ⟨zz, hzz⟩ : ∃ zz, z2 ++ List.replicate (n - N) 0 = zz := ⟨_, rfl⟩
    rw [hzz] at hr3
    have hl : (litVals zz).length = z1.length := by rw [litVals_len, ← hzz]; have := HZ1L.out; simp; omega
    rw [← hl] at hr3
    have := hr3.cut (n := N) (by rw [hl]; exact hzl)
    have e : (litVals zz).take N = litVals z2 := by rw [← hzz]; unfold litVals; rw [← List.map_take, List.take_left' hN]
    rw [e] at this; exact this
  have hm2 : ∀ m, m ∈ z2 ↔ m ∈ l := fun m => by rw [← hz2, compact_mem, ← HZ1.out, sort_mem]
  have hnd2 : z2.Nodup := by rw [← hz2, ← HZ1.out]; exact compact_nodup (sort_sorted l)
  have hlit2 : ∀ m ∈ z2, Lit V m := fun m hm => HLIT.out m ((hm2 m).1 hm)
  have h3 := (H1.out.other HC2.out (by rw [HK.out]; exact Nat.le_refl _)).other hc3 (by rw [HK.out]; exact Nat.le_refl _)
  have hc13 : Cg tag1 (fun s => s = (3, (k : Int))) W1 W3 := Chg.trans HC2.out hc3
  have k3 : Blk W3 w.heap.size 44 #[.pointer (some ⟨p, 0, none⟩)] := K1.out.tchg HTB.out hc13 (by simp)
  have hcg3 : Cg tag (Fr 9) w W3 := HCG1.out.trans_ (hc13.mono_ (S' := Fr 9) fun t e => by subst e; exact ⟨by show 1 ≤ 3; decide, by show 3 ≤ 9; decide⟩) HRE1.out
  have cb3 : W3.cell? ⟨w.heap.size, 0, none⟩ = some (.pointer (some ⟨p, 0, none⟩)) := k3.cell 0
  have c03 : W3.cell? ⟨p, 0, none⟩ = some (.slice Ac k cc) := h3.blk.cell 0
  have f03 : W3.frozen? ⟨p, 0, none⟩ = false := h3.blk.frozen 0
  have HHD := Lib.hid (show W3.ownsRow 0 27 1 (.slice Ac k cc) k rows from by
    have := h3.hdr.own
    rw [HRL.out] at this; exact this)
  have K3 := Lib.hid k3
  have H3 := Lib.hid h3
  have R3 := Lib.hid hr3'
  have HM2 := Lib.hid hm2
  have HND2 := Lib.hid hnd2
  have HLIT2 := Lib.hid hlit2
  have HCG3 := Lib.hid hcg3
  have HNL := Lib.hid hN
  clear hr3 hc3 hr3' hm2 hnd2 hlit2 h3 hc13 k3 hcg3 hW3 hz2 hN hzl C3 R2 H1 HC2 K1 HCG1 HZ1 HLIT HN
  go_wp2_with fail
  refine wp_region_mv (S := fun w' => w'.cell? ⟨w.heap.size, 0, none⟩ = some (.pointer (some ⟨p, 0, none⟩)) ∧ w'.cell? ⟨p, 0, none⟩ = some (.slice Ac k cc)) 10 [.f 0, .f 1, .f 2, .f 3, .f 4, .f 5, .t 6, .t 7, .t 8, .f 9, .t 10] (by kernel_rfl) (by kernel_rfl) (by kernel_rfl) (And.intro cb3 c03) ?_
  iterate 6 (refine mv_take _ _ rfl (by kernel_rfl) (fun wv hv => by obtain ⟨hv1, hv2⟩ := hv; go_simp; try with_reducible rfl) ?_; simp only [Act.put, List.getElem_toArray, List.getElem_cons_zero, List.getElem_cons_succ, List.setIfInBounds_toArray, List.set_cons_zero, List.set_cons_succ])
  refine mv_act _ rfl (fun K hK => ?_)
  go_simp
  go_simp
  refine hK _ _ (.inr ((And.intro ((K3.out.drew.alloc _).cell 0) ((H3.out.drew.alloc _).blk.cell 0)))) ?_
  clear hK K
  refine mv_act _ rfl (fun K hK => ?_)
  refine step_append_loc _ rfl (.tmp 22) (.tmp 24) _ rfl 0 27 i1 _ 1 24 Tryd.underlying54 HI1.out.1 HI1.out.2.1 HI1.out.2.2.1 HI1.out.2.2.2 rfl (by omega) (.slice Ac k cc) k rows rfl (World.ownsRow.alloc (World.ownsRow.drew HHD.out) _) (W3.heap.size + 1) (some ⟨W3.heap.size, 0, none⟩) 1 1 [.slice (some ⟨g, 0, none⟩) N cp] rfl (reads_new (by simp) (by simp) rfl) (by intro u hu; rw [List.mem_singleton.1 hu]; rfl) (le_maxLen (by omega)) (le_bytes (by omega) (by omega)) (by simp) ?_
  intro A6 c6 w6 hown6 hg6 hl6
  obtain ⟨tag6, hr6, hc6, hk6⟩ := (H3.out.drew.alloc (.cells #[.slice (some ⟨g, 0, none⟩) N cp] 27)).addX (x := z2) (u := .slice (some ⟨g, 0, none⟩) N cp) (by rw [HK.out]; exact ((R3.out.chg (S := fun _ => False) (cg_new (below_drewN (Below.refl _ _) 1)) id).alloc _)) hown6 (by rw [HK.out]) hg6 hl6
  have hb6 := (H3.out.drew.alloc (.cells #[.slice (some ⟨g, 0, none⟩) N cp] 27)).blk.grown hg6 (own_blk_ne (World.ownsRow.alloc (World.ownsRow.drew HHD.out) _) (H3.out.drew.alloc (.cells #[.slice (some ⟨g, 0, none⟩) N cp] 27)).blk (by decide)).symm
  have kb6 := (K3.out.drew.alloc (.cells #[.slice (some ⟨g, 0, none⟩) N cp] 27)).grown hg6 (own_blk_ne (World.ownsRow.alloc (World.ownsRow.drew HHD.out) _) (K3.out.drew.alloc (.cells #[.slice (some ⟨g, 0, none⟩) N cp] 27)) (by decide)).symm
  have cb6 : w6.cell? ⟨w.heap.size, 0, none⟩ = some (.pointer (some ⟨p, 0, none⟩)) := kb6.cell 0
  have c06 : w6.cell? ⟨p, 0, none⟩ = some (.slice Ac k cc) := hb6.cell 0
  have f06 : w6.frozen? ⟨p, 0, none⟩ = false := hb6.frozen 0
  have l06 : p < w6.heap.size := hb6.lt
  have HC6 := Lib.hid hc6
  have HK6 := Lib.hid hk6
  have HR6 := Lib.hid hr6
  have HKB6 := Lib.hid kb6
  clear hown6 hg6 hl6 hc6 hk6 hr6 hb6 kb6
  refine hK _ _ (.inr ((And.intro cb6 c06))) ?_
  clear hK K
  try simp only [Act.put, List.getElem_toArray, List.getElem_cons_zero, List.getElem_cons_succ, List.setIfInBounds_toArray, List.set_cons_zero, List.set_cons_succ]
  refine mv_act _ rfl (fun K hK => ?_)
  go_simp
  go_simp
  refine hK _ _ (.inr ((And.intro cb6 c06))) ?_
  clear hK K
  iterate 1 (refine mv_take _ _ rfl (by kernel_rfl) (fun wv hv => by obtain ⟨hv1, hv2⟩ := hv; go_simp; try with_reducible rfl) ?_; simp only [Act.put, List.getElem_toArray, List.getElem_cons_zero, List.getElem_cons_succ, List.setIfInBounds_toArray, List.set_cons_zero, List.set_cons_succ])
  refine mv_act _ rfl (fun K hK => ?_)
  go_simp
  go_simp
  refine hK _ _ (.inl rfl) ?_
  clear hK K
  refine mv_nil ?_
  -- LIVE
  obtain ⟨W7, hW7⟩ : ∃ W7, w6.setCell ⟨p, 0, none⟩ (.slice A6 (k + 1) c6) = W7 := ⟨_, rfl⟩
  have hc7 := HC6.out
  have hk7 := HK6.out
  have kb7 : Blk W7 w.heap.size 44 #[.pointer (some ⟨p, 0, none⟩)] := by rw [← hW7]; exact HKB6.out.far (by have := HPB.out; show w.heap.size ≠ p; omega) _
  rw [hW7] at hc7 hk7 ⊢
  have hre6 : Re w tag tag6 := HRE1.out.trans (fun g' hg' => HR6.out g' (by simp; omega)) HCG3.out.size
  have hcg7 : Cg tag (Fr 9) w W7 := by
    have h1 : Cg tag1 (Fr 9) W3 W7 := (cg_new ((below_drewN (Below.refl _ _) 1).alloc (Nat.le_refl _) (.cells #[.slice (some ⟨g, 0, none⟩) N cp] 27))).trans (hc7.mono_ fun t ht => ⟨ht.1, by have := ht.2; omega⟩)
    exact HCG3.out.trans_ h1 HRE1.out
  have htb6 : tag6 w.heap.size = (0, 0) := (HR6.out _ (by have := K3.out.lt; simp; omega)).trans HTB.out
  have c67 : W7.cell? ⟨p, 6, none⟩ = some (.int .i64 dd) := hk7.blk.cell 6
  have cb7 : W7.cell? ⟨w.heap.size, 0, none⟩ = some (.pointer (some ⟨p, 0, none⟩)) := kb7.cell 0
  have HK7 := Lib.hid hk7
  have KB7 := Lib.hid kb7
  have HRE := Lib.hid hre6
  have HCG7 := Lib.hid hcg7
  have HTB6 := Lib.hid htb6
  clear cb6 c06 f06 l06 cb3 c03 f03 hW7 hc7 hk7 kb7 hre6 hcg7 htb6 HC6 HK6 HR6 HKB6 HCG3 K3 H3 R3 HHD HRE1 HTB
  by_cases hdd : dd = -1
  · as_aux_lemma =>
    subst hdd
    have hR7 : Row W7 tag6 (3, (k : Int)) 0 3 (.slice (some ⟨g, 0, none⟩) N cp) (litVals z2) := HK7.out.cls k z2 _ (by rw [← HK.out]; exact List.getElem?_concat_length ..) (by show (rows ++ [_])[k]? = _; rw [← HRL.out]; exact List.getElem?_concat_length ..)
    have hR7' : Row W7 tag6 (3, (k : Int)) 0 3 (.slice (some ⟨g, 0, none⟩) z2.length cp) (litVals z2) := by rw [HNL.out]; exact hR7
    have hlive := HII.out.live rfl
    have CS := srt.sort_stable_w (w := W7) (g := g) (N := N) (cap := cp) (m := 0) (gf := 35) (cb := #[.pointer (some ⟨w.heap.size, 0, none⟩)]) (f := fun n => -(lv (va s.vs) n)) (D := Lit V) (d := z2) (d0 := z2) hR7'.holds HNL.out HNL.out (by omega) HLIT2.out
      (fun x _ => by have := lv_ok (va_ok hlive.si.vok) x; show -1 ≤ -(lv (va s.vs) x) ∧ -(lv (va s.vs) x) ≤ 1; omega) (fun args w => by kernel_rfl) (cmp_ok HK7.out hlive.si.vlen hlive.si.vok (by omega) cb7 HTB6.out (hR7.tg g rfl))
    rw [hR7'.rowW_self] at CS
    have CS := Lib.hid CS
    have R7 := Lib.hid hR7'
    have HLV := Lib.hid hlive
    have hmf : ∀ (fn : Fn) (first cap : Array Value) (w : World), (Instr.makeFunc fn first cap).run Tryd.prog w = .ok (.func fn first cap) w := fun _ _ _ _ => rfl
    clear hR7 hR7' hlive
    go_wp2_with fail
    clear hmf
    refine CS.out.mono ?_
    rintro e W8 ⟨rfl, m8, X, hW8, hs8, hp8⟩
    have hXl : X.length = N := by rw [hp8.len, HNL.out]
    obtain ⟨hr8, hc8⟩ := R7.out.anew (w' := W8) (m := m8) (os := #[]) (zs' := X) (by rw [hXl, HNL.out]) (by rw [hW8, rowW_eq])
    rw [HNL.out] at hr8
    have hk8 : Chk W8 tag6 p V ⟨.slice A6 (k + 1) c6, rows ++ [.slice (some ⟨g, 0, none⟩) N cp], bm, gv, gu, vt, wv⟩ (s.xs ++ [X]) s.wt s.vs s.tr us fx (-1) := by
      have h1 := HK7.out.anewX (k := k) (x := z2) (X := X) (u := .slice (some ⟨g, 0, none⟩) N cp) (by rw [← HK.out]; exact List.getElem?_concat_length ..) (by show (rows ++ [_])[k]? = _; rw [← HRL.out]; exact List.getElem?_concat_length ..) hc8 hr8
      have e : (s.xs ++ [z2]).set k X = s.xs ++ [X] := by rw [← HK.out, List.set_append_right _ _ (Nat.le_refl _), Nat.sub_self]; rfl
      rw [e] at h1
      exact h1
    have hds : Dsc s.vs X := dsc_of (by rw [hXl]; exact hs8)
    have hmX : ∀ m, m ∈ X ↔ m ∈ l := fun m => (hp8.perm.mem_iff (a := m)).trans (HM2.out m)
    have hndX : X.Nodup := hp8.perm.nodup_iff.2 HND2.out
    have hlitX : ∀ m ∈ X, Lit V m := hp8.mem HLIT2.out
    have kb8 : Blk W8 w.heap.size 44 #[.pointer (some ⟨p, 0, none⟩)] := KB7.out.tchg HTB6.out hc8 (by simp)
    have hcg8 : Cg tag (Fr 9) w W8 := HCG7.out.trans_ (hc8.mono_ (S' := Fr 9) fun t e => by subst e; exact ⟨by show 1 ≤ 3; decide, by show 3 ≤ 9; decide⟩) HRE.out
    have cb8 : W8.cell? ⟨w.heap.size, 0, none⟩ = some (.pointer (some ⟨p, 0, none⟩)) := kb8.cell 0
    have HUK := Lib.hid (show (rows ++ [Value.slice (some ⟨g, 0, none⟩) N cp])[k]? = some (.slice (some ⟨g, 0, none⟩) N cp) from by rw [← HRL.out]; exact List.getElem?_concat_length ..)
    have HXK := Lib.hid (show (s.xs ++ [X])[k]? = some X from by rw [← HK.out]; exact List.getElem?_concat_length ..)
    have HDS := Lib.hid hds
    have HMX := Lib.hid hmX
    have HNDX := Lib.hid hndX
    have HLITX := Lib.hid hlitX
    have HK8 := Lib.hid hk8
    have KB8 := Lib.hid kb8
    have HCG8 := Lib.hid hcg8
    have HNX := Lib.hid hXl
    clear hW8 hs8 hp8 hr8 hc8 hk8 hds hmX hndX hlitX kb8 hcg8 hXl cb7 CS R7 HK7 KB7 HCG7 HM2 HND2 HLIT2 HNL
    match X, HUK, HXK, HDS, HMX, HNDX, HLITX, HK8, HNX with
    | [], HUK, HXK, HDS, HMX, HNDX, HLITX, HK8, HNX =>
      as_aux_lemma =>
      obtain rfl : N = 0 := by have := HNX.out; simpa using this.symm
      have c68 : W8.cell? ⟨p, 6, none⟩ = some (.int .i64 (-1)) := HK8.out.blk.cell 6
      have f68 : W8.frozen? ⟨p, 6, none⟩ = false := HK8.out.blk.frozen 6
      have l8 : p < W8.heap.size := HK8.out.blk.lt
      have HE := Lib.hid (fun j => show AdP w tag p V L l (.returned (.tuple #[])) ((W8.drewN j).setCell ⟨p, 6, none⟩ (.int .i64 (k : Nat))) from
        adp_dead (s1 := { s with xs := s.xs ++ [[]] }) HRE.out (Cg.w89 (HCG8.out.trans (cg_new (below_drewN (Below.refl _ _) j))) ((HK8.out.drewN j).setDd _).2 HRE.out) ((HK8.out.drewN j).setDd _).1 (by simp [HII.out.xlen]) HII.out.vlen (by rw [← HK.out, HII.out.xlen]) (HLV.out.false_ HMX.out HLITX.out (fun n hn => by cases hn)))
      go_wp2_with fail
      go_quiet (fail)
      all_goals
        go_wp2_with fail
        go_end0
        exact HE.out _
    | [a], HUK, HXK, HDS, HMX, HNDX, HLITX, HK8, HNX =>
      obtain rfl : N = 1 := by have := HNX.out; simpa using this.symm
      have la : Lit V a := HLITX.out a (by simp)
      have cx0 : W8.cell? ⟨g, 0, none⟩ = some (.int .i64 a) := by
        have h1 := HK8.out.cls k _ _ HXK.out HUK.out
        exact Row.cell (xs := litVals [a]) (c := cp) h1 (lit_at rfl)
      obtain ⟨v, hv⟩ : ∃ v, lv (va s.vs) a = v := ⟨_, rfl⟩
      have hv3 := HLV.out.si.ok a
      rw [hv] at hv3
      have CO := Lib.hid (fun j => show Calls Tryd.prog 36 #[.pointer (some ⟨p, 0, none⟩), .int .i64 a] (W8.drewN j) fun e w' => e = .returned (.int .i8 v) ∧ W8.drewN j = w' from by
        rw [← hv]; exact of_any (HK8.out.drewN j) HLV.out.si.vlen HLV.out.si.vok la.2 (by omega))
      have c68 : W8.cell? ⟨p, 6, none⟩ = some (.int .i64 (-1)) := HK8.out.blk.cell 6
      have f68 : W8.frozen? ⟨p, 6, none⟩ = false := HK8.out.blk.frozen 6
      have l8 : p < W8.heap.size := HK8.out.blk.lt
      have HV := Lib.hid hv
      have cbx := cb8
      clear hv
      by_cases h1 : v = -1
      · as_aux_lemma =>
        subst h1
        have HE := Lib.hid (fun j => show AdP w tag p V L l (.returned (.tuple #[])) ((W8.drewN j).setCell ⟨p, 6, none⟩ (.int .i64 (k : Nat))) from
          adp_dead (s1 := { s with xs := s.xs ++ [[a]] }) HRE.out (Cg.w89 (HCG8.out.trans (cg_new (below_drewN (Below.refl _ _) j))) ((HK8.out.drewN j).setDd _).2 HRE.out) ((HK8.out.drewN j).setDd _).1 (by simp [HII.out.xlen]) HII.out.vlen (by rw [← HK.out, HII.out.xlen]) (HLV.out.false_ HMX.out HLITX.out (dsc_false HDS.out HV.out HLV.out.si.vok)))
        go_wp2_with fail
        go_quiet ((go_at_call 36; with_reducible exact quiet_left (CO.out _)))
        all_goals
          go_wp2_with fail
          go_end0
          exact HE.out _
      by_cases h2 : v = 1
      · as_aux_lemma =>
        subst h2
        have HE := Lib.hid (fun j => show AdP w tag p V L l (.returned (.tuple #[])) (W8.drewN j) from
          adp_live HRE.out (HCG8.out.trans (cg_new (below_drewN (Below.refl _ _) j))) (HK8.out.drewN j) (HLV.out.add1 HMX.out la HV.out))
        go_wp2_with fail
        go_quiet ((go_at_call 36; with_reducible exact quiet_left (CO.out _)))
        all_goals
          go_wp2_with fail
          go_quiet ((go_at_call 36; with_reducible exact quiet_add_left (CO.out _)))
          all_goals
            go_wp2_with fail
            go_end0
            rw [World.drewN_drewN]
            exact HE.out _
      as_aux_lemma =>
      obtain rfl : v = 0 := by omega
      go_wp2_with fail
      go_quiet ((go_at_call 36; with_reducible exact quiet_left (CO.out _)))
      go_wp2_with fail
      go_quiet ((go_at_call 36; with_reducible exact quiet_add_left (CO.out _)))
      have HSTART := Lib.hid (HLV.out.start1 HMX.out la HV.out)
      obtain ⟨At, ct, hvt⟩ := HK8.out.trl.form
      rw [litVals_len] at hvt
      dsimp only at hvt
      subst hvt
      have c38 : W8.cell? ⟨p, 3, none⟩ = some (.slice At s.tr.length ct) := HK8.out.blk.cell 3
      have htl : s.tr.length ≤ V := HLV.out.si.tr_le
      go_wp2_with fail
      refine wp_region_seq (S := fun w' => w'.cell? ⟨w.heap.size, 0, none⟩ = some (.pointer (some ⟨p, 0, none⟩)) ∧ w'.cell? ⟨g, 0, none⟩ = some (.int .i64 a)) [(0, false), (1, false), (2, false), (3, false), (4, false), (5, true)] (by kernel_rfl) (by kernel_rfl) (by kernel_rfl) (And.intro cbx cx0) ?_
      iterate 5 (refine seq_take _ _ rfl (by kernel_rfl) (fun wv hv => by obtain ⟨hv1, hv2⟩ := hv; go_simp; try with_reducible rfl) ?_; simp only [Act.put, List.getElem_toArray, List.getElem_cons_zero, List.getElem_cons_succ, List.setIfInBounds_toArray, List.set_cons_zero, List.set_cons_succ])
      refine seq_act _ rfl (fun K hK => ?_)
      go_simp
      refine (set_any (HK8.out.drewN _) HLV.out.si.vlen htl la (by omega)).mono ?_
      rintro e W10 ⟨rfl, tag10, vt10, hr10, hc10, hk10⟩
      have hre10 : Re w tag tag10 := HRE.out.trans hr10 HCG8.out.size
      have hcg10 : Cg tag (Fr 9) w W10 := Cg.w89 (HCG8.out.trans (cg_new (below_drewN (Below.refl _ _) _))) hc10 HRE.out
      have kb10 : Blk W10 w.heap.size 44 #[.pointer (some ⟨p, 0, none⟩)] := (KB8.out.drewN _).tchg HTB6.out hc10 (fun h => absurd h.1 (by decide))
      have htb10 : tag10 w.heap.size = (0, 0) := (hr10 _ (by have := KB8.out.lt; show _ < W8.heap.size; omega)).trans HTB6.out
      have cb10 : W10.cell? ⟨w.heap.size, 0, none⟩ = some (.pointer (some ⟨p, 0, none⟩)) := kb10.cell 0
      have cx10 : W10.cell? ⟨g, 0, none⟩ = some (.int .i64 a) := by
        have h1 := hk10.cls k _ _ HXK.out HUK.out
        have h2 : Row W10 tag10 (3, (k : Int)) 0 3 (.slice (some ⟨g, 0, none⟩) (litVals [a]).length cp) (litVals [a]) := by rw [litVals_len, HNX.out]; exact h1
        exact Row.cell h2 (lit_at rfl)
      have HRE10 := Lib.hid hre10
      have HCG10 := Lib.hid hcg10
      have KB10 := Lib.hid kb10
      have HTB10 := Lib.hid htb10
      have HK10 := Lib.hid hk10
      clear hr10 hc10 hk10 hre10 hcg10 kb10 htb10
      go_simp
      refine hK _ _ ((And.intro cb10 cx10)) ?_
      clear hK K
      refine seq_nil ?_
      go_wp2_with fail
      refine wp_region_seq (S := fun w' => w'.cell? ⟨w.heap.size, 0, none⟩ = some (.pointer (some ⟨p, 0, none⟩))) [(0, false), (1, false), (2, false), (3, true), (4, false), (5, false), (6, true)] (by kernel_rfl) (by kernel_rfl) (by kernel_rfl) cb10 ?_
      iterate 3 (refine seq_take _ _ rfl (by kernel_rfl) (fun wv hv => by have hv1 := hv; clear hv; go_simp; try with_reducible rfl) ?_; simp only [Act.put, List.getElem_toArray, List.getElem_cons_zero, List.getElem_cons_succ, List.setIfInBounds_toArray, List.set_cons_zero, List.set_cons_succ])
      refine seq_act _ rfl (fun K hK => ?_)
      go_simp
      refine (spread_any (s := setS (more1 s [a]) a) (hd0 := s.tr.length) (L := L ++ [l]) (c := []) (tr0 := []) (HK10.out.drew) HSTART.out.1 hV (by simp; omega) (by show s.tr.length ≤ (s.tr ++ [a]).length; simp)).mono ?_
      rintro e W11 ⟨tag11, y11, s11, us11, hr11, hc11, hk11, hsi, hw0, hsame, hxl, hpre, himp, hend⟩
      obtain ⟨d, he, hd⟩ : ∃ d : Int, e = .returned (.int .i64 d) ∧ ((d = -1 ∧ Wi s11.xs s11.tr s11.tr) ∨ ((0 ≤ d ∧ d < ((L ++ [l]).length : Int)) ∧ Ref (L ++ [l]) [])) := by
        rcases hend with ⟨rfl, h⟩ | ⟨q, rfl, h1, h2⟩
        · exact ⟨_, rfl, .inl ⟨rfl, h⟩⟩
        · exact ⟨_, rfl, .inr ⟨⟨by omega, by omega⟩, h2⟩⟩
      subst he
      have hre11 : Re w tag tag11 := HRE10.out.trans hr11 HCG10.out.size
      have hcg11 : Cg tag (Fr 9) w W11 := HCG10.out.trans_ ((cg_new (below_drewN (Below.refl _ _) 1)).trans hc11) HRE10.out
      have kb11 : Blk W11 w.heap.size 44 #[.pointer (some ⟨p, 0, none⟩)] := KB10.out.drew.tchg HTB10.out hc11 (fun h => absurd h.1 (by decide))
      have cb11 : W11.cell? ⟨w.heap.size, 0, none⟩ = some (.pointer (some ⟨p, 0, none⟩)) := kb11.cell 0
      have c116 : W11.cell? ⟨p, 6, none⟩ = some (.int .i64 (-1)) := hk11.blk.cell 6
      have f116 : W11.frozen? ⟨p, 6, none⟩ = false := hk11.blk.frozen 6
      have l11 : p < W11.heap.size := hk11.blk.lt
      have hk12 := hk11.setDd d
      have kb12 : Blk (W11.setCell ⟨p, 6, none⟩ (.int .i64 d)) w.heap.size 44 #[.pointer (some ⟨p, 0, none⟩)] := kb11.far (by have := HPB.out; show w.heap.size ≠ p; omega) _
      have cb12 := kb12.cell 0
      have hcg12 := Cg.w89 hcg11 hk12.2 hre11
      have HLE := Lib.hid (And.intro hsi (And.intro hsame (And.intro hpre (And.intro himp hd))))
      have HK12 := Lib.hid hk12.1
      have KB12 := Lib.hid kb12
      have HCG12 := Lib.hid hcg12
      have HRE11 := Lib.hid hre11
      clear hr11 hc11 hk11 hsi hw0 hsame hxl hpre himp hend hd hre11 hcg11 kb11 hk12 kb12 hcg12
      go_simp
      refine hK _ _ (cb11) ?_
      clear hK K
      iterate 2 (refine seq_take _ _ rfl (by kernel_rfl) (fun wv hv => by have hv1 := hv; clear hv; go_simp; try with_reducible rfl) ?_; simp only [Act.put, List.getElem_toArray, List.getElem_cons_zero, List.getElem_cons_succ, List.setIfInBounds_toArray, List.set_cons_zero, List.set_cons_succ])
      refine seq_act _ rfl (fun K hK => ?_)
      go_simp
      go_simp
      refine hK _ _ (cb12) ?_
      clear hK K
      refine seq_nil ?_
      obtain ⟨W12, hW12⟩ : ∃ W12, W11.setCell ⟨p, 6, none⟩ (.int .i64 d) = W12 := ⟨_, rfl⟩
      have hk12 := HK12.out
      have kb12 := KB12.out
      have hcg12 := HCG12.out
      rw [hW12] at hk12 kb12 hcg12 cb12 ⊢
      clear HK12 KB12 HCG12 hW12
      obtain ⟨A11, c11, hvt11⟩ := hk12.trl.form
      rw [litVals_len] at hvt11
      have c312 : W12.cell? ⟨p, 3, none⟩ = some (.slice A11 s11.tr.length c11) := by have := hk12.blk.cell 3; rw [← hvt11]; exact this
      have c512 : W12.cell? ⟨p, 5, none⟩ = some (.int .i64 fx) := hk12.blk.cell 5
      have f512 : W12.frozen? ⟨p, 5, none⟩ = false := hk12.blk.frozen 5
      have l12 : p < W12.heap.size := hk12.blk.lt
      have hk13 := hk12.setFx (s11.tr.length : Nat)
      have kb13 : Blk (W12.setCell ⟨p, 5, none⟩ (.int .i64 (s11.tr.length : Nat))) w.heap.size 44 #[.pointer (some ⟨p, 0, none⟩)] := kb12.far (by have := HPB.out; show w.heap.size ≠ p; omega) _
      have cb13 := kb13.cell 0
      have c313 : (W12.setCell ⟨p, 5, none⟩ (.int .i64 (s11.tr.length : Nat))).cell? ⟨p, 3, none⟩ = some (.slice A11 s11.tr.length c11) := by have := hk13.1.blk.cell 3; rw [← hvt11]; exact this
      have HE := Lib.hid (show AdP w tag p V L l (.returned (.tuple #[])) ((W12.drew).setCell ⟨p, 5, none⟩ (.int .i64 (s11.tr.length : Nat))) from by
        obtain ⟨hsi, hsame, hpre, himp, hd⟩ := HLE.out
        refine ⟨rfl, tag11, y11, s11, us11, _, d, HRE11.out, Cg.w89 (hcg12.trans (cg_new (below_drewN (Below.refl _ _) 1))) (hk12.drew.setFx _).2 HRE11.out, (hk12.drew.setFx _).1, hsi.xlen, hsi.vlen, fun e => ?_, fun e => ?_⟩
        · rcases hd with ⟨_, hw⟩ | ⟨⟨h1, _⟩, _⟩
          · exact live_end hsi hsame hpre himp hw HSTART.out.2.1 HSTART.out.2.2 rfl
          · omega
        · rcases hd with ⟨h1, _⟩ | hd
          · exact absurd h1 e
          · exact hd)
      clear hk12 kb12 hcg12 hvt11 hk13 kb13
      go_wp2_with fail
      refine wp_region_seq (S := fun w' => w'.cell? ⟨w.heap.size, 0, none⟩ = some (.pointer (some ⟨p, 0, none⟩)) ∧ w'.cell? ⟨p, 3, none⟩ = some (.slice A11 s11.tr.length c11)) [(0, false), (1, false), (2, false), (3, false), (4, false), (5, false), (6, false), (7, false), (8, true)] (by kernel_rfl) (by kernel_rfl) (by kernel_rfl) (And.intro cb12 c312) ?_
      iterate 8 (refine seq_take _ _ rfl (by kernel_rfl) (fun wv hv => by obtain ⟨hv1, hv2⟩ := hv; go_simp; try with_reducible rfl) ?_; simp only [Act.put, List.getElem_toArray, List.getElem_cons_zero, List.getElem_cons_succ, List.setIfInBounds_toArray, List.set_cons_zero, List.set_cons_succ])
      refine seq_act _ rfl (fun K hK => ?_)
      go_simp
      go_simp
      refine hK _ _ ((And.intro cb13 c313)) ?_
      clear hK K
      refine seq_nil ?_
      go_wp2_with fail
      go_end0
      exact HE.out
    | a :: b :: r, HUK, HXK, HDS, HMX, HNDX, HLITX, HK8, HNX =>
      have hla : Lit V a := HLITX.out a (by simp)
      have hlb : Lit V b := HLITX.out b (by simp)
      have hba : b ≠ a := fun e => (List.nodup_cons.1 HNDX.out).1 (by rw [e]; simp)
      have hN2 : 1 < N := by have := HNX.out; simp at this; omega
      have hN3 : 0 < N := by omega
      have hN0 : ((N : Int) == 0) = false := by simp; omega
      have hN1 : ((N : Int) == 1) = false := by simp; omega
      have HBA := Lib.hid hba
      have HTBX0 := HTB6
      clear hba
      obtain ⟨Az0, cw0, hwz0⟩ := (HK8.out.wts a hla.2).form
      rw [kVals_len] at hwz0
      dsimp only at hwz0
      have hwl0 : (s.wt a).length ≤ 900000 := by have := HLV.out.si.wle a; omega
      have SEEN0 := Lib.hid (show ∀ w' : World, W8.grownBy w' (Value.slice Az0 (s.wt a).length cw0).ownBlock → w'.cell? ⟨w.heap.size, 0, none⟩ = some (.pointer (some ⟨p, 0, none⟩)) ∧ w'.cell? ⟨p, 1, none⟩ = some (.map (some bm)) ∧ w'.cell? ⟨g, 0, none⟩ = some (.int .i64 a) ∧ (Instr.lookup 52 (.map (some bm)) (.int .i64 a) false).run Tryd.prog w' = .ok (.slice Az0 (s.wt a).length cw0) w' from fun w' hg => by
        have hc : Cg tag6 (fun s => s = (8, a)) W8 w' := cg_grown hg fun g' hg' => by
          have := (HK8.out.wts a hla.2).tg g'
          dsimp only at this
          rw [hwz0] at this; exact this hg'
        have h1 := (HK8.out.cls k (a :: b :: r) _ HXK.out HUK.out).chg hc (by simp)
        have h2 : Row w' tag6 (3, (k : Int)) 0 3 (.slice (some ⟨g, 0, none⟩) (litVals (a :: b :: r)).length cp) (litVals (a :: b :: r)) := by rw [litVals_len, HNX.out]; exact h1
        have hmap : RawMap Tryd.prog 3 w' bm V _ := HK8.out.map.chg hc fun o e => absurd (HK8.out.tm.symm.trans e) (by simp)
        have hlk := hmap.look Tryd.underlying3 Tryd.underlying52 (zero_sl w') (by omega) hla.2
        dsimp only at hlk
        rw [hwz0] at hlk
        exact ⟨(KB8.out.tchg HTBX0.out hc (by simp)).cell 0, (HK8.out.blk.tchg HK8.out.tp hc (by simp)).cell 1, Row.cell h2 (lit_at rfl), hlk⟩)
      have HROW0 := Lib.hid (show W8.ownsRow 0 3 1 (.slice Az0 (s.wt a).length cw0) (s.wt a).length (kVals (s.wt a)) from by
        have h1 := (HK8.out.wts a hla.2).own
        rw [kVals_len] at h1
        dsimp only at h1
        rw [hwz0] at h1; exact h1)
      have HWZ0 := Lib.hid hwz0
      clear hwz0
      go_wp2_with fail
      refine wp_region_mv (S := fun w' => w'.cell? ⟨w.heap.size, 0, none⟩ = some (.pointer (some ⟨p, 0, none⟩)) ∧ w'.cell? ⟨p, 1, none⟩ = some (.map (some bm)) ∧ w'.cell? ⟨g, 0, none⟩ = some (.int .i64 a) ∧ (Instr.lookup 52 (.map (some bm)) (.int .i64 a) false).run Tryd.prog w' = .ok (.slice Az0 (s.wt a).length cw0) w') 18 [.f 0, .f 1, .f 2, .f 3, .f 4, .f 5, .f 6, .f 7, .f 8, .f 9, .f 10, .f 11, .f 12, .f 13, .f 14, .f 15, .t 16, .t 17, .t 18] (by kernel_rfl) (by kernel_rfl) (by kernel_rfl) (SEEN0.out _ (only_drew (World.grownBy.refl _ _))) ?_
      iterate 16 (refine mv_take _ _ rfl (by kernel_rfl) (fun wv hv => by obtain ⟨hv1, hv2, hv3, hv4⟩ := hv; go_simp; try with_reducible rfl) ?_; simp only [Act.put, List.getElem_toArray, List.getElem_cons_zero, List.getElem_cons_succ, List.setIfInBounds_toArray, List.set_cons_zero, List.set_cons_succ])
      refine mv_act _ rfl (fun K hK => ?_)
      go_simp
      go_simp
      refine hK _ _ (.inr (SEEN0.out _ (only_alloc (only_drew (World.grownBy.refl _ _)) _))) ?_
      clear hK K
      refine mv_act _ rfl (fun K hK => ?_)
      refine step_append_loc _ rfl (.tmp 53) (.tmp 55) _ rfl 0 3 i0 _ 1 8 Tryd.underlying27 HI.out.1 HI.out.2.1 HI.out.2.2.1 HI.out.2.2.2 rfl (by omega) (.slice Az0 (s.wt a).length cw0) (s.wt a).length (kVals (s.wt a)) rfl (World.ownsRow.alloc (World.ownsRow.drew HROW0.out) _) (W8.heap.size + 1) (some ⟨W8.heap.size, 0, none⟩) 1 1 [.int .i64 (k : Int)] rfl (reads_new (by simp) (by simp) rfl) (by intro u hu; rw [List.mem_singleton.1 hu]; rfl) (le_maxLen (by omega)) (le_bytes (by omega) (by omega)) (by simp) ?_
      intro A9 c9 w9 hown9 hg9 hl9
      have hg9' : (W8.drew.alloc (.cells #[.int .i64 (k : Int)] 3)).grownBy w9 (Value.slice Az0 (s.wt a).length cw0).ownBlock := hg9
      have hS9 := SEEN0.out w9 (grown_tr (only_alloc (only_drew (World.grownBy.refl _ _)) _) hg9')
      obtain ⟨W0b, tag0b, hrun0, hr0b, hc0b, hk0b⟩ := ((HK8.out.drew).alloc (.cells #[.int .i64 (k : Int)] 3)).push (l' := s.wt a ++ [k]) (m := (s.wt a).length + 1) (by omega) hla.2 (by rw [← k_snoc]; exact hown9) (by simp) (by dsimp only; rw [HWZ0.out]; exact hg9') (by dsimp only; rw [HWZ0.out]; exact hl9)
      dsimp only at hrun0
      have hrun0 : (Instr.mapUpdate 52 (.map (some bm)) (.int .i64 a) (.slice A9 ((s.wt a).length + 1) c9)).run Tryd.prog w9 = .ok () W0b := hrun0
      have hcb0 : Cg tag6 (Fr 8) W8 W0b := (cg_new ((below_drewN (Below.refl _ _) 1).alloc (Nat.le_refl _) (.cells #[.int .i64 (k : Int)] 3))).trans hc0b
      have HKb0 := Lib.hid hk0b
      have HCb0 := Lib.hid hcb0
      have HRb0 := Lib.hid (show Re W8 tag6 tag0b from fun g' hg' => hr0b g' (by simp; omega))
      clear hown9 hg9 hl9 hg9' hr0b hc0b hk0b hcb0
      refine hK _ _ (.inr (hS9)) ?_
      clear hK K
      try simp only [Act.put, List.getElem_toArray, List.getElem_cons_zero, List.getElem_cons_succ, List.setIfInBounds_toArray, List.set_cons_zero, List.set_cons_succ]
      clear hS9
      refine mv_act _ rfl (fun K hK => ?_)
      go_simp
      go_simp
      refine hK _ _ (.inl rfl) ?_
      clear hK K
      refine mv_nil ?_
      have HTBX1 := Lib.hid ((HRb0.out _ (by have := KB8.out.lt; omega)).trans HTB6.out)
      have KBb0 := Lib.hid (show Blk W0b w.heap.size 44 #[.pointer (some ⟨p, 0, none⟩)] from KB8.out.tchg HTB6.out HCb0.out (fun h => absurd h.1 (by decide)))
      obtain ⟨Az1, cw1, hwz1⟩ := (HKb0.out.wts b hlb.2).form
      rw [kVals_len] at hwz1
      dsimp only at hwz1
      have hwl1 : (upd s.wt a (s.wt a ++ [k]) b).length ≤ 900000 := by rw [upd_other HBA.out]; have := HLV.out.si.wle b; omega
      have SEEN1 := Lib.hid (show ∀ w' : World, W0b.grownBy w' (Value.slice Az1 (upd s.wt a (s.wt a ++ [k]) b).length cw1).ownBlock → w'.cell? ⟨w.heap.size, 0, none⟩ = some (.pointer (some ⟨p, 0, none⟩)) ∧ w'.cell? ⟨p, 1, none⟩ = some (.map (some bm)) ∧ w'.cell? ⟨g, 1, none⟩ = some (.int .i64 b) ∧ (Instr.lookup 52 (.map (some bm)) (.int .i64 b) false).run Tryd.prog w' = .ok (.slice Az1 (upd s.wt a (s.wt a ++ [k]) b).length cw1) w' from fun w' hg => by
        have hc : Cg tag0b (fun s => s = (8, b)) W0b w' := cg_grown hg fun g' hg' => by
          have := (HKb0.out.wts b hlb.2).tg g'
          dsimp only at this
          rw [hwz1] at this; exact this hg'
        have h1 := (HKb0.out.cls k (a :: b :: r) _ HXK.out HUK.out).chg hc (by simp)
        have h2 : Row w' tag0b (3, (k : Int)) 0 3 (.slice (some ⟨g, 0, none⟩) (litVals (a :: b :: r)).length cp) (litVals (a :: b :: r)) := by rw [litVals_len, HNX.out]; exact h1
        have hmap : RawMap Tryd.prog 3 w' bm V _ := HKb0.out.map.chg hc fun o e => absurd (HKb0.out.tm.symm.trans e) (by simp)
        have hlk := hmap.look Tryd.underlying3 Tryd.underlying52 (zero_sl w') (by omega) hlb.2
        dsimp only at hlk
        rw [hwz1] at hlk
        exact ⟨(KBb0.out.tchg HTBX1.out hc (by simp)).cell 0, (HKb0.out.blk.tchg HKb0.out.tp hc (by simp)).cell 1, Row.cell h2 (lit_at rfl), hlk⟩)
      have HROW1 := Lib.hid (show W0b.ownsRow 0 3 1 (.slice Az1 (upd s.wt a (s.wt a ++ [k]) b).length cw1) (upd s.wt a (s.wt a ++ [k]) b).length (kVals (upd s.wt a (s.wt a ++ [k]) b)) from by
        have h1 := (HKb0.out.wts b hlb.2).own
        rw [kVals_len] at h1
        dsimp only at h1
        rw [hwz1] at h1; exact h1)
      have HWZ1 := Lib.hid hwz1
      clear hwz1
      go_wp2_with fail
      refine wp_region_mv (S := fun w' => w'.cell? ⟨w.heap.size, 0, none⟩ = some (.pointer (some ⟨p, 0, none⟩)) ∧ w'.cell? ⟨p, 1, none⟩ = some (.map (some bm)) ∧ w'.cell? ⟨g, 1, none⟩ = some (.int .i64 b) ∧ (Instr.lookup 52 (.map (some bm)) (.int .i64 b) false).run Tryd.prog w' = .ok (.slice Az1 (upd s.wt a (s.wt a ++ [k]) b).length cw1) w') 18 [.f 0, .f 1, .f 2, .f 3, .f 4, .f 5, .f 6, .f 7, .f 8, .f 9, .f 10, .f 11, .f 12, .f 13, .f 14, .f 15, .t 16, .t 17, .t 18] (by kernel_rfl) (by kernel_rfl) (by kernel_rfl) (SEEN1.out _ (only_drew (World.grownBy.refl _ _))) ?_
      iterate 16 (refine mv_take _ _ rfl (by kernel_rfl) (fun wv hv => by obtain ⟨hv1, hv2, hv3, hv4⟩ := hv; go_simp; try with_reducible rfl) ?_; simp only [Act.put, List.getElem_toArray, List.getElem_cons_zero, List.getElem_cons_succ, List.setIfInBounds_toArray, List.set_cons_zero, List.set_cons_succ])
      refine mv_act _ rfl (fun K hK => ?_)
      go_simp
      go_simp
      refine hK _ _ (.inr (SEEN1.out _ (only_alloc (only_drew (World.grownBy.refl _ _)) _))) ?_
      clear hK K
      refine mv_act _ rfl (fun K hK => ?_)
      refine step_append_loc _ rfl (.tmp 71) (.tmp 73) _ rfl 0 3 i0 _ 1 8 Tryd.underlying27 HI.out.1 HI.out.2.1 HI.out.2.2.1 HI.out.2.2.2 rfl (by omega) (.slice Az1 (upd s.wt a (s.wt a ++ [k]) b).length cw1) (upd s.wt a (s.wt a ++ [k]) b).length (kVals (upd s.wt a (s.wt a ++ [k]) b)) rfl (World.ownsRow.alloc (World.ownsRow.drew HROW1.out) _) (W0b.heap.size + 1) (some ⟨W0b.heap.size, 0, none⟩) 1 1 [.int .i64 (k : Int)] rfl (reads_new (by simp) (by simp) rfl) (by intro u hu; rw [List.mem_singleton.1 hu]; rfl) (le_maxLen (by omega)) (le_bytes (by omega) (by omega)) (by simp) ?_
      intro A9 c9 w9 hown9 hg9 hl9
      have hg9' : (W0b.drew.alloc (.cells #[.int .i64 (k : Int)] 3)).grownBy w9 (Value.slice Az1 (upd s.wt a (s.wt a ++ [k]) b).length cw1).ownBlock := hg9
      have hS9 := SEEN1.out w9 (grown_tr (only_alloc (only_drew (World.grownBy.refl _ _)) _) hg9')
      obtain ⟨W1b, tag1b, hrun1, hr1b, hc1b, hk1b⟩ := ((HKb0.out.drew).alloc (.cells #[.int .i64 (k : Int)] 3)).push (l' := upd s.wt a (s.wt a ++ [k]) b ++ [k]) (m := (upd s.wt a (s.wt a ++ [k]) b).length + 1) (by omega) hlb.2 (by rw [← k_snoc]; exact hown9) (by simp) (by dsimp only; rw [HWZ1.out]; exact hg9') (by dsimp only; rw [HWZ1.out]; exact hl9)
      dsimp only at hrun1
      have hrun1 : (Instr.mapUpdate 52 (.map (some bm)) (.int .i64 b) (.slice A9 ((upd s.wt a (s.wt a ++ [k]) b).length + 1) c9)).run Tryd.prog w9 = .ok () W1b := hrun1
      have hcb1 : Cg tag0b (Fr 8) W0b W1b := (cg_new ((below_drewN (Below.refl _ _) 1).alloc (Nat.le_refl _) (.cells #[.int .i64 (k : Int)] 3))).trans hc1b
      have HKb1 := Lib.hid hk1b
      have HCb1 := Lib.hid hcb1
      have HRb1 := Lib.hid (show Re W0b tag0b tag1b from fun g' hg' => hr1b g' (by simp; omega))
      clear hown9 hg9 hl9 hg9' hr1b hc1b hk1b hcb1
      refine hK _ _ (.inr (hS9)) ?_
      clear hK K
      try simp only [Act.put, List.getElem_toArray, List.getElem_cons_zero, List.getElem_cons_succ, List.setIfInBounds_toArray, List.set_cons_zero, List.set_cons_succ]
      clear hS9
      refine mv_act _ rfl (fun K hK => ?_)
      go_simp
      go_simp
      refine hK _ _ (.inl rfl) ?_
      clear hK K
      refine mv_nil ?_
      have ewt : upd (upd s.wt a (s.wt a ++ [k])) b (upd s.wt a (s.wt a ++ [k]) b ++ [k]) = (more2 s a b r).wt := by
        rw [upd_other HBA.out, ← HK.out]; rfl
      have hk9 := HKb1.out
      rw [ewt] at hk9
      clear ewt
      have hre9 : Re w tag tag1b := (HRE.out.trans HRb0.out HCG8.out.size).trans HRb1.out (Nat.le_trans HCG8.out.size HCb0.out.size)
      have hcg9 : Cg tag (Fr 9) w W1b := Cg.w89 (Cg.w89 HCG8.out HCb0.out HRE.out) HCb1.out (HRE.out.trans HRb0.out HCG8.out.size)
      have htb9 : tag1b w.heap.size = (0, 0) := (HRb1.out _ (by have := KBb0.out.lt; omega)).trans HTBX1.out
      have kb9 : Blk W1b w.heap.size 44 #[.pointer (some ⟨p, 0, none⟩)] := KBb0.out.tchg HTBX1.out HCb1.out (fun h => absurd h.1 (by decide))
      have cbx : W1b.cell? ⟨w.heap.size, 0, none⟩ = some (.pointer (some ⟨p, 0, none⟩)) := kb9.cell 0
      have cxx : Row W1b tag1b (3, (k : Int)) 0 3 (.slice (some ⟨g, 0, none⟩) (litVals (a :: b :: r)).length cp) (litVals (a :: b :: r)) := by rw [litVals_len, HNX.out]; exact hk9.cls k _ _ HXK.out HUK.out
      have cx0 : W1b.cell? ⟨g, 0, none⟩ = some (.int .i64 a) := Row.cell cxx (lit_at rfl)
      have cx1 : W1b.cell? ⟨g, 1, none⟩ = some (.int .i64 b) := Row.cell cxx (lit_at rfl)
      have HK9 := Lib.hid hk9
      have KB9 := Lib.hid kb9
      have HTB9 := Lib.hid htb9
      have HCG9 := Lib.hid hcg9
      have HRE9 := Lib.hid hre9
      clear hk9 kb9 htb9 hcg9 hre9 cxx hrun0 hrun1 SEEN0 SEEN1 HROW0 HROW1 cb8
      have la := hla
      obtain ⟨v, hv⟩ : ∃ v, lv (va s.vs) a = v := ⟨_, rfl⟩
      have hv3 := HLV.out.si.ok a
      rw [hv] at hv3
      obtain ⟨u, hu⟩ : ∃ u, lv (va s.vs) b = u := ⟨_, rfl⟩
      have hu3 := HLV.out.si.ok b
      rw [hu] at hu3
      have huv : u ≤ v := by have := HDS.out.head; omega
      have CO := Lib.hid (fun j => show Calls Tryd.prog 36 #[.pointer (some ⟨p, 0, none⟩), .int .i64 a] (W1b.drewN j) fun e w' => e = .returned (.int .i8 v) ∧ W1b.drewN j = w' from by
        rw [← hv]; exact of_any (HK9.out.drewN j) HLV.out.si.vlen HLV.out.si.vok hla.2 (by omega))
      have CP := Lib.hid (fun j => show Calls Tryd.prog 36 #[.pointer (some ⟨p, 0, none⟩), .int .i64 b] (W1b.drewN j) fun e w' => e = .returned (.int .i8 u) ∧ W1b.drewN j = w' from by
        rw [← hu]; exact of_any (HK9.out.drewN j) HLV.out.si.vlen HLV.out.si.vok hlb.2 (by omega))
      have c68 : W1b.cell? ⟨p, 6, none⟩ = some (.int .i64 (-1)) := HK9.out.blk.cell 6
      have f68 : W1b.frozen? ⟨p, 6, none⟩ = false := HK9.out.blk.frozen 6
      have l8 : p < W1b.heap.size := HK9.out.blk.lt
      have HV := Lib.hid hv
      have HU := Lib.hid hu
      clear hv hu
      by_cases h1 : v = -1
      · as_aux_lemma =>
        subst h1
        have HE := Lib.hid (fun j => show AdP w tag p V L l (.returned (.tuple #[])) ((W1b.drewN j).setCell ⟨p, 6, none⟩ (.int .i64 (k : Nat))) from
          adp_dead (s1 := more2 s a b r) HRE9.out (Cg.w89 (HCG9.out.trans (cg_new (below_drewN (Below.refl _ _) j))) ((HK9.out.drewN j).setDd _).2 HRE9.out) ((HK9.out.drewN j).setDd _).1 (by show (s.xs ++ [_]).length = _; simp [HII.out.xlen]) HII.out.vlen (by rw [← HK.out, HII.out.xlen]) (HLV.out.false_ HMX.out HLITX.out (dsc_false HDS.out HV.out HLV.out.si.vok)))
        go_wp2_with fail
        go_quiet ((go_at_call 36; with_reducible exact quiet_left (CO.out _)))
        all_goals
          go_wp2_with fail
          go_end0
          exact HE.out _
      by_cases h2 : v = 1 ∨ u = 0
      · as_aux_lemma =>
        have HE := Lib.hid (fun j => show AdP w tag p V L l (.returned (.tuple #[])) (W1b.drewN j) from
          adp_live HRE9.out (HCG9.out.trans (cg_new (below_drewN (Below.refl _ _) j))) (HK9.out.drewN j) (HLV.out.add2 HMX.out HNDX.out HLITX.out (by rw [HV.out, HU.out]; omega)))
        by_cases h3 : v = 1
        · subst h3
          go_wp2_with fail
          go_quiet ((go_at_call 36; with_reducible exact quiet_left (CO.out _)))
          all_goals
            go_wp2_with fail
            go_quiet ((go_at_call 36; with_reducible exact quiet_add_left (CO.out _)))
            all_goals
              go_wp2_with fail
              go_end0
              rw [World.drewN_drewN]
              exact HE.out _
        · obtain rfl : u = 0 := by omega
          obtain rfl : v = 0 := by omega
          go_wp2_with fail
          go_quiet ((go_at_call 36; with_reducible exact quiet_left (CO.out _)))
          all_goals
            go_wp2_with fail
            go_quiet ((go_at_call 36; first | (with_reducible exact quiet_add_left (CO.out _)) | (with_reducible exact quiet_add_left (CP.out _))))
            all_goals
              go_wp2_with fail
              go_end0
              rw [World.drewN_drewN]
              exact HE.out _
      as_aux_lemma =>
      obtain rfl : v = 0 := by omega
      obtain rfl : u = -1 := by omega
      go_wp2_with fail
      go_quiet ((go_at_call 36; with_reducible exact quiet_left (CO.out _)))
      go_wp2_with fail
      go_quiet ((go_at_call 36; first | (with_reducible exact quiet_add_left (CO.out _)) | (with_reducible exact quiet_add_left (CP.out _))))
      have HSTART := Lib.hid (HLV.out.start2 HMX.out HNDX.out HLITX.out HV.out (dsc_false (vs := s.vs) HDS.out.tail HU.out HLV.out.si.vok))
      obtain ⟨At, ct, hvt⟩ := HK9.out.trl.form
      rw [litVals_len] at hvt
      dsimp only at hvt
      subst hvt
      have c38 : W1b.cell? ⟨p, 3, none⟩ = some (.slice At s.tr.length ct) := HK9.out.blk.cell 3
      have htl : s.tr.length ≤ V := HLV.out.si.tr_le
      go_wp2_with fail
      refine wp_region_seq (S := fun w' => w'.cell? ⟨w.heap.size, 0, none⟩ = some (.pointer (some ⟨p, 0, none⟩)) ∧ w'.cell? ⟨g, 0, none⟩ = some (.int .i64 a)) [(0, false), (1, false), (2, false), (3, false), (4, false), (5, true)] (by kernel_rfl) (by kernel_rfl) (by kernel_rfl) (And.intro cbx cx0) ?_
      iterate 5 (refine seq_take _ _ rfl (by kernel_rfl) (fun wv hv => by obtain ⟨hv1, hv2⟩ := hv; go_simp; try with_reducible rfl) ?_; simp only [Act.put, List.getElem_toArray, List.getElem_cons_zero, List.getElem_cons_succ, List.setIfInBounds_toArray, List.set_cons_zero, List.set_cons_succ])
      refine seq_act _ rfl (fun K hK => ?_)
      go_simp
      refine (set_any (HK9.out.drewN _) HLV.out.si.vlen htl la (by omega)).mono ?_
      rintro e W10 ⟨rfl, tag10, vt10, hr10, hc10, hk10⟩
      have hre10 : Re w tag tag10 := HRE9.out.trans hr10 HCG9.out.size
      have hcg10 : Cg tag (Fr 9) w W10 := Cg.w89 (HCG9.out.trans (cg_new (below_drewN (Below.refl _ _) _))) hc10 HRE9.out
      have kb10 : Blk W10 w.heap.size 44 #[.pointer (some ⟨p, 0, none⟩)] := (KB9.out.drewN _).tchg HTB9.out hc10 (fun h => absurd h.1 (by decide))
      have htb10 : tag10 w.heap.size = (0, 0) := (hr10 _ (by have := KB9.out.lt; show _ < W1b.heap.size; omega)).trans HTB9.out
      have cb10 : W10.cell? ⟨w.heap.size, 0, none⟩ = some (.pointer (some ⟨p, 0, none⟩)) := kb10.cell 0
      have cx10 : W10.cell? ⟨g, 0, none⟩ = some (.int .i64 a) := by
        have h1 := hk10.cls k _ _ HXK.out HUK.out
        have h2 : Row W10 tag10 (3, (k : Int)) 0 3 (.slice (some ⟨g, 0, none⟩) (litVals (a :: b :: r)).length cp) (litVals (a :: b :: r)) := by rw [litVals_len, HNX.out]; exact h1
        exact Row.cell h2 (lit_at rfl)
      have HRE10 := Lib.hid hre10
      have HCG10 := Lib.hid hcg10
      have KB10 := Lib.hid kb10
      have HTB10 := Lib.hid htb10
      have HK10 := Lib.hid hk10
      clear hr10 hc10 hk10 hre10 hcg10 kb10 htb10
      go_simp
      refine hK _ _ ((And.intro cb10 cx10)) ?_
      clear hK K
      refine seq_nil ?_
      go_wp2_with fail
      refine wp_region_seq (S := fun w' => w'.cell? ⟨w.heap.size, 0, none⟩ = some (.pointer (some ⟨p, 0, none⟩))) [(0, false), (1, false), (2, false), (3, true), (4, false), (5, false), (6, true)] (by kernel_rfl) (by kernel_rfl) (by kernel_rfl) cb10 ?_
      iterate 3 (refine seq_take _ _ rfl (by kernel_rfl) (fun wv hv => by have hv1 := hv; clear hv; go_simp; try with_reducible rfl) ?_; simp only [Act.put, List.getElem_toArray, List.getElem_cons_zero, List.getElem_cons_succ, List.setIfInBounds_toArray, List.set_cons_zero, List.set_cons_succ])
      refine seq_act _ rfl (fun K hK => ?_)
      go_simp
      refine (spread_any (s := setS (more2 s a b r) a) (hd0 := s.tr.length) (L := L ++ [l]) (c := []) (tr0 := []) (HK10.out.drew) HSTART.out.1 hV (by simp; omega) (by show s.tr.length ≤ (s.tr ++ [a]).length; simp)).mono ?_
      rintro e W11 ⟨tag11, y11, s11, us11, hr11, hc11, hk11, hsi, hw0, hsame, hxl, hpre, himp, hend⟩
      obtain ⟨d, he, hd⟩ : ∃ d : Int, e = .returned (.int .i64 d) ∧ ((d = -1 ∧ Wi s11.xs s11.tr s11.tr) ∨ ((0 ≤ d ∧ d < ((L ++ [l]).length : Int)) ∧ Ref (L ++ [l]) [])) := by
        rcases hend with ⟨rfl, h⟩ | ⟨q, rfl, h1, h2⟩
        · exact ⟨_, rfl, .inl ⟨rfl, h⟩⟩
        · exact ⟨_, rfl, .inr ⟨⟨by omega, by omega⟩, h2⟩⟩
      subst he
      have hre11 : Re w tag tag11 := HRE10.out.trans hr11 HCG10.out.size
      have hcg11 : Cg tag (Fr 9) w W11 := HCG10.out.trans_ ((cg_new (below_drewN (Below.refl _ _) 1)).trans hc11) HRE10.out
      have kb11 : Blk W11 w.heap.size 44 #[.pointer (some ⟨p, 0, none⟩)] := KB10.out.drew.tchg HTB10.out hc11 (fun h => absurd h.1 (by decide))
      have cb11 : W11.cell? ⟨w.heap.size, 0, none⟩ = some (.pointer (some ⟨p, 0, none⟩)) := kb11.cell 0
      have c116 : W11.cell? ⟨p, 6, none⟩ = some (.int .i64 (-1)) := hk11.blk.cell 6
      have f116 : W11.frozen? ⟨p, 6, none⟩ = false := hk11.blk.frozen 6
      have l11 : p < W11.heap.size := hk11.blk.lt
      have hk12 := hk11.setDd d
      have kb12 : Blk (W11.setCell ⟨p, 6, none⟩ (.int .i64 d)) w.heap.size 44 #[.pointer (some ⟨p, 0, none⟩)] := kb11.far (by have := HPB.out; show w.heap.size ≠ p; omega) _
      have cb12 := kb12.cell 0
      have hcg12 := Cg.w89 hcg11 hk12.2 hre11
      have HLE := Lib.hid (And.intro hsi (And.intro hsame (And.intro hpre (And.intro himp hd))))
      have HK12 := Lib.hid hk12.1
      have KB12 := Lib.hid kb12
      have HCG12 := Lib.hid hcg12
      have HRE11 := Lib.hid hre11
      clear hr11 hc11 hk11 hsi hw0 hsame hxl hpre himp hend hd hre11 hcg11 kb11 hk12 kb12 hcg12
      go_simp
      refine hK _ _ (cb11) ?_
      clear hK K
      iterate 2 (refine seq_take _ _ rfl (by kernel_rfl) (fun wv hv => by have hv1 := hv; clear hv; go_simp; try with_reducible rfl) ?_; simp only [Act.put, List.getElem_toArray, List.getElem_cons_zero, List.getElem_cons_succ, List.setIfInBounds_toArray, List.set_cons_zero, List.set_cons_succ])
      refine seq_act _ rfl (fun K hK => ?_)
      go_simp
      go_simp
      refine hK _ _ (cb12) ?_
      clear hK K
      refine seq_nil ?_
      obtain ⟨W12, hW12⟩ : ∃ W12, W11.setCell ⟨p, 6, none⟩ (.int .i64 d) = W12 := ⟨_, rfl⟩
      have hk12 := HK12.out
      have kb12 := KB12.out
      have hcg12 := HCG12.out
      rw [hW12] at hk12 kb12 hcg12 cb12 ⊢
      clear HK12 KB12 HCG12 hW12
      obtain ⟨A11, c11, hvt11⟩ := hk12.trl.form
      rw [litVals_len] at hvt11
      have c312 : W12.cell? ⟨p, 3, none⟩ = some (.slice A11 s11.tr.length c11) := by have := hk12.blk.cell 3; rw [← hvt11]; exact this
      have c512 : W12.cell? ⟨p, 5, none⟩ = some (.int .i64 fx) := hk12.blk.cell 5
      have f512 : W12.frozen? ⟨p, 5, none⟩ = false := hk12.blk.frozen 5
      have l12 : p < W12.heap.size := hk12.blk.lt
      have hk13 := hk12.setFx (s11.tr.length : Nat)
      have kb13 : Blk (W12.setCell ⟨p, 5, none⟩ (.int .i64 (s11.tr.length : Nat))) w.heap.size 44 #[.pointer (some ⟨p, 0, none⟩)] := kb12.far (by have := HPB.out; show w.heap.size ≠ p; omega) _
      have cb13 := kb13.cell 0
      have c313 : (W12.setCell ⟨p, 5, none⟩ (.int .i64 (s11.tr.length : Nat))).cell? ⟨p, 3, none⟩ = some (.slice A11 s11.tr.length c11) := by have := hk13.1.blk.cell 3; rw [← hvt11]; exact this
      have HE := Lib.hid (show AdP w tag p V L l (.returned (.tuple #[])) ((W12.drew).setCell ⟨p, 5, none⟩ (.int .i64 (s11.tr.length : Nat))) from by
        obtain ⟨hsi, hsame, hpre, himp, hd⟩ := HLE.out
        refine ⟨rfl, tag11, y11, s11, us11, _, d, HRE11.out, Cg.w89 (hcg12.trans (cg_new (below_drewN (Below.refl _ _) 1))) (hk12.drew.setFx _).2 HRE11.out, (hk12.drew.setFx _).1, hsi.xlen, hsi.vlen, fun e => ?_, fun e => ?_⟩
        · rcases hd with ⟨_, hw⟩ | ⟨⟨h1, _⟩, _⟩
          · exact live_end hsi hsame hpre himp hw HSTART.out.2.1 HSTART.out.2.2 rfl
          · omega
        · rcases hd with ⟨h1, _⟩ | hd
          · exact absurd h1 e
          · exact hd)
      clear hk12 kb12 hcg12 hvt11 hk13 kb13
      go_wp2_with fail
      refine wp_region_seq (S := fun w' => w'.cell? ⟨w.heap.size, 0, none⟩ = some (.pointer (some ⟨p, 0, none⟩)) ∧ w'.cell? ⟨p, 3, none⟩ = some (.slice A11 s11.tr.length c11)) [(0, false), (1, false), (2, false), (3, false), (4, false), (5, false), (6, false), (7, false), (8, true)] (by kernel_rfl) (by kernel_rfl) (by kernel_rfl) (And.intro cb12 c312) ?_
      iterate 8 (refine seq_take _ _ rfl (by kernel_rfl) (fun wv hv => by obtain ⟨hv1, hv2⟩ := hv; go_simp; try with_reducible rfl) ?_; simp only [Act.put, List.getElem_toArray, List.getElem_cons_zero, List.getElem_cons_succ, List.setIfInBounds_toArray, List.set_cons_zero, List.set_cons_succ])
      refine seq_act _ rfl (fun K hK => ?_)
      go_simp
      go_simp
      refine hK _ _ ((And.intro cb13 c313)) ?_
      clear hK K
      refine seq_nil ?_
      go_wp2_with fail
      go_end0
      exact HE.out
  · as_aux_lemma =>
    have hdd0 := (HII.out.dead hdd).1.1
    have HE := Lib.hid (show AdP w tag p V L l (.returned (.tuple #[])) W7 from ⟨rfl, tag6, _, { s with xs := s.xs ++ [z2] }, us, fx, dd, HRE.out, HCG7.out, HK7.out, by simp [HII.out.xlen], HII.out.vlen, fun e => absurd e hdd, fun h => ⟨⟨(HII.out.dead h).1.1, by have := (HII.out.dead h).1.2; simp; omega⟩, (HII.out.dead h).2.mono fun _ => mem_snoc⟩⟩)
    clear hdd
    go_wp2_with fail
    go_end0
    exact HE.out
end
end Go.Proofs.YtgchepkcjkhmmaaDoor
namespace Go.Proofs.YtgchepkcjkhmmaaDoor
open Go.RowKit Go.Sort
section
variable {w w' : World} {tag tag' : Nat → Tag} {p V : Nat} {y : Lay} {L : List (List Int)} {s : St} {us : List Int} {fx dd : Int} {l : List Int}
set_option maxRecDepth 100000 in
set_option maxHeartbeats 4000000 in
theorem add_none (h : Chk w tag p V y s.xs s.wt s.vs s.tr us fx dd) (hi : CkI V L s fx dd) (_hV : V ≤ 150000) (hL : L.length ≤ 900000) :
    Calls Tryd.prog 18 #[.pointer (some ⟨p, 0, none⟩), .slice none 0 0] w (AdP w tag p V L []) := by
  obtain ⟨i1, hi1, hz0, hz1, hz2⟩ := info_parts info_ints
  have HI1 := Lib.hid (And.intro hi1 (And.intro hz0 (And.intro hz1 hz2)))
  clear hi1 hz0 hz1 hz2
  obtain ⟨k, hk⟩ : ∃ k, s.xs.length = k := ⟨_, rfl⟩
  obtain ⟨W3, hW3⟩ : ∃ W3, W3 = w.alloc (.cells #[.pointer (some ⟨p, 0, none⟩)] 44) := ⟨_, rfl⟩
  have hb0 : Below w.heap.size w W3 := by rw [hW3]; exact (Below.refl _ _).alloc (Nat.le_refl _) _
  have k3 : Blk W3 w.heap.size 44 #[.pointer (some ⟨p, 0, none⟩)] := by rw [hW3]; exact Blk.new w _ _
  have hs0 : W3.heap.size = w.heap.size + 1 := by rw [hW3]; simp
  obtain ⟨tag1, htag1⟩ : ∃ tag1, tag1 = put tag w.heap.size (0, 0) := ⟨_, rfl⟩
  have hre1 : Re w tag tag1 := by rw [htag1]; exact re_put (Nat.le_refl _)
  have htb1 : tag1 w.heap.size = (0, 0) := by rw [htag1]; exact put_same _ _ _
  have h3 := (h.re hre1).new hb0
  obtain ⟨vC, rows, bm, gv, gu, vt, wv⟩ := y
  have hrl : rows.length = k := by rw [← hk]; exact h.rlen
  obtain ⟨Ac, cc, hvC⟩ := h.hdr.form
  rw [hrl] at hvC
  dsimp only at hvC
  subst hvC
  have C1 := Lib.hid (Tryd.slices_Clone_own_nil 0 0 W3)
  have C2 := Lib.hid (sort_none 0 W3)
  have C3 := Lib.hid (compact_none 0 W3)
  have cb3 : W3.cell? ⟨w.heap.size, 0, none⟩ = some (.pointer (some ⟨p, 0, none⟩)) := k3.cell 0
  have c03 : W3.cell? ⟨p, 0, none⟩ = some (.slice Ac k cc) := h3.blk.cell 0
  have f03 : W3.frozen? ⟨p, 0, none⟩ = false := h3.blk.frozen 0
  have HHD := Lib.hid (show W3.ownsRow 0 27 1 (.slice Ac k cc) k rows from by
    have := h3.hdr.own
    rw [hrl] at this; exact this)
  have HPB := Lib.hid (show p < w.heap.size from h.blk.lt)
  have HW3 := Lib.hid hW3
  have HCG3 := Lib.hid (show Cg tag (Fr 9) w W3 from cg_new hb0)
  have K3 := Lib.hid k3
  have H3 := Lib.hid h3
  have HRE1 := Lib.hid hre1
  have HTB := Lib.hid htb1
  have HK := Lib.hid hk
  have HRL := Lib.hid hrl
  have HII := Lib.hid hi
  have hkL : k ≤ 900000 := by rw [← hk, hi.xlen]; exact hL
  clear hW3 hb0 hs0 k3 h3 hre1 htb1 htag1 hk hrl h hi
  go_enter Tryd.func18, Tryd.ntmps18
  go_upto_region 1 with fail
  rw [← HW3.out]
  go_wp2_with fail
  refine C1.out.mono ?_
  rintro e w1 ⟨rfl, hw1⟩
  rw [hw1]
  clear hw1
  go_wp2_with fail
  refine C2.out.mono ?_
  rintro e w1 ⟨rfl, hw1⟩
  rw [← hw1]
  clear hw1
  go_wp2_with fail
  refine C3.out.mono ?_
  rintro e w1 ⟨rfl, hw1⟩
  rw [← hw1]
  clear hw1
  go_wp2_with fail
  refine wp_region_mv (S := fun w' => w'.cell? ⟨w.heap.size, 0, none⟩ = some (.pointer (some ⟨p, 0, none⟩)) ∧ w'.cell? ⟨p, 0, none⟩ = some (.slice Ac k cc)) 10 [.f 0, .f 1, .f 2, .f 3, .f 4, .f 5, .t 6, .t 7, .t 8, .f 9, .t 10] (by kernel_rfl) (by kernel_rfl) (by kernel_rfl) (And.intro cb3 c03) ?_
  iterate 6 (refine mv_take _ _ rfl (by kernel_rfl) (fun wv hv => by obtain ⟨hv1, hv2⟩ := hv; go_simp; try with_reducible rfl) ?_; simp only [Act.put, List.getElem_toArray, List.getElem_cons_zero, List.getElem_cons_succ, List.setIfInBounds_toArray, List.set_cons_zero, List.set_cons_succ])
  refine mv_act _ rfl (fun K hK => ?_)
  go_simp
  go_simp
  refine hK _ _ (.inr ((And.intro ((K3.out.drew.alloc _).cell 0) ((H3.out.drew.alloc _).blk.cell 0)))) ?_
  clear hK K
  refine mv_act _ rfl (fun K hK => ?_)
  refine step_append_loc _ rfl (.tmp 22) (.tmp 24) _ rfl 0 27 i1 _ 1 24 Tryd.underlying54 HI1.out.1 HI1.out.2.1 HI1.out.2.2.1 HI1.out.2.2.2 rfl (by omega) (.slice Ac k cc) k rows rfl (World.ownsRow.alloc (World.ownsRow.drew HHD.out) _) (W3.heap.size + 1) (some ⟨W3.heap.size, 0, none⟩) 1 1 [.slice none 0 0] rfl (reads_new (by simp) (by simp) rfl) (by intro u hu; rw [List.mem_singleton.1 hu]; rfl) (le_maxLen (by omega)) (le_bytes (by omega) (by omega)) (by simp) ?_
  intro A6 c6 w6 hown6 hg6 hl6
  obtain ⟨tag6, hr6, hc6, hk6⟩ := (H3.out.drew.alloc (.cells #[.slice none 0 0] 27)).addX (x := []) (u := .slice none 0 0) (Row.nil _ _ _ _ _) hown6 (by rw [HK.out]) hg6 hl6
  have hb6 := (H3.out.drew.alloc (.cells #[.slice none 0 0] 27)).blk.grown hg6 (own_blk_ne (World.ownsRow.alloc (World.ownsRow.drew HHD.out) _) (H3.out.drew.alloc (.cells #[.slice none 0 0] 27)).blk (by decide)).symm
  have kb6 := (K3.out.drew.alloc (.cells #[.slice none 0 0] 27)).grown hg6 (own_blk_ne (World.ownsRow.alloc (World.ownsRow.drew HHD.out) _) (K3.out.drew.alloc (.cells #[.slice none 0 0] 27)) (by decide)).symm
  have cb6 : w6.cell? ⟨w.heap.size, 0, none⟩ = some (.pointer (some ⟨p, 0, none⟩)) := kb6.cell 0
  have c06 : w6.cell? ⟨p, 0, none⟩ = some (.slice Ac k cc) := hb6.cell 0
  have f06 : w6.frozen? ⟨p, 0, none⟩ = false := hb6.frozen 0
  have l06 : p < w6.heap.size := hb6.lt
  have HC6 := Lib.hid hc6
  have HK6 := Lib.hid hk6
  have HR6 := Lib.hid hr6
  have HKB6 := Lib.hid kb6
  clear hown6 hg6 hl6 hc6 hk6 hr6 hb6 kb6
  refine hK _ _ (.inr ((And.intro cb6 c06))) ?_
  clear hK K
  try simp only [Act.put, List.getElem_toArray, List.getElem_cons_zero, List.getElem_cons_succ, List.setIfInBounds_toArray, List.set_cons_zero, List.set_cons_succ]
  refine mv_act _ rfl (fun K hK => ?_)
  go_simp
  go_simp
  refine hK _ _ (.inr ((And.intro cb6 c06))) ?_
  clear hK K
  iterate 1 (refine mv_take _ _ rfl (by kernel_rfl) (fun wv hv => by obtain ⟨hv1, hv2⟩ := hv; go_simp; try with_reducible rfl) ?_; simp only [Act.put, List.getElem_toArray, List.getElem_cons_zero, List.getElem_cons_succ, List.setIfInBounds_toArray, List.set_cons_zero, List.set_cons_succ])
  refine mv_act _ rfl (fun K hK => ?_)
  go_simp
  go_simp
  refine hK _ _ (.inl rfl) ?_
  clear hK K
  refine mv_nil ?_
  obtain ⟨W7, hW7⟩ : ∃ W7, w6.setCell ⟨p, 0, none⟩ (.slice A6 (k + 1) c6) = W7 := ⟨_, rfl⟩
  have hc7 := HC6.out
  have hk7 := HK6.out
  have kb7 : Blk W7 w.heap.size 44 #[.pointer (some ⟨p, 0, none⟩)] := by rw [← hW7]; exact HKB6.out.far (by have := HPB.out; show w.heap.size ≠ p; omega) _
  rw [hW7] at hc7 hk7 ⊢
  have hre6 : Re w tag tag6 := HRE1.out.trans (fun g' hg' => HR6.out g' (by simp; omega)) HCG3.out.size
  have hcg7 : Cg tag (Fr 9) w W7 := by
    have h1 : Cg tag1 (Fr 9) W3 W7 := (cg_new ((below_drewN (Below.refl _ _) 1).alloc (Nat.le_refl _) (.cells #[.slice none 0 0] 27))).trans (hc7.mono_ fun t ht => ⟨ht.1, by have := ht.2; omega⟩)
    exact HCG3.out.trans_ h1 HRE1.out
  have c67 : W7.cell? ⟨p, 6, none⟩ = some (.int .i64 dd) := hk7.blk.cell 6
  have f67 : W7.frozen? ⟨p, 6, none⟩ = false := hk7.blk.frozen 6
  have l7 : p < W7.heap.size := hk7.blk.lt
  have cb7 : W7.cell? ⟨w.heap.size, 0, none⟩ = some (.pointer (some ⟨p, 0, none⟩)) := kb7.cell 0
  have HK7 := Lib.hid hk7
  have HRE := Lib.hid hre6
  have HCG7 := Lib.hid hcg7
  clear cb6 c06 f06 l06 cb3 c03 f03 hW7 hc7 hk7 kb7 hre6 hcg7 HC6 HK6 HR6 HKB6 HCG3 K3 H3 HHD HRE1 HTB
  by_cases hdd : dd = -1
  · as_aux_lemma =>
    subst hdd
    have CS := Lib.hid (sort_stable_none 0 (.func (.func 35) #[] #[.pointer (some ⟨w.heap.size, 0, none⟩)]) W7)
    have hmf : ∀ (fn : Fn) (first cap : Array Value) (w : World), (Instr.makeFunc fn first cap).run Tryd.prog w = .ok (.func fn first cap) w := fun _ _ _ _ => rfl
    have HE := Lib.hid (fun j => show AdP w tag p V L [] (.returned (.tuple #[])) ((W7.drewN j).setCell ⟨p, 6, none⟩ (.int .i64 (k : Nat))) from
      adp_dead (s1 := { s with xs := s.xs ++ [[]] }) HRE.out (Cg.w89 (HCG7.out.trans (cg_new (below_drewN (Below.refl _ _) j))) ((HK7.out.drewN j).setDd _).2 HRE.out) ((HK7.out.drewN j).setDd _).1 (by simp [HII.out.xlen]) HII.out.vlen (by rw [← HK.out, HII.out.xlen]) ((HII.out.live rfl).false_ (x := []) (fun n => Iff.rfl) (fun n hn => by cases hn) (fun n hn => by cases hn)))
    go_wp2_with fail
    clear hmf
    refine CS.out.mono ?_
    rintro e w8 ⟨rfl, hw8⟩
    rw [← hw8]
    clear hw8
    go_wp2_with fail
    go_quiet (fail)
    all_goals
      go_wp2_with fail
      go_end0
      exact HE.out _
  · as_aux_lemma =>
    have hdd0 := (HII.out.dead hdd).1.1
    have HE := Lib.hid (show AdP w tag p V L [] (.returned (.tuple #[])) W7 from ⟨rfl, tag6, _, { s with xs := s.xs ++ [[]] }, us, fx, dd, HRE.out, HCG7.out, HK7.out, by simp [HII.out.xlen], HII.out.vlen, fun e => absurd e hdd, fun h => ⟨⟨(HII.out.dead h).1.1, by have := (HII.out.dead h).1.2; simp; omega⟩, (HII.out.dead h).2.mono fun _ => mem_snoc⟩⟩)
    clear hdd
    go_wp2_with fail
    go_end0
    exact HE.out
/-- a clause's slice, of a row of the call's own or nil -/
def RdO (w : World) (u : Value) (l : List Int) : Prop :=
  (u = .slice none 0 0 ∧ l = []) ∨ ∃ b c, u = .slice (some ⟨b, 0, none⟩) l.length c ∧ ∀ (j : Nat) x, (litVals l)[j]? = some x → w.cell? ⟨b, j, none⟩ = some x
theorem rdO_own {base n : Nat} {u : Value} (h : w.ownsRow base 3 1 u n (litVals l)) : RdO w u l := by
  have hn : l.length = n := by have := h.1; rw [litVals_len] at this; omega
  rcases h.2 with ⟨e, h0⟩ | ⟨g, c, cur, e, _, hh, _, _, _, ht⟩
  · exact .inl ⟨e, List.eq_nil_of_length_eq_zero (by omega)⟩
  · refine .inr ⟨g, c, by rw [hn]; exact e, fun j x hx => ?_⟩
    rw [cell_of_row w g j cur _ (0, 0) hh]
    rw [← ht, List.getElem?_take] at hx
    split at hx
    · simpa using hx
    · cases hx
theorem RdO.keep {u : Value} (h : RdO w u l) (hc : ∀ g (o : Obj), w.heap[g]? = some o → w'.heap[g]? = some o ∨ u.ownBlock ≠ some g) : RdO w' u l := by
  rcases h with h | ⟨b, c, rfl, hx⟩
  · exact .inl h
  · refine .inr ⟨b, c, rfl, fun j x hj => ?_⟩
    have h1 := hx j x hj
    rw [← h1]
    refine World.cell?_of_block ?_
    cases e : w.heap[b]? with
    | none => rw [World.cell?] at h1; simp [e] at h1
    | some o =>
      rcases hc b o e with h2 | h2
      · exact h2
      · exact absurd rfl h2
theorem add_any {u : Value} (h : Chk w tag p V y s.xs s.wt s.vs s.tr us fx dd) (hi : CkI V L s fx dd) (hV : V ≤ 150000) (hL : L.length ≤ 900000) (hl : l.length ≤ 100000) (hlit : ∀ m ∈ l, Lit V m) (hr : RdO w u l) :
    Calls Tryd.prog 18 #[.pointer (some ⟨p, 0, none⟩), u] w (AdP w tag p V L l) := by
  rcases hr with ⟨rfl, rfl⟩ | ⟨b, c, rfl, hx⟩
  · exact add_none h hi hV hL
  · exact add_some h hi hV hL rfl hl hlit hx
end
end Go.Proofs.YtgchepkcjkhmmaaDoor
