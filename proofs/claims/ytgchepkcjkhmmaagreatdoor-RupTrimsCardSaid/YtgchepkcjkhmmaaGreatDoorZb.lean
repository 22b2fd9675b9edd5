/-
  PLAIN: the document's byUnits: what holds amid its loops. No program in sight.
-/
import Derived.Test.YtgchepkcjkhmmaaGreatDoorUa
namespace Go.Proofs.YtgchepkcjkhmmaaGreatDoor
/-- values by what has been told -/
structure ByV (V : Nat) (L : List (List Int)) (c vs : List Int) : Prop where
  vlen : vs.length = V + 1
  vok : ∀ x ∈ vs, x = -1 ∨ x = 0 ∨ x = 1
  imp : ∀ n, Lit V n → lv (va vs) n = 1 → Imp L c n
/-- amid the numbers of the clause that is asked of -/
structure ByA (V : Nat) (L : List (List Int)) (c vs : List Int) (i : Nat) : Prop extends ByV V L c vs where
  neg : ∀ n ∈ c.take i, lv (va vs) n = -1
def StC (vs x : List Int) : Prop := (∃ n ∈ x, lv (va vs) n = 1) ∨ ∃ n ∈ x, ∃ m ∈ x, n ≠ m ∧ lv (va vs) n = 0 ∧ lv (va vs) m = 0
/-- amid the clauses -/
structure ByB (V : Nat) (L : List (List Int)) (c vs : List Int) (k : Nat) (more : Bool) : Prop extends ByV V L c vs where
  neg : ∀ n ∈ c, lv (va vs) n = -1
  st : more = false → ∀ x ∈ L.take k, StC vs x
def zeros (vs : List Int) : Nat := vs.countP (· == 0)
section
variable {V : Nat} {L : List (List Int)} {c vs x : List Int} {i k : Nat} {a n : Int} {more : Bool}
theorem va_rep (V v : Nat) : va (List.replicate (V + 1) 0) v = 0 := by
  unfold va
  rw [List.getD_eq_getElem?_getD, List.getElem?_replicate]
  split <;> rfl
theorem ByA.start (V : Nat) (L : List (List Int)) (c : List Int) : ByA V L c (List.replicate (V + 1) 0) 0 where
  vlen := by simp
  vok x hx := .inr (.inl (List.eq_of_mem_replicate hx))
  imp n _ hv := by
    unfold lv at hv
    rw [va_rep] at hv
    split at hv <;> omega
  neg n hn := by simp at hn
theorem ByV.ok (h : ByV V L c vs) (n : Int) : lv (va vs) n = -1 ∨ lv (va vs) n = 0 ∨ lv (va vs) n = 1 := lv_ok (va_ok h.vok) n
theorem ByV.set_ (h : ByV V L c vs) (ha : Lit V a) (hi : Imp L c a) : ByV V L c (vs.set a.natAbs (sg a)) where
  vlen := by simpa using h.vlen
  vok x hx := by
    rcases List.mem_or_eq_of_mem_set hx with hx | hx
    · exact h.vok x hx
    · subst hx; unfold sg; split
      · exact .inl rfl
      · exact .inr (.inr rfl)
  imp n hn hv := by
    rw [lv_set h.vlen ha hn.1] at hv
    split at hv
    · rename_i e; rw [e]; exact hi
    · split at hv
      · omega
      · exact h.imp n hn hv
theorem take_in {l : List Int} {m : Int} (hx : l[i]? = some n) (hm : m ∈ l.take (i + 1)) : m ∈ l.take i ∨ m = n := by
  rw [List.take_add_one, hx] at hm
  simpa using hm
theorem sg_neg (h : n ≠ 0) : sg (-n) = if n < 0 then 1 else -1 := by
  unfold sg; split <;> split <;> omega
/-- a number of the clause is made false -/
theorem ByA.step (h : ByA V L c vs i) (hn : c[i]? = some n) (hl : Lit V n) (hv : lv (va vs) n ≠ 1) (hlit : ∀ m ∈ c, Lit V m) : ByA V L c (vs.set n.natAbs (sg (-n))) (i + 1) := by
  have hs := h.toByV.set_ (a := -n) hl.neg (imp_self (List.mem_of_getElem? hn) hl.1)
  rw [Int.natAbs_neg] at hs
  refine { toByV := hs, neg := fun m hm => ?_ }
  have e := lv_set (n := m) h.vlen hl.neg (hlit m (by
    rcases take_in hn hm with h1 | rfl
    · exact List.mem_of_mem_take h1
    · exact List.mem_of_getElem? hn)).1
  rw [Int.natAbs_neg] at e
  rw [e]
  rcases take_in hn hm with h1 | rfl
  · have h2 := h.neg m h1
    split
    · rename_i e; subst e; rw [lv_neg hl.1] at h2; omega
    · split
      · rfl
      · exact h2
  · rw [if_neg (by have := hl.1; omega), if_pos (by omega)]
theorem ByA.hit (h : ByA V L c vs i) (hn : c[i]? = some n) (hl : Lit V n) (hv : lv (va vs) n = 1) : Ref L c := ref_true (List.mem_of_getElem? hn) (h.imp n hl hv)
theorem ByA.toB (h : ByA V L c vs c.length) : ByB V L c vs 0 false := { toByV := h.toByV, neg := fun n hn => h.neg n (by rw [List.take_length]; exact hn), st := fun _ x hx => by simp at hx }
theorem ByB.again {k' : Nat} {m' : Bool} (h : ByB V L c vs k' m') : ByB V L c vs 0 false := { toByV := h.toByV, neg := h.neg, st := fun _ x hx => by simp at hx }
theorem take_cl {l : List (List Int)} {y : List Int} (hx : l[k]? = some x) (hm : y ∈ l.take (k + 1)) : y ∈ l.take k ∨ y = x := by
  rw [List.take_add_one, hx] at hm
  simpa using hm
theorem ByB.keep (h : ByB V L c vs k more) (hx : L[k]? = some x) (hs : StC vs x) : ByB V L c vs (k + 1) more :=
  { toByV := h.toByV, neg := h.neg, st := fun hm y hy => by
      rcases take_cl hx hy with hy | rfl
      · exact h.st hm y hy
      · exact hs }
theorem ByB.unit (h : ByB V L c vs k more) (hx : L[k]? = some x) (hlx : ∀ m ∈ x, Lit V m) (ha : a ∈ x) (h0 : lv (va vs) a = 0) (hall : ∀ m ∈ x, lv (va vs) m = -1 ∨ m = a) (hlit : ∀ m ∈ c, Lit V m) : ByB V L c (vs.set a.natAbs (sg a)) (k + 1) true := by
  have hi : Imp L c a := imp_unit (List.mem_of_getElem? hx) fun m hm hne => by
    have h1 := (hall m hm).resolve_right hne
    exact ⟨(hlx m hm).1, h.imp _ (hlx m hm).neg (by rw [lv_neg (hlx m hm).1, h1]; rfl)⟩
  refine { toByV := h.toByV.set_ (hlx a ha) hi, neg := fun m hm => ?_, st := fun e => by cases e }
  rw [lv_set h.vlen (hlx a ha) (hlit m hm).1]
  have h1 := h.neg m hm
  split
  · rename_i e; subst e; omega
  · split
    · rfl
    · exact h1
theorem ByB.conf (h : ByB V L c vs k more) (hx : L[k]? = some x) (hlx : ∀ m ∈ x, Lit V m) (hall : ∀ m ∈ x, lv (va vs) m = -1) : Ref L c :=
  ref_conf (List.mem_of_getElem? hx) fun m hm => ⟨(hlx m hm).1, h.imp _ (hlx m hm).neg (by rw [lv_neg (hlx m hm).1, hall m hm]; rfl)⟩
theorem ByB.no (h : ByB V L c vs L.length false) : ¬ Ref L c :=
  not_ref (va_ok h.vok) (fun x hx => h.st rfl x (by rw [List.take_length]; exact hx)) h.neg
theorem zeros_set (hl : vs.length = V + 1) (ha : Lit V a) (h0 : lv (va vs) a = 0) : zeros (vs.set a.natAbs (sg a)) + 1 = zeros vs := by
  have hlt : a.natAbs < vs.length := by have := ha.2; omega
  have hz : vs[a.natAbs] = 0 := by
    unfold lv va at h0
    rw [List.getD_eq_getElem?_getD, List.getElem?_eq_getElem hlt] at h0
    simp only [Option.getD_some] at h0
    split at h0 <;> omega
  have hs : sg a ≠ 0 := by unfold sg; split <;> omega
  unfold zeros
  have e1 : vs = vs.take a.natAbs ++ vs[a.natAbs] :: vs.drop (a.natAbs + 1) := by rw [List.getElem_cons_drop, List.take_append_drop]
  rw [List.set_eq_take_append_cons_drop, if_pos hlt]
  conv => rhs; rw [e1]
  rw [List.countP_append, List.countP_append, List.countP_cons, List.countP_cons, hz]
  simp [hs]
  omega
/-! ### a clause's numbers -/
/-- what the loop over a clause's numbers knows -/
def NmI (vs x : List Int) (k : Nat) (op last : Int) (hold : Bool) : Prop :=
  (hold = true ∧ ∃ n ∈ x, lv (va vs) n = 1) ∨ (hold = false ∧ (∀ n ∈ x.take k, lv (va vs) n ≠ 1) ∧
    ((op = 0 ∧ last = 0 ∧ ∀ n ∈ x.take k, lv (va vs) n = -1) ∨ (1 ≤ op ∧ op ≤ k ∧ last ∈ x ∧ lv (va vs) last = 0 ∧ ((op = 1 ∧ ∀ n ∈ x.take k, lv (va vs) n = -1 ∨ n = last) ∨ (2 ≤ op ∧ ∃ n ∈ x, ∃ m ∈ x, n ≠ m ∧ lv (va vs) n = 0 ∧ lv (va vs) m = 0)))))
theorem NmI.start (vs x : List Int) : NmI vs x 0 0 0 false := .inr ⟨rfl, fun n hn => by simp at hn, .inl ⟨rfl, rfl, fun n hn => by simp at hn⟩⟩
theorem NmI.hit {op last : Int} {op' last' : Int} (hx : x[k]? = some n) (hv : lv (va vs) n = 1) (_h : NmI vs x k op last false) : NmI vs x (k + 1) op' last' true := .inl ⟨rfl, n, List.mem_of_getElem? hx, hv⟩
theorem NmI.neg {op last : Int} (h : NmI vs x k op last false) (hx : x[k]? = some n) (hv : lv (va vs) n = -1) : NmI vs x (k + 1) op last false := by
  rcases h with ⟨h, _⟩ | ⟨_, h1, h2⟩
  · cases h
  · refine .inr ⟨rfl, fun m hm => ?_, ?_⟩
    · rcases take_in hx hm with hm | rfl
      · exact h1 m hm
      · omega
    · rcases h2 with ⟨e1, e2, h3⟩ | ⟨h3, h4, h5, h6, h7⟩
      · refine .inl ⟨e1, e2, fun m hm => ?_⟩
        rcases take_in hx hm with hm | rfl
        · exact h3 m hm
        · exact hv
      · refine .inr ⟨h3, by omega, h5, h6, ?_⟩
        rcases h7 with ⟨h8, h9⟩ | h8
        · refine .inl ⟨h8, fun m hm => ?_⟩
          rcases take_in hx hm with hm | rfl
          · exact h9 m hm
          · exact .inl hv
        · exact .inr h8
/-- an open number that is the last one again -/
theorem NmI.same {op last : Int} (h : NmI vs x k op last false) (hx : x[k]? = some n) (hn : n ≠ 0) (hv : lv (va vs) n = 0) (he : n = last) : NmI vs x (k + 1) op last false := by
  subst he
  rcases h with ⟨h, _⟩ | ⟨_, h1, h2⟩
  · cases h
  · refine .inr ⟨rfl, fun m hm => ?_, ?_⟩
    · rcases take_in hx hm with hm | rfl
      · exact h1 m hm
      · omega
    · rcases h2 with ⟨_, e2, _⟩ | ⟨h3, h4, h5, h6, h7⟩
      · exact absurd e2 hn
      · refine .inr ⟨h3, by omega, h5, h6, ?_⟩
        rcases h7 with ⟨h8, h9⟩ | h8
        · refine .inl ⟨h8, fun m hm => ?_⟩
          rcases take_in hx hm with hm | rfl
          · exact h9 m hm
          · exact .inr rfl
        · exact .inr h8
theorem NmI.other {op last : Int} (h : NmI vs x k op last false) (hx : x[k]? = some n) (hv : lv (va vs) n = 0) (he : n ≠ last) : NmI vs x (k + 1) (op + 1) n false := by
  have hnx := List.mem_of_getElem? hx
  rcases h with ⟨h, _⟩ | ⟨_, h1, h2⟩
  · cases h
  · refine .inr ⟨rfl, fun m hm => ?_, ?_⟩
    · rcases take_in hx hm with hm | rfl
      · exact h1 m hm
      · omega
    · rcases h2 with ⟨e1, e2, h3⟩ | ⟨h3, h4, h5, h6, h7⟩
      · refine .inr ⟨by omega, by omega, hnx, hv, .inl ⟨by omega, fun m hm => ?_⟩⟩
        rcases take_in hx hm with hm | rfl
        · exact .inl (h3 m hm)
        · exact .inr rfl
      · exact .inr ⟨by omega, by omega, hnx, hv, .inr ⟨by omega, n, hnx, last, h5, he, hv, h6⟩⟩
end
end Go.Proofs.YtgchepkcjkhmmaaGreatDoor
