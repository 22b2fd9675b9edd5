/-
  PLAIN: a checker that spreads: what holds between its rounds, and what each round turns. No program in sight.
-/
import Derived.Test.YtaedbnbeelkkcaaDoorUa
namespace Go.Proofs.YtaedbnbeelkkcaaDoor
/-- between the rounds over the watchers of n: kept and rest of them -/
structure SpJ (V : Nat) (L : List (List Int)) (c tr0 : List Int) (s0 s : St) (hd : Nat) (n : Int) (kept rest : List Nat) : Prop where
  si : SI V L s
  wtn : s.wt n = kept ++ rest
  wi : Wi s.xs (s.tr.take hd) s.tr
  kp : Kp kept s.xs n s.tr
  w0 : Wi s.xs tr0 tr0
  same : Same1 s0.xs s.xs
  xl : s.xs.length = s0.xs.length
  pre : ∃ new, s.tr = s0.tr ++ new
  t0 : ∃ new, s0.tr = tr0 ++ new
  imp : ∀ m ∈ s.tr, Imp L c m
  at_ : s.tr[hd]? = some (-n)
/-- between the rounds over the trail -/
structure SpI (V : Nat) (L : List (List Int)) (c tr0 : List Int) (s0 s : St) (hd : Nat) : Prop where
  si : SI V L s
  wi : Wi s.xs (s.tr.take hd) s.tr
  w0 : Wi s.xs tr0 tr0
  same : Same1 s0.xs s.xs
  xl : s.xs.length = s0.xs.length
  pre : ∃ new, s.tr = s0.tr ++ new
  t0 : ∃ new, s0.tr = tr0 ++ new
  imp : ∀ m ∈ s.tr, Imp L c m
section
variable {V : Nat} {L : List (List Int)} {c tr0 : List Int} {s0 s : St} {hd : Nat} {n : Int} {kept rest : List Nat} {k : Nat} {a b m : Int} {r : List Int}
theorem take_app {l : List Int} {x : Int} (h : hd ≤ l.length) : (l ++ [x]).take hd = l.take hd := by rw [List.take_append, show hd - l.length = 0 by omega, List.take_zero, List.append_nil]
theorem neg_neg_ (n : Int) : - -n = n := Int.neg_neg n
theorem SpJ.lit (h : SpJ V L c tr0 s0 s hd n kept rest) : Lit V n := by
  have := (h.si.trv _ (List.mem_of_getElem? h.at_)).1.neg
  rwa [neg_neg_] at this
theorem SpJ.mem (h : SpJ V L c tr0 s0 s hd n kept rest) : -n ∈ s.tr := List.mem_of_getElem? h.at_
theorem SpJ.val (h : SpJ V L c tr0 s0 s hd n kept rest) : lv (va s.vs) n = -1 := h.si.neg_val h.lit h.mem
theorem SI.not_both (h : SI V L s) (hn : Lit V n) (h1 : n ∈ s.tr) : -n ∉ s.tr := fun h2 => by
  have e1 := (h.trv _ h1).2
  have e2 := (h.trv _ h2).2
  rw [lv_neg hn.1] at e2
  omega
theorem SpJ.notin (h : SpJ V L c tr0 s0 s hd n kept rest) : n ∉ s.tr := fun h1 => h.si.not_both h.lit h1 h.mem
theorem SpJ.sub0 (h : SpJ V L c tr0 s0 s hd n kept rest) {x : Int} (hx : x ∈ tr0) : x ∈ s.tr := by
  obtain ⟨n1, e1⟩ := h.pre
  obtain ⟨n2, e2⟩ := h.t0
  rw [e1, e2]
  exact List.mem_append_left _ (List.mem_append_left _ hx)
theorem SpJ.knot (h : SpJ V L c tr0 s0 s hd n kept (k :: rest)) : k ∉ kept := fun hk => by
  have := h.si.wnd n
  rw [h.wtn] at this
  exact (List.nodup_append.1 this).2.2 k hk k (by simp) rfl
theorem SpJ.clause (h : SpJ V L c tr0 s0 s hd n kept (k :: rest)) : ∃ a b r, s.xs[k]? = some (a :: b :: r) ∧ (a = n ∨ b = n) :=
  (h.si.wiff n k).1 (by rw [h.wtn]; simp)
theorem SpJ.klt (h : SpJ V L c tr0 s0 s hd n kept (k :: rest)) : k < L.length := by
  obtain ⟨a, b, r, hx, _⟩ := h.clause
  have := (List.getElem?_eq_some_iff.1 hx).1
  rw [← h.si.xlen]; exact this
theorem set_len {xs : List (List Int)} {x : List Int} : (xs.set k x).length = xs.length := by simp
/-- the beginning of a round of the trail -/
theorem SpI.start (h : SpI V L c tr0 s0 s hd) (hn : s.tr[hd]? = some (-n)) : SpJ V L c tr0 s0 s hd n [] (s.wt n) :=
  ⟨h.si, rfl, h.wi, fun _ hk => (by cases hk), h.w0, h.same, h.xl, h.pre, h.t0, h.imp, hn⟩
/-- its end -/
theorem SpJ.stop (h : SpJ V L c tr0 s0 s hd n kept []) : SpI V L c tr0 s0 s (hd + 1) := by
  refine ⟨h.si, fun k a b r hx => ?_, h.w0, h.same, h.xl, h.pre, h.t0, h.imp⟩
  have hlt := (List.getElem?_eq_some_iff.1 h.at_).1
  have e : s.tr.take (hd + 1) = s.tr.take hd ++ [-n] := by
    rw [List.take_add_one, h.at_]; rfl
  have hin : ∀ x, x ∈ s.tr.take (hd + 1) → x ∈ s.tr.take hd ∨ x = -n := fun x hx => by
    rw [e] at hx
    simpa using hx
  have hw := h.wtn
  rw [List.append_nil] at hw
  refine ⟨fun hf => ?_, fun hf => ?_⟩
  · rcases hin _ hf with hf | hf
    · exact (h.wi k a b r hx).1 hf
    · have ea : a = n := by omega
      have hk : k ∈ kept := by rw [← hw]; exact (h.si.wiff n k).2 ⟨a, b, r, hx, .inl ea⟩
      exact (h.kp k hk a b r hx).1 ea
  · rcases hin _ hf with hf | hf
    · exact (h.wi k a b r hx).2 hf
    · have ea : b = n := by omega
      have hk : k ∈ kept := by rw [← hw]; exact (h.si.wiff n k).2 ⟨a, b, r, hx, .inr ea⟩
      exact (h.kp k hk a b r hx).2 ea
/-- the first two change places -/
theorem SpJ.swap (h : SpJ V L c tr0 s0 s hd n kept (k :: rest)) (hx : s.xs[k]? = some (a :: b :: r)) : SpJ V L c tr0 s0 { s with xs := s.xs.set k (b :: a :: r) } hd n kept (k :: rest) :=
  ⟨h.si.swap hx, h.wtn, h.wi.swap hx, h.kp.set_ h.knot, h.w0.swap hx, h.same.trans (Same1.set_ (by simp)), by simpa using h.xl, h.pre, h.t0, h.imp, h.at_⟩
/-- a clause that holds is kept -/
theorem SpJ.hold (h : SpJ V L c tr0 s0 s hd n kept (k :: rest)) (hx : s.xs[k]? = some (a :: n :: r)) (ha : lv (va s.vs) a = 1) : SpJ V L c tr0 s0 s hd n (kept ++ [k]) rest := by
  have hla : Lit V a := h.si.xlit _ (List.mem_of_getElem? hx) a (by simp)
  have hne : a ≠ n := fun e => by subst e; have := h.val; omega
  exact ⟨h.si, by rw [h.wtn]; simp, h.wi, h.kp.snoc hx (h.si.trs a hla ha) hne, h.w0, h.same, h.xl, h.pre, h.t0, h.imp, h.at_⟩
/-- another number is watched -/
theorem SpJ.move {j : Nat} (h : SpJ V L c tr0 s0 s hd n kept (k :: rest)) (hx : s.xs[k]? = some (a :: n :: r)) (hj : r[j]? = some m) (hm : lv (va s.vs) m ≠ -1) :
    SpJ V L c tr0 s0 { s with xs := s.xs.set k (a :: m :: r.set j n), wt := upd (upd s.wt n (kept ++ rest)) m (s.wt m ++ [k]) } hd n kept rest := by
  have hmr : m ∈ r := List.mem_of_getElem? hj
  have hlm : Lit V m := h.si.xlit _ (List.mem_of_getElem? hx) m (by simp [hmr])
  have hmn : n ≠ m := fun e => by subst e; exact hm h.val
  have hmt : -m ∉ s.tr := fun ht => hm (h.si.neg_val hlm ht)
  refine ⟨h.si.move hx hj h.wtn, ?_, h.wi.move hx h.notin (fun ht => hmt (List.mem_of_mem_take ht)), h.kp.set_ h.knot, h.w0.move hx (fun ht => h.notin (h.sub0 ht)) (fun ht => hmt (h.sub0 ht)),
    h.same.trans (Same1.set_ (by simp)), by simpa using h.xl, h.pre, h.t0, h.imp, h.at_⟩
  show upd (upd s.wt n (kept ++ rest)) m (s.wt m ++ [k]) n = _
  rw [upd_other hmn, upd_same]
theorem SpJ.rest_false (h : SpJ V L c tr0 s0 s hd n kept (k :: rest)) (hx : s.xs[k]? = some (a :: n :: r)) (hr : ∀ y ∈ r, lv (va s.vs) y = -1) {y : Int} (hy : y ∈ n :: r) : y ≠ 0 ∧ Imp L c (-y) := by
  have hly : Lit V y := h.si.xlit _ (List.mem_of_getElem? hx) y (List.mem_cons_of_mem _ hy)
  have hv : lv (va s.vs) y = -1 := by
    rcases List.mem_cons.1 hy with e | hy
    · rw [e]; exact h.val
    · exact hr y hy
  exact ⟨hly.1, h.imp _ (h.si.val_neg hly hv)⟩
/-- no number is left: it does not hold -/
theorem SpJ.conflict (h : SpJ V L c tr0 s0 s hd n kept (k :: rest)) (hx : s.xs[k]? = some (a :: n :: r)) (hr : ∀ y ∈ r, lv (va s.vs) y = -1) (ha : lv (va s.vs) a = -1) : Ref L c := by
  obtain ⟨l, _, hl, hm⟩ := h.si.clause hx
  refine ref_conf hl fun y hy => ?_
  rcases List.mem_cons.1 ((hm y).2 hy) with e | hy'
  · subst e
    have hla : Lit V y := h.si.xlit _ (List.mem_of_getElem? hx) y (by simp)
    exact ⟨hla.1, h.imp _ (h.si.val_neg hla ha)⟩
  · exact h.rest_false hx hr hy'
/-- one is left: it is set -/
theorem SpJ.unit (h : SpJ V L c tr0 s0 s hd n kept (k :: rest)) (hx : s.xs[k]? = some (a :: n :: r)) (hr : ∀ y ∈ r, lv (va s.vs) y = -1) (ha : lv (va s.vs) a = 0) :
    Lit V a ∧ SpJ V L c tr0 s0 { s with vs := s.vs.set a.natAbs (sg a), tr := s.tr ++ [a] } hd n (kept ++ [k]) rest := by
  have hla : Lit V a := h.si.xlit _ (List.mem_of_getElem? hx) a (by simp)
  have hlt := (List.getElem?_eq_some_iff.1 h.at_).1
  have hne : a ≠ n := fun e => by subst e; have := h.val; omega
  obtain ⟨l, _, hl, hm⟩ := h.si.clause hx
  have hi : Imp L c a := imp_unit hl fun y hy hya => by
    rcases List.mem_cons.1 ((hm y).2 hy) with e | hy'
    · exact absurd e hya
    · exact h.rest_false hx hr hy'
  refine ⟨hla, h.si.set_ hla ha, by rw [show ({ s with vs := s.vs.set a.natAbs (sg a), tr := s.tr ++ [a] } : St).wt n = s.wt n from rfl, h.wtn]; simp, ?_, ?_, h.w0, h.same, h.xl, ?_, h.t0, ?_, ?_⟩
  · show Wi s.xs ((s.tr ++ [a]).take hd) (s.tr ++ [a])
    rw [take_app (by omega)]
    exact h.wi.mono fun x hx => List.mem_append_left _ hx
  · exact (h.kp.mono fun x hx => List.mem_append_left _ hx).snoc hx (by simp) hne
  · obtain ⟨new, e⟩ := h.pre
    exact ⟨new ++ [a], by show s.tr ++ [a] = _; rw [e, List.append_assoc]⟩
  · intro y hy
    rcases List.mem_append.1 hy with hy | hy
    · exact h.imp y hy
    · obtain rfl : y = a := by simpa using hy
      exact hi
  · show (s.tr ++ [a])[hd]? = _
    rw [List.getElem?_append_left hlt]; exact h.at_
/-- all is spread -/
theorem SpI.all (h : SpI V L c tr0 s0 s hd) (hh : s.tr.length ≤ hd) : Wi s.xs s.tr s.tr := by
  have := h.wi
  rwa [List.take_of_length_le hh] at this
end
end Go.Proofs.YtaedbnbeelkkcaaDoor
