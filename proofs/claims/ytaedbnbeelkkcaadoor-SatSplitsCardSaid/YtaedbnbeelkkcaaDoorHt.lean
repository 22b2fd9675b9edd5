/-
  A WALK OF A REGION THAT DRAWS, as a TREE: where two that are carried out may come up (a maker beside a chain of others), each of both is walked on by itself. Else as Hq.
-/
import Derived.Test.YtaedbnbeelkkcaaDoorHq
namespace Go.Proofs.YtaedbnbeelkkcaaDoor
section
variable {P : Program} {ops : Array Oper} {md : Region.Mode} {S : World → Prop} {Q : Exit → Act → World → Prop}
inductive Tr where
  | nil
  | f (i : Nat) (r : Tr)
  | t (i : Nat) (r : Tr)
  | br (i : Nat) (r : Tr) (j : Nat) (s : Tr)
def Tr.cost : Tr → Nat
  | .nil => 0
  | .f _ r => r.cost + 1
  | .t _ r => r.cost + 1
  | .br _ r _ _ => r.cost + 1
def Tr.isNil : Tr → Bool
  | .nil => true
  | _ => false
def okTr (md : Region.Mode) (ops : Array Oper) (n : Nat) : Tr → Array Bool → Bool
  | .nil, l => (Region.ready md ops l).isEmpty
  | .f i r, l => waits md ops n i && Region.free md ops l i && (Region.ready md ops l).contains i && okTr md ops n r (l.setIfInBounds i true)
  | .t i r, l => Region.ready md ops l == [i] && (i != n || r.isNil) && okTr md ops n r (l.setIfInBounds i true)
  | .br i r j s, l => Region.ready md ops l == [i, j] && i != n && j != n && r.cost == s.cost && okTr md ops n r (l.setIfInBounds i true) && okTr md ops n s (l.setIfInBounds j true)
def wpTr (P : Program) (ops : Array Oper) (n : Nat) (S : World → Prop) (Q : Exit → Act → World → Prop) : Tr → Act → World → Prop
  | .nil, a, w => Q .normal a w
  | .f i r, a, w => ∃ oi v, ops[i]? = some oi ∧ YieldsC P ops S oi v a ∧ wpTr P ops n S Q r (a.put oi.dst v) w
  | .t i r, a, w => wpOp P ops Q i (fun a' w' => (i = n ∨ S w') ∧ wpTr P ops n S Q r a' w') a w
  | .br i r j s, a, w => wpOp P ops Q i (fun a' w' => (i = n ∨ S w') ∧ wpTr P ops n S Q r a' w') a w ∧ wpOp P ops Q j (fun a' w' => (j = n ∨ S w') ∧ wpTr P ops n S Q s a' w') a w
theorem wpAnyC_tr {n : Nat} (hsel : Region.noSelect ops = true) (hQ : ∀ c (a : Act) d v w, Q (.panic c) (a.put d v) w → Q (.panic c) a w) :
    ∀ (l : Tr) (listed : Array Bool) (a : Act) (w : World), okTr md ops n l listed = true → S w → wpTr P ops n S Q l a w → wpAnyC P md ops n Q S l.cost listed a w
  | .nil, listed, a, w, hok, _, h => by
    have h1 : Region.ready md ops listed = [] := by simpa [okTr] using hok
    exact ⟨h1, h⟩
  | .f i r, listed, a, w, hok, hS, h => by
    simp only [okTr, Bool.and_eq_true] at hok
    obtain ⟨oi, v, ho, hy, h⟩ := h
    exact wpAnyC_first ho hok.1.1.1 (Region.noSelect_spec hsel) (fun c a w => hQ c a _ _ w) _ _ _ _ (Region.free_spec ho hok.1.1.2) (by simpa using hok.1.2) hy hS (wpAnyC_tr hsel hQ r _ _ _ hok.2 hS h)
  | .t i r, listed, a, w, hok, hS, h => by
    simp only [okTr, Bool.and_eq_true, beq_iff_eq, Bool.or_eq_true, bne_iff_ne] at hok
    refine ⟨fun h => (by rw [h] at hok; cases hok.1.1), fun j hj => ?_⟩
    rw [hok.1.1] at hj
    obtain rfl := List.mem_singleton.1 hj
    refine wpOp_mono (fun a' w' h' => ⟨h'.1, ?_⟩) h
    cases r with
    | nil =>
      have h1 : Region.ready md ops (listed.setIfInBounds j true) = [] := by simpa [okTr] using hok.2
      exact ⟨h1, h'.2⟩
    | f i r =>
      have hne : j ≠ n := hok.1.2.resolve_right (by simp [Tr.isNil])
      exact wpAnyC_tr hsel hQ _ _ _ _ hok.2 (h'.1.resolve_left hne) h'.2
    | t i r =>
      have hne : j ≠ n := hok.1.2.resolve_right (by simp [Tr.isNil])
      exact wpAnyC_tr hsel hQ _ _ _ _ hok.2 (h'.1.resolve_left hne) h'.2
    | br i r k s =>
      have hne : j ≠ n := hok.1.2.resolve_right (by simp [Tr.isNil])
      exact wpAnyC_tr hsel hQ _ _ _ _ hok.2 (h'.1.resolve_left hne) h'.2
  | .br i r j s, listed, a, w, hok, hS, h => by
    simp only [okTr, Bool.and_eq_true, beq_iff_eq, bne_iff_ne] at hok
    obtain ⟨⟨⟨⟨⟨h0, hi⟩, hj⟩, hc⟩, hr⟩, hs⟩ := hok
    refine ⟨fun h => (by rw [h] at h0; cases h0), fun x hx => ?_⟩
    rw [h0] at hx
    simp only [List.mem_cons, List.not_mem_nil, or_false] at hx
    rcases hx with rfl | rfl
    · exact wpOp_mono (fun a' w' h' => ⟨h'.1, wpAnyC_tr hsel hQ r _ _ _ hr (h'.1.resolve_left hi) h'.2⟩) h.1
    · refine wpOp_mono (fun a' w' h' => ⟨h'.1, ?_⟩) h.2
      have := wpAnyC_tr hsel hQ s _ _ _ hs (h'.1.resolve_left hj) h'.2
      rw [← hc] at this
      exact this
theorem wp_region_tr {id : Nat} {a : Act} {w : World} (n : Nat) (l : Tr) (hm : P.follows .mixedOrders = true) (hsel : Region.noSelect ops = true) (hok : (okTr .any ops n l (Array.replicate ops.size false) && l.cost == ops.size) = true)
    (hS : S w.drew) (h : wpTr P ops n S (NoPanic Q) l a w.drew) : (Code.region id ops true).wp P Q a w := by
  simp only [Bool.and_eq_true, beq_iff_eq] at hok
  have := wpAnyC_tr hsel (fun _ _ _ _ _ h => h) l _ a _ hok.1 hS h
  rw [hok.2] at this
  exact wp_region_noPanic (wp_region_any hm (wpAnyC_any _ _ _ _ this))
theorem tr_take {n i : Nat} {r : Tr} {a : Act} {w : World} (oi : Oper) (v : Value) (ho : ops[i]? = some oi) (hw : Region.wanted oi (yielded ops a.tmps) = true)
    (hy : ∀ w, S w → (execOp a.eval oi).run P w = .ok (.value v) w) (h : wpTr P ops n S Q r (a.put oi.dst v) w) : wpTr P ops n S Q (.f i r) a w := ⟨oi, v, ho, .inl (.inl ⟨hw, hy⟩), h⟩
theorem tr_quiet {n i : Nat} {r : Tr} {a : Act} {w : World} (oi : Oper) (v : Value) (f : FuncId) (args : Array Value) (ho : ops[i]? = some oi) (hw : Region.wanted oi (yielded ops a.tmps) = true)
    (hy : ∀ w, S w → (execOp a.eval oi).run P w = .ok (.enter f args) w) (hc : ∀ w, S w → Calls P f args w fun e w' => e = .returned v ∧ w = w') (h : wpTr P ops n S Q r (a.put oi.dst v) w) :
    wpTr P ops n S Q (.f i r) a w := ⟨oi, v, ho, .inr ⟨hw, f, args, fun w hS => ⟨hy w hS, hc w hS⟩⟩, h⟩
theorem tr_act {n i : Nat} {r : Tr} {a : Act} {w : World} (oi : Oper) (ho : ops[i]? = some oi)
    (h : ∀ K : Act → World → Prop, (∀ a w, (i = n ∨ S w) → wpTr P ops n S Q r a w → K a w) → if Region.wanted oi (yielded ops a.tmps) = true then Oper.wp P oi a w K Q else K (a.put oi.dst undef) w) : wpTr P ops n S Q (.t i r) a w := by
  show wpOp P ops Q i _ a w
  exact wpOp_step ho fun K' hK => h K' fun a w hS hs => hK a w ⟨hS, hs⟩
theorem tr_br {n i j : Nat} {r s : Tr} {a : Act} {w : World} (oi oj : Oper) (ho : ops[i]? = some oi) (hj : ops[j]? = some oj)
    (h : ∀ K : Act → World → Prop, (∀ a w, (i = n ∨ S w) → wpTr P ops n S Q r a w → K a w) → if Region.wanted oi (yielded ops a.tmps) = true then Oper.wp P oi a w K Q else K (a.put oi.dst undef) w)
    (h' : ∀ K : Act → World → Prop, (∀ a w, (j = n ∨ S w) → wpTr P ops n S Q s a w → K a w) → if Region.wanted oj (yielded ops a.tmps) = true then Oper.wp P oj a w K Q else K (a.put oj.dst undef) w) : wpTr P ops n S Q (.br i r j s) a w :=
  ⟨wpOp_step ho fun K' hK => h K' fun a w hS hs => hK a w ⟨hS, hs⟩, wpOp_step hj fun K' hK => h' K' fun a w hS hs => hK a w ⟨hS, hs⟩⟩
theorem tr_nil {n : Nat} {a : Act} {w : World} (h : Q .normal a w) : wpTr P ops n S (NoPanic Q) .nil a w := NoPanic.normal h
end
end Go.Proofs.YtaedbnbeelkkcaaDoor
