/-
  A WALK OF A REGION THAT DRAWS, in an order that is written out, WITH QUIET CALLS: a call whose callee leaves the world as it is, and returns the same in every world that meets S, comes up where the walk has it, as what yields does (Hs).
-/
import Derived.Test.YtaedbnbeelkkcaaDoorHs
namespace Go.Proofs.YtaedbnbeelkkcaaDoor
section
variable {P : Program} {ops : Array Oper} {md : Region.Mode} {S : World → Prop} {Q : Exit → Act → World → Prop}
/-- it yields v, or it calls what returns v and leaves the world -/
def YieldsC (P : Program) (ops : Array Oper) (S : World → Prop) (o : Oper) (v : Value) (a : Act) : Prop :=
  YieldsIf P ops S o v a ∨ (Region.wanted o (yielded ops a.tmps) = true ∧ ∃ f args, ∀ w, S w → (execOp a.eval o).run P w = .ok (.enter f args) w ∧ Calls P f args w fun e w' => e = .returned v ∧ w = w')
theorem YieldsC.weak {o : Oper} {v : Value} {a : Act} (h : YieldsC P ops S o v a) : YieldsIf P ops (fun _ => False) o v a := by
  rcases h with h | ⟨h, _⟩
  · exact h.imp (fun ⟨h1, _⟩ => ⟨h1, fun _ h => h.elim⟩) id
  · exact .inl ⟨h, fun _ h => h.elim⟩
theorem YieldsC.same {o : Oper} {v : Value} {a a' : Act} (h : YieldsC P ops S o v a) (he : execOp a'.eval o = execOp a.eval o)
    (hw : Region.wanted o (yielded ops a'.tmps) = Region.wanted o (yielded ops a.tmps)) : YieldsC P ops S o v a' := by
  unfold YieldsC YieldsIf at *
  rw [he, hw]; exact h
theorem YieldsC.wpOp {i : Nat} {o : Oper} {v : Value} {a : Act} (hi : ops[i]? = some o) (hy : YieldsC P ops S o v a) {K : Act → World → Prop} {w : World} (hS : S w) (h : K (a.put o.dst v) w) : wpOp P ops Q i K a w := by
  rcases hy with hy | ⟨hw, f, args, hc⟩
  · exact hy.wpOp hi hS h
  · obtain ⟨h1, h2⟩ := hc w hS
    unfold Go.wpOp
    simp only [hi, hw, if_true]
    refine .inl ?_
    unfold Oper.wp
    rw [h1, Oper.upon_enter]
    refine h2.mono ?_
    rintro e w' ⟨rfl, rfl⟩
    exact h
theorem wpOp_keepZ {Z : Act → Prop} {j : Nat} {oj : Oper} (hj : ops[j]? = some oj) (hz : ∀ a u, Z a → Z (a.put oj.dst u)) (hd : ∀ (a : Act) d, Z a → Z { a with defers := d :: a.defers })
    {K : Act → World → Prop} {a : Act} {w : World} (ha : Z a) (h : wpOp P ops Q j K a w) : wpOp P ops Q j (fun a' w' => Z a' ∧ K a' w') a w := by
  unfold Go.wpOp at *
  simp only [hj] at *
  by_cases hw : Region.wanted oj (yielded ops a.tmps) = true
  · simp only [hw, if_true] at h ⊢
    refine h.imp (fun h => ?_) id
    unfold Oper.wp at *
    generalize (execOp a.eval oj).run P w = r at *
    cases r with
    | ok n w' =>
      cases n with
      | value u => exact ⟨hz _ _ ha, h⟩
      | skip => exact ⟨hz _ _ ha, h⟩
      | defer d => exact ⟨hz _ _ (hd _ d ha), h⟩
      | enter f args =>
        refine Calls.mono h fun e w'' he => ?_
        cases e with
        | returned u => exact ⟨hz _ _ ha, he⟩
        | panicked c => exact he
        | outgrown => exact he
      | row row args => exact Rows.mono h fun u w'' he => ⟨hz _ _ ha, he⟩
      | _ => exact h
    | halt x w' => cases x <;> exact h
  · simp only [hw, Bool.false_eq_true, if_false] at h ⊢
    exact ⟨hz _ _ ha, h⟩
theorem wpOp_putC {j : Nat} {oi oj : Oper} {v : Value} (hj : ops[j]? = some oj) (hap : oi.apart ops oj = true) (hsi : ∀ cs b, oi.op ≠ .select cs b) (hsj : ∀ cs b, oj.op ≠ .select cs b)
    (hQ : ∀ c a w, Q (.panic c) (a.put oi.dst v) w → Q (.panic c) a w) {K : Act → World → Prop} {a : Act} {w : World} (hy : YieldsC P ops S oi v a) (h : wpOp P ops Q j K (a.put oi.dst v) w) :
    wpOp P ops Q j (fun a' w' => YieldsC P ops S oi v a' ∧ K (a'.put oi.dst v) w') a w := by
  have h3 := (Oper.apart_spec hap).2.2
  have h1 := wpOp_putIf hj hap hsi hsj hQ hy.weak h
  exact wpOp_mono (fun a' w' h => ⟨h.1, h.2.2⟩) (wpOp_keepZ (Z := YieldsC P ops S oi v) hj (fun a u hy => hy.same (execOp_put oi hsi a oj.dst u h3) (wanted_put oi a oj.dst u h3)) (fun a d hy => hy.same rfl rfl) hy h1)
/-- whatever order is picked, S holding behind what is carried out, but for number n -/
def wpAnyC (P : Program) (md : Region.Mode) (ops : Array Oper) (n : Nat) (Q : Exit → Act → World → Prop) (S : World → Prop) : Nat → Array Bool → Act → World → Prop
  | 0, listed, a, w => Region.ready md ops listed = [] ∧ Q .normal a w
  | fuel + 1, listed, a, w => (Region.ready md ops listed = [] → Q .normal a w) ∧
    ∀ i ∈ Region.ready md ops listed, wpOp P ops Q i (fun a' w' => (i = n ∨ S w') ∧ wpAnyC P md ops n Q S fuel (listed.setIfInBounds i true) a' w') a w
theorem wpAnyC_any {n : Nat} : ∀ (fuel : Nat) (listed : Array Bool) (a : Act) (w : World), wpAnyC P md ops n Q S fuel listed a w → wpAny P md ops Q fuel listed a w
  | 0, _, _, _, h => h
  | fuel + 1, _, _, _, h => ⟨h.1, fun i hi => wpOp_mono (fun a' w' h' => wpAnyC_any fuel _ a' w' h'.2) (h.2 i hi)⟩
/-- does number n wait for number i? -/
def waits (md : Region.Mode) (ops : Array Oper) (n i : Nat) : Bool := match ops[n]? with
  | some o => o.after.any fun e => Region.binds md e && e.on == i
  | none => true
theorem ready_on {i j : Nat} {oj : Oper} {listed : Array Bool} (hj : j ∈ Region.ready md ops listed) (hi : i ∈ Region.ready md ops listed) (hoj : ops[j]? = some oj) : ∀ e ∈ oj.after, Region.binds md e = true → e.on ≠ i := by
  obtain ⟨_, o, ho, hall⟩ := mem_ready.1 hj
  obtain rfl : o = oj := by rw [ho] at hoj; injection hoj
  intro e he hb heq
  have h1 := hall e he hb
  have h0 := (mem_ready.1 hi).1
  rw [heq] at h1
  rcases Nat.lt_or_ge i listed.size with h' | h'
  · simp [h'] at h0 h1; rw [h0] at h1; cases h1
  · simp [Array.getElem?_eq_none h'] at h1
theorem waits_ne {n i j : Nat} {listed : Array Bool} (hw : waits md ops n i = true) (hj : j ∈ Region.ready md ops listed) (hi : i ∈ Region.ready md ops listed) : j ≠ n := by
  rintro rfl
  obtain ⟨_, oj, hoj, _⟩ := mem_ready.1 hj
  unfold waits at hw
  rw [hoj] at hw
  simp only [Array.any_eq_true', Bool.and_eq_true, beq_iff_eq] at hw
  obtain ⟨e, he, hb, ho⟩ := hw
  exact ready_on hj hi hoj e he hb ho
theorem wpAnyC_first {n i : Nat} {oi : Oper} {v : Value} (hi : ops[i]? = some oi) (hw : waits md ops n i = true) (hsel : ∀ (j : Nat) (o : Oper) cs b, ops[j]? = some o → o.op ≠ .select cs b)
    (hQ : ∀ c a w, Q (.panic c) (a.put oi.dst v) w → Q (.panic c) a w) : ∀ (fuel : Nat) (listed : Array Bool) (a : Act) (w : World),
      (∀ j oj, ops[j]? = some oj → j ≠ i → listed.getD j true = false → (∀ e ∈ oj.after, Region.binds md e = true → e.on ≠ i) → oi.apart ops oj = true) →
      i ∈ Region.ready md ops listed → YieldsC P ops S oi v a → S w → wpAnyC P md ops n Q S fuel (listed.setIfInBounds i true) (a.put oi.dst v) w → wpAnyC P md ops n Q S (fuel + 1) listed a w
  | 0, listed, a, w, _, hr, hy, hS, H => by
    refine ⟨fun h => (by rw [h] at hr; cases hr), fun j hj => ?_⟩
    rcases Nat.decEq j i with hji | rfl
    · have h := ready_mono hj hji
      rw [H.1] at h; cases h
    · exact hy.wpOp hi hS ⟨.inr hS, H⟩
  | fuel + 1, listed, a, w, hfree, hr, hy, hS, H => by
    refine ⟨fun h => (by rw [h] at hr; cases hr), fun j hj => ?_⟩
    rcases Nat.decEq j i with hji | rfl
    · obtain ⟨hjun, oj, hoj, hall⟩ := mem_ready.1 hj
      have h2 := wpOp_putC hoj (hfree j oj hoj hji hjun (ready_on hj hr hoj)) (fun cs b => hsel i oi cs b hi) (fun cs b => hsel j oj cs b hoj) hQ hy (H.2 j (ready_mono hj hji))
      refine wpOp_mono (fun a' w' h3 => ?_) h2
      have hS' := h3.2.1.resolve_left (waits_ne hw hj hr)
      refine ⟨.inr hS', wpAnyC_first hi hw hsel hQ fuel _ a' w' (fun k ok hk hki hun hno => ?_) (ready_mono hr (Ne.symm hji)) h3.1 hS' ?_⟩
      · refine hfree k ok hk hki ?_ hno
        by_cases hjk : j = k
        · subst hjk; exact hjun
        · rw [getD_set_ne true hjk] at hun; exact hun
      · rw [Array.setIfInBounds_comm _ _ hji]; exact h3.2.2
    · exact hy.wpOp hi hS ⟨.inr hS, H⟩
/-- a walk's moves: one that yields or is a quiet call (f), one that is carried out (t), three that are carried out in whatever order -/
inductive Mv where
  | f (i : Nat)
  | t (i : Nat)
  | all (i j k : Nat)
def Mv.cost : Mv → Nat
  | .all .. => 3
  | _ => 1
def costs : List Mv → Nat
  | [] => 0
  | m :: r => costs r + m.cost
def okMv (md : Region.Mode) (ops : Array Oper) (n : Nat) : List Mv → Array Bool → Bool
  | [], l => (Region.ready md ops l).isEmpty
  | .f i :: r, l => waits md ops n i && Region.free md ops l i && (Region.ready md ops l).contains i && okMv md ops n r (l.setIfInBounds i true)
  | .t i :: r, l => Region.ready md ops l == [i] && (i != n || r.isEmpty) && okMv md ops n r (l.setIfInBounds i true)
  | .all i j k :: r, l => Region.ready md ops l == [i, j, k] && Region.ready md ops (l.setIfInBounds i true) == [j, k] && Region.ready md ops (l.setIfInBounds j true) == [i, k] && Region.ready md ops (l.setIfInBounds k true) == [i, j]
      && Region.ready md ops ((l.setIfInBounds i true).setIfInBounds j true) == [k] && Region.ready md ops ((l.setIfInBounds i true).setIfInBounds k true) == [j]
      && Region.ready md ops ((l.setIfInBounds j true).setIfInBounds i true) == [k] && Region.ready md ops ((l.setIfInBounds j true).setIfInBounds k true) == [i]
      && Region.ready md ops ((l.setIfInBounds k true).setIfInBounds i true) == [j] && Region.ready md ops ((l.setIfInBounds k true).setIfInBounds j true) == [i]
      && i != j && i != k && j != k
      && okMv md ops n r (((l.setIfInBounds i true).setIfInBounds j true).setIfInBounds k true)
/-- one carried out, S behind it -/
def wpS (P : Program) (ops : Array Oper) (S : World → Prop) (Q : Exit → Act → World → Prop) (i : Nat) (K : Act → World → Prop) (a : Act) (w : World) : Prop := wpOp P ops Q i (fun a w => S w ∧ K a w) a w
def wpTwo (P : Program) (ops : Array Oper) (S : World → Prop) (Q : Exit → Act → World → Prop) (i j : Nat) (K : Act → World → Prop) (a : Act) (w : World) : Prop := wpS P ops S Q i (wpS P ops S Q j K) a w ∧ wpS P ops S Q j (wpS P ops S Q i K) a w
def wpMv (P : Program) (ops : Array Oper) (n : Nat) (S : World → Prop) (Q : Exit → Act → World → Prop) : List Mv → Act → World → Prop
  | [], a, w => Q .normal a w
  | .f i :: r, a, w => ∃ oi v, ops[i]? = some oi ∧ YieldsC P ops S oi v a ∧ wpMv P ops n S Q r (a.put oi.dst v) w
  | .t i :: r, a, w => wpOp P ops Q i (fun a' w' => (i = n ∨ S w') ∧ wpMv P ops n S Q r a' w') a w
  | .all i j k :: r, a, w => wpS P ops S Q i (wpTwo P ops S Q j k (wpMv P ops n S Q r)) a w ∧ wpS P ops S Q j (wpTwo P ops S Q i k (wpMv P ops n S Q r)) a w ∧ wpS P ops S Q k (wpTwo P ops S Q i j (wpMv P ops n S Q r)) a w
/-- the last of a set -/
theorem anyC_one {n i : Nat} {fuel : Nat} {listed : Array Bool} {a : Act} {w : World} (hr : Region.ready md ops listed = [i]) (h : wpS P ops S Q i (fun a w => S w → wpAnyC P md ops n Q S fuel (listed.setIfInBounds i true) a w) a w) :
    wpAnyC P md ops n Q S (fuel + 1) listed a w := by
  refine ⟨fun h => (by rw [h] at hr; cases hr), fun j hj => ?_⟩
  rw [hr] at hj
  obtain rfl := List.mem_singleton.1 hj
  exact wpOp_mono (fun a' w' h' => ⟨.inr h'.1, h'.2 h'.1⟩) h
theorem anyC_two {n i j : Nat} {fuel : Nat} {listed : Array Bool} {a : Act} {w : World} (hij : i ≠ j) (hr : Region.ready md ops listed = [i, j]) (h1 : Region.ready md ops (listed.setIfInBounds i true) = [j]) (h2 : Region.ready md ops (listed.setIfInBounds j true) = [i])
    (h : wpTwo P ops S Q i j (fun a w => S w → wpAnyC P md ops n Q S fuel ((listed.setIfInBounds i true).setIfInBounds j true) a w) a w) : wpAnyC P md ops n Q S (fuel + 2) listed a w := by
  refine ⟨fun h => (by rw [h] at hr; cases hr), fun x hx => ?_⟩
  rw [hr] at hx
  simp only [List.mem_cons, List.not_mem_nil, or_false] at hx
  rcases hx with rfl | rfl
  · exact wpOp_mono (fun a' w' h' => ⟨.inr h'.1, anyC_one h1 h'.2⟩) h.1
  · exact wpOp_mono (fun a' w' h' => ⟨.inr h'.1, anyC_one h2 (by rw [Array.setIfInBounds_comm _ _ hij.symm]; exact h'.2)⟩) h.2
theorem wpS_mono {i : Nat} {a : Act} {w : World} {K K' : Act → World → Prop} (h : ∀ a w, K a w → K' a w) (hh : wpS P ops S Q i K a w) : wpS P ops S Q i K' a w := wpOp_mono (fun a w h' => ⟨h'.1, h a w h'.2⟩) hh
theorem wpTwo_mono {i j : Nat} {a : Act} {w : World} {K K' : Act → World → Prop} (h : ∀ a w, K a w → K' a w) (hh : wpTwo P ops S Q i j K a w) : wpTwo P ops S Q i j K' a w := ⟨wpS_mono (fun _ _ => wpS_mono h) hh.1, wpS_mono (fun _ _ => wpS_mono h) hh.2⟩
theorem wpAnyC_mv {n : Nat} (hsel : Region.noSelect ops = true) (hQ : ∀ c (a : Act) d v w, Q (.panic c) (a.put d v) w → Q (.panic c) a w) :
    ∀ (l : List Mv) (listed : Array Bool) (a : Act) (w : World), okMv md ops n l listed = true → S w → wpMv P ops n S Q l a w → wpAnyC P md ops n Q S (costs l) listed a w
  | [], listed, a, w, hok, _, h => by
    have h1 : Region.ready md ops listed = [] := by simpa [okMv] using hok
    exact ⟨h1, h⟩
  | .f i :: r, listed, a, w, hok, hS, h => by
    simp only [okMv, Bool.and_eq_true] at hok
    obtain ⟨oi, v, ho, hy, h⟩ := h
    exact wpAnyC_first ho hok.1.1.1 (Region.noSelect_spec hsel) (fun c a w => hQ c a _ _ w) _ _ _ _ (Region.free_spec ho hok.1.1.2) (by simpa using hok.1.2) hy hS (wpAnyC_mv hsel hQ r _ _ _ hok.2 hS h)
  | .t i :: r, listed, a, w, hok, hS, h => by
    simp only [okMv, Bool.and_eq_true, beq_iff_eq, Bool.or_eq_true, bne_iff_ne] at hok
    refine ⟨fun h => (by rw [h] at hok; cases hok.1.1), fun j hj => ?_⟩
    rw [hok.1.1] at hj
    obtain rfl := List.mem_singleton.1 hj
    refine wpOp_mono (fun a' w' h' => ⟨h'.1, ?_⟩) h
    by_cases hr : r = []
    · subst hr
      have h1 : Region.ready md ops (listed.setIfInBounds j true) = [] := by simpa [okMv] using hok.2
      exact ⟨h1, h'.2⟩
    · have hne : j ≠ n := hok.1.2.resolve_right (by simpa using hr)
      exact wpAnyC_mv hsel hQ r _ _ _ hok.2 (h'.1.resolve_left hne) h'.2
  | .all i j k :: r, listed, a, w, hok, hS, h => by
    simp only [okMv, Bool.and_eq_true, beq_iff_eq, bne_iff_ne, ne_eq] at hok
    obtain ⟨⟨⟨⟨⟨⟨⟨⟨⟨⟨⟨⟨⟨h0, hi⟩, hj⟩, hk⟩, hij⟩, hik⟩, hji⟩, hjk⟩, hki⟩, hkj⟩, nij⟩, nik⟩, njk⟩, hok⟩ := hok
    have fin : ∀ (a : Act) (w : World), wpMv P ops n S Q r a w → S w → wpAnyC P md ops n Q S (costs r) (((listed.setIfInBounds i true).setIfInBounds j true).setIfInBounds k true) a w := fun a w h hS => wpAnyC_mv hsel hQ r _ _ _ hok hS h
    refine ⟨fun h => (by rw [h] at h0; cases h0), fun x hx => ?_⟩
    rw [h0] at hx
    simp only [List.mem_cons, List.not_mem_nil, or_false] at hx
    rcases hx with rfl | rfl | rfl
    · exact wpOp_mono (fun a' w' h' => ⟨.inr h'.1, anyC_two njk hi hij hik (wpTwo_mono fin h'.2)⟩) h.1
    · exact wpOp_mono (fun a' w' h' => ⟨.inr h'.1, anyC_two nik hj hji hjk (wpTwo_mono (by rw [Array.setIfInBounds_comm _ _ (Ne.symm nij)]; exact fin) h'.2)⟩) h.2.1
    · exact wpOp_mono (fun a' w' h' => ⟨.inr h'.1, anyC_two nij hk hki hkj (wpTwo_mono (by rw [Array.setIfInBounds_comm _ _ (Ne.symm nik), Array.setIfInBounds_comm _ _ (Ne.symm njk)]; exact fin) h'.2)⟩) h.2.2
theorem wp_region_mv {id : Nat} {a : Act} {w : World} (n : Nat) (l : List Mv) (hm : P.follows .mixedOrders = true) (hsel : Region.noSelect ops = true) (hok : (okMv .any ops n l (Array.replicate ops.size false) && costs l == ops.size) = true)
    (hS : S w.drew) (h : wpMv P ops n S (NoPanic Q) l a w.drew) : (Code.region id ops true).wp P Q a w := by
  simp only [Bool.and_eq_true, beq_iff_eq] at hok
  have := wpAnyC_mv hsel (fun _ _ _ _ _ h => h) l _ a _ hok.1 hS h
  rw [hok.2] at this
  exact wp_region_noPanic (wp_region_any hm (wpAnyC_any _ _ _ _ this))
theorem mv_take {n i : Nat} {r : List Mv} {a : Act} {w : World} (oi : Oper) (v : Value) (ho : ops[i]? = some oi) (hw : Region.wanted oi (yielded ops a.tmps) = true)
    (hy : ∀ w, S w → (execOp a.eval oi).run P w = .ok (.value v) w) (h : wpMv P ops n S Q r (a.put oi.dst v) w) : wpMv P ops n S Q (.f i :: r) a w := ⟨oi, v, ho, .inl (.inl ⟨hw, hy⟩), h⟩
theorem mv_quiet {n i : Nat} {r : List Mv} {a : Act} {w : World} (oi : Oper) (v : Value) (f : FuncId) (args : Array Value) (ho : ops[i]? = some oi) (hw : Region.wanted oi (yielded ops a.tmps) = true)
    (hy : ∀ w, S w → (execOp a.eval oi).run P w = .ok (.enter f args) w) (hc : ∀ w, S w → Calls P f args w fun e w' => e = .returned v ∧ w = w') (h : wpMv P ops n S Q r (a.put oi.dst v) w) :
    wpMv P ops n S Q (.f i :: r) a w := ⟨oi, v, ho, .inr ⟨hw, f, args, fun w hS => ⟨hy w hS, hc w hS⟩⟩, h⟩
theorem mv_act {n i : Nat} {r : List Mv} {a : Act} {w : World} (oi : Oper) (ho : ops[i]? = some oi)
    (h : ∀ K : Act → World → Prop, (∀ a w, (i = n ∨ S w) → wpMv P ops n S Q r a w → K a w) → if Region.wanted oi (yielded ops a.tmps) = true then Oper.wp P oi a w K Q else K (a.put oi.dst undef) w) : wpMv P ops n S Q (.t i :: r) a w := by
  show wpOp P ops Q i _ a w
  exact wpOp_step ho fun K' hK => h K' fun a w hS hs => hK a w ⟨hS, hs⟩
theorem mv_nil {n : Nat} {a : Act} {w : World} (h : Q .normal a w) : wpMv P ops n S (NoPanic Q) [] a w := NoPanic.normal h
/-- it makes a row of its own -/
def Makes (P : Program) (ops : Array Oper) (e : TypeId) (o : Oper) (xs : List Value) (a : Act) : Prop :=
  Region.wanted o (yielded ops a.tmps) = true ∧ ∀ w, (execOp a.eval o).run P w = .ok (.value (.slice (some ⟨w.heap.size, 0, none⟩) xs.length xs.length)) (w.alloc (.cells xs.toArray e))
theorem Makes.same {e : TypeId} {o : Oper} {xs : List Value} {a : Act} (h : Makes P ops e o xs a) {x : Oper} (hap : o.apart ops x = true) (hs : ∀ cs b, o.op ≠ .select cs b) (v : Value) : Makes P ops e o xs (a.put x.dst v) := by
  have h3 := (Oper.apart_spec hap).2.2
  unfold Makes
  rw [execOp_put o hs a x.dst v h3, wanted_put o a x.dst v h3]
  exact h
theorem Makes.step {e : TypeId} {i : Nat} {o : Oper} {xs : List Value} {a : Act} {w : World} (ho : ops[i]? = some o) (h : Makes P ops e o xs a) {K : Act → World → Prop} (hS : S (w.alloc (.cells xs.toArray e)))
    (hK : K (a.put o.dst (.slice (some ⟨w.heap.size, 0, none⟩) xs.length xs.length)) (w.alloc (.cells xs.toArray e))) : wpS P ops S Q i K a w := by
  unfold wpS Go.wpOp
  simp only [ho, h.1, if_true]
  refine .inl ?_
  unfold Oper.wp
  rw [h.2 w, Oper.upon_value]
  exact ⟨hS, hK⟩
end
end Go.Proofs.YtaedbnbeelkkcaaDoor
