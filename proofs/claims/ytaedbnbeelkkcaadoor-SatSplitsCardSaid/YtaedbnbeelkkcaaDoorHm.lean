/-
  A WALK OF A REGION THAT DRAWS, with MANY MAKERS that may come up in any order: first what yields, then the makers (each a row of its own), then a walk that is written out (Hq).
-/
import Derived.Test.YtaedbnbeelkkcaaDoorHq
namespace Go.Proofs.YtaedbnbeelkkcaaDoor
open Go.RowKit Go.WideShapes Go.ChangeShapes
section
variable {P : Program} {ops : Array Oper} {md : Region.Mode} {S : World → Prop} {Q : Exit → Act → World → Prop}
def mark (l : List Nat) (L : Array Bool) : Array Bool := l.foldl (fun L i => L.setIfInBounds i true) L
theorem mark_snoc (l : List Nat) (i : Nat) (L : Array Bool) : mark (l ++ [i]) L = (mark l L).setIfInBounds i true := by unfold mark; rw [List.foldl_append]; rfl
theorem mark_at (l : List Nat) : ∀ (L : Array Bool) (j : Nat), (mark l L)[j]? = if j ∈ l ∧ j < L.size then some true else L[j]? := by
  induction l with
  | nil => intro L j; rw [if_neg (by simp)]; rfl
  | cons i l ih =>
    intro L j
    show (mark l (L.setIfInBounds i true))[j]? = _
    rw [ih, Array.size_setIfInBounds, Array.getElem?_setIfInBounds]
    by_cases h1 : j ∈ l ∧ j < L.size
    · rw [if_pos h1, if_pos ⟨List.mem_cons_of_mem _ h1.1, h1.2⟩]
    · rw [if_neg h1]
      by_cases h2 : i = j
      · subst h2
        rw [if_pos rfl]
        by_cases h3 : i < L.size
        · rw [if_pos h3, if_pos ⟨by simp, h3⟩]
        · rw [if_neg h3, if_neg (fun h => h3 h.2), Array.getElem?_eq_none (by omega)]
      · rw [if_neg h2, if_neg (fun h => ?_)]
        rcases List.mem_cons.1 h.1 with e | e
        · exact h2 e.symm
        · exact h1 ⟨e, h.2⟩
theorem mark_same {l l' : List Nat} (h : ∀ i, i ∈ l ↔ i ∈ l') (L : Array Bool) : mark l L = mark l' L := by
  apply Array.ext_getElem?
  intro j
  rw [mark_at, mark_at]
  simp only [h]
def subsets : List Nat → List (List Nat)
  | [] => [[]]
  | i :: r => (subsets r) ++ (subsets r).map (i :: ·)
theorem mem_subsets {l idx : List Nat} : idx.filter (fun i => l.contains i) ∈ subsets idx := by
  induction idx with
  | nil => simp [subsets]
  | cons i r ih =>
    unfold subsets
    rw [List.filter_cons]
    split
    · exact List.mem_append_right _ (List.mem_map.2 ⟨_, ih, rfl⟩)
    · exact List.mem_append_left _ ih
/-- whatever has come up, the others are ready, and nothing else -/
def okSub (md : Region.Mode) (ops : Array Oper) (idx : List Nat) (L : Array Bool) : Bool := (subsets idx).all fun D => (idx.filter (fun i => !D.contains i)).isEmpty || Region.ready md ops (mark D L) == idx.filter (fun i => !D.contains i)
/-- carried out in whatever order, then T -/
def wpPerm (P : Program) (ops : Array Oper) (S : World → Prop) (Q : Exit → Act → World → Prop) (T : Act → World → Prop) : Nat → List Nat → Act → World → Prop
  | 0, _, a, w => T a w
  | k + 1, R, a, w => ∀ i ∈ R, wpS P ops S Q i (wpPerm P ops S Q T k (R.erase i)) a w
theorem filter_erase {idx l : List Nat} {i : Nat} (hn : idx.Nodup) : (idx.filter (fun j => !l.contains j)).erase i = idx.filter (fun j => !(l ++ [i]).contains j) := by
  rw [List.Nodup.erase_eq_filter (List.Pairwise.filter _ hn), List.filter_filter]
  apply List.filter_congr
  intro j _
  simp only [List.contains_eq_mem, List.mem_append, List.mem_singleton]
  by_cases h1 : j = i <;> by_cases h2 : j ∈ l <;> simp [h1, h2]
theorem anyC_perm {n fuel : Nat} {idx : List Nat} {L : Array Bool} (hn : idx.Nodup) (_hni : n ∉ idx) (hok : okSub md ops idx L = true) : ∀ (k : Nat) (l : List Nat) (a : Act) (w : World), (∀ i ∈ l, i ∈ idx) → (idx.filter (fun i => !l.contains i)).length = k → S w →
    wpPerm P ops S Q (fun a w => S w → wpAnyC P md ops n Q S fuel (mark idx L) a w) k (idx.filter (fun i => !l.contains i)) a w → wpAnyC P md ops n Q S (k + fuel) (mark l L) a w := by
  have hr : ∀ l : List Nat, (∀ i ∈ l, i ∈ idx) → idx.filter (fun i => !l.contains i) ≠ [] → Region.ready md ops (mark l L) = idx.filter (fun i => !l.contains i) := fun l hl hne => by
    have h1 := List.all_eq_true.1 hok _ (mem_subsets (l := l) (idx := idx))
    have e0 : idx.filter (fun i => !(idx.filter fun i => l.contains i).contains i) = idx.filter (fun i => !l.contains i) := by
      apply List.filter_congr
      intro j hj
      simp only [List.contains_eq_mem, List.mem_filter, decide_eq_true_eq, Bool.decide_and]
      by_cases h2 : j ∈ l <;> simp [h2, hj]
    rw [e0] at h1
    rw [Bool.or_eq_true, List.isEmpty_iff] at h1
    have h1 := eq_of_beq (h1.resolve_left hne)
    have e : mark (idx.filter fun i => l.contains i) L = mark l L := mark_same (fun i => by
      simp only [List.mem_filter, List.contains_eq_mem, decide_eq_true_eq]
      exact ⟨fun h => h.2, fun h => ⟨hl i h, h⟩⟩) L
    rw [e] at h1
    exact h1
  intro k
  induction k with
  | zero =>
    intro l a w hl hk hS h
    have hall : ∀ i, i ∈ l ↔ i ∈ idx := fun i => ⟨hl i, fun hi => by
      have h0 := List.eq_nil_of_length_eq_zero hk
      rw [List.filter_eq_nil_iff] at h0
      have := h0 i hi
      simpa using this⟩
    rw [Nat.zero_add, mark_same hall L]
    exact h hS
  | succ k ih =>
    intro l a w hl hk hS h
    rw [show k + 1 + fuel = (k + fuel) + 1 by omega]
    have hne : idx.filter (fun i => !l.contains i) ≠ [] := fun e => by rw [e] at hk; simp at hk
    refine ⟨fun h0 => ?_, fun i hi => ?_⟩
    · rw [hr l hl hne] at h0
      exact absurd h0 hne
    · rw [hr l hl hne] at hi
      have hii := (List.mem_filter.1 hi).1
      refine wpOp_mono (fun a' w' h' => ⟨.inr h'.1, ?_⟩) (h i hi)
      have hl' : ∀ j ∈ l ++ [i], j ∈ idx := fun j hj => by
        rcases List.mem_append.1 hj with hj | hj
        · exact hl j hj
        · obtain rfl : j = i := by simpa using hj
          exact hii
      rw [← mark_snoc]
      have hfe := filter_erase (l := l) (i := i) hn
      refine ih (l ++ [i]) a' w' hl' ?_ h'.1 ?_
      · rw [← hfe, List.length_erase_of_mem hi, hk]; rfl
      · rw [← hfe]; exact h'.2
/-! ### makers -/
/-- what number i makes: its slot, the length, the object -/
structure MkS where
  t : Tmp
  len : Nat
  o : Obj
def MakesI (P : Program) (ops : Array Oper) (m : Nat → MkS) (i : Nat) (a : Act) : Prop :=
  ∃ o, ops[i]? = some o ∧ o.dst = some (m i).t ∧ Region.wanted o (yielded ops a.tmps) = true ∧ ∀ w, (execOp a.eval o).run P w = .ok (.value (.slice (some ⟨w.heap.size, 0, none⟩) (m i).len (m i).len)) (w.alloc (m i).o)
def putAll (m : Nat → MkS) (f : Nat → Nat) (R : List Nat) (a : Act) : Act := R.foldl (fun a i => a.put (some (m i).t) (.slice (some ⟨f i, 0, none⟩) (m i).len (m i).len)) a
theorem put_comm {a : Act} {t u : Tmp} {x y : Value} (h : t ≠ u) : (a.put (some t) x).put (some u) y = (a.put (some u) y).put (some t) x := by
  simp only [Act.put]
  rw [Array.setIfInBounds_comm _ _ h]
theorem putAll_put {m : Nat → MkS} {f : Nat → Nat} {t : Tmp} {v : Value} : ∀ (R : List Nat) (a : Act), (∀ i ∈ R, (m i).t ≠ t) → putAll m f R (a.put (some t) v) = (putAll m f R a).put (some t) v
  | [], _, _ => rfl
  | i :: R, a, h => by
    show putAll m f R ((a.put (some t) v).put _ _) = _
    rw [put_comm (fun e => h i (by simp) e.symm)]
    exact putAll_put R _ fun j hj => h j (List.mem_cons_of_mem _ hj)
theorem putAll_app (m : Nat → MkS) (f : Nat → Nat) (R R' : List Nat) (a : Act) : putAll m f (R ++ R') a = putAll m f R' (putAll m f R a) := by unfold putAll; rw [List.foldl_append]
theorem putAll_congr {m : Nat → MkS} {f f' : Nat → Nat} : ∀ (R : List Nat) (a : Act), (∀ i ∈ R, f i = f' i) → putAll m f R a = putAll m f' R a
  | [], _, _ => rfl
  | i :: R, a, h => by
    show putAll m f R (a.put _ (.slice (some ⟨f i, 0, none⟩) _ _)) = putAll m f' R (a.put _ (.slice (some ⟨f' i, 0, none⟩) _ _))
    rw [h i (by simp)]
    exact putAll_congr R _ fun j hj => h j (List.mem_cons_of_mem _ hj)
theorem putAll_erase {m : Nat → MkS} {f : Nat → Nat} {R : List Nat} {i : Nat} {b : Nat} {a : Act} (hn : R.Nodup) (hi : i ∈ R) (hd : ∀ i ∈ R, ∀ j ∈ R, i ≠ j → (m i).t ≠ (m j).t) :
    putAll m f (R.erase i) (a.put (some (m i).t) (.slice (some ⟨b, 0, none⟩) (m i).len (m i).len)) = putAll m (fun j => if j = i then b else f j) R a := by
  obtain ⟨R1, R2, rfl⟩ := List.append_of_mem hi
  have hni : i ∉ R1 := fun h => by
    have := (List.nodup_append.1 hn).2.2 i h i (by simp)
    exact this rfl
  have hni2 : i ∉ R2 := (List.nodup_cons.1 (List.nodup_append.1 hn).2.1).1
  rw [List.erase_append_right _ hni, List.erase_cons_head]
  have e1 : putAll m f (R1 ++ R2) (a.put (some (m i).t) (.slice (some ⟨b, 0, none⟩) (m i).len (m i).len)) = (putAll m f (R1 ++ R2) a).put (some (m i).t) (.slice (some ⟨b, 0, none⟩) (m i).len (m i).len) :=
    putAll_put _ _ fun j hj => by
      have hj' : j ∈ R1 ++ i :: R2 := by
        rcases List.mem_append.1 hj with h | h
        · exact List.mem_append_left _ h
        · exact List.mem_append_right _ (List.mem_cons_of_mem _ h)
      refine hd j hj' i hi (fun e => ?_)
      subst e
      rcases List.mem_append.1 hj with h | h
      · exact hni h
      · exact hni2 h
  rw [e1, putAll_app, putAll_app]
  show _ = putAll m _ R2 ((putAll m _ R1 a).put (some (m i).t) (.slice (some ⟨if i = i then b else f i, 0, none⟩) (m i).len (m i).len))
  rw [if_pos rfl]
  rw [putAll_put R2 _ fun j hj => hd j (List.mem_append_right _ (List.mem_cons_of_mem _ hj)) i hi (fun e => hni2 (by rw [← e]; exact hj))]
  congr 1
  rw [putAll_congr (f := f) (f' := fun j => if j = i then b else f j) R1 _ fun j hj => by rw [if_neg (fun e => hni (by rw [← e]; exact hj))]]
  exact putAll_congr R2 _ fun j hj => by rw [if_neg (fun e => hni2 (by rw [← e]; exact hj))]
theorem perm_makers {m : Nat → MkS} {T : Act → World → Prop} (hS : ∀ w o, S w → S (w.alloc o)) : ∀ (k : Nat) (R : List Nat) (a : Act) (w : World), R.length = k → R.Nodup → (∀ i ∈ R, ∀ j ∈ R, i ≠ j → (m i).t ≠ (m j).t ∧ ∃ oi oj, ops[i]? = some oi ∧ ops[j]? = some oj ∧ oi.apart ops oj = true ∧ ∀ cs b, oi.op ≠ .select cs b) →
    (∀ i ∈ R, MakesI P ops m i a) → S w →
    (∀ (f : Nat → Nat) (w' : World), Below w.heap.size w w' → (∀ i ∈ R, w.heap.size ≤ f i ∧ w'.heap[f i]? = some (m i).o) → (∀ i ∈ R, ∀ j ∈ R, i ≠ j → f i ≠ f j) → S w' → T (putAll m f R a) w') → wpPerm P ops S Q T k R a w := by
  intro k
  induction k with
  | zero =>
    intro R a w hk _ _ _ hw h
    obtain rfl := List.eq_nil_of_length_eq_zero hk
    exact h id w (Below.refl _ _) (fun i hi => by cases hi) (fun i hi => by cases hi) hw
  | succ k ih =>
    intro R a w hk hn hd hm hw h i hi
    obtain ⟨o, ho, hdst, hwant, hrun⟩ := hm i hi
    have hsub : ∀ j ∈ R.erase i, j ∈ R ∧ j ≠ i := fun j hj => (hn.mem_erase_iff.1 hj).symm
    show Go.wpOp P ops Q i _ a w
    unfold Go.wpOp
    simp only [ho, hwant, if_true]
    refine .inl ?_
    unfold Oper.wp
    rw [hrun w, Oper.upon_value, hdst]
    refine ⟨hS _ _ hw, ih (R.erase i) _ (w.alloc (m i).o) (by rw [List.length_erase_of_mem hi, hk]; rfl) (hn.erase i) (fun x hx y hy hxy => hd x (hsub x hx).1 y (hsub y hy).1 hxy) (fun j hj => ?_) (hS _ _ hw) (fun f w' hb hf hff hSw => ?_)⟩
    · obtain ⟨hj1, hj2⟩ := hsub j hj
      obtain ⟨oj, hoj, hdj, hwj, hrj⟩ := hm j hj1
      obtain ⟨_, oj', oi', hoj', hoi', hap, hs⟩ := hd j hj1 i hi hj2
      obtain rfl : oj' = oj := by rw [hoj] at hoj'; injection hoj' with e; exact e.symm
      obtain rfl : oi' = o := by rw [ho] at hoi'; injection hoi' with e; exact e.symm
      have h3 := (Oper.apart_spec hap).2.2
      refine ⟨oj', hoj, hdj, ?_, ?_⟩
      · rw [← hdst, wanted_put oj' a oi'.dst _ h3]; exact hwj
      · intro w2
        rw [← hdst, execOp_put oj' hs a oi'.dst _ h3]; exact hrj w2
    · have hsz : (w.alloc (m i).o).heap.size = w.heap.size + 1 := by simp
      rw [putAll_erase hn hi (fun x hx y hy hxy => (hd x hx y hy hxy).1)]
      refine h _ w' (((Below.refl _ _).alloc (Nat.le_refl _) _).trans (hb.mono (by omega))) (fun j hj => ?_) (fun x hx y hy hxy => ?_) hSw
      · by_cases e : j = i
        · subst e
          simp only [if_true]
          exact ⟨Nat.le_refl _, (hb.block _ (by omega)).trans (heap_alloc_new w _)⟩
        · simp only [if_neg e]
          have h1 := hf j (hn.mem_erase_iff.2 ⟨e, hj⟩)
          exact ⟨by omega, h1.2⟩
      · by_cases ex : x = i
        · subst ex
          have hy' : y ∈ R.erase x := hn.mem_erase_iff.2 ⟨fun e => hxy e.symm, hy⟩
          have := (hf y hy').1
          simp only [if_true, if_neg (fun e : y = x => hxy e.symm)]
          omega
        · by_cases ey : y = i
          · subst ey
            have hx' : x ∈ R.erase y := hn.mem_erase_iff.2 ⟨hxy, hx⟩
            have := (hf x hx').1
            simp only [if_true, if_neg hxy]
            omega
          · simp only [if_neg ex, if_neg ey]
            exact hff x (hn.mem_erase_iff.2 ⟨ex, hx⟩) y (hn.mem_erase_iff.2 ⟨ey, hy⟩) hxy
/-! ### the region -/
def wpFs (P : Program) (ops : Array Oper) (S : World → Prop) (T : Act → World → Prop) : List Nat → Act → World → Prop
  | [], a, w => T a w
  | i :: r, a, w => ∃ oi v, ops[i]? = some oi ∧ YieldsC P ops S oi v a ∧ wpFs P ops S T r (a.put oi.dst v) w
def okFs (md : Region.Mode) (ops : Array Oper) (n : Nat) : List Nat → Array Bool → Bool
  | [], _ => true
  | i :: r, l => waits md ops n i && Region.free md ops l i && (Region.ready md ops l).contains i && okFs md ops n r (l.setIfInBounds i true)
theorem anyC_fs {n fuel : Nat} (hsel : Region.noSelect ops = true) (hQ : ∀ c (a : Act) d v w, Q (.panic c) (a.put d v) w → Q (.panic c) a w) : ∀ (fs : List Nat) (listed : Array Bool) (a : Act) (w : World), okFs md ops n fs listed = true → S w →
    wpFs P ops S (fun a w => wpAnyC P md ops n Q S fuel (mark fs listed) a w) fs a w → wpAnyC P md ops n Q S (fs.length + fuel) listed a w
  | [], listed, a, w, _, _, h => by
    have h : wpAnyC P md ops n Q S fuel (mark [] listed) a w := h
    simpa [mark] using h
  | i :: r, listed, a, w, hok, hS, h => by
    simp only [okFs, Bool.and_eq_true] at hok
    obtain ⟨oi, v, ho, hy, h⟩ := h
    rw [show (i :: r).length + fuel = (r.length + fuel) + 1 by simp; omega]
    exact wpAnyC_first ho hok.1.1.1 (Region.noSelect_spec hsel) (fun c a w => hQ c a _ _ w) _ _ _ _ (Region.free_spec ho hok.1.1.2) (by simpa using hok.1.2) hy hS (anyC_fs hsel hQ r _ _ _ hok.2 hS h)
theorem fs_take {i : Nat} {r : List Nat} {T : Act → World → Prop} {a : Act} {w : World} (oi : Oper) (v : Value) (ho : ops[i]? = some oi) (hw : Region.wanted oi (yielded ops a.tmps) = true)
    (hy : ∀ w, S w → (execOp a.eval oi).run P w = .ok (.value v) w) (h : wpFs P ops S T r (a.put oi.dst v) w) : wpFs P ops S T (i :: r) a w := ⟨oi, v, ho, .inl (.inl ⟨hw, hy⟩), h⟩
theorem fs_nil {T : Act → World → Prop} {a : Act} {w : World} (h : T a w) : wpFs P ops S T [] a w := h
/-- pairs of makers lie apart -/
def okApart (ops : Array Oper) (idx : List Nat) (t : Nat → Tmp) : Bool := idx.all fun i => idx.all fun j => i == j || (t i != t j && (match ops[i]?, ops[j]? with
  | some oi, some oj => oi.apart ops oj
  | _, _ => false))
theorem wp_region_makers {id : Nat} {a : Act} {w : World} (n : Nat) (fs idx : List Nat) (post : List Mv) (m : Nat → MkS) (hm : P.follows .mixedOrders = true) (hsel : Region.noSelect ops = true)
    (hok : (okFs .any ops n fs (Array.replicate ops.size false) && okSub .any ops idx (mark fs (Array.replicate ops.size false)) && okMv .any ops n post (mark idx (mark fs (Array.replicate ops.size false))) && fs.length + (idx.length + costs post) == ops.size) = true)
    (hnd : idx.Nodup) (hni : n ∉ idx) (hap : okApart ops idx (fun i => (m i).t) = true) (hS : S w.drew) (hSa : ∀ w o, S w → S (w.alloc o))
    (h : wpFs P ops S (fun a w' => w' = w.drew → (∀ i ∈ idx, MakesI P ops m i a) ∧ ∀ (f : Nat → Nat) (w2 : World), Below w.heap.size w.drew w2 → (∀ i ∈ idx, w.heap.size ≤ f i ∧ w2.heap[f i]? = some (m i).o) → (∀ i ∈ idx, ∀ j ∈ idx, i ≠ j → f i ≠ f j) → S w2 → wpMv P ops n S (NoPanic Q) post (putAll m f idx a) w2) fs a w.drew) : (Code.region id ops true).wp P Q a w := by
  simp only [Bool.and_eq_true, beq_iff_eq] at hok
  obtain ⟨⟨⟨h1, h2⟩, h3⟩, h4⟩ := hok
  have key : ∀ (fs' : List Nat) (a' : Act), wpFs P ops S (fun a w' => w' = w.drew → (∀ i ∈ idx, MakesI P ops m i a) ∧ ∀ (f : Nat → Nat) (w2 : World), Below w.heap.size w.drew w2 → (∀ i ∈ idx, w.heap.size ≤ f i ∧ w2.heap[f i]? = some (m i).o) → (∀ i ∈ idx, ∀ j ∈ idx, i ≠ j → f i ≠ f j) → S w2 → wpMv P ops n S (NoPanic Q) post (putAll m f idx a) w2) fs' a' w.drew →
      wpFs P ops S (fun a w' => wpAnyC P .any ops n (NoPanic Q) S (idx.length + costs post) (mark fs (Array.replicate ops.size false)) a w') fs' a' w.drew := by
    intro fs'
    induction fs' with
    | nil =>
      intro a' hx
      obtain ⟨hx1, hx2⟩ := hx rfl
      have hz : idx.filter (fun i => !([] : List Nat).contains i) = idx := List.filter_eq_self.2 fun i _ => by simp
      have := anyC_perm (S := S) (Q := NoPanic Q) (P := P) (n := n) (fuel := costs post) hnd hni h2 idx.length [] a' w.drew (fun i hi => by cases hi) (by rw [hz]) hS (by
        rw [hz]
        refine perm_makers hSa idx.length idx a' w.drew rfl hnd (fun i hi j hj hij => ?_) hx1 hS (fun f w2 hb hf hff hSw => fun hSw2 => ?_)
        · have h5 := List.all_eq_true.1 (List.all_eq_true.1 hap i hi) j hj
          simp only [Bool.or_eq_true, beq_iff_eq, Bool.and_eq_true, bne_iff_ne] at h5
          obtain ⟨h6, h7⟩ := h5.resolve_left hij
          cases e1 : ops[i]? with
          | none => rw [e1] at h7; cases h7
          | some oi =>
            cases e2 : ops[j]? with
            | none => rw [e1, e2] at h7; cases h7
            | some oj =>
              rw [e1, e2] at h7
              exact ⟨h6, oi, oj, rfl, rfl, h7, fun cs b => Region.noSelect_spec hsel i oi cs b e1⟩
        · exact wpAnyC_mv hsel (fun _ _ _ _ _ h => h) post _ _ _ h3 hSw2 (hx2 f w2 hb hf hff hSw2))
      exact this
    | cons i r ih =>
      intro a' hx
      obtain ⟨oi, v, ho, hy, hx⟩ := hx
      exact ⟨oi, v, ho, hy, ih _ hx⟩
  have := anyC_fs (n := n) (fuel := idx.length + costs post) hsel (fun _ _ _ _ _ h => h) fs (Array.replicate ops.size false) a w.drew h1 hS (key fs a h)
  rw [h4] at this
  exact wp_region_noPanic (wp_region_any hm (wpAnyC_any _ _ _ _ this))
end
end Go.Proofs.YtaedbnbeelkkcaaDoor
