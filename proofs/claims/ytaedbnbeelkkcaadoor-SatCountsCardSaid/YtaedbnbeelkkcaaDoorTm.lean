/-
  MEMORY IN PIECES: each block bears a tag; a piece (a block's cells, a slice of the call's own, a map) says which tag its block bears; what turns blocks of other tags leaves it. No program in sight.
-/
import Derived.Test.YtaedbnbeelkkcaaDoorBa
namespace Go.Proofs.YtaedbnbeelkkcaaDoor
open Go.RowKit
abbrev Tag := Nat × Int
/-- what is not the call's own -/
abbrev foreign : Tag := (0, 0)
/-- blocks that are there keep their tags -/
def Re (w : World) (tag tag' : Nat → Tag) : Prop := ∀ g, g < w.heap.size → tag' g = tag g
/-- blocks of tags in S may have turned; others, that were there, have not -/
abbrev Cg (tag : Nat → Tag) (S : Tag → Prop) (w w' : World) : Prop := Chg (fun k _ => S (tag k)) w w'
section
variable {w w' w'' : World} {tag tag' tag'' : Nat → Tag} {S S' : Tag → Prop} {t : Tag}
theorem Re.refl (w : World) (tag : Nat → Tag) : Re w tag tag := fun _ _ => rfl
theorem Re.trans (h : Re w tag tag') (k : Re w' tag' tag'') (hs : w.heap.size ≤ w'.heap.size) : Re w tag tag'' := fun g hg => (k g (Nat.lt_of_lt_of_le hg hs)).trans (h g hg)
/-- a new block's tag -/
def put (tag : Nat → Tag) (n : Nat) (t : Tag) : Nat → Tag := fun g => if g = n then t else tag g
theorem put_same (tag : Nat → Tag) (n : Nat) (t : Tag) : put tag n t n = t := if_pos rfl
theorem re_put {n : Nat} (hn : w.heap.size ≤ n) : Re w tag (put tag n t) := fun g hg => if_neg (by omega)
theorem Cg.mono_ (h : Cg tag S w w') (hs : ∀ t, S t → S' t) : Cg tag S' w w' := h.mono fun _ _ _ hS => hs _ hS
theorem Cg.trans_ (h : Cg tag S w w') (k : Cg tag' S w' w'') (hr : Re w tag tag') : Cg tag S w w'' :=
  h.trans' k fun i o ho hS => by rw [← hr i (lt_of_heap ho)]; exact hS
theorem Cg.re_ (h : Cg tag S w w') (hr : Re w tag tag') : Cg tag' S w w' := h.mono fun i o ho hS => by rw [hr i (lt_of_heap ho)]; exact hS
theorem Cg.below_ {B : Nat} (h : Cg tag S w w') (hS : ∀ g, g < B → ¬ S (tag g)) (hB : B ≤ w.heap.size) : Below B w w' :=
  h.below (fun k o _ hs => by
    rcases Nat.lt_or_ge k B with hk | hk
    · exact absurd hs (hS k hk)
    · exact hk) hB
theorem cg_store {p : Addr} (hp : S (tag p.block)) (u : Value) : Cg tag S w (w.setCell p u) := (Chg.refl _ w).setCell (.inr fun _ => hp) u
theorem cg_grown {row : Option Nat} (h : w.grownBy w' row) (hr : ∀ g, row = some g → S (tag g)) : Cg tag S w w' := (Chg.refl _ w).grown h fun k _ e _ => hr k e
theorem cg_new (h : Below w.heap.size w w') : Cg tag S w w' := Chg.of_new h
/-- a block's cells begin so -/
structure Cel (w : World) (tag : Nat → Tag) (t : Tag) (g : Nat) (xs : List Value) : Prop where
  tg : tag g = t
  has : ∃ (cs : Array Value) (e : TypeId), w.heap[g]? = some (.cells cs e (0, 0)) ∧ ∀ (j : Nat) u, xs[j]? = some u → cs[j]? = some u
/-- a slice of the call's own -/
structure Row (w : World) (tag : Nat → Tag) (t : Tag) (base : Nat) (e : TypeId) (v : Value) (xs : List Value) : Prop where
  own : w.ownsRow base e 1 v xs.length xs
  tg : ∀ g, v.ownBlock = some g → tag g = t
variable {g base c : Nat} {e : TypeId} {v : Value} {xs : List Value}
theorem Cel.lt (h : Cel w tag t g xs) : g < w.heap.size := by
  obtain ⟨cs, e, hb, _⟩ := h.has
  exact lt_of_heap hb
theorem Cel.cell (h : Cel w tag t g xs) {j : Nat} {u : Value} (hu : xs[j]? = some u) : w.cell? ⟨g, j, none⟩ = some u := by
  obtain ⟨cs, e, hb, hc⟩ := h.has
  rw [cell_of_row w g j cs e (0, 0) hb]; exact hc j u hu
theorem Cel.frozen (h : Cel w tag t g xs) (j : Nat) : w.frozen? ⟨g, j, none⟩ = false := by
  obtain ⟨cs, e, hb, hc⟩ := h.has
  simp [World.frozen?, hb]
theorem Cel.chg (h : Cel w tag t g xs) (hc : Cg tag S w w') (hn : ¬ S t) : Cel w' tag t g xs := by
  obtain ⟨cs, e, hb, hx⟩ := h.has
  exact ⟨h.tg, cs, e, hc.keep g _ hb (by rw [h.tg]; exact hn), hx⟩
theorem Cel.re (h : Cel w tag t g xs) (hr : Re w tag tag') : Cel w tag' t g xs := ⟨(hr g h.lt).trans h.tg, h.has⟩
theorem Cel.set_ (h : Cel w tag t g xs) (j : Nat) (u : Value) : Cel (w.setCell ⟨g, j, none⟩ u) tag t g (xs.set j u) := by
  obtain ⟨cs, e, hb, hx⟩ := h.has
  refine ⟨h.tg, cs.setIfInBounds j u, e, Blk.set_ hb j u, fun i y hy => ?_⟩
  rw [List.getElem?_set] at hy
  rw [Array.getElem?_setIfInBounds]
  by_cases e1 : j = i
  · subst e1
    rw [if_pos rfl] at hy ⊢
    split at hy
    · rename_i hlt
      have := hx j _ (List.getElem?_eq_getElem hlt)
      rw [if_pos (Array.getElem?_eq_some_iff.1 this).1]; exact hy
    · cases hy
  · rw [if_neg e1] at hy ⊢; exact hx i y hy
theorem Cel.alloc (h : Cel w tag t g xs) (o : Obj) : Cel (w.alloc o) tag t g xs := h.chg (S := fun _ => False) ((Chg.refl _ w).alloc o) id
theorem Cel.ne_ {g' : Nat} {t' : Tag} {ys : List Value} (h : Cel w tag t g xs) (h' : Cel w' tag t' g' ys) (hn : t ≠ t') : g ≠ g' := fun e => hn (by rw [← h.tg, ← h'.tg, e])
theorem Blk.cel {cs : Array Value} (h : Blk w g e cs) (ht : tag g = t) : Cel w tag t g cs.toList := ⟨ht, cs, e, h, fun j u hu => by simpa using hu⟩
theorem Row.chg (h : Row w tag t base e v xs) (hc : Cg tag S w w') (hn : ¬ S t) : Row w' tag t base e v xs :=
  ⟨own_chg h.own hc fun g cur _ hg => by show ¬ S (tag g); rw [h.tg g hg]; exact hn, h.tg⟩
theorem Row.re (h : Row w tag t base e v xs) (hr : Re w tag tag') : Row w tag' t base e v xs := ⟨h.own, fun g hg => (hr g (h.own.lt g hg).2).trans (h.tg g hg)⟩
theorem Row.nil (w : World) (tag : Nat → Tag) (t : Tag) (base : Nat) (e : TypeId) : Row w tag t base e (.slice none 0 0) [] := ⟨World.ownsRow_nil _ _ _ _, fun g h => by cases h⟩
theorem Row.form (h : Row w tag t base e v xs) : ∃ A c, v = .slice A xs.length c := own_form h.own
theorem Row.alloc (h : Row w tag t base e v xs) (o : Obj) : Row (w.alloc o) tag t base e v xs := h.chg (S := fun _ => False) ((Chg.refl _ w).alloc o) id
/-- it has an element: its block -/
theorem Row.at_ (h : Row w tag t base e v xs) (hn : 0 < xs.length) : ∃ g c, v = .slice (some ⟨g, 0, none⟩) xs.length c ∧ base ≤ g ∧ Cel w tag t g xs := by
  obtain ⟨g, c, hv, hb, hlt⟩ := h.own.form hn
  refine ⟨g, c, hv, hb, h.tg g (by rw [hv]; rfl), ?_⟩
  rcases h.own.2 with ⟨h0, h1⟩ | ⟨g', c', cur, hv', _, hh, _, _, _, ht⟩
  · omega
  · rw [hv] at hv'
    injection hv' with e1 _ _
    injection e1 with e1
    injection e1 with e1 _
    subst e1
    refine ⟨cur, e, hh, fun j u hu => ?_⟩
    rw [← ht, List.getElem?_take] at hu
    split at hu
    · simpa using hu
    · cases hu
theorem Row.cell (h : Row w tag t base e (.slice (some ⟨g, 0, none⟩) xs.length c) xs) {j : Nat} {u : Value} (hu : xs[j]? = some u) : w.cell? ⟨g, j, none⟩ = some u := by
  have hj : j < xs.length := (List.getElem?_eq_some_iff.1 hu).1
  rw [h.own.cellAt j (by omega), hu]
theorem Row.frozen (h : Row w tag t base e (.slice (some ⟨g, 0, none⟩) xs.length c) xs) (j : Nat) : w.frozen? ⟨g, j, none⟩ = false := h.own.frozenAt j
theorem Row.set_ (h : Row w tag t base e (.slice (some ⟨g, 0, none⟩) xs.length c) xs) (j : Nat) (u : Value) : Row (w.setCell ⟨g, j, none⟩ u) tag t base e (.slice (some ⟨g, 0, none⟩) xs.length c) (xs.set j u) := by
  refine ⟨?_, h.tg⟩
  have := (h.own.stored j u).1
  rw [List.length_set]
  exact this
theorem Row.cut {A : Option Addr} {n : Nat} (h : Row w tag t base e (.slice A xs.length c) xs) (hn : n ≤ xs.length) : Row w tag t base e (.slice A n c) (xs.take n) := by
  refine ⟨⟨by simp, ?_⟩, fun g hg => h.tg g (by cases A <;> exact hg)⟩
  have hl : (xs.take n).length = n := by rw [List.length_take]; omega
  rw [hl]
  rcases h.own.2 with ⟨h0, h1⟩ | ⟨g, c', cur, hv, hb, hh, hle, hm, hs, ht⟩
  · have hn0 : n = 0 := by omega
    injection h0 with e1 _ e3
    subst hn0; subst e1; subst e3
    exact .inl ⟨rfl, rfl⟩
  · injection hv with e1 _ e3
    subst e1; subst e3
    refine .inr ⟨g, c, cur, rfl, hb, hh, by omega, hm, hs, ?_⟩
    rw [← ht, Nat.mul_one, Nat.mul_one, List.take_take, Nat.min_eq_left hn]
/-- behind an append -/
theorem Row.grown {v' : Value} {n : Nat} {ys : List Value} (h : Row w tag t base e v xs) (ho : w'.ownsRow base e 1 v' n ys) (hl : ys.length = n) (hg : w.grownBy w' v.ownBlock) (hloc : v'.ownBlock = v.ownBlock ∨ v'.ownBlock = some w.heap.size) :
    ∃ tag', Re w tag tag' ∧ Row w' tag' t base e v' ys ∧ Cg tag (fun s => s = t) w w' := by
  subst hl
  refine ⟨put tag w.heap.size t, re_put (Nat.le_refl _), ⟨ho, fun g hg' => ?_⟩, cg_grown hg fun g hg' => h.tg g hg'⟩
  rcases hloc with e | e
  · rw [e] at hg'
    unfold put
    split
    · rfl
    · exact h.tg g hg'
  · rw [e] at hg'
    injection hg' with hg'
    subst hg'; exact put_same ..
end
section
variable {P : Program} (w : World)
/-- append: where the slice lies behind it -/
theorem step_append_loc {ops : Array Oper} {o : Oper} {a : Act} {K : Act → World → Prop} {Q : Exit → Act → World → Prop} {E : Prop} (hgd : o.guard = none) (s x : Operand) (t : TypeId)
    (ho : o.op = .call { callee := .builtin .append, args := #[s, x], argTypes := #[t, t] })
    (base : Nat) (e : TypeId) (i : TypeInfo) (z : Value) (size bytes : Nat) (ht : P.underlying t = some (.slice e)) (hi : P.info? e = some i) (hz : i.zero = some z)
    (hsize : i.size = size) (hby : i.bytes = bytes) (hzs : z.cells.size = size) (hsz : 0 < size)
    (v : Value) (n : Nat) (xs : List Value) (hs : a.eval s = v) (hown : w.ownsRow base e size v n xs)
    (B : Nat) (A : Option Addr) (m c : Nat) (news : List Value) (hx : a.eval x = .slice A m c) (hr : Reads w B size A m news) (h1 : ∀ u ∈ news, u.oneCell' = true)
    (h63 : n + m ≤ maxLen) (hbytes : (n + m) * bytes ≤ 140737488355328) (hbase : base ≤ w.heap.size)
    (h : ∀ A' c' w', w'.ownsRow base e size (.slice A' (n + m) c') (n + m) (xs ++ news) → w.grownBy w' v.ownBlock → ((Value.slice A' (n + m) c').ownBlock = v.ownBlock ∨ (Value.slice A' (n + m) c').ownBlock = some w.heap.size) → K (a.put o.dst (.slice A' (n + m) c')) w') :
    if Region.wanted o (yielded ops a.tmps) = true then Oper.wp P o a w K Q else E :=
  step_append_any w hgd s x t ho base e i z size bytes ht hi hz hsize hby hzs hsz v n xs hs hown B A m c news hx hr h1 h63 hbytes hbase fun v' w' h2 h3 h4 => by
    obtain ⟨A', c', rfl⟩ := own_form h2
    exact h A' c' w' h2 h3 h4
theorem wpList_append_loc {ops : Array Oper} {rest : List Oper} {o : Oper} {a : Act} {Q : Exit → Act → World → Prop} (hgd : o.guard = none) (s x : Operand) (t : TypeId)
    (ho : o.op = .call { callee := .builtin .append, args := #[s, x], argTypes := #[t, t] })
    (base : Nat) (e : TypeId) (i : TypeInfo) (z : Value) (size bytes : Nat) (ht : P.underlying t = some (.slice e)) (hi : P.info? e = some i) (hz : i.zero = some z)
    (hsize : i.size = size) (hby : i.bytes = bytes) (hzs : z.cells.size = size) (hsz : 0 < size)
    (v : Value) (n : Nat) (xs : List Value) (hs : a.eval s = v) (hown : w.ownsRow base e size v n xs)
    (B : Nat) (A : Option Addr) (m c : Nat) (news : List Value) (hx : a.eval x = .slice A m c) (hr : Reads w B size A m news) (h1 : ∀ u ∈ news, u.oneCell' = true)
    (h63 : n + m ≤ maxLen) (hbytes : (n + m) * bytes ≤ 140737488355328) (hbase : base ≤ w.heap.size)
    (h : ∀ A' c' w', w'.ownsRow base e size (.slice A' (n + m) c') (n + m) (xs ++ news) → w.grownBy w' v.ownBlock → ((Value.slice A' (n + m) c').ownBlock = v.ownBlock ∨ (Value.slice A' (n + m) c').ownBlock = some w.heap.size) → wpList P ops Q rest (a.put o.dst (.slice A' (n + m) c')) w') : wpList P ops Q (o :: rest) a w :=
  wpList_append_any w hgd s x t ho base e i z size bytes ht hi hz hsize hby hzs hsz v n xs hs hown B A m c news hx hr h1 h63 hbytes hbase fun v' w' h2 h3 h4 => by
    obtain ⟨A', c', rfl⟩ := own_form h2
    exact h A' c' w' h2 h3 h4
end
end Go.Proofs.YtaedbnbeelkkcaaDoor
