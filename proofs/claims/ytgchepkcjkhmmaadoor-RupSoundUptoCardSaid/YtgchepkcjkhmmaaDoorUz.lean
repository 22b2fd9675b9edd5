/-
  WALK of rup.steps.
-/
import Derived.Test.YtgchepkcjkhmmaaDoorUy
import Derived.Test.YtgchepkcjkhmmaaDoorCx
namespace Go.Proofs.YtgchepkcjkhmmaaDoor
open Go.RowKit
/-! ### plain: what a proof's fault is -/
open Classical in
noncomputable def pfR (v : Int) : List (List Int) → Nat → Bool → List (List Int) → Int × Int
  | _, _, fin, [] => if fin = true then (0, -1) else (8, -1)
  | L, i, fin, c :: r => if okC v c = true then (if Ref L c then pfR v (L ++ [c]) (i + 1) (fin || c.isEmpty) r else (8, (i : Int))) else (3, (i : Int))
def PfIs (v : Int) (cs pf : List (List Int)) (c at_ : Int) : Prop := (c ≠ 0 ∧ FaultIs v cs c at_) ∨ (FaultIs v cs 0 (-1) ∧ (c, at_) = pfR v cs 0 false pf)
/-- the first clause without numbers -/
def FirstE (pf : List (List Int)) (q : Nat) : Prop := pf[q]? = some [] ∧ ∀ c ∈ pf.take q, c ≠ []
theorem okC_lit {V : Nat} {l : List Int} (h : okC (V : Int) l = true) : ∀ m ∈ l, Lit V m := fun m hm => by
  unfold okC at h
  have h1 : l.any (badN (V : Int)) = false := by simpa using h
  have h2 := List.any_eq_false.1 h1 m hm
  unfold badN at h2
  simp only [Bool.or_eq_true, beq_iff_eq, decide_eq_true_eq, not_or] at h2
  exact ⟨h2.1.1, by omega⟩
theorem drop_at {pf : List (List Int)} {i : Nat} {c : List Int} (h : pf[i]? = some c) : pf.drop i = c :: pf.drop (i + 1) := by
  obtain ⟨hlt, e⟩ := List.getElem?_eq_some_iff.1 h
  rw [List.drop_eq_getElem_cons hlt, e]
theorem take_at {pf : List (List Int)} {i : Nat} {c : List Int} (h : pf[i]? = some c) : pf.take (i + 1) = pf.take i ++ [c] := by
  rw [List.take_add_one, h]; rfl
theorem faultIs_det {v : Int} {cs : List (List Int)} {c a : Int} (h : FaultIs v cs c a) (k : FaultIs v cs 0 (-1)) : c = 0 ∧ a = -1 := faultIs_eq h k
/-! ### a new checker -/
def newTag (p bm gv gu : Nat) : Nat → Tag := fun g => if g = p then (1, 0) else if g = bm then (7, 0) else if g = gv then (4, 0) else if g = gu then (5, 0) else (0, 0)
theorem rawMap_new {P : Program} {k : TypeId} {w : World} {b V : Nat} (hb : w.heap[b]? = some (.map #[] 0)) : RawMap P k w b V (fun _ => .slice none 0 0) := by
  have hlt := (Array.getElem?_eq_some_iff.1 hb).1
  let w0 : World := { w with heap := w.heap.extract 0 b }
  have hs : w0.heap.size = b := by show (w.heap.extract 0 b).size = b; simp; omega
  have h := RawMap.made w0 P k V
  rw [hs] at h
  refine h.keep ?_
  rw [hb, ← hs]
  exact (heap_alloc_new w0 _).symm
theorem chk_new {w : World} {p bm gv gu V : Nat} (hp : Blk w p 56 #[.slice none 0 0, .map (some bm), .slice (some ⟨gv, 0, none⟩) (V + 1) (V + 1), .slice none 0 0, .slice (some ⟨gu, 0, none⟩) (V + 1) (V + 1), .int .i64 0, .int .i64 (-1)])
    (hm : w.heap[bm]? = some (.map #[] 0)) (hv : Blk w gv 73 (i8Vals (List.replicate (V + 1) 0)).toArray) (hu : Blk w gu 3 (litVals (List.replicate (V + 1) 0)).toArray) (h1 : bm ≠ p) (h2 : gv ≠ p) (h3 : gu ≠ p) (h4 : gv ≠ bm) (h5 : gu ≠ bm) (h6 : gu ≠ gv) :
    Chk w (newTag p bm gv gu) p V ⟨.slice none 0 0, [], bm, gv, gu, .slice none 0 0, fun _ => .slice none 0 0⟩ [] (fun _ => []) (List.replicate (V + 1) 0) [] (List.replicate (V + 1) 0) 0 (-1) where
  blk := hp
  tp := by unfold newTag; rw [if_pos rfl]
  hdr := Row.nil _ _ _ _ _
  rlen := rfl
  cls k x u hx hu := by simp at hx
  val := by
    have := hv.cel (tag := newTag p bm gv gu) (t := (4, 0)) (by unfold newTag; rw [if_neg h2, if_neg h4, if_pos rfl])
    simpa using this
  usd := by
    have := hu.cel (tag := newTag p bm gv gu) (t := (5, 0)) (by unfold newTag; rw [if_neg h3, if_neg h5, if_neg h6, if_pos rfl])
    simpa using this
  ul := by simp
  trl := Row.nil _ _ _ _ _
  tm := by unfold newTag; rw [if_neg h1, if_pos rfl]
  map := rawMap_new hm
  wts n hn := Row.nil _ _ _ _ _
theorem va_zero (V v : Nat) : va (List.replicate (V + 1) 0) v = 0 := by
  unfold va
  rw [List.getD_eq_getElem?_getD, List.getElem?_replicate]
  split <;> rfl
theorem si_new (V : Nat) : SI V [] ⟨[], fun _ => [], List.replicate (V + 1) 0, []⟩ where
  vlen := by simp
  vok x hx := .inr (.inl (List.eq_of_mem_replicate hx))
  trv n hn := by cases hn
  trs n _ hv := by
    have hv : lv (va (List.replicate (V + 1) 0)) n = 1 := hv
    unfold lv at hv
    rw [va_zero] at hv
    split at hv <;> omega
  trn := List.nodup_nil
  xlen := rfl
  xmem k x l hx := by cases hx
  xnd x hx := by cases hx
  xlit x hx := by cases hx
  wnd n := List.nodup_nil
  wiff n k := by
    constructor
    · intro h; cases h
    · rintro ⟨a, b, r, hx, _⟩; cases hx
theorem cki_new (V : Nat) : CkI V [] ⟨[], fun _ => [], List.replicate (V + 1) 0, []⟩ 0 (-1) where
  xlen := rfl
  vlen := by simp
  live _ := { si := si_new V, wi := (fun k a b r hx => by cases hx), un := (fun k a hx => by cases hx), ne := (fun x hx => by cases hx), fx := rfl, imp := (fun m hm => by cases hm) }
  dead h := absurd rfl h
set_option maxRecDepth 100000 in
theorem make_i8 (n : Nat) (hn : n ≤ 1000000) (w : World) : (Instr.makeSlice 53 (.int .i64 ((n : Int) + 1)) (.int .i64 ((n : Int) + 1))).run Tryd.prog w =
    .ok (.slice (some ⟨w.heap.size, 0, none⟩) (n + 1) (n + 1)) (w.alloc (.cells (i8Vals (List.replicate (n + 1) 0)).toArray 73)) := by
  obtain ⟨i0, hi, hz0, hz1, hz2⟩ := info_parts (show (Tryd.prog.info? 73).map (fun i => (i.zero, i.size, i.bytes)) = some (some (.int .i8 0), 1, 1) by kernel_rfl)
  have h := run_make_rowN (P := Tryd.prog) 53 73 i0 (.int .i8 0) Tryd.underlying53 hi hz0 .i64 .i64 (n + 1) (n + 1) (Nat.le_refl _) (by rw [hz2]; omega) (by omega) w
  have e0 : ((n + 1 : Nat) : Int) = (n : Int) + 1 := by omega
  rw [e0] at h
  rw [h]
  congr 3
  rw [hz1, Nat.mul_one]
  have e := toList_madeCells_one (.int .i8 0) (n + 1)
  have e2 : i8Vals (List.replicate (n + 1) 0) = List.replicate (n + 1) (Value.int .i8 0) := by unfold i8Vals; simp
  rw [e2, ← e]; rfl
set_option maxRecDepth 100000 in
theorem make_int (n : Nat) (hn : n ≤ 1000000) (w : World) : (Instr.makeSlice 27 (.int .i64 ((n : Int) + 1)) (.int .i64 ((n : Int) + 1))).run Tryd.prog w =
    .ok (.slice (some ⟨w.heap.size, 0, none⟩) (n + 1) (n + 1)) (w.alloc (.cells (litVals (List.replicate (n + 1) 0)).toArray 3)) := by
  obtain ⟨i0, hi, hz0, hz1, hz2⟩ := info_parts info_int
  have h := run_make_rowN (P := Tryd.prog) 27 3 i0 (.int .i64 0) Tryd.underlying27 hi hz0 .i64 .i64 (n + 1) (n + 1) (Nat.le_refl _) (by rw [hz2]; omega) (by omega) w
  have e0 : ((n + 1 : Nat) : Int) = (n : Int) + 1 := by omega
  rw [e0] at h
  rw [h]
  congr 3
  rw [hz1, Nat.mul_one]
  have e := toList_madeCells_one (.int .i64 0) (n + 1)
  have e2 : litVals (List.replicate (n + 1) 0) = List.replicate (n + 1) (Value.int .i64 0) := by unfold litVals; simp
  rw [e2, ← e]; rfl
theorem make_map (w : World) : (Instr.makeMap 52 none).run Tryd.prog w = .ok (.map (some w.heap.size)) (w.alloc (.map #[] 0)) := by
  simp [Instr.makeMap]
/-- a checker that is there: what it was made in has not turned -/
def Ready (w : World) (p V : Nat) (L : List (List Int)) (wr : World) : Prop :=
  ∃ tag y s us fx dd, (∀ g, g < w.heap.size → tag g = (0, 0)) ∧ Below w.heap.size w wr ∧ Chk wr tag p V y s.xs s.wt s.vs s.tr us fx dd ∧ CkI V L s fx dd
/-- steps' answer -/
def SgP (w : World) (ea : Nat → Addr) (v : Int) (cs pf : List (List Int)) (e : Ending) (w' : World) : Prop :=
  ∃ cv en ev c at_, e = .returned (.tuple #[cv, .int .i64 en, ev]) ∧ Below w.heap.size w w' ∧ PfIs v cs pf c at_ ∧ EvC w' ea ev c at_ ∧ (c = 0 → ∃ q : Nat, en = q ∧ FirstE pf q)
end Go.Proofs.YtgchepkcjkhmmaaDoor
