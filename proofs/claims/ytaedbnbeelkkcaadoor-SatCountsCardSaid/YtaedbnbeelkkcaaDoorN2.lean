/-
  WALK of sat.newSolver.
  WALK of (*solver).more.
-/
import Derived.Test.YtaedbnbeelkkcaaDoorNy
import Derived.Test.YtaedbnbeelkkcaaDoorAj
import Derived.Test.YtaedbnbeelkkcaaDoorHm
import Derived.Test.YtaedbnbeelkkcaaDoorHt
namespace Go.Proofs.YtaedbnbeelkkcaaDoor.slv
open Go.RowKit
def fl0 : Value := .float .f64 0
/-- a new solver -/
def ini (V : Nat) (hp : List Nat) (pl : List Int) : SS := { newS V with hp := hp, pl := pl }

set_option maxRecDepth 100000 in
theorem make_i8S (n : Nat) (hn : n ≤ 1000000) (w : World) : (Instr.makeSlice 65 (.int .i64 ((n : Int) + 1)) (.int .i64 ((n : Int) + 1))).run Tryd.prog w =
    .ok (.slice (some ⟨w.heap.size, 0, none⟩) (n + 1) (n + 1)) (w.alloc (.cells (i8Vals (List.replicate (n + 1) 0)).toArray 74)) := by
  obtain ⟨i0, hi, hz0, hz1, hz2⟩ := info_parts (show (Tryd.prog.info? 74).map (fun i => (i.zero, i.size, i.bytes)) = some (some (.int .i8 0), 1, 1) by kernel_rfl)
  have h := run_make_rowN (P := Tryd.prog) 65 74 i0 (.int .i8 0) Tryd.underlying65 hi hz0 .i64 .i64 (n + 1) (n + 1) (Nat.le_refl _) (by rw [hz2]; omega) (by omega) w
  have e0 : ((n + 1 : Nat) : Int) = (n : Int) + 1 := by omega
  rw [e0] at h
  rw [h]
  congr 3
  rw [hz1, Nat.mul_one]
  have e := toList_madeCells_one (.int .i8 0) (n + 1)
  have e2 : i8Vals (List.replicate (n + 1) 0) = List.replicate (n + 1) (Value.int .i8 0) := by unfold i8Vals; simp
  rw [e2, ← e]; rfl
set_option maxRecDepth 100000 in
theorem make_intS (n : Nat) (hn : n ≤ 1000000) (w : World) : (Instr.makeSlice 25 (.int .i64 ((n : Int) + 1)) (.int .i64 ((n : Int) + 1))).run Tryd.prog w =
    .ok (.slice (some ⟨w.heap.size, 0, none⟩) (n + 1) (n + 1)) (w.alloc (.cells (litVals (List.replicate (n + 1) 0)).toArray 3)) := by
  obtain ⟨i0, hi, hz0, hz1, hz2⟩ := info_parts info_int
  have h := run_make_rowN (P := Tryd.prog) 25 3 i0 (.int .i64 0) Tryd.underlying25 hi hz0 .i64 .i64 (n + 1) (n + 1) (Nat.le_refl _) (by rw [hz2]; omega) (by omega) w
  have e0 : ((n + 1 : Nat) : Int) = (n : Int) + 1 := by omega
  rw [e0] at h
  rw [h]
  congr 3
  rw [hz1, Nat.mul_one]
  have e := toList_madeCells_one (.int .i64 0) (n + 1)
  have e2 : litVals (List.replicate (n + 1) 0) = List.replicate (n + 1) (Value.int .i64 0) := by unfold litVals; simp
  rw [e2, ← e]; rfl
def newTag (p gw gv gl gr gs gp gP : Nat) : Nat → Tag := fun g => if g = p then (1, 0) else if g = gw then (4, 0) else if g = gv then (6, 0) else if g = gl then (7, 0) else if g = gr then (8, 0) else if g = gs then (11, 0) else if g = gp then (12, 0) else if g = gP then (14, 0) else (0, 0)
theorem slv_new {w : World} {p gw gv gl gr gs gp gP V : Nat}
    (hp : Blk w p 69 #[.int .i64 (V : Nat), .slice none 0 0, .slice (some ⟨gw, 0, none⟩) (2 * V + 2) (2 * V + 2), .slice (some ⟨gv, 0, none⟩) (V + 1) (V + 1), .slice (some ⟨gl, 0, none⟩) (V + 1) (V + 1), .slice (some ⟨gr, 0, none⟩) (V + 1) (V + 1), .slice none 0 0, .slice none 0 0, .int .i64 ((0 : Nat) : Int), .slice (some ⟨gs, 0, none⟩) (V + 1) (V + 1), .float .f64 4607182418800017408, .slice (some ⟨gp, 0, none⟩) (V + 1) (V + 1), .slice none 0 0, .slice (some ⟨gP, 0, none⟩) (V + 1) (V + 1), .slice none 0 0, .bool false])
    (hw : Blk w gw 25 (List.replicate (2 * V + 2) (Value.slice none 0 0)).toArray) (hv : Blk w gv 74 (i8Vals (List.replicate (V + 1) 0)).toArray) (hl : Blk w gl 3 (litVals (List.replicate (V + 1) 0)).toArray) (hr : Blk w gr 3 (litVals (List.replicate (V + 1) 0)).toArray)
    (hs : Blk w gs 67 (List.replicate (V + 1) fl0).toArray) (hph : Blk w gp 4 (boolVals (List.replicate (V + 1) false)).toArray) (hP : Blk w gP 3 (litVals (List.replicate (V + 1) 0)).toArray)
    (hd : gw ≠ p ∧ gv ≠ p ∧ gl ≠ p ∧ gr ≠ p ∧ gs ≠ p ∧ gp ≠ p ∧ gP ≠ p ∧ gv ≠ gw ∧ gl ≠ gw ∧ gr ≠ gw ∧ gs ≠ gw ∧ gp ≠ gw ∧ gP ≠ gw ∧ gl ≠ gv ∧ gr ≠ gv ∧ gs ≠ gv ∧ gp ≠ gv ∧ gP ≠ gv ∧ gr ≠ gl ∧ gs ≠ gl ∧ gp ≠ gl ∧ gP ≠ gl ∧ gs ≠ gr ∧ gp ≠ gr ∧ gP ≠ gr ∧ gp ≠ gs ∧ gP ≠ gs ∧ gP ≠ gp) :
    Slv w (newTag p gw gv gl gr gs gp gP) p V ⟨.slice none 0 0, [], gw, List.replicate (2 * V + 2) (.slice none 0 0), gv, gl, gr, .slice none 0 0, .slice none 0 0, gs, gp, .slice none 0 0, gP, .slice none 0 0, []⟩ (ini V [] (List.replicate (V + 1) 0)) := by
  obtain ⟨d1, d2, d3, d4, d5, d6, d7, d8, d9, d10, d11, d12, d13, d14, d15, d16, d17, d18, d19, d20, d21, d22, d23, d24, d25, d26, d27, d28⟩ := hd
  exact {
    blk := hp
    tp := by unfold newTag; rw [if_pos rfl]
    hdr := Row.nil _ _ _ _ _
    cls := fun k x u hx hu => by cases hx
    whd := by
      have := hw.cel (tag := newTag p gw gv gl gr gs gp gP) (t := (4, 0)) (by unfold newTag; rw [if_neg d1, if_pos rfl])
      simpa [ini, newS, fVals, fl0] using this
    wts := fun i u hu => by
      have hu : (List.replicate (2 * V + 2) (Value.slice none 0 0))[i]? = some u := hu
      have := List.eq_of_mem_replicate (List.mem_of_getElem? hu)
      subst this
      exact Row.nil _ _ _ _ _
    val := by
      have := hv.cel (tag := newTag p gw gv gl gr gs gp gP) (t := (6, 0)) (by unfold newTag; rw [if_neg d2, if_neg d8, if_pos rfl])
      simpa [ini, newS, fVals, fl0] using this
    lev := by
      have := hl.cel (tag := newTag p gw gv gl gr gs gp gP) (t := (7, 0)) (by unfold newTag; rw [if_neg d3, if_neg d9, if_neg d14, if_pos rfl])
      simpa [ini, newS, fVals, fl0] using this
    rea := by
      have := hr.cel (tag := newTag p gw gv gl gr gs gp gP) (t := (8, 0)) (by unfold newTag; rw [if_neg d4, if_neg d10, if_neg d15, if_neg d19, if_pos rfl])
      simpa [ini, newS, fVals, fl0] using this
    trl := Row.nil _ _ _ _ _
    lim := Row.nil _ _ _ _ _
    sco := by
      have := hs.cel (tag := newTag p gw gv gl gr gs gp gP) (t := (11, 0)) (by unfold newTag; rw [if_neg d5, if_neg d11, if_neg d16, if_neg d20, if_neg d23, if_pos rfl])
      simpa [ini, newS, fVals, fl0] using this
    pha := by
      have := hph.cel (tag := newTag p gw gv gl gr gs gp gP) (t := (12, 0)) (by unfold newTag; rw [if_neg d6, if_neg d12, if_neg d17, if_neg d21, if_neg d24, if_neg d26, if_pos rfl])
      simpa [ini, newS, fVals, fl0] using this
    hea := Row.nil _ _ _ _ _
    pla := by
      have := hP.cel (tag := newTag p gw gv gl gr gs gp gP) (t := (14, 0)) (by unfold newTag; rw [if_neg d7, if_neg d13, if_neg d18, if_neg d22, if_neg d25, if_neg d27, if_neg d28, if_pos rfl])
      simpa [ini, newS, fVals, fl0] using this
    prf := Row.nil _ _ _ _ _
    prc := fun k x u hx hu => by cases hx
    rlen := rfl
    wlen := by simp
    vl := by simp [ini, newS]
    ll := by simp [ini, newS]
    rl := by simp [ini, newS]
    sl := by simp [ini, newS]
    phl := by simp [ini, newS]
    pll := by simp [ini, newS]
    plen := rfl }
section
theorem info_bool : (Tryd.prog.info? 4).map (fun i => (i.zero, i.size, i.bytes)) = some (some (.bool false), 1, 1) := by kernel_rfl
theorem info_f64 : (Tryd.prog.info? 67).map (fun i => (i.zero, i.size, i.bytes)) = some (some fl0, 1, 8) := by kernel_rfl
theorem info_sl : (Tryd.prog.info? 25).map (fun i => (i.zero, i.size, i.bytes)) = some (some (.slice none 0 0), 1, 24) := by kernel_rfl
set_option maxRecDepth 100000 in
theorem make_bool (n : Nat) (hn : n ≤ 1000000) (w : World) : (Instr.makeSlice 43 (.int .i64 ((n : Int) + 1)) (.int .i64 ((n : Int) + 1))).run Tryd.prog w =
    .ok (.slice (some ⟨w.heap.size, 0, none⟩) (n + 1) (n + 1)) (w.alloc (.cells (boolVals (List.replicate (n + 1) false)).toArray 4)) := by
  obtain ⟨i0, hi, hz0, hz1, hz2⟩ := info_parts info_bool
  have h := run_make_rowN (P := Tryd.prog) 43 4 i0 (.bool false) Tryd.underlying43 hi hz0 .i64 .i64 (n + 1) (n + 1) (Nat.le_refl _) (by rw [hz2]; omega) (by omega) w
  have e0 : ((n + 1 : Nat) : Int) = (n : Int) + 1 := by omega
  rw [e0] at h
  rw [h]
  congr 3
  rw [hz1, Nat.mul_one]
  have e := toList_madeCells_one (.bool false) (n + 1)
  have e2 : boolVals (List.replicate (n + 1) false) = List.replicate (n + 1) (Value.bool false) := by unfold boolVals; simp
  rw [e2, ← e]; rfl
set_option maxRecDepth 100000 in
theorem make_f64 (n : Nat) (hn : n ≤ 1000000) (w : World) : (Instr.makeSlice 66 (.int .i64 ((n : Int) + 1)) (.int .i64 ((n : Int) + 1))).run Tryd.prog w =
    .ok (.slice (some ⟨w.heap.size, 0, none⟩) (n + 1) (n + 1)) (w.alloc (.cells (List.replicate (n + 1) fl0).toArray 67)) := by
  obtain ⟨i0, hi, hz0, hz1, hz2⟩ := info_parts info_f64
  have h := run_make_rowN (P := Tryd.prog) 66 67 i0 fl0 Tryd.underlying66 hi hz0 .i64 .i64 (n + 1) (n + 1) (Nat.le_refl _) (by rw [hz2]; omega) (by omega) w
  have e0 : ((n + 1 : Nat) : Int) = (n : Int) + 1 := by omega
  rw [e0] at h
  rw [h]
  congr 3
  rw [hz1, Nat.mul_one]
  have e := toList_madeCells_one fl0 (n + 1)
  rw [← e]; rfl
set_option maxRecDepth 100000 in
theorem make_sl (n : Nat) (hn : n ≤ 1000000) (w : World) : (Instr.makeSlice 64 (.int .i64 (2 * (n : Int) + 2)) (.int .i64 (2 * (n : Int) + 2))).run Tryd.prog w =
    .ok (.slice (some ⟨w.heap.size, 0, none⟩) (2 * n + 2) (2 * n + 2)) (w.alloc (.cells (List.replicate (2 * n + 2) (Value.slice none 0 0)).toArray 25)) := by
  obtain ⟨i0, hi, hz0, hz1, hz2⟩ := info_parts info_sl
  have h := run_make_rowN (P := Tryd.prog) 64 25 i0 (.slice none 0 0) Tryd.underlying64 hi hz0 .i64 .i64 (2 * n + 2) (2 * n + 2) (Nat.le_refl _) (by rw [hz2]; omega) (by omega) w
  have e0 : ((2 * n + 2 : Nat) : Int) = 2 * (n : Int) + 2 := by omega
  rw [e0] at h
  rw [h]
  congr 3
  rw [hz1, Nat.mul_one]
  have e := toList_madeCells_one (.slice none 0 0) (2 * n + 2)
  rw [← e]; rfl
/-- the seven rows of a new solver -/
def mkO (V : Nat) : Nat → MkS
  | 4 => ⟨14, 2 * V + 2, .cells (List.replicate (2 * V + 2) (Value.slice none 0 0)).toArray 25 (0, 0)⟩
  | 7 => ⟨17, V + 1, .cells (i8Vals (List.replicate (V + 1) 0)).toArray 74 (0, 0)⟩
  | 10 => ⟨20, V + 1, .cells (litVals (List.replicate (V + 1) 0)).toArray 3 (0, 0)⟩
  | 13 => ⟨23, V + 1, .cells (litVals (List.replicate (V + 1) 0)).toArray 3 (0, 0)⟩
  | 16 => ⟨26, V + 1, .cells (List.replicate (V + 1) fl0).toArray 67 (0, 0)⟩
  | 19 => ⟨29, V + 1, .cells (boolVals (List.replicate (V + 1) false)).toArray 4 (0, 0)⟩
  | _ => ⟨32, V + 1, .cells (litVals (List.replicate (V + 1) 0)).toArray 3 (0, 0)⟩
/-- the loop over the variables -/
def NwR (w : World) (p V : Nat) (iv : Value) (wr : World) : Prop := ∃ (k : Nat) (tag : Nat → Tag) (y : SLay), k ≤ V ∧ iv = .int .i64 ((k + 1 : Nat) : Int) ∧ (∀ g, g < w.heap.size → tag g = (0, 0)) ∧ Below w.heap.size w wr ∧ Slv wr tag p V y (ini V ((List.range k).map (· + 1)) (0 :: (List.range V).map (fun (j : Nat) => if j < k then (j : Int) else 0)))
def NwP (w : World) (V : Nat) (sF : SS) (e : Ending) (w' : World) : Prop := ∃ p tag y, e = .returned (.pointer (some ⟨p, 0, none⟩)) ∧ (∀ g, g < w.heap.size → tag g = (0, 0)) ∧ Below w.heap.size w w' ∧ Slv w' tag p V y sF
/-- clauses of somebody's own -/
def CsO (w : World) (A : Option Addr) (F : List (List Int)) : Prop := ∀ (i : Nat) (l : List Int), F[i]? = some l → ∃ g u, A = some ⟨g, 0, none⟩ ∧ g < w.heap.size ∧ w.cell? ⟨g, i, none⟩ = some u ∧ w.ownsRow 0 3 1 u l.length (litVals l)
theorem CsO.below {w w' : World} {A : Option Addr} {F : List (List Int)} (h : CsO w A F) (hb : Below w.heap.size w w') : CsO w' A F := fun i l hl => by
  obtain ⟨g, u, h1, h2, h3, h4⟩ := h i l hl
  exact ⟨g, u, h1, Nat.lt_of_lt_of_le h2 hb.size, (hb.cell (p := ⟨g, i, none⟩) h2).trans h3, own_chg (S := fun _ _ => False) h4 (Chg.of_new hb) (fun _ _ _ _ => id)⟩
/-- the loop over the clauses -/
def NwC (w : World) (p V n : Nat) (F : List (List Int)) (sF : SS) (iv : Value) (wr : World) : Prop := ∃ (i : Nat) (s : SS) (tag : Nat → Tag) (y : SLay), i ≤ n ∧ iv = .int .i64 (i : Nat) ∧ addAll V (F.drop i) s = some sF ∧ (∀ g, g < w.heap.size → tag g = (0, 0)) ∧ Below w.heap.size w wr ∧ Slv wr tag p V y s
theorem newS_ini (V : Nat) : ini V ((List.range V).map (· + 1)) (0 :: (List.range V).map (fun (j : Nat) => (j : Int))) = newS V := by
  unfold ini newS
  congr 1
  rw [List.range_succ_eq_map, List.map_cons, List.map_map]
  rfl
def NwP0 (w : World) (V : Nat) (e : Ending) (w' : World) : Prop := ∃ p tag y, e = .returned (.pointer (some ⟨p, 0, none⟩)) ∧ (∀ g, g < w.heap.size → tag g = (0, 0)) ∧ Below w.heap.size w w' ∧ Slv w' tag p V y (ini V ((List.range V).map (· + 1)) (0 :: (List.range V).map (fun (j : Nat) => (j : Int))))
theorem pl_step {V k : Nat} (hk : k < V) : (0 :: (List.range V).map (fun (j : Nat) => if j < k then (j : Int) else 0)).set (k + 1) (k : Int) = 0 :: (List.range V).map (fun (j : Nat) => if j < k + 1 then (j : Int) else 0) := by
  rw [List.set_cons_succ]
  congr 1
  apply List.ext_getElem?
  intro j
  rw [List.getElem?_set, List.getElem?_map, List.getElem?_map]
  by_cases hj : j < V
  · rw [List.getElem?_range hj, Option.map_some, Option.map_some]
    by_cases e : k = j
    · subst e
      rw [if_pos rfl, if_pos (by simpa using hj), if_pos (by omega)]
    · rw [if_neg e]
      congr 1
      by_cases h1 : j < k
      · rw [if_pos h1, if_pos (by omega)]
      · rw [if_neg h1, if_neg (by omega)]
  · rw [if_neg (by omega), List.getElem?_eq_none (by simp; omega)]; rfl
theorem hp_step (k : Nat) : (List.range k).map (· + 1) ++ [k + 1] = (List.range (k + 1)).map (· + 1) := by rw [List.range_succ, List.map_append]; rfl
attribute [local irreducible] wpMv wpFs
set_option maxRecDepth 100000 in
set_option maxHeartbeats 4000000 in
theorem newSolver_any {w : World} {V n c : Nat} {A : Option Addr} {F : List (List Int)} {sF : SS} (hV : V ≤ 150000) (hF : F.length = n) (hr : CsO w A F) (hl : ∀ x ∈ F, x.length ≤ 1000000 ∧ ∀ z ∈ x, z.natAbs ≤ 1000000) (hn : n ≤ 4000000) (hu : newM V F = some sF) :
    Calls Tryd.prog 16 #[.agg #[.int .i64 (V : Nat), .slice A n c]] w (NwP w V sF) := by
  have HCR := Lib.hid (And.intro hr (And.intro hl (And.intro hF hu)))
  clear hr hl hF hu
  obtain ⟨W1, hW1⟩ : ∃ W1, W1 = w.alloc (.cells #[.int .i64 (V : Nat), .slice A n c] 29) := ⟨_, rfl⟩
  have hb1 : Below w.heap.size w W1 := by rw [hW1]; exact (Below.refl _ _).alloc (Nat.le_refl _) _
  have k1 : Blk W1 w.heap.size 29 #[.int .i64 (V : Nat), .slice A n c] := by rw [hW1]; exact Blk.new w _ _
  have c0 := k1.cell 0
  have w1 : IntKind.i64.wrap ((V : Int) + 1) = (V : Int) + 1 := by rw [IntKind.wrap_i64]; omega
  have w2 : IntKind.i64.wrap (2 * (V : Int)) = 2 * (V : Int) := by rw [IntKind.wrap_i64]; omega
  have w3 : IntKind.i64.wrap (2 * (V : Int) + 2) = 2 * (V : Int) + 2 := by rw [IntKind.wrap_i64]; omega
  have m1 := make_sl V (by omega)
  have m2 := make_i8S V (by omega)
  have m3 := make_intS V (by omega)
  have m4 := make_f64 V (by omega)
  have m5 := make_bool V (by omega)
  have HW1 := Lib.hid hW1
  have HB1 := Lib.hid hb1
  have K1 := Lib.hid k1
  clear hW1 hb1 k1
  go_enter Tryd.func16, Tryd.ntmps16
  go_upto_region 1 with fail
  rw [← HW1.out]
  go_wp2_with fail
  refine wp_region_makers (S := fun _ => True) 25 [0, 1, 2, 3, 5, 6, 8, 9, 11, 12, 14, 15, 17, 18, 20, 21] [4, 7, 10, 13, 16, 19, 22] [.f 23, .t 24, .t 25] (mkO V) (by kernel_rfl) (by kernel_rfl) (by kernel_rfl) (by decide) (by decide) (by kernel_rfl) trivial (fun _ _ _ => trivial) ?_
  iterate 16 (refine fs_take _ _ rfl (by kernel_rfl) (fun wv hv => by go_simp; try with_reducible rfl) ?_; simp only [Act.put, List.getElem_toArray, List.getElem_cons_zero, List.getElem_cons_succ, List.setIfInBounds_toArray, List.set_cons_zero, List.set_cons_succ])
  refine fs_nil ?_
  intro _
  refine ⟨fun i hi => ?_, fun f W2 hb2 hf hff _ => ?_⟩
  · simp only [List.mem_cons, List.not_mem_nil, or_false] at hi
    rcases hi with rfl | rfl | rfl | rfl | rfl | rfl | rfl
    all_goals exact ⟨_, rfl, rfl, by kernel_rfl, fun wv => by go_simp; simp [mkO]⟩
  · simp only [putAll, List.foldl, mkO, Act.put, List.setIfInBounds_toArray, List.set_cons_zero, List.set_cons_succ]
    iterate 1 (refine mv_take _ _ rfl (by kernel_rfl) (fun wv hv => by go_simp; try with_reducible rfl) ?_; simp only [Act.put, List.getElem_toArray, List.getElem_cons_zero, List.getElem_cons_succ, List.setIfInBounds_toArray, List.set_cons_zero, List.set_cons_succ])
    refine mv_act _ rfl (fun K hK => ?_)
    go_simp
    go_simp
    refine hK _ _ (.inr (trivial)) ?_
    clear hK K
    refine mv_act _ rfl (fun K hK => ?_)
    go_simp
    go_simp
    refine hK _ _ (.inl rfl) ?_
    clear hK K
    refine mv_nil ?_
    obtain ⟨W3, hW3⟩ : ∃ W3, W2.alloc (.cells #[.int .i64 (V : Nat), .slice none 0 0, .slice (some ⟨f 4, 0, none⟩) (2 * V + 2) (2 * V + 2), .slice (some ⟨f 7, 0, none⟩) (V + 1) (V + 1), .slice (some ⟨f 10, 0, none⟩) (V + 1) (V + 1), .slice (some ⟨f 13, 0, none⟩) (V + 1) (V + 1), .slice none 0 0, .slice none 0 0, .int .i64 0, .slice (some ⟨f 16, 0, none⟩) (V + 1) (V + 1), .float .f64 4607182418800017408, .slice (some ⟨f 19, 0, none⟩) (V + 1) (V + 1), .slice none 0 0, .slice (some ⟨f 22, 0, none⟩) (V + 1) (V + 1), .slice none 0 0, .bool false] 69) = W3 := ⟨_, rfl⟩
    have lt : ∀ i ∈ [4, 7, 10, 13, 16, 19, 22], W1.heap.size ≤ f i ∧ f i < W2.heap.size := fun i hi => ⟨(hf i hi).1, lt_of_heap (hf i hi).2⟩
    have blk : ∀ i ∈ [4, 7, 10, 13, 16, 19, 22], W3.heap[f i]? = some (mkO V i).o := fun i hi => by rw [← hW3]; exact (Below.heap_alloc _ _ _ (lt i hi).2).trans (hf i hi).2
    have l4 := lt 4 (by decide); have l7 := lt 7 (by decide); have l10 := lt 10 (by decide); have l13 := lt 13 (by decide); have l16 := lt 16 (by decide); have l19 := lt 19 (by decide); have l22 := lt 22 (by decide)
    have hslv := slv_new (V := V) (w := W3) (p := W2.heap.size) (gw := f 4) (gv := f 7) (gl := f 10) (gr := f 13) (gs := f 16) (gp := f 19) (gP := f 22) (by rw [← hW3]; exact Blk.new W2 _ _) (blk 4 (by decide)) (blk 7 (by decide)) (blk 10 (by decide)) (blk 13 (by decide)) (blk 16 (by decide)) (blk 19 (by decide)) (blk 22 (by decide))
      ⟨by omega, by omega, by omega, by omega, by omega, by omega, by omega, hff 7 (by decide) 4 (by decide) (by decide), hff 10 (by decide) 4 (by decide) (by decide), hff 13 (by decide) 4 (by decide) (by decide), hff 16 (by decide) 4 (by decide) (by decide), hff 19 (by decide) 4 (by decide) (by decide), hff 22 (by decide) 4 (by decide) (by decide),
        hff 10 (by decide) 7 (by decide) (by decide), hff 13 (by decide) 7 (by decide) (by decide), hff 16 (by decide) 7 (by decide) (by decide), hff 19 (by decide) 7 (by decide) (by decide), hff 22 (by decide) 7 (by decide) (by decide),
        hff 13 (by decide) 10 (by decide) (by decide), hff 16 (by decide) 10 (by decide) (by decide), hff 19 (by decide) 10 (by decide) (by decide), hff 22 (by decide) 10 (by decide) (by decide),
        hff 16 (by decide) 13 (by decide) (by decide), hff 19 (by decide) 13 (by decide) (by decide), hff 22 (by decide) 13 (by decide) (by decide), hff 19 (by decide) 16 (by decide) (by decide), hff 22 (by decide) 16 (by decide) (by decide), hff 22 (by decide) 19 (by decide) (by decide)⟩
    have htag : ∀ g, g < W1.heap.size → newTag W2.heap.size (f 4) (f 7) (f 10) (f 13) (f 16) (f 19) (f 22) g = (0, 0) := fun g hg => by
      have := hb2.size
      have : W1.heap.size ≤ W2.heap.size := this
      unfold newTag
      rw [if_neg (by omega), if_neg (by omega), if_neg (by omega), if_neg (by omega), if_neg (by omega), if_neg (by omega), if_neg (by omega), if_neg (by omega)]
    have hb13 : Below W1.heap.size W1 W3 := by
      rw [← hW3]
      exact ((below_drewN (Below.refl _ _) 1).trans hb2).alloc (by have := hb2.size; exact this) _
    have K3 := Lib.hid (K1.out.below hb13 K1.out.lt)
    have c31 := K3.out.cell 1
    have HST := Lib.hid (show NwR W1 W2.heap.size V (.int .i64 ((0 + 1 : Nat) : Int)) W3 from ⟨0, _, _, Nat.zero_le _, rfl, htag, hb13, by
      have e : (0 :: (List.range V).map (fun (j : Nat) => if j < 0 then (j : Int) else 0)) = List.replicate (V + 1) (0 : Int) := by
        rw [List.replicate_succ]; congr 1
        apply List.ext_getElem?
        intro j
        rw [List.getElem?_map]
        by_cases hj : j < V
        · rw [List.getElem?_range hj, List.getElem?_replicate, if_pos hj]; rfl
        · rw [List.getElem?_eq_none (by simp; omega), List.getElem?_eq_none (by simp; omega)]; rfl
      rw [e]; exact hslv⟩)
    obtain ⟨p, hp⟩ : ∃ p, W2.heap.size = p := ⟨_, rfl⟩
    rw [hW3]
    rw [hp] at HST ⊢
    have c31 : W3.cell? ⟨w.heap.size, 1, none⟩ = some (.slice A n c) := c31
    clear lt blk l4 l7 l10 l13 l16 l19 l22 hslv htag hb13 hf hff hb2 m1 m2 m3 m4 m5 w1 w2 w3 c0
    obtain ⟨i0, hi, hz0, hz1, hz2⟩ := info_parts info_int
    have HI := Lib.hid (And.intro hi (And.intro hz0 (And.intro hz1 hz2)))
    clear hi hz0 hz1 hz2 hp hW3
    go_wp2_with fail
    go_loopw [5] (fun iv wr => NwR W1 p V iv wr) (fun iv _ => V + 1 - (intOf iv).toNat)
    case atStart => exact HST.out
    case round =>
      obtain ⟨k, tag, y, hk, rfl, htag, hb, hslv⟩ := hrel
      clear HST
      have HTAG := Lib.hid htag
      have HB := Lib.hid hb
      have HSL := Lib.hid hslv
      clear htag hb
      obtain ⟨vC, rows, gw, wrows, gv, gl, gr, vt, vL, gs, gp, vh, gP, vP, prows⟩ := y
      by_cases hkV : k < V
      · as_aux_lemma =>
        obtain ⟨Ah, ch, hvh⟩ := hslv.hea.form
        rw [kVals_len] at hvh
        have hvh : vh = .slice Ah k ch := by simpa [ini, newS, fVals, fl0] using hvh
        subst hvh
        have hpl : (ini V ((List.range k).map (· + 1)) (0 :: (List.range V).map (fun (j : Nat) => if j < k then (j : Int) else 0))).pl[k + 1]? = some 0 := by
          show (0 :: (List.range V).map (fun (j : Nat) => if j < k then (j : Int) else 0))[k + 1]? = some 0
          rw [List.getElem?_cons_succ, List.getElem?_map, List.getElem?_range hkV, Option.map_some, if_neg (Nat.lt_irrefl k)]
        have cpl : wr.cell? ⟨gP, k + 1, none⟩ = some (.int .i64 0) := hslv.pla.cell (lit_at hpl)
        have fpl : wr.frozen? ⟨gP, k + 1, none⟩ = false := hslv.pla.frozen (k + 1)
        have c13 : wr.cell? ⟨p, 13, none⟩ = some (.slice (some ⟨gP, 0, none⟩) (V + 1) (V + 1)) := hslv.blk.cell 13
        obtain ⟨W4, hW4⟩ : ∃ W4, wr.setCell ⟨gP, k + 1, none⟩ (.int .i64 (k : Int)) = W4 := ⟨_, rfl⟩
        obtain ⟨h4, hc4⟩ := hslv.setPla (k + 1) (k : Int)
        dsimp only at h4 hc4
        rw [hW4] at h4 hc4
        have c124 : W4.cell? ⟨p, 12, none⟩ = some (.slice Ah k ch) := h4.blk.cell 12
        have f124 : W4.frozen? ⟨p, 12, none⟩ = false := h4.blk.frozen 12
        have l4 : p < W4.heap.size := h4.blk.lt
        have hw1 : IntKind.i64.wrap (((k + 1 : Nat) : Int) - 1) = (k : Int) := by rw [IntKind.wrap_i64]; omega
        have hkV2 : ((k + 1 : Nat) : Int) ≤ (V : Int) := by omega
        obtain ⟨k1, hk1⟩ : ∃ k1, k + 1 = k1 := ⟨_, rfl⟩
        rw [hk1] at cpl fpl hw1 hW4 hkV2 ⊢
        have hk1I : (k1 : Int) < (V : Int) + 1 := by omega
        have H4 := Lib.hid h4
        have HC4 := Lib.hid hc4
        have HW4 := Lib.hid hW4
        have HK1 := Lib.hid hk1
        have HROW := Lib.hid (show (W4.alloc (.cells #[.int .i64 (k1 : Int)] 3)).ownsRow 0 3 1 (.slice Ah k ch) k (kVals ((List.range k).map (· + 1))) from by
          have := ((h4.alloc (.cells #[.int .i64 (k1 : Int)] 3)).hea).own
          rw [kVals_len] at this
          have e : ({ ini V ((List.range k).map (· + 1)) (0 :: (List.range V).map (fun (j : Nat) => if j < k then (j : Int) else 0)) with pl := (ini V ((List.range k).map (· + 1)) (0 :: (List.range V).map (fun (j : Nat) => if j < k then (j : Int) else 0))).pl.set (k + 1) (k : Int) } : SS).hp.length = k := by simp [ini, newS]
          rw [e] at this; exact this)
        clear hslv h4 hc4 hW4 hpl hk1
        go_upto_region 7 with fail
        rw [HW4.out]
        clear cpl fpl c13
        go_wp2_with (first | (at_builtin; refine wpList_append_loc _ rfl (.tmp 52) (.tmp 54) _ rfl 0 3 i0 _ 1 8 Tryd.underlying25 HI.out.1 HI.out.2.1 HI.out.2.2.1 HI.out.2.2.2 rfl (by omega) (.slice Ah k ch) k (kVals ((List.range k).map (· + 1))) rfl HROW.out (W4.heap.size + 1) (some ⟨W4.heap.size, 0, none⟩) 1 1 [.int .i64 (k1 : Int)] rfl (reads_new (by simp) (by simp) rfl) (by intro u hu; rw [List.mem_singleton.1 hu]; rfl) (le_maxLen (by omega)) (le_bytes (by omega) (by omega)) (by simp) ?_; intro A6 c6 w6 hown6 hg6 hl6; have hb6 := (H4.out.alloc (.cells #[.int .i64 (k1 : Int)] 3)).blk.grown hg6 (own_blk_ne HROW.out (H4.out.alloc (.cells #[.int .i64 (k1 : Int)] 3)).blk (by decide)).symm; have c126 : w6.cell? ⟨p, 12, none⟩ = some (.slice Ah k ch) := hb6.cell 12; have f126 : w6.frozen? ⟨p, 12, none⟩ = false := hb6.frozen 12; have HOWN6 := Lib.hid hown6; have HG6 := Lib.hid hg6; have HL6 := Lib.hid hl6; clear hown6 hg6 hl6 hb6) | fail)
        go_roundw
        case rel =>
          have hown6 := HOWN6.out
          rw [← HK1.out] at hown6
          have hown7 : w6.ownsRow 0 3 1 (.slice A6 (k + 1) c6) (k + 1) (kVals ((List.range (k + 1)).map (· + 1))) := by
            rw [← hp_step, ← k_snoc]; exact hown6
          obtain ⟨tag7, hr7, hc7, h7⟩ := (H4.out.alloc (.cells #[.int .i64 (k1 : Int)] 3)).heapUp (l' := (List.range (k + 1)).map (· + 1)) hown7 (by simp) HG6.out HL6.out
          obtain ⟨y7, h8⟩ : ∃ y7, Slv (w6.setCell ⟨p, 12, none⟩ (.slice A6 (k + 1) c6)) tag7 p V y7 (ini V ((List.range (k + 1)).map (· + 1)) (0 :: (List.range V).map (fun (j : Nat) => if j < k + 1 then (j : Int) else 0))) := by
            refine Exists.intro ?_ ?_
            rotate_left
            · rw [← pl_step hkV]
              exact h7
          refine ⟨k + 1, tag7, y7, by omega, by rw [← HK1.out]; go_num, fun g hg => (hr7 g (by have := HB.out.size; have := HC4.out.size; simp; omega)).trans (HTAG.out g hg), ?_, h8⟩
          · have hc : Cg tag (Fr 16) wr (w6.setCell ⟨p, 12, none⟩ (.slice A6 (k + 1) c6)) := (HC4.out.trans (cg_new ((Below.refl _ _).alloc (Nat.le_refl _) (.cells #[.int .i64 (k1 : Int)] 3)))).trans hc7
            exact HB.out.trans (hc.below_ (fun g hg h9 => by rw [HTAG.out g hg] at h9; exact absurd h9.1 (by decide)) HB.out.size)
        case measure => have := HK1.out; simp [intOf]; omega
      · as_aux_lemma =>
        obtain rfl : k = V := by omega
        have c31' : wr.cell? ⟨w.heap.size, 1, none⟩ = some (.slice A n c) := ((K1.out.below HB.out K1.out.lt)).cell 1
        have hno : ¬ ((k + 1 : Nat) : Int) ≤ (k : Int) := by omega
        have hbw : Below w.heap.size w wr := HB1.out.trans (HB.out.mono HB1.out.size)
        have HST2 := Lib.hid (show NwC w p k n F sF (.int .i64 ((0 : Nat) : Int)) wr from ⟨0, newS k, tag, _, Nat.zero_le _, rfl, HCR.out.2.2.2, fun g hg => HTAG.out g (by have := HB1.out.size; omega), hbw, by
          have e : (0 :: (List.range k).map (fun (j : Nat) => if j < k then (j : Int) else 0)) = 0 :: (List.range k).map (fun (j : Nat) => (j : Int)) := by
            congr 1
            apply List.map_congr_left
            intro j hj
            rw [if_pos (List.mem_range.1 hj)]
          rw [← newS_ini, ← e]; exact HSL.out⟩)
        clear hslv hkV hbw HSL HTAG HB
        go_wp2_with fail
        go_loopw [61] (fun iv wx => NwC w p k n F sF iv wx) (fun iv _ => n - (intOf iv).toNat)
        case atStart => exact HST2.out
        case round =>
          clear HST2 c31'
          obtain ⟨i, s1, tag1, y1, hi, e1, hu, htag, hb, hs⟩ := hrel
          subst e1
          by_cases hin : i < n
          · as_aux_lemma =>
            obtain ⟨l, hl⟩ : ∃ l, F[i]? = some l := ⟨_, List.getElem?_eq_getElem (by have := HCR.out.2.2.1; omega)⟩
            obtain ⟨ga, ul, hA, hga, hcu, hou⟩ := (HCR.out.1.below hb) i l hl
            obtain ⟨Al, cl, hul⟩ := own_form hou
            subst hul
            subst hA
            obtain ⟨m0, hm0⟩ : ∃ m0, l.length = m0 := ⟨_, rfl⟩
            rw [hm0] at hcu hou
            have hll := HCR.out.2.1 l (List.mem_of_getElem? hl)
            rw [hm0] at hll
            have hiI : (i : Int) < (n : Int) := by omega
            have wi : IntKind.i64.wrap ((i : Int) + 1) = ((i + 1 : Nat) : Int) := by rw [IntKind.wrap_i64]; omega
            have hdrop : F.drop i = l :: F.drop (i + 1) := by
              obtain ⟨a1, a2⟩ := List.getElem?_eq_some_iff.1 hl
              rw [List.drop_eq_getElem_cons a1, a2]
            rw [hdrop] at hu
            unfold addAll at hu
            split at hu
            · cases hu
            rename_i s2 hadd
            have HU := Lib.hid hu
            have HTAG := Lib.hid htag
            have HB := Lib.hid hb
            obtain ⟨j0, hj0, hjz0, hjz1, hjz2⟩ := info_parts info_int
            have HJ := Lib.hid (And.intro hj0 (And.intro hjz0 (And.intro hjz1 hjz2)))
            clear hj0 hjz0 hjz1 hjz2
            by_cases hz0 : m0 = 0
            · subst hz0
              obtain rfl : l = [] := List.length_eq_zero_iff.1 hm0
              have fin : ∀ (w5 w6 : World) (e : Ending), Below wr.heap.size wr w5 → AdP w5 tag1 p k none s2 e w6 → e = .returned (.tuple #[]) ∧ NwC w p k n F sF (.int .i64 ((i + 1 : Nat) : Int)) w6 := fun w5 w6 e hb5 h => by
                obtain ⟨e1, tag', y', h1, h2, h3⟩ := h
                refine ⟨e1, i + 1, s2, tag', y', hin, rfl, HU.out, fun g hg => (h1 g (by have := HB.out.size; have := hb5.size; omega) (by simp)).trans (HTAG.out g hg), ?_, h3⟩
                have hw5 : Below w.heap.size w w5 := HB.out.trans (hb5.mono HB.out.size)
                exact hw5.trans (h2.below_ (fun g hg h9 => by rw [HTAG.out g hg] at h9; exact absurd h9.1 (by decide)) hw5.size)
              have FIN := Lib.hid fin
              cases Al with
              | none =>
                have CK := Lib.hid (Tryd.slices_Clone_own_nil 0 cl wr)
                have CA := Lib.hid (add_none' (A := none) (cc := 0) hs hadd)
                clear fin hs hu htag hb hadd hou hl hdrop hm0 HU
                go_wp2_with fail
                refine CK.out.mono ?_
                rintro e w5 ⟨rfl, hw5⟩
                subst hw5
                go_wp2_with fail
                refine CA.out.mono ?_
                rintro e w6 h6
                obtain ⟨rfl, h7⟩ := FIN.out _ w6 e (Below.refl _ _) h6
                have H7 := Lib.hid h7
                clear h6 h7
                go_wp2_with fail
                go_roundw
                case rel => exact H7.out
                case measure => simp [intOf]; omega
              | some ad =>
                obtain ⟨gl, hgl⟩ : ∃ gl, ad = ⟨gl, 0, none⟩ := by
                  rcases hou.2 with ⟨h0, _⟩ | ⟨g', c', cur, hv', _⟩
                  · cases h0
                  · injection hv' with e1; injection e1 with e1; exact ⟨g', e1⟩
                subst hgl
                have CK := Lib.hid (Tryd.slices_Clone_own j0 _ 1 8 HJ.out.1 HJ.out.2.1 HJ.out.2.2.1 HJ.out.2.2.2 rfl (by omega) Tryd.sizeOf3 gl 0 0 cl (litVals []) wr (by simp [litVals]) (by simp [maxLen]) (by omega) (fun j u hu => by simp [litVals] at hu) (lits1' []))
                have HSL2 := Lib.hid hs
                have HADD := Lib.hid hadd
                clear fin hs hu htag hb hadd hou hl hdrop hm0 HU
                go_wp2_with fail
                refine CK.out.mono ?_
                rintro e w5 ⟨v5, rfl, hown5, _, hb5⟩
                obtain ⟨A5, c5, rfl⟩ := own_form hown5
                have CA := Lib.hid (add_none' (A := A5) (cc := c5) (HSL2.out.new hb5) HADD.out)
                have HB5 := Lib.hid hb5
                clear hown5 hb5
                go_wp2_with fail
                refine CA.out.mono ?_
                rintro e w6 h6
                obtain ⟨rfl, h7⟩ := FIN.out _ w6 e HB5.out h6
                have H7 := Lib.hid h7
                clear h6 h7
                go_wp2_with fail
                go_roundw
                case rel => exact H7.out
                case measure => simp [intOf]; omega
            · obtain ⟨gl, cl2, hvl, _, _⟩ := hou.form (by omega)
              injection hvl with q1 _ q3
              subst q1
              subst q3
              have hcells : ∀ j u, (litVals l)[j]? = some u → wr.cell? ⟨gl, 0 + j, none⟩ = some u := fun j u hu => by
                have hr9 : Row wr (fun _ => (18, 0)) (18, 0) 0 3 (.slice (some ⟨gl, 0, none⟩) (litVals l).length cl) (litVals l) := ⟨by rw [litVals_len, hm0]; exact hou, fun _ _ => rfl⟩
                rw [Nat.zero_add]
                exact hr9.cell hu
              have CK := Lib.hid (Tryd.slices_Clone_own j0 _ 1 8 HJ.out.1 HJ.out.2.1 HJ.out.2.2.1 HJ.out.2.2.2 rfl (by omega) Tryd.sizeOf3 gl 0 m0 cl (litVals l) wr (by rw [litVals_len, hm0, Nat.mul_one]) (le_maxLen4 (by omega)) (le_bytes4 (by omega) (by omega)) hcells (lits1' l))
              have HSL2 := Lib.hid hs
              have HADD := Lib.hid hadd
              have HM0 := Lib.hid hm0
              have HLL := Lib.hid hll.2
              have hm06 : m0 ≤ 1000000 := hll.1
              clear hs hu htag hb hadd hou hl hdrop hm0 hll hcells
              go_wp2_with fail
              refine CK.out.mono ?_
              rintro e w5 ⟨v5, rfl, hown5, _, hb5⟩
              obtain ⟨g5, c5, hv5, hg5, hlt5⟩ := hown5.form (by omega)
              subst hv5
              have hre5 : Re wr tag1 (put tag1 g5 (18, 0)) := re_put hg5
              have hr5 : Row w5 (put tag1 g5 (18, 0)) (18, 0) wr.heap.size 3 (.slice (some ⟨g5, 0, none⟩) m0 c5) (litVals l) :=
                ⟨by rw [litVals_len, HM0.out]; exact hown5, fun g' hg' => by injection hg' with hg'; subst hg'; exact put_same _ _ _⟩
              have CA := Lib.hid (add_any ((HSL2.out.re hre5).new hb5) HADD.out (by omega) HM0.out (by omega) hm06 HLL.out hr5)
              have HB5 := Lib.hid hb5
              have HG5 := Lib.hid hg5
              have HRE5 := Lib.hid hre5
              clear hown5 hb5 hg5 hlt5 hre5 hr5
              go_wp2_with fail
              refine CA.out.mono ?_
              rintro e w6 ⟨rfl, tag', y', h1, h2, h3⟩
              have H7 := Lib.hid (show NwC w p k n F sF (.int .i64 ((i + 1 : Nat) : Int)) w6 from by
                have hw5 : Below w.heap.size w w5 := HB.out.trans (HB5.out.mono HB.out.size)
                have ht5 : ∀ g, g < w.heap.size → put tag1 g5 (18, 0) g = (0, 0) := fun g hg => (HRE5.out g (by have := HB.out.size; omega)).trans (HTAG.out g hg)
                refine ⟨i + 1, s2, tag', y', hin, rfl, HU.out, fun g hg => (h1 g (by have := hw5.size; omega) (fun e => by injection e with e; have := HG5.out; have := HB.out.size; omega)).trans (ht5 g hg), ?_, h3⟩
                exact hw5.trans (h2.below_ (fun g hg h9 => by rw [ht5 g hg] at h9; exact absurd h9.1 (by decide)) hw5.size))
              clear h1 h2 h3
              go_wp2_with fail
              go_roundw
              case rel => exact H7.out
              case measure => simp [intOf]; omega
          · obtain rfl : i = n := by omega
            rw [List.drop_eq_nil_of_le (by rw [HCR.out.2.2.1]; exact Nat.le_refl _)] at hu
            unfold addAll at hu
            injection hu with hu
            subst hu
            have HE := Lib.hid (show NwP w k s1 (.returned (.pointer (some ⟨p, 0, none⟩))) wr from ⟨p, tag1, y1, rfl, htag, hb, hs⟩)
            clear htag hb hs
            go_wp2_with fail
            go_ret
            exact HE.out
end
end Go.Proofs.YtaedbnbeelkkcaaDoor.slv
namespace Go.Proofs.YtaedbnbeelkkcaaDoor.slv
open Go.RowKit
section
variable {w : World} {tag : Nat → Tag} {p V : Nat} {y : SLay} {s : SS}
def MrP (w : World) (tag : Nat → Tag) (p V : Nat) (s : SS) (e : Ending) (w' : World) : Prop :=
  e = .returned (.tuple #[]) ∧ ∃ tag' y', Re w tag tag' ∧ Cg tag (Fr 18) w w' ∧ Slv w' tag' p V y' s
def MrR (w : World) (tag : Nat → Tag) (p V : Nat) (y : SLay) (s : SS) (c : List Int) (n : Nat) (R : Option (List Int)) (iv ov : Value) (wr : World) : Prop :=
  ∃ (i : Nat) (out : List Int) (tag1 : Nat → Tag) (R' : Option (List Int)), iv = .int .i64 (i : Nat) ∧ i ≤ n ∧ out.length ≤ i ∧ (∀ x ∈ out, x ∈ c) ∧ openM s.vs (c.drop i) = some R' ∧ R'.map (out ++ ·) = R ∧ Slv wr tag1 p V y s ∧ Re w tag tag1 ∧ Below w.heap.size w wr ∧ Row wr tag1 (18, 0) w.heap.size 3 ov (litVals out)
def contM (V : Nat) (s : SS) : Option (List Int) → Option SS
  | none => some s
  | some l => addM V s l
theorem moreM_split {V : Nat} {s s' : SS} {c : List Int} (hu : moreM V s c = some s') : ∃ R, openM s.vs c = some R ∧ contM V s R = some s' := by
  unfold moreM at hu
  split at hu
  · cases hu
  · rename_i e; exact ⟨none, e, hu⟩
  · rename_i l e; exact ⟨some l, e, hu⟩
theorem openM_step {vs : List Int} {x : Int} {r : List Int} {R' : Option (List Int)} (h : openM vs (x :: r) = some R') : ∃ xv, ofM vs x = some xv ∧ ((xv = 1 ∧ R' = none) ∨ (xv ≠ 1 ∧ ∃ R'', openM vs r = some R'' ∧ (xv = 0 → R' = R''.map (x :: ·)) ∧ (xv ≠ 0 → R' = R''))) := by
  unfold openM at h
  split at h
  · cases h
  rename_i xv hof
  refine ⟨xv, hof, ?_⟩
  by_cases x1 : xv = 1
  · rw [if_pos x1] at h
    injection h with h
    exact .inl ⟨x1, h.symm⟩
  · rw [if_neg x1] at h
    refine .inr ⟨x1, ?_⟩
    split at h
    · cases h
    · rename_i e
      injection h with h
      subst h
      exact ⟨none, e, fun _ => rfl, fun _ => rfl⟩
    · rename_i l e
      by_cases x0 : xv = 0
      · rw [if_pos x0] at h
        injection h with h
        subst h
        exact ⟨some l, e, fun _ => rfl, fun h => absurd x0 h⟩
      · rw [if_neg x0] at h
        injection h with h
        subst h
        exact ⟨some l, e, fun h => absurd h x0, fun _ => rfl⟩
set_option maxRecDepth 100000 in
set_option maxHeartbeats 8000000 in
theorem more_any {A : Option Addr} {n cc B0 : Nat} {c : List Int} {s' : SS} (h : Slv w tag p V y s) (hu : moreM V s c = some s') (hV : V ≤ 400000) (hn : c.length = n) (hcl : n ≤ 1000000) (hlit : ∀ x ∈ c, x.natAbs ≤ 1000000) (hown : w.ownsRow B0 3 1 (.slice A n cc) n (litVals c)) :
    Calls Tryd.prog 19 #[.pointer (some ⟨p, 0, none⟩), .slice A n cc] w (MrP w tag p V s') := by
  obtain ⟨i0, hi0, hz0, hz1, hz2⟩ := info_parts info_int
  have HI := Lib.hid (And.intro hi0 (And.intro hz0 (And.intro hz1 hz2)))
  clear hi0 hz0 hz1 hz2
  obtain ⟨R, hR, hu2⟩ := moreM_split hu
  have HU := Lib.hid hu2
  have HST := Lib.hid (show MrR w tag p V y s c n R (.int .i64 ((0 : Nat) : Int)) (.slice none 0 0) w from ⟨0, [], tag, R, rfl, Nat.zero_le _, Nat.le_refl _, fun x hx => (by cases hx), by rw [List.drop_zero]; exact hR, by cases R <;> rfl, h, Re.refl _ _, Below.refl _ _, Row.nil _ _ _ _ _⟩)
  have HC := Lib.hid (And.intro hn hown)
  have HLIT := Lib.hid hlit
  clear h hu hu2 hR hn hown hlit
  go_enter Tryd.func19, Tryd.ntmps19
  go_wp2_with fail
  go_loopw [9, 4] (fun iv ov wr => MrR w tag p V y s c n R iv ov wr) (fun iv _ _ => n - (intOf iv).toNat)
  case atStart => exact HST.out
  case round =>
    clear HST
    obtain ⟨i, out, tag1, R', e1, hi, hol, hmem, hop, hRR, hs, hre, hb, hrow⟩ := hrel
    subst e1
    by_cases hin : i < n
    · as_aux_lemma =>
      obtain ⟨x, hx⟩ : ∃ x, c[i]? = some x := ⟨_, List.getElem?_eq_getElem (by have := HC.out.1; omega)⟩
      obtain ⟨gc, cc2, hv, _, _⟩ := HC.out.2.form (by omega)
      injection hv with q1 _ q3
      subst q1
      subst q3
      have hown1 := own_chg (S := fun _ _ => False) HC.out.2 (Chg.of_new hb) (fun _ _ _ _ => id)
      have cx : wr.cell? ⟨gc, i, none⟩ = some (.int .i64 x) := by
        have hr9 : Row wr (fun _ => (18, 0)) (18, 0) B0 3 (.slice (some ⟨gc, 0, none⟩) (litVals c).length cc) (litVals c) := ⟨by rw [litVals_len, HC.out.1]; exact hown1, fun _ _ => rfl⟩
        exact hr9.cell (lit_at hx)
      have hiI : (i : Int) < (n : Int) := by omega
      have wi : IntKind.i64.wrap ((i : Int) + 1) = ((i + 1 : Nat) : Int) := by rw [IntKind.wrap_i64]; omega
      have hdrop : c.drop i = x :: c.drop (i + 1) := by
        obtain ⟨a1, a2⟩ := List.getElem?_eq_some_iff.1 hx
        rw [List.drop_eq_getElem_cons a1, a2]
      rw [hdrop] at hop
      obtain ⟨xv, hof, hcase⟩ := openM_step hop
      have CO := Lib.hid (of_any hs hof hV)
      rcases hcase with ⟨x1, hR'⟩ | ⟨x1, R2, hop2, hz, hnz⟩
      · subst hR'
        have hR0 : R = none := hRR.symm
        subst hR0
        have hu : some s = some s' := HU.out
        injection hu with hu
        subst hu
        have t1 : (xv == 1) = true := by simp [x1]
        have HE := Lib.hid (show MrP w tag p V s (.returned (.tuple #[])) wr from ⟨rfl, tag1, y, hre, cg_new hb, hs⟩)
        clear hs hre hb hrow hown1 hof hRR hmem hol x1 hx hdrop hop
        go_wp2_with fail
        refine CO.out.mono ?_
        rintro e w3 ⟨rfl, rfl⟩
        go_wp2_with fail
        go_end0
        exact HE.out
      · have t1 : (xv == 1) = false := by simp [x1]
        by_cases x0 : xv = 0
        · have hR' := hz x0
          subst hR'
          have t2 : (xv == 0) = true := by simp [x0]
          obtain ⟨no, hno⟩ : ∃ no, out.length = no := ⟨_, rfl⟩
          obtain ⟨Ao, co, hov⟩ := hrow.form
          rw [litVals_len, hno] at hov
          subst hov
          have hra := hrow.alloc (.cells #[.int .i64 x] 3)
          have HO := Lib.hid (show (wr.alloc (.cells #[.int .i64 x] 3)).ownsRow w.heap.size 3 1 (.slice Ao no co) no (litVals out) from by
            have := hra.own
            rw [litVals_len, hno] at this; exact this)
          have hnb : no ≤ 1000000 := by omega
          have HRA := Lib.hid hra
          have HS := Lib.hid hs
          have HRE := Lib.hid hre
          have HBW := Lib.hid hb
          have HSZ := Lib.hid (show w.heap.size ≤ (wr.alloc (.cells #[.int .i64 x] 3)).heap.size by have := hb.size; simp; omega)
          have HNO := Lib.hid (And.intro hno (And.intro hol (And.intro hmem (List.mem_of_getElem? hx))))
          have HRR := Lib.hid (And.intro hop2 hRR)
          clear hs hre hb hrow hown1 hof hRR hmem hol x1 x0 hx hdrop hop hop2 hz hnz hra hno
          go_wp2_with fail
          refine CO.out.mono ?_
          rintro e w3 ⟨rfl, rfl⟩
          go_wp2_with (first | (at_builtin; refine wpList_append_loc _ rfl (.tmp 20) (.tmp 22) _ rfl w.heap.size 3 i0 _ 1 8 Tryd.underlying25 HI.out.1 HI.out.2.1 HI.out.2.2.1 HI.out.2.2.2 rfl (by omega) (.slice Ao no co) no (litVals out) rfl HO.out (wr.heap.size + 1) (some ⟨wr.heap.size, 0, none⟩) 1 1 [.int .i64 x] rfl (reads_new (by simp) (by simp) rfl) (by intro u hu; rw [List.mem_singleton.1 hu]; rfl) (le_maxLen4 (by omega)) (le_bytes4 (by omega) (by omega)) HSZ.out ?_; intro A6 c6 w6 hown6 hg6 hl6; have HO6 := Lib.hid hown6; have HG6 := Lib.hid hg6; have HL6 := Lib.hid hl6; clear hown6 hg6 hl6) | fail)
          have hown6 := HO6.out
          rw [lit_snoc] at hown6
          obtain ⟨tag6, hre6, hrow6, hc6⟩ := HRA.out.grown hown6 (by rw [litVals_len, List.length_append, HNO.out.1]; rfl) HG6.out HL6.out
          have hb6 : Below w.heap.size w w6 := ((HBW.out.alloc HBW.out.size (.cells #[.int .i64 x] 3)).grown HG6.out HSZ.out (own_geq HO.out))
          have hs6 : Slv w6 tag6 p V y s := ((HS.out.alloc (.cells #[.int .i64 x] 3)).re hre6).keep (hc6.re_ hre6) fun t ht e => by subst e; exact absurd ht.2 (by decide)
          have HN := Lib.hid (show MrR w tag p V y s c n R (.int .i64 ((i + 1 : Nat) : Int)) (.slice A6 (no + 1) c6) w6 from
            ⟨i + 1, out ++ [x], tag6, R2, rfl, hin, by rw [List.length_append]; have := HNO.out.2.1; simp; omega, fun z hz => by
              rcases List.mem_append.1 hz with e | e
              · exact HNO.out.2.2.1 z e
              · rw [List.mem_singleton.1 e]; exact HNO.out.2.2.2, HRR.out.1, by
              rw [← HRR.out.2]
              cases R2 with
              | none => rfl
              | some l => simp, hs6, fun b hb => (hre6 b (by have := HSZ.out; omega)).trans (HRE.out b hb), hb6, hrow6⟩)
          clear hown6 hre6 hrow6 hc6 hb6 hs6
          go_roundw
          case rel => exact HN.out
          case measure => simp [intOf]; omega
        · have hR' := hnz x0
          subst hR'
          have t2 : (xv == 0) = false := by simp [x0]
          have HN := Lib.hid (show MrR w tag p V y s c n R (.int .i64 ((i + 1 : Nat) : Int)) u4 wr from ⟨i + 1, out, tag1, R', rfl, hin, by omega, hmem, hop2, hRR, hs, hre, hb, hrow⟩)
          clear hs hre hb hrow hown1 hof hRR hmem hol x1 x0 hx hdrop hop hop2 hz hnz
          go_wp2_with fail
          refine CO.out.mono ?_
          rintro e w3 ⟨rfl, rfl⟩
          go_wp2_with fail
          go_roundw
          case rel => exact HN.out
          case measure => simp [intOf]; omega
    · obtain rfl : i = n := by omega
      rw [List.drop_eq_nil_of_le (by rw [HC.out.1]; exact Nat.le_refl _)] at hop
      unfold openM at hop
      injection hop with hop
      subst hop
      have hRo : R = some out := by rw [← hRR]; simp
      subst hRo
      have hadd : addM V s out = some s' := HU.out
      obtain ⟨no, hno⟩ : ∃ no, out.length = no := ⟨_, rfl⟩
      obtain ⟨Ao, co, hov⟩ := hrow.form
      rw [litVals_len, hno] at hov
      subst hov
      by_cases hn0 : no = 0
      · subst hn0
        obtain rfl : out = [] := List.length_eq_zero_iff.1 hno
        have CA := Lib.hid (add_none' (A := Ao) (cc := co) hs hadd)
        have HRE := Lib.hid hre
        have HBW := Lib.hid hb
        clear hs hre hb hrow hRR hmem hol hadd
        go_wp2_with fail
        refine CA.out.mono ?_
        rintro e w6 ⟨rfl, tag', y', h1, h2, h3⟩
        have HE := Lib.hid (show MrP w tag p V s' (.returned (.tuple #[])) w6 from ⟨rfl, tag', y', fun b hb => (h1 b (by have := HBW.out.size; omega) (by simp)).trans (HRE.out b hb), (cg_new HBW.out).trans_ h2 HRE.out, h3⟩)
        clear h1 h2 h3
        go_wp2_with fail
        go_end0
        exact HE.out
      · obtain ⟨go, co2, hv, hgo, _⟩ := hrow.at_ (by rw [litVals_len, hno]; omega)
        rw [litVals_len, hno] at hv
        injection hv with q1 _ q3
        subst q1
        subst q3
        have CA := Lib.hid (add_any hs hadd hV hno (by omega) (by omega) (fun x hx => HLIT.out x (hmem x hx)) hrow)
        have HRE := Lib.hid hre
        have HBW := Lib.hid hb
        have HGO := Lib.hid hgo
        clear hs hre hb hrow hRR hmem hol hadd hno
        go_wp2_with fail
        refine CA.out.mono ?_
        rintro e w6 ⟨rfl, tag', y', h1, h2, h3⟩
        have HE := Lib.hid (show MrP w tag p V s' (.returned (.tuple #[])) w6 from ⟨rfl, tag', y', fun b hb => (h1 b (by have := HBW.out.size; omega) (fun e => by injection e with e; have := HGO.out; omega)).trans (HRE.out b hb), (cg_new HBW.out).trans_ h2 HRE.out, h3⟩)
        clear h1 h2 h3
        go_wp2_with fail
        go_end0
        exact HE.out
end
end Go.Proofs.YtaedbnbeelkkcaaDoor.slv
