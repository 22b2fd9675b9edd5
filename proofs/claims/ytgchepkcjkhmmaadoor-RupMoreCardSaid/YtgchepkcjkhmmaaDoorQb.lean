/-
  WALK of sat.newSolver: of a formula without clauses.
-/
import Derived.Test.YtgchepkcjkhmmaaDoorQa
import Derived.Test.YtgchepkcjkhmmaaDoorHm
import Derived.Test.YtgchepkcjkhmmaaDoorHt
import Derived.Test.YtgchepkcjkhmmaaDoorZe
namespace Go.Proofs.YtgchepkcjkhmmaaDoor.slv
open Go.RowKit
def one : Value := .float .f64 4607182418800017408
def fl0 : Value := .float .f64 0
/-- a new solver -/
def ini (V : Nat) (hp : List Nat) (pl : List Int) : SS := ⟨[], fun _ => [], List.replicate (V + 1) 0, List.replicate (V + 1) 0, List.replicate (V + 1) 0, [], [], 0, List.replicate (V + 1) fl0, one, List.replicate (V + 1) false, hp, pl, [], false⟩
def newTag (p gw gv gl gr gs gp gP : Nat) : Nat → Tag := fun g => if g = p then (1, 0) else if g = gw then (4, 0) else if g = gv then (6, 0) else if g = gl then (7, 0) else if g = gr then (8, 0) else if g = gs then (11, 0) else if g = gp then (12, 0) else if g = gP then (14, 0) else (0, 0)
theorem slv_new {w : World} {p gw gv gl gr gs gp gP V : Nat}
    (hp : Blk w p 66 #[.int .i64 (V : Nat), .slice none 0 0, .slice (some ⟨gw, 0, none⟩) (2 * V + 2) (2 * V + 2), .slice (some ⟨gv, 0, none⟩) (V + 1) (V + 1), .slice (some ⟨gl, 0, none⟩) (V + 1) (V + 1), .slice (some ⟨gr, 0, none⟩) (V + 1) (V + 1), .slice none 0 0, .slice none 0 0, .int .i64 ((0 : Nat) : Int), .slice (some ⟨gs, 0, none⟩) (V + 1) (V + 1), one, .slice (some ⟨gp, 0, none⟩) (V + 1) (V + 1), .slice none 0 0, .slice (some ⟨gP, 0, none⟩) (V + 1) (V + 1), .slice none 0 0, .bool false])
    (hw : Blk w gw 27 (List.replicate (2 * V + 2) (Value.slice none 0 0)).toArray) (hv : Blk w gv 73 (i8Vals (List.replicate (V + 1) 0)).toArray) (hl : Blk w gl 3 (litVals (List.replicate (V + 1) 0)).toArray) (hr : Blk w gr 3 (litVals (List.replicate (V + 1) 0)).toArray)
    (hs : Blk w gs 64 (List.replicate (V + 1) fl0).toArray) (hph : Blk w gp 4 (boolVals (List.replicate (V + 1) false)).toArray) (hP : Blk w gP 3 (litVals (List.replicate (V + 1) 0)).toArray)
    (hd : gw ≠ p ∧ gv ≠ p ∧ gl ≠ p ∧ gr ≠ p ∧ gs ≠ p ∧ gp ≠ p ∧ gP ≠ p ∧ gv ≠ gw ∧ gl ≠ gw ∧ gr ≠ gw ∧ gs ≠ gw ∧ gp ≠ gw ∧ gP ≠ gw ∧ gl ≠ gv ∧ gr ≠ gv ∧ gs ≠ gv ∧ gp ≠ gv ∧ gP ≠ gv ∧ gr ≠ gl ∧ gs ≠ gl ∧ gp ≠ gl ∧ gP ≠ gl ∧ gs ≠ gr ∧ gp ≠ gr ∧ gP ≠ gr ∧ gp ≠ gs ∧ gP ≠ gs ∧ gP ≠ gp) :
    Slv w (newTag p gw gv gl gr gs gp gP) p V ⟨.slice none 0 0, [], gw, List.replicate (2 * V + 2) (.slice none 0 0), gv, gl, gr, .slice none 0 0, .slice none 0 0, gs, gp, .slice none 0 0, gP, .slice none 0 0, []⟩ (ini V [] (List.replicate (V + 1) 0)) := by
  obtain ⟨d1, d2, d3, d4, d5, d6, d7, d8, d9, d10, d11, d12, d13, d14, d15, d16, d17, d18, d19, d20, d21, d22, d23, d24, d25, d26, d27, d28⟩ := hd
  exact {
    blk := hp
    tp := by unfold newTag; rw [if_pos rfl]
    hdr := Row.nil _ _ _ _ _
    cls := fun k x u hx hu => by cases hx
    whd := by
      have := hw.cel (tag := newTag p gw gv gl gr gs gp gP) (t := (4, 0)) (by unfold newTag; rw [if_neg d1, if_pos rfl])
      simpa [ini] using this
    wts := fun i u hu => by
      have hu : (List.replicate (2 * V + 2) (Value.slice none 0 0))[i]? = some u := hu
      have := List.eq_of_mem_replicate (List.mem_of_getElem? hu)
      subst this
      exact Row.nil _ _ _ _ _
    val := by
      have := hv.cel (tag := newTag p gw gv gl gr gs gp gP) (t := (6, 0)) (by unfold newTag; rw [if_neg d2, if_neg d8, if_pos rfl])
      simpa [ini] using this
    lev := by
      have := hl.cel (tag := newTag p gw gv gl gr gs gp gP) (t := (7, 0)) (by unfold newTag; rw [if_neg d3, if_neg d9, if_neg d14, if_pos rfl])
      simpa [ini] using this
    rea := by
      have := hr.cel (tag := newTag p gw gv gl gr gs gp gP) (t := (8, 0)) (by unfold newTag; rw [if_neg d4, if_neg d10, if_neg d15, if_neg d19, if_pos rfl])
      simpa [ini] using this
    trl := Row.nil _ _ _ _ _
    lim := Row.nil _ _ _ _ _
    sco := by
      have := hs.cel (tag := newTag p gw gv gl gr gs gp gP) (t := (11, 0)) (by unfold newTag; rw [if_neg d5, if_neg d11, if_neg d16, if_neg d20, if_neg d23, if_pos rfl])
      simpa [ini] using this
    pha := by
      have := hph.cel (tag := newTag p gw gv gl gr gs gp gP) (t := (12, 0)) (by unfold newTag; rw [if_neg d6, if_neg d12, if_neg d17, if_neg d21, if_neg d24, if_neg d26, if_pos rfl])
      simpa [ini] using this
    hea := Row.nil _ _ _ _ _
    pla := by
      have := hP.cel (tag := newTag p gw gv gl gr gs gp gP) (t := (14, 0)) (by unfold newTag; rw [if_neg d7, if_neg d13, if_neg d18, if_neg d22, if_neg d25, if_neg d27, if_neg d28, if_pos rfl])
      simpa [ini] using this
    prf := Row.nil _ _ _ _ _
    prc := fun k x u hx hu => by cases hx
    rlen := rfl
    wlen := by simp
    vl := by simp [ini]
    ll := by simp [ini]
    rl := by simp [ini]
    sl := by simp [ini]
    phl := by simp [ini]
    pll := by simp [ini]
    plen := rfl
    scf := fun u hu => ⟨0, List.eq_of_mem_replicate hu⟩ }
section
theorem info_bool : (Tryd.prog.info? 4).map (fun i => (i.zero, i.size, i.bytes)) = some (some (.bool false), 1, 1) := by kernel_rfl
theorem info_f64 : (Tryd.prog.info? 64).map (fun i => (i.zero, i.size, i.bytes)) = some (some fl0, 1, 8) := by kernel_rfl
theorem info_sl : (Tryd.prog.info? 27).map (fun i => (i.zero, i.size, i.bytes)) = some (some (.slice none 0 0), 1, 24) := by kernel_rfl
set_option maxRecDepth 100000 in
theorem make_bool (n : Nat) (hn : n ≤ 1000000) (w : World) : (Instr.makeSlice 39 (.int .i64 ((n : Int) + 1)) (.int .i64 ((n : Int) + 1))).run Tryd.prog w =
    .ok (.slice (some ⟨w.heap.size, 0, none⟩) (n + 1) (n + 1)) (w.alloc (.cells (boolVals (List.replicate (n + 1) false)).toArray 4)) := by
  obtain ⟨i0, hi, hz0, hz1, hz2⟩ := info_parts info_bool
  have h := run_make_rowN (P := Tryd.prog) 39 4 i0 (.bool false) Tryd.underlying39 hi hz0 .i64 .i64 (n + 1) (n + 1) (Nat.le_refl _) (by rw [hz2]; omega) (by omega) w
  have e0 : ((n + 1 : Nat) : Int) = (n : Int) + 1 := by omega
  rw [e0] at h
  rw [h]
  congr 3
  rw [hz1, Nat.mul_one]
  have e := toList_madeCells_one (.bool false) (n + 1)
  have e2 : boolVals (List.replicate (n + 1) false) = List.replicate (n + 1) (Value.bool false) := by unfold boolVals; simp
  rw [e2, ← e]; rfl
set_option maxRecDepth 100000 in
theorem make_f64 (n : Nat) (hn : n ≤ 1000000) (w : World) : (Instr.makeSlice 63 (.int .i64 ((n : Int) + 1)) (.int .i64 ((n : Int) + 1))).run Tryd.prog w =
    .ok (.slice (some ⟨w.heap.size, 0, none⟩) (n + 1) (n + 1)) (w.alloc (.cells (List.replicate (n + 1) fl0).toArray 64)) := by
  obtain ⟨i0, hi, hz0, hz1, hz2⟩ := info_parts info_f64
  have h := run_make_rowN (P := Tryd.prog) 63 64 i0 fl0 Tryd.underlying63 hi hz0 .i64 .i64 (n + 1) (n + 1) (Nat.le_refl _) (by rw [hz2]; omega) (by omega) w
  have e0 : ((n + 1 : Nat) : Int) = (n : Int) + 1 := by omega
  rw [e0] at h
  rw [h]
  congr 3
  rw [hz1, Nat.mul_one]
  have e := toList_madeCells_one fl0 (n + 1)
  rw [← e]; rfl
set_option maxRecDepth 100000 in
theorem make_sl (n : Nat) (hn : n ≤ 1000000) (w : World) : (Instr.makeSlice 54 (.int .i64 (2 * (n : Int) + 2)) (.int .i64 (2 * (n : Int) + 2))).run Tryd.prog w =
    .ok (.slice (some ⟨w.heap.size, 0, none⟩) (2 * n + 2) (2 * n + 2)) (w.alloc (.cells (List.replicate (2 * n + 2) (Value.slice none 0 0)).toArray 27)) := by
  obtain ⟨i0, hi, hz0, hz1, hz2⟩ := info_parts info_sl
  have h := run_make_rowN (P := Tryd.prog) 54 27 i0 (.slice none 0 0) Tryd.underlying54 hi hz0 .i64 .i64 (2 * n + 2) (2 * n + 2) (Nat.le_refl _) (by rw [hz2]; omega) (by omega) w
  have e0 : ((2 * n + 2 : Nat) : Int) = 2 * (n : Int) + 2 := by omega
  rw [e0] at h
  rw [h]
  congr 3
  rw [hz1, Nat.mul_one]
  have e := toList_madeCells_one (.slice none 0 0) (2 * n + 2)
  rw [← e]; rfl
/-- the seven rows of a new solver -/
def mkO (V : Nat) : Nat → MkS
  | 4 => ⟨14, 2 * V + 2, .cells (List.replicate (2 * V + 2) (Value.slice none 0 0)).toArray 27 (0, 0)⟩
  | 7 => ⟨17, V + 1, .cells (i8Vals (List.replicate (V + 1) 0)).toArray 73 (0, 0)⟩
  | 10 => ⟨20, V + 1, .cells (litVals (List.replicate (V + 1) 0)).toArray 3 (0, 0)⟩
  | 13 => ⟨23, V + 1, .cells (litVals (List.replicate (V + 1) 0)).toArray 3 (0, 0)⟩
  | 16 => ⟨26, V + 1, .cells (List.replicate (V + 1) fl0).toArray 64 (0, 0)⟩
  | 19 => ⟨29, V + 1, .cells (boolVals (List.replicate (V + 1) false)).toArray 4 (0, 0)⟩
  | _ => ⟨32, V + 1, .cells (litVals (List.replicate (V + 1) 0)).toArray 3 (0, 0)⟩
/-- the loop over the variables -/
def NwR (w : World) (p V : Nat) (iv : Value) (wr : World) : Prop := ∃ (k : Nat) (tag : Nat → Tag) (y : SLay), k ≤ V ∧ iv = .int .i64 ((k + 1 : Nat) : Int) ∧ (∀ g, g < w.heap.size → tag g = (0, 0)) ∧ Below w.heap.size w wr ∧ Slv wr tag p V y (ini V ((List.range k).map (· + 1)) (0 :: (List.range V).map (fun (j : Nat) => if j < k then (j : Int) else 0)))
def NwP (w : World) (V : Nat) (e : Ending) (w' : World) : Prop := ∃ p tag y, e = .returned (.pointer (some ⟨p, 0, none⟩)) ∧ (∀ g, g < w.heap.size → tag g = (0, 0)) ∧ Below w.heap.size w w' ∧ Slv w' tag p V y (ini V ((List.range V).map (· + 1)) (0 :: (List.range V).map (fun (j : Nat) => (j : Int))))
theorem pl_step {V k : Nat} (hk : k < V) : (0 :: (List.range V).map (fun (j : Nat) => if j < k then (j : Int) else 0)).set (k + 1) (k : Int) = 0 :: (List.range V).map (fun (j : Nat) => if j < k + 1 then (j : Int) else 0) := by
  rw [List.set_cons_succ]
  congr 1
  apply List.ext_getElem?
  intro j
  rw [List.getElem?_set, List.getElem?_map, List.getElem?_map]
  by_cases hj : j < V
  · rw [List.getElem?_range hj, Option.map_some, Option.map_some]
    by_cases e : k = j
    · subst e
      rw [if_pos rfl, if_pos (by simpa using hj), if_pos (by omega)]
    · rw [if_neg e]
      congr 1
      by_cases h1 : j < k
      · rw [if_pos h1, if_pos (by omega)]
      · rw [if_neg h1, if_neg (by omega)]
  · rw [if_neg (by omega), List.getElem?_eq_none (by simp; omega)]; rfl
theorem hp_step (k : Nat) : (List.range k).map (· + 1) ++ [k + 1] = (List.range (k + 1)).map (· + 1) := by rw [List.range_succ, List.map_append]; rfl
attribute [local irreducible] wpMv wpFs
set_option maxRecDepth 100000 in
set_option maxHeartbeats 4000000 in
theorem newSolver0 {w : World} {V : Nat} (hV : V ≤ 150000) : Calls Tryd.prog 16 #[.agg #[.int .i64 (V : Nat), .slice none 0 0]] w (NwP w V) := by
  obtain ⟨W1, hW1⟩ : ∃ W1, W1 = w.alloc (.cells #[.int .i64 (V : Nat), .slice none 0 0] 32) := ⟨_, rfl⟩
  have hb1 : Below w.heap.size w W1 := by rw [hW1]; exact (Below.refl _ _).alloc (Nat.le_refl _) _
  have k1 : Blk W1 w.heap.size 32 #[.int .i64 (V : Nat), .slice none 0 0] := by rw [hW1]; exact Blk.new w _ _
  have c0 := k1.cell 0
  have w1 : IntKind.i64.wrap ((V : Int) + 1) = (V : Int) + 1 := by rw [IntKind.wrap_i64]; omega
  have w2 : IntKind.i64.wrap (2 * (V : Int)) = 2 * (V : Int) := by rw [IntKind.wrap_i64]; omega
  have w3 : IntKind.i64.wrap (2 * (V : Int) + 2) = 2 * (V : Int) + 2 := by rw [IntKind.wrap_i64]; omega
  have m1 := make_sl V (by omega)
  have m2 := make_i8 V (by omega)
  have m3 := make_int V (by omega)
  have m4 := make_f64 V (by omega)
  have m5 := make_bool V (by omega)
  have HW1 := Lib.hid hW1
  have HB1 := Lib.hid hb1
  have K1 := Lib.hid k1
  clear hW1 hb1 k1
  go_enter Tryd.func16, Tryd.ntmps16
  go_upto_region 1 with fail
  rw [← HW1.out]
  go_wp2_with fail
  refine wp_region_makers (S := fun _ => True) 25 [0, 1, 2, 3, 5, 6, 8, 9, 11, 12, 14, 15, 17, 18, 20, 21] [4, 7, 10, 13, 16, 19, 22] [.f 23, .t 24, .t 25] (mkO V) (by kernel_rfl) (by kernel_rfl) (by kernel_rfl) (by decide) (by decide) (by kernel_rfl) trivial (fun _ _ _ => trivial) ?_
  iterate 16 (refine fs_take _ _ rfl (by kernel_rfl) (fun wv hv => by go_simp; try with_reducible rfl) ?_; simp only [Act.put, List.getElem_toArray, List.getElem_cons_zero, List.getElem_cons_succ, List.setIfInBounds_toArray, List.set_cons_zero, List.set_cons_succ])
  refine fs_nil ?_
  intro _
  refine ⟨fun i hi => ?_, fun f W2 hb2 hf hff _ => ?_⟩
  · simp only [List.mem_cons, List.not_mem_nil, or_false] at hi
    rcases hi with rfl | rfl | rfl | rfl | rfl | rfl | rfl
    all_goals exact ⟨_, rfl, rfl, by kernel_rfl, fun wv => by go_simp; simp [mkO]⟩
  · simp only [putAll, List.foldl, mkO, Act.put, List.setIfInBounds_toArray, List.set_cons_zero, List.set_cons_succ]
    iterate 1 (refine mv_take _ _ rfl (by kernel_rfl) (fun wv hv => by go_simp; try with_reducible rfl) ?_; simp only [Act.put, List.getElem_toArray, List.getElem_cons_zero, List.getElem_cons_succ, List.setIfInBounds_toArray, List.set_cons_zero, List.set_cons_succ])
    refine mv_act _ rfl (fun K hK => ?_)
    go_simp
    go_simp
    refine hK _ _ (.inr (trivial)) ?_
    clear hK K
    refine mv_act _ rfl (fun K hK => ?_)
    go_simp
    go_simp
    refine hK _ _ (.inl rfl) ?_
    clear hK K
    refine mv_nil ?_
    obtain ⟨W3, hW3⟩ : ∃ W3, W2.alloc (.cells #[.int .i64 (V : Nat), .slice none 0 0, .slice (some ⟨f 4, 0, none⟩) (2 * V + 2) (2 * V + 2), .slice (some ⟨f 7, 0, none⟩) (V + 1) (V + 1), .slice (some ⟨f 10, 0, none⟩) (V + 1) (V + 1), .slice (some ⟨f 13, 0, none⟩) (V + 1) (V + 1), .slice none 0 0, .slice none 0 0, .int .i64 0, .slice (some ⟨f 16, 0, none⟩) (V + 1) (V + 1), .float .f64 4607182418800017408, .slice (some ⟨f 19, 0, none⟩) (V + 1) (V + 1), .slice none 0 0, .slice (some ⟨f 22, 0, none⟩) (V + 1) (V + 1), .slice none 0 0, .bool false] 66) = W3 := ⟨_, rfl⟩
    have lt : ∀ i ∈ [4, 7, 10, 13, 16, 19, 22], W1.heap.size ≤ f i ∧ f i < W2.heap.size := fun i hi => ⟨(hf i hi).1, lt_of_heap (hf i hi).2⟩
    have blk : ∀ i ∈ [4, 7, 10, 13, 16, 19, 22], W3.heap[f i]? = some (mkO V i).o := fun i hi => by rw [← hW3]; exact (Below.heap_alloc _ _ _ (lt i hi).2).trans (hf i hi).2
    have l4 := lt 4 (by decide); have l7 := lt 7 (by decide); have l10 := lt 10 (by decide); have l13 := lt 13 (by decide); have l16 := lt 16 (by decide); have l19 := lt 19 (by decide); have l22 := lt 22 (by decide)
    have hslv := slv_new (V := V) (w := W3) (p := W2.heap.size) (gw := f 4) (gv := f 7) (gl := f 10) (gr := f 13) (gs := f 16) (gp := f 19) (gP := f 22) (by rw [← hW3]; exact Blk.new W2 _ _) (blk 4 (by decide)) (blk 7 (by decide)) (blk 10 (by decide)) (blk 13 (by decide)) (blk 16 (by decide)) (blk 19 (by decide)) (blk 22 (by decide))
      ⟨by omega, by omega, by omega, by omega, by omega, by omega, by omega, hff 7 (by decide) 4 (by decide) (by decide), hff 10 (by decide) 4 (by decide) (by decide), hff 13 (by decide) 4 (by decide) (by decide), hff 16 (by decide) 4 (by decide) (by decide), hff 19 (by decide) 4 (by decide) (by decide), hff 22 (by decide) 4 (by decide) (by decide),
        hff 10 (by decide) 7 (by decide) (by decide), hff 13 (by decide) 7 (by decide) (by decide), hff 16 (by decide) 7 (by decide) (by decide), hff 19 (by decide) 7 (by decide) (by decide), hff 22 (by decide) 7 (by decide) (by decide),
        hff 13 (by decide) 10 (by decide) (by decide), hff 16 (by decide) 10 (by decide) (by decide), hff 19 (by decide) 10 (by decide) (by decide), hff 22 (by decide) 10 (by decide) (by decide),
        hff 16 (by decide) 13 (by decide) (by decide), hff 19 (by decide) 13 (by decide) (by decide), hff 22 (by decide) 13 (by decide) (by decide), hff 19 (by decide) 16 (by decide) (by decide), hff 22 (by decide) 16 (by decide) (by decide), hff 22 (by decide) 19 (by decide) (by decide)⟩
    have htag : ∀ g, g < W1.heap.size → newTag W2.heap.size (f 4) (f 7) (f 10) (f 13) (f 16) (f 19) (f 22) g = (0, 0) := fun g hg => by
      have := hb2.size
      have : W1.heap.size ≤ W2.heap.size := this
      unfold newTag
      rw [if_neg (by omega), if_neg (by omega), if_neg (by omega), if_neg (by omega), if_neg (by omega), if_neg (by omega), if_neg (by omega), if_neg (by omega)]
    have hb13 : Below W1.heap.size W1 W3 := by
      rw [← hW3]
      exact ((below_drewN (Below.refl _ _) 1).trans hb2).alloc (by have := hb2.size; exact this) _
    have K3 := Lib.hid (K1.out.below hb13 K1.out.lt)
    have c31 := K3.out.cell 1
    have HST := Lib.hid (show NwR W1 W2.heap.size V (.int .i64 ((0 + 1 : Nat) : Int)) W3 from ⟨0, _, _, Nat.zero_le _, rfl, htag, hb13, by
      have e : (0 :: (List.range V).map (fun (j : Nat) => if j < 0 then (j : Int) else 0)) = List.replicate (V + 1) (0 : Int) := by
        rw [List.replicate_succ]; congr 1
        apply List.ext_getElem?
        intro j
        rw [List.getElem?_map]
        by_cases hj : j < V
        · rw [List.getElem?_range hj, List.getElem?_replicate, if_pos hj]; rfl
        · rw [List.getElem?_eq_none (by simp; omega), List.getElem?_eq_none (by simp; omega)]; rfl
      rw [e]; exact hslv⟩)
    obtain ⟨p, hp⟩ : ∃ p, W2.heap.size = p := ⟨_, rfl⟩
    rw [hW3]
    rw [hp] at HST ⊢
    have c31 : W3.cell? ⟨w.heap.size, 1, none⟩ = some (.slice none 0 0) := c31
    clear lt blk l4 l7 l10 l13 l16 l19 l22 hslv htag hb13 hf hff hb2 m1 m2 m3 m4 m5 w1 w2 w3 c0
    obtain ⟨i0, hi, hz0, hz1, hz2⟩ := info_parts info_int
    have HI := Lib.hid (And.intro hi (And.intro hz0 (And.intro hz1 hz2)))
    clear hi hz0 hz1 hz2 hp hW3
    go_wp2_with fail
    go_loopw [5] (fun iv wr => NwR W1 p V iv wr) (fun iv _ => V + 1 - (intOf iv).toNat)
    case atStart => exact HST.out
    case round =>
      obtain ⟨k, tag, y, hk, rfl, htag, hb, hslv⟩ := hrel
      clear HST
      have HTAG := Lib.hid htag
      have HB := Lib.hid hb
      have HSL := Lib.hid hslv
      clear htag hb
      obtain ⟨vC, rows, gw, wrows, gv, gl, gr, vt, vL, gs, gp, vh, gP, vP, prows⟩ := y
      by_cases hkV : k < V
      · as_aux_lemma =>
        obtain ⟨Ah, ch, hvh⟩ := hslv.hea.form
        rw [kVals_len] at hvh
        have hvh : vh = .slice Ah k ch := by simpa [ini] using hvh
        subst hvh
        have hpl : (ini V ((List.range k).map (· + 1)) (0 :: (List.range V).map (fun (j : Nat) => if j < k then (j : Int) else 0))).pl[k + 1]? = some 0 := by
          show (0 :: (List.range V).map (fun (j : Nat) => if j < k then (j : Int) else 0))[k + 1]? = some 0
          rw [List.getElem?_cons_succ, List.getElem?_map, List.getElem?_range hkV, Option.map_some, if_neg (Nat.lt_irrefl k)]
        have cpl : wr.cell? ⟨gP, k + 1, none⟩ = some (.int .i64 0) := hslv.pla.cell (lit_at hpl)
        have fpl : wr.frozen? ⟨gP, k + 1, none⟩ = false := hslv.pla.frozen (k + 1)
        have c13 : wr.cell? ⟨p, 13, none⟩ = some (.slice (some ⟨gP, 0, none⟩) (V + 1) (V + 1)) := hslv.blk.cell 13
        obtain ⟨W4, hW4⟩ : ∃ W4, wr.setCell ⟨gP, k + 1, none⟩ (.int .i64 (k : Int)) = W4 := ⟨_, rfl⟩
        obtain ⟨h4, hc4⟩ := hslv.setPla (k + 1) (k : Int)
        dsimp only at h4 hc4
        rw [hW4] at h4 hc4
        have c124 : W4.cell? ⟨p, 12, none⟩ = some (.slice Ah k ch) := h4.blk.cell 12
        have f124 : W4.frozen? ⟨p, 12, none⟩ = false := h4.blk.frozen 12
        have l4 : p < W4.heap.size := h4.blk.lt
        have hw1 : IntKind.i64.wrap (((k + 1 : Nat) : Int) - 1) = (k : Int) := by rw [IntKind.wrap_i64]; omega
        have hkV2 : ((k + 1 : Nat) : Int) ≤ (V : Int) := by omega
        obtain ⟨k1, hk1⟩ : ∃ k1, k + 1 = k1 := ⟨_, rfl⟩
        rw [hk1] at cpl fpl hw1 hW4 hkV2 ⊢
        have hk1I : (k1 : Int) < (V : Int) + 1 := by omega
        have H4 := Lib.hid h4
        have HC4 := Lib.hid hc4
        have HW4 := Lib.hid hW4
        have HK1 := Lib.hid hk1
        have HROW := Lib.hid (show (W4.alloc (.cells #[.int .i64 (k1 : Int)] 3)).ownsRow 0 3 1 (.slice Ah k ch) k (kVals ((List.range k).map (· + 1))) from by
          have := ((h4.alloc (.cells #[.int .i64 (k1 : Int)] 3)).hea).own
          rw [kVals_len] at this
          have e : ({ ini V ((List.range k).map (· + 1)) (0 :: (List.range V).map (fun (j : Nat) => if j < k then (j : Int) else 0)) with pl := (ini V ((List.range k).map (· + 1)) (0 :: (List.range V).map (fun (j : Nat) => if j < k then (j : Int) else 0))).pl.set (k + 1) (k : Int) } : SS).hp.length = k := by simp [ini]
          rw [e] at this; exact this)
        clear hslv h4 hc4 hW4 hpl hk1
        go_upto_region 7 with fail
        rw [HW4.out]
        clear cpl fpl c13
        go_wp2_with (first | (at_builtin; refine wpList_append_loc _ rfl (.tmp 52) (.tmp 54) _ rfl 0 3 i0 _ 1 8 Tryd.underlying27 HI.out.1 HI.out.2.1 HI.out.2.2.1 HI.out.2.2.2 rfl (by omega) (.slice Ah k ch) k (kVals ((List.range k).map (· + 1))) rfl HROW.out (W4.heap.size + 1) (some ⟨W4.heap.size, 0, none⟩) 1 1 [.int .i64 (k1 : Int)] rfl (reads_new (by simp) (by simp) rfl) (by intro u hu; rw [List.mem_singleton.1 hu]; rfl) (le_maxLen (by omega)) (le_bytes (by omega) (by omega)) (by simp) ?_; intro A6 c6 w6 hown6 hg6 hl6; have hb6 := (H4.out.alloc (.cells #[.int .i64 (k1 : Int)] 3)).blk.grown hg6 (own_blk_ne HROW.out (H4.out.alloc (.cells #[.int .i64 (k1 : Int)] 3)).blk (by decide)).symm; have c126 : w6.cell? ⟨p, 12, none⟩ = some (.slice Ah k ch) := hb6.cell 12; have f126 : w6.frozen? ⟨p, 12, none⟩ = false := hb6.frozen 12; have HOWN6 := Lib.hid hown6; have HG6 := Lib.hid hg6; have HL6 := Lib.hid hl6; clear hown6 hg6 hl6 hb6) | fail)
        go_roundw
        case rel =>
          have hown6 := HOWN6.out
          rw [← HK1.out] at hown6
          have hown7 : w6.ownsRow 0 3 1 (.slice A6 (k + 1) c6) (k + 1) (kVals ((List.range (k + 1)).map (· + 1))) := by
            rw [← hp_step, ← k_snoc]; exact hown6
          obtain ⟨tag7, hr7, hc7, h7⟩ := (H4.out.alloc (.cells #[.int .i64 (k1 : Int)] 3)).heapUp (l' := (List.range (k + 1)).map (· + 1)) hown7 (by simp) HG6.out HL6.out
          obtain ⟨y7, h8⟩ : ∃ y7, Slv (w6.setCell ⟨p, 12, none⟩ (.slice A6 (k + 1) c6)) tag7 p V y7 (ini V ((List.range (k + 1)).map (· + 1)) (0 :: (List.range V).map (fun (j : Nat) => if j < k + 1 then (j : Int) else 0))) := by
            refine Exists.intro ?_ ?_
            rotate_left
            · rw [← pl_step hkV]
              exact h7
          refine ⟨k + 1, tag7, y7, by omega, by rw [← HK1.out]; go_num, fun g hg => (hr7 g (by have := HB.out.size; have := HC4.out.size; simp; omega)).trans (HTAG.out g hg), ?_, h8⟩
          · have hc : Cg tag (Fr 16) wr (w6.setCell ⟨p, 12, none⟩ (.slice A6 (k + 1) c6)) := (HC4.out.trans (cg_new ((Below.refl _ _).alloc (Nat.le_refl _) (.cells #[.int .i64 (k1 : Int)] 3)))).trans hc7
            exact HB.out.trans (hc.below_ (fun g hg h9 => by rw [HTAG.out g hg] at h9; exact absurd h9.1 (by decide)) HB.out.size)
        case measure => have := HK1.out; simp [intOf]; omega
      · as_aux_lemma =>
        obtain rfl : k = V := by omega
        have c31' : wr.cell? ⟨w.heap.size, 1, none⟩ = some (.slice none 0 0) := ((K1.out.below HB.out K1.out.lt)).cell 1
        have hno : ¬ ((k + 1 : Nat) : Int) ≤ (k : Int) := by omega
        have HE := Lib.hid (show NwP w k (.returned (.pointer (some ⟨p, 0, none⟩))) wr from ⟨p, tag, _, rfl, fun g hg => HTAG.out g (by have := HB1.out.size; omega), HB1.out.trans (HB.out.mono HB1.out.size), by
          have e : (0 :: (List.range k).map (fun (j : Nat) => if j < k then (j : Int) else 0)) = 0 :: (List.range k).map (fun (j : Nat) => (j : Int)) := by
            congr 1
            apply List.map_congr_left
            intro j hj
            rw [if_pos (List.mem_range.1 hj)]
          rw [← e]; exact HSL.out⟩)
        clear hslv hkV
        go_wp2_with fail
        go_loop [61] (fun iv => iv = .int .i64 0) (fun _ => 0)
        case atStart => rfl
        case round =>
          subst hrel
          go_wp2_with fail
          go_ret
          exact HE.out
end
end Go.Proofs.YtgchepkcjkhmmaaDoor.slv
