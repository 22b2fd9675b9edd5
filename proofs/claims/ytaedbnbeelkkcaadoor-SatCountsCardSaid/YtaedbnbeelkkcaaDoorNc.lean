/-
  WALK of (*solver).set.
  WALKS of the solver: index, of.
-/
import Derived.Test.YtaedbnbeelkkcaaDoorNa
import Derived.Test.YtaedbnbeelkkcaaDoorHs
namespace Go.Proofs.YtaedbnbeelkkcaaDoor.slv
open Go.RowKit
def StS (w : World) (tag : Nat → Tag) (p V : Nat) (s : SS) (e : Ending) (w' : World) : Prop :=
  e = .returned (.tuple #[]) ∧ ∃ tag' y', Re w tag tag' ∧ Cg tag (Fr 16) w w' ∧ Slv w' tag' p V y' s
/-- as StS, and the layout is left, but for the trail -/
def StT (w : World) (tag : Nat → Tag) (p V : Nat) (y : SLay) (s : SS) (e : Ending) (w' : World) : Prop :=
  e = .returned (.tuple #[]) ∧ ∃ tag' vt', Re w tag tag' ∧ Cg tag (Fr 16) w w' ∧ Slv w' tag' p V { y with vt := vt' } s
theorem StT.s {w : World} {tag : Nat → Tag} {p V : Nat} {y : SLay} {s : SS} {e : Ending} {w' : World} (h : StT w tag p V y s e w') : StS w tag p V s e w' := by
  obtain ⟨h1, t, v, h2⟩ := h
  exact ⟨h1, t, _, h2⟩
attribute [local irreducible] wpSeq
set_option maxRecDepth 100000 in
set_option maxHeartbeats 4000000 in
theorem set_anyT {w : World} {tag : Nat → Tag} {p V : Nat} {y : SLay} {s : SS} (h : Slv w tag p V y s) (ht : s.tr.length ≤ V) (_hlm : s.lm.length ≤ V) {n by_ : Int} (hn : Lit V n) (hV : V ≤ 500000) :
    Calls Tryd.prog 34 #[.pointer (some ⟨p, 0, none⟩), .int .i64 n, .int .i64 by_] w (StT w tag p V y (setS s n by_)) := by
  obtain ⟨i0, hi, hz0, hz1, hz2⟩ := info_parts info_int
  have HI := Lib.hid (And.intro hi (And.intro hz0 (And.intro hz1 hz2)))
  clear hi hz0 hz1 hz2
  obtain ⟨hn0, hn1⟩ := hn
  obtain ⟨k, hk⟩ : ∃ k, n.natAbs = k := ⟨_, rfl⟩
  unfold setS
  rw [hk] at hn1 ⊢
  obtain ⟨vC, rows, gw, wrows, gv, gl, gr, vt, vL, gs, gp, vh, gP, vP, prows⟩ := y
  obtain ⟨A, c, hvt⟩ := h.trl.form
  rw [litVals_len] at hvt
  dsimp only at hvt
  subst hvt
  obtain ⟨AL, cL, hvL⟩ := h.lim.form
  rw [kVals_len] at hvL
  dsimp only at hvL
  subst hvL
  obtain ⟨x, hx⟩ : ∃ x, s.vs[k]? = some x := ⟨_, List.getElem?_eq_getElem (by rw [h.vl]; omega)⟩
  obtain ⟨u, hu⟩ : ∃ u, s.lv[k]? = some u := ⟨_, List.getElem?_eq_getElem (by rw [h.ll]; omega)⟩
  obtain ⟨q, hq⟩ : ∃ q, s.rs[k]? = some q := ⟨_, List.getElem?_eq_getElem (by rw [h.rl]; omega)⟩
  obtain ⟨b, hb⟩ : ∃ b, s.ph[k]? = some b := ⟨_, List.getElem?_eq_getElem (by rw [h.phl]; omega)⟩
  have cv : w.cell? ⟨gv, k, none⟩ = some (.int .i8 x) := h.val.cell (i8_at hx)
  have fv : w.frozen? ⟨gv, k, none⟩ = false := h.val.frozen k
  have c3 : w.cell? ⟨p, 3, none⟩ = some (.slice (some ⟨gv, 0, none⟩) (V + 1) (V + 1)) := h.blk.cell 3
  have hpv : p ≠ gv := fun e => by have h1 := h.tp; have h2 := h.val.tg; dsimp only at h2; rw [e, h2] at h1; cases h1
  have hkV : (k : Int) < (V : Int) + 1 := by omega
  have hk1 : 1 ≤ k := by omega
  have HT := Lib.hid ht
  clear hx ht
  by_cases hneg : n < 0
  · skip
    have hnk : n = -(k : Int) := by omega
    subst hnk
    have w1 : IntKind.i64.wrap (- -(k : Int)) = (k : Int) := by rw [IntKind.wrap_i64]; omega
    have hmx : max (-(k : Int)) (k : Int) = (k : Int) := by omega
    have HSG := Lib.hid (show sg (-(k : Int)) = -1 from if_pos hneg)
    have HPS := Lib.hid (show decide ((0 : Int) < -(k : Int)) = false from decide_eq_false (by omega))
    have hd1 : decide ((k : Int) < 0) = false := decide_eq_false (by omega)
    obtain ⟨W3, hW3⟩ : ∃ W3, W3 = (w.setCell ⟨gv, k, none⟩ (.int .i8 1)).setCell ⟨gv, k, none⟩ (.int .i8 (-1)) := ⟨_, rfl⟩
    obtain ⟨h3, a3⟩ := (h.setVal k 1).1.setVal k (-1)
    have a3 := (h.setVal k 1).2.trans a3
    dsimp only at h3 a3
    rw [← hW3] at h3 a3
    obtain ⟨h4, a4⟩ := h3.setLev k (s.lm.length : Nat)
    have h4 := h4.drew
    obtain ⟨h5, a5⟩ := h4.setRea k by_
    obtain ⟨h6, a6⟩ := h5.setPha k false
    dsimp only at h4 a4 h5 a5 h6 a6
    have a36 : Cg tag (Fr 16) w _ := (((a3.trans a4).trans (cg_new (below_drewN (Below.refl _ _) 1))).trans a5).trans a6
    obtain ⟨W6, hW6⟩ : ∃ W6, W6 = (((W3.setCell ⟨gl, k, none⟩ (.int .i64 (s.lm.length : Nat))).drew).setCell ⟨gr, k, none⟩ (.int .i64 by_)).setCell ⟨gp, k, none⟩ (.bool false) := ⟨_, rfl⟩
    rw [← hW6] at h6
    rw [← hW6] at a36
    have c34 : W3.cell? ⟨p, 4, none⟩ = some (.slice (some ⟨gl, 0, none⟩) (V + 1) (V + 1)) := h3.blk.cell 4
    have c37 : W3.cell? ⟨p, 7, none⟩ = some (.slice AL s.lm.length cL) := h3.blk.cell 7
    have cl3 : W3.cell? ⟨gl, k, none⟩ = some (.int .i64 u) := h3.lev.cell (lit_at hu)
    have fl3 : W3.frozen? ⟨gl, k, none⟩ = false := h3.lev.frozen k
    obtain ⟨W4, hW4⟩ : ∃ W4, W4 = (W3.setCell ⟨gl, k, none⟩ (.int .i64 (s.lm.length : Nat))).drew := ⟨_, rfl⟩
    rw [← hW4] at h4 hW6 h5
    have c44 : W4.cell? ⟨p, 4, none⟩ = some (.slice (some ⟨gl, 0, none⟩) (V + 1) (V + 1)) := h4.blk.cell 4
    have c47 : W4.cell? ⟨p, 7, none⟩ = some (.slice AL s.lm.length cL) := h4.blk.cell 7
    have c45 : W4.cell? ⟨p, 5, none⟩ = some (.slice (some ⟨gr, 0, none⟩) (V + 1) (V + 1)) := h4.blk.cell 5
    have cr4 : W4.cell? ⟨gr, k, none⟩ = some (.int .i64 q) := h4.rea.cell (lit_at hq)
    have fr4 : W4.frozen? ⟨gr, k, none⟩ = false := h4.rea.frozen k
    have c511 : (W4.setCell ⟨gr, k, none⟩ (.int .i64 by_)).cell? ⟨p, 11, none⟩ = some (.slice (some ⟨gp, 0, none⟩) (V + 1) (V + 1)) := h5.blk.cell 11
    have cp5 : (W4.setCell ⟨gr, k, none⟩ (.int .i64 by_)).cell? ⟨gp, k, none⟩ = some (.bool b) := h5.pha.cell (bool_at hb)
    have fp5 : (W4.setCell ⟨gr, k, none⟩ (.int .i64 by_)).frozen? ⟨gp, k, none⟩ = false := h5.pha.frozen k
    have e6 : W6.cell? ⟨p, 6, none⟩ = some (.slice A s.tr.length c) := h6.blk.cell 6
    have f6 : W6.frozen? ⟨p, 6, none⟩ = false := h6.blk.frozen 6
    have l6 : p < W6.heap.size := h6.blk.lt
    have HROW := Lib.hid (show (W6.alloc (.cells #[.int .i64 (-(k : Int))] 3)).ownsRow 0 3 1 (.slice A s.tr.length c) s.tr.length (litVals s.tr) from by
      have := (h6.alloc (.cells #[.int .i64 (-(k : Int))] 3)).trl.own
      rw [litVals_len] at this; exact this)
    have H6 := Lib.hid h6
    have A6 := Lib.hid a36
    have HW3 := Lib.hid hW3
    have HW4 := Lib.hid hW4
    have HW6 := Lib.hid hW6
    clear hW3 hW4 hW6 h3 h4 h5 h6 a3 a4 a5 a6 a36 h hu hq hb hk hneg
    go_enter Tryd.func34, Tryd.ntmps34
    go_upto_region 4 with fail
    rw [← HW3.out]
    clear c3 cv fv
    refine wp_region_seq (S := fun w' => w'.cell? ⟨p, 4, none⟩ = some (.slice (some ⟨gl, 0, none⟩) (V + 1) (V + 1)) ∧ w'.cell? ⟨p, 7, none⟩ = some (.slice AL s.lm.length cL)) [(0, false), (1, false), (2, false), (3, false), (4, false), (5, false), (6, false), (7, false), (8, false), (9, false), (10, false), (11, true)] (by kernel_rfl) (by kernel_rfl) (by kernel_rfl) (And.intro c34 c37) ?_
    iterate 11 (refine seq_take _ _ rfl (by kernel_rfl) (fun wv hv => by obtain ⟨hv1, hv2⟩ := hv; go_simp; try with_reducible rfl) ?_; simp only [Act.put, List.getElem_toArray, List.getElem_cons_zero, List.getElem_cons_succ, List.setIfInBounds_toArray, List.set_cons_zero, List.set_cons_succ])
    refine seq_act _ rfl (fun K hK => ?_)
    go_simp
    go_simp
    rw [← HW4.out]
    refine hK _ _ (And.intro c44 c47) ?_
    clear hK K
    refine seq_nil ?_
    clear c34 c37 cl3 fl3 c44 c47
    go_upto_region 7 with fail
    rw [← HW6.out]
    clear c45 cr4 fr4 c511 cp5 fp5
    go_wp2_with (first | (at_builtin; refine wpList_append_loc _ rfl (.tmp 55) (.tmp 57) _ rfl 0 3 i0 _ 1 8 Tryd.underlying25 HI.out.1 HI.out.2.1 HI.out.2.2.1 HI.out.2.2.2 rfl (by omega) (.slice A s.tr.length c) s.tr.length _ rfl HROW.out (W6.heap.size + 1) (some ⟨W6.heap.size, 0, none⟩) 1 1 [.int .i64 (-(k : Int))] rfl (reads_new (by simp) (by simp) rfl) (by intro u hu; rw [List.mem_singleton.1 hu]; rfl) (le_maxLen (by have := HT.out; omega)) (le_bytes (by have := HT.out; omega) (by omega)) (by simp) ?_; intro A7 c7 w7 hown7 hg7 hl7; have hb7 := (H6.out.alloc (.cells #[.int .i64 (-(k : Int))] 3)).blk.grown hg7 (own_blk_ne HROW.out (H6.out.alloc (.cells #[.int .i64 (-(k : Int))] 3)).blk (by decide)).symm; have c67 : w7.cell? ⟨p, 6, none⟩ = some (.slice A s.tr.length c) := hb7.cell 6; have f67 : w7.frozen? ⟨p, 6, none⟩ = false := hb7.frozen 6; have HOWN7 := Lib.hid hown7; have HG7 := Lib.hid hg7; have HL7 := Lib.hid hl7; clear hown7 hg7 hl7 hb7) | fail)
    go_end0
    have hown7 := HOWN7.out
    rw [lit_snoc] at hown7
    obtain ⟨tag', hr, hcg, hslv⟩ := (H6.out.alloc (.cells #[.int .i64 (-(k : Int))] 3)).trail hown7 (by simp) HG7.out HL7.out
    try rw [List.set_set] at hslv
    rw [HSG.out]
    try rw [HPS.out]
    exact ⟨rfl, tag', _, fun g hg => hr g (by have := A6.out.size; simp; omega), (A6.out.trans (cg_new ((Below.refl _ _).alloc (Nat.le_refl _) _))).trans hcg, hslv⟩
  · skip
    have hnk : n = (k : Int) := by omega
    subst hnk
    have w1 : IntKind.i64.wrap (-(k : Int)) = -(k : Int) := by rw [IntKind.wrap_i64]; omega
    have hmx : max (k : Int) (-(k : Int)) = (k : Int) := by omega
    have HSG := Lib.hid (show sg (k : Int) = 1 from if_neg hneg)
    have HPS := Lib.hid (show decide ((0 : Int) < (k : Int)) = true from decide_eq_true (by omega))
    have hd1 : decide (0 < k) = true := decide_eq_true (by omega)
    obtain ⟨W3, hW3⟩ : ∃ W3, W3 = w.setCell ⟨gv, k, none⟩ (.int .i8 1) := ⟨_, rfl⟩
    obtain ⟨h3, a3⟩ := h.setVal k 1
    dsimp only at h3 a3
    rw [← hW3] at h3 a3
    obtain ⟨h4, a4⟩ := h3.setLev k (s.lm.length : Nat)
    have h4 := h4.drew
    obtain ⟨h5, a5⟩ := h4.setRea k by_
    obtain ⟨h6, a6⟩ := h5.setPha k true
    dsimp only at h4 a4 h5 a5 h6 a6
    have a36 : Cg tag (Fr 16) w _ := (((a3.trans a4).trans (cg_new (below_drewN (Below.refl _ _) 1))).trans a5).trans a6
    obtain ⟨W6, hW6⟩ : ∃ W6, W6 = (((W3.setCell ⟨gl, k, none⟩ (.int .i64 (s.lm.length : Nat))).drew).setCell ⟨gr, k, none⟩ (.int .i64 by_)).setCell ⟨gp, k, none⟩ (.bool true) := ⟨_, rfl⟩
    rw [← hW6] at h6
    rw [← hW6] at a36
    have c34 : W3.cell? ⟨p, 4, none⟩ = some (.slice (some ⟨gl, 0, none⟩) (V + 1) (V + 1)) := h3.blk.cell 4
    have c37 : W3.cell? ⟨p, 7, none⟩ = some (.slice AL s.lm.length cL) := h3.blk.cell 7
    have cl3 : W3.cell? ⟨gl, k, none⟩ = some (.int .i64 u) := h3.lev.cell (lit_at hu)
    have fl3 : W3.frozen? ⟨gl, k, none⟩ = false := h3.lev.frozen k
    obtain ⟨W4, hW4⟩ : ∃ W4, W4 = (W3.setCell ⟨gl, k, none⟩ (.int .i64 (s.lm.length : Nat))).drew := ⟨_, rfl⟩
    rw [← hW4] at h4 hW6 h5
    have c44 : W4.cell? ⟨p, 4, none⟩ = some (.slice (some ⟨gl, 0, none⟩) (V + 1) (V + 1)) := h4.blk.cell 4
    have c47 : W4.cell? ⟨p, 7, none⟩ = some (.slice AL s.lm.length cL) := h4.blk.cell 7
    have c45 : W4.cell? ⟨p, 5, none⟩ = some (.slice (some ⟨gr, 0, none⟩) (V + 1) (V + 1)) := h4.blk.cell 5
    have cr4 : W4.cell? ⟨gr, k, none⟩ = some (.int .i64 q) := h4.rea.cell (lit_at hq)
    have fr4 : W4.frozen? ⟨gr, k, none⟩ = false := h4.rea.frozen k
    have c511 : (W4.setCell ⟨gr, k, none⟩ (.int .i64 by_)).cell? ⟨p, 11, none⟩ = some (.slice (some ⟨gp, 0, none⟩) (V + 1) (V + 1)) := h5.blk.cell 11
    have cp5 : (W4.setCell ⟨gr, k, none⟩ (.int .i64 by_)).cell? ⟨gp, k, none⟩ = some (.bool b) := h5.pha.cell (bool_at hb)
    have fp5 : (W4.setCell ⟨gr, k, none⟩ (.int .i64 by_)).frozen? ⟨gp, k, none⟩ = false := h5.pha.frozen k
    have e6 : W6.cell? ⟨p, 6, none⟩ = some (.slice A s.tr.length c) := h6.blk.cell 6
    have f6 : W6.frozen? ⟨p, 6, none⟩ = false := h6.blk.frozen 6
    have l6 : p < W6.heap.size := h6.blk.lt
    have HROW := Lib.hid (show (W6.alloc (.cells #[.int .i64 (k : Int)] 3)).ownsRow 0 3 1 (.slice A s.tr.length c) s.tr.length (litVals s.tr) from by
      have := (h6.alloc (.cells #[.int .i64 (k : Int)] 3)).trl.own
      rw [litVals_len] at this; exact this)
    have H6 := Lib.hid h6
    have A6 := Lib.hid a36
    have HW3 := Lib.hid hW3
    have HW4 := Lib.hid hW4
    have HW6 := Lib.hid hW6
    clear hW3 hW4 hW6 h3 h4 h5 h6 a3 a4 a5 a6 a36 h hu hq hb hk hneg
    go_enter Tryd.func34, Tryd.ntmps34
    go_upto_region 4 with fail
    rw [← HW3.out]
    clear c3 cv fv
    refine wp_region_seq (S := fun w' => w'.cell? ⟨p, 4, none⟩ = some (.slice (some ⟨gl, 0, none⟩) (V + 1) (V + 1)) ∧ w'.cell? ⟨p, 7, none⟩ = some (.slice AL s.lm.length cL)) [(0, false), (1, false), (2, false), (3, false), (4, false), (5, false), (6, false), (7, false), (8, false), (9, false), (10, false), (11, true)] (by kernel_rfl) (by kernel_rfl) (by kernel_rfl) (And.intro c34 c37) ?_
    iterate 11 (refine seq_take _ _ rfl (by kernel_rfl) (fun wv hv => by obtain ⟨hv1, hv2⟩ := hv; go_simp; try with_reducible rfl) ?_; simp only [Act.put, List.getElem_toArray, List.getElem_cons_zero, List.getElem_cons_succ, List.setIfInBounds_toArray, List.set_cons_zero, List.set_cons_succ])
    refine seq_act _ rfl (fun K hK => ?_)
    go_simp
    go_simp
    rw [← HW4.out]
    refine hK _ _ (And.intro c44 c47) ?_
    clear hK K
    refine seq_nil ?_
    clear c34 c37 cl3 fl3 c44 c47
    go_upto_region 7 with fail
    rw [← HW6.out]
    clear c45 cr4 fr4 c511 cp5 fp5
    go_wp2_with (first | (at_builtin; refine wpList_append_loc _ rfl (.tmp 55) (.tmp 57) _ rfl 0 3 i0 _ 1 8 Tryd.underlying25 HI.out.1 HI.out.2.1 HI.out.2.2.1 HI.out.2.2.2 rfl (by omega) (.slice A s.tr.length c) s.tr.length _ rfl HROW.out (W6.heap.size + 1) (some ⟨W6.heap.size, 0, none⟩) 1 1 [.int .i64 (k : Int)] rfl (reads_new (by simp) (by simp) rfl) (by intro u hu; rw [List.mem_singleton.1 hu]; rfl) (le_maxLen (by have := HT.out; omega)) (le_bytes (by have := HT.out; omega) (by omega)) (by simp) ?_; intro A7 c7 w7 hown7 hg7 hl7; have hb7 := (H6.out.alloc (.cells #[.int .i64 (k : Int)] 3)).blk.grown hg7 (own_blk_ne HROW.out (H6.out.alloc (.cells #[.int .i64 (k : Int)] 3)).blk (by decide)).symm; have c67 : w7.cell? ⟨p, 6, none⟩ = some (.slice A s.tr.length c) := hb7.cell 6; have f67 : w7.frozen? ⟨p, 6, none⟩ = false := hb7.frozen 6; have HOWN7 := Lib.hid hown7; have HG7 := Lib.hid hg7; have HL7 := Lib.hid hl7; clear hown7 hg7 hl7 hb7) | fail)
    go_end0
    have hown7 := HOWN7.out
    rw [lit_snoc] at hown7
    obtain ⟨tag', hr, hcg, hslv⟩ := (H6.out.alloc (.cells #[.int .i64 (k : Int)] 3)).trail hown7 (by simp) HG7.out HL7.out
    try rw [List.set_set] at hslv
    rw [HSG.out]
    try rw [HPS.out]
    exact ⟨rfl, tag', _, fun g hg => hr g (by have := A6.out.size; simp; omega), (A6.out.trans (cg_new ((Below.refl _ _).alloc (Nat.le_refl _) _))).trans hcg, hslv⟩
theorem set_any {w : World} {tag : Nat → Tag} {p V : Nat} {y : SLay} {s : SS} (h : Slv w tag p V y s) (ht : s.tr.length ≤ V) (hlm : s.lm.length ≤ V) {n by_ : Int} (hn : Lit V n) (hV : V ≤ 500000) :
    Calls Tryd.prog 34 #[.pointer (some ⟨p, 0, none⟩), .int .i64 n, .int .i64 by_] w (StS w tag p V (setS s n by_)) := (set_anyT h ht hlm hn hV).mono fun _ _ h => h.s
end Go.Proofs.YtaedbnbeelkkcaaDoor.slv
namespace Go.Proofs.YtaedbnbeelkkcaaDoor.slv
open Go.RowKit
theorem index_any {w : World} {n : Int} (hn : n.natAbs ≤ 1000000) : Calls Tryd.prog 45 #[.int .i64 n] w fun e w' => e = .returned (.int .i64 (ix n : Nat)) ∧ w = w' := by
  unfold ix
  by_cases h : n < 0
  · rw [if_pos h]
    obtain ⟨k, hk⟩ : ∃ k : Nat, n = -(k : Int) := ⟨n.natAbs, by omega⟩
    subst hk
    rw [show (-(k : Int)).natAbs = k by omega] at hn ⊢
    have w1 : IntKind.i64.wrap (-2 * -(k : Int)) = 2 * (k : Int) := by rw [IntKind.wrap_i64]; omega
    have w2 : IntKind.i64.wrap (2 * (k : Int) + 1) = 2 * (k : Int) + 1 := by rw [IntKind.wrap_i64]; omega
    have w3 : IntKind.i64.wrap (2 * (k : Int)) = 2 * (k : Int) := by rw [IntKind.wrap_i64]; omega
    have hk0 : (0 : Int) < (k : Int) := by omega
    have hd : decide (-(k : Int) < 0) = true := decide_eq_true h
    have hd2 : decide (0 < k) = true := decide_eq_true (by omega)
    clear h
    go_enter Tryd.func45, Tryd.ntmps45
    go_wp2
    all_goals (go_ret; exact ⟨by go_num, rfl⟩)
  · rw [if_neg h]
    obtain ⟨k, hk⟩ : ∃ k : Nat, n = (k : Int) := ⟨n.natAbs, by omega⟩
    subst hk
    rw [show ((k : Int)).natAbs = k by omega] at hn ⊢
    have w3 : IntKind.i64.wrap (2 * (k : Int)) = 2 * (k : Int) := by rw [IntKind.wrap_i64]; omega
    clear h
    go_enter Tryd.func45, Tryd.ntmps45
    go_wp2
    all_goals (go_ret; exact ⟨by go_num, rfl⟩)
section
variable {w : World} {tag : Nat → Tag} {p V : Nat} {y : SLay} {s : SS}
set_option maxRecDepth 100000 in
theorem of_raw {g : Nat} {n x : Int} (c3 : w.cell? ⟨p, 3, none⟩ = some (.slice (some ⟨g, 0, none⟩) (V + 1) (V + 1))) (cv : w.cell? ⟨g, n.natAbs, none⟩ = some (.int .i8 x)) (hx : x = -1 ∨ x = 0 ∨ x = 1) (hn : n.natAbs ≤ V) (hV : V ≤ 1000000) :
    Calls Tryd.prog 37 #[.pointer (some ⟨p, 0, none⟩), .int .i64 n] w fun e w' => e = .returned (.int .i8 (if n < 0 then -x else x)) ∧ w = w' := by
  by_cases h : n < 0
  · rw [if_pos h]
    obtain ⟨k, hk⟩ : ∃ k : Nat, n = -(k : Int) := ⟨n.natAbs, by omega⟩
    subst hk
    rw [show (-(k : Int)).natAbs = k by omega] at cv hn
    have w1 : IntKind.i64.wrap (- -(k : Int)) = (k : Int) := by rw [IntKind.wrap_i64]; omega
    have w2 : IntKind.i8.wrap (-x) = -x := by rcases hx with e | e | e <;> subst e <;> rfl
    have hk0 : (0 : Int) < (k : Int) := by omega
    have hkV : (k : Int) < (V : Int) + 1 := by omega
    go_enter Tryd.func37, Tryd.ntmps37
    go_wp2_with fail
    go_ret
    exact ⟨rfl, rfl⟩
  · rw [if_neg h]
    obtain ⟨k, hk⟩ : ∃ k : Nat, n = (k : Int) := ⟨n.natAbs, by omega⟩
    subst hk
    rw [show ((k : Int)).natAbs = k by omega] at cv hn
    have hkV : (k : Int) < (V : Int) + 1 := by omega
    go_enter Tryd.func37, Tryd.ntmps37
    go_wp2_with fail
    go_ret
    exact ⟨rfl, rfl⟩
theorem of_any (h : Slv w tag p V y s) {n x : Int} (ho : ofM s.vs n = some x) (hV : V ≤ 400000) :
    Calls Tryd.prog 37 #[.pointer (some ⟨p, 0, none⟩), .int .i64 n] w fun e w' => e = .returned (.int .i8 x) ∧ w = w' := by
  unfold ofM at ho
  split at ho
  · rename_i x0 hx0
    split at ho
    · rename_i hx
      injection ho with ho
      subst ho
      have hlt := (List.getElem?_eq_some_iff.1 hx0).1
      exact of_raw (h.blk.cell 3) (h.val.cell (i8_at hx0)) hx (by have := h.vl; omega) (by omega)
    · cases ho
  · cases ho
theorem ofM_some {vs : List Int} {n x : Int} (ho : ofM vs n = some x) : n.natAbs < vs.length ∧ (x = -1 ∨ x = 0 ∨ x = 1) := by
  unfold ofM at ho
  split at ho
  · rename_i x0 hx0
    split at ho
    · rename_i hx
      injection ho with ho
      refine ⟨(List.getElem?_eq_some_iff.1 hx0).1, ?_⟩
      split at ho <;> omega
    · cases ho
  · cases ho
end
end Go.Proofs.YtaedbnbeelkkcaaDoor.slv
