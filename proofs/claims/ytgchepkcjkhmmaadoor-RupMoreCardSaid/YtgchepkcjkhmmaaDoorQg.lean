/-
  WALKS of the solver where there are no clauses: index, down, pop, spread, decide.
  WALK of (*solver).pop, of heaps of one and two.
  WALKS of (*solver).pop of a heap of one, and of decide.
-/
import Derived.Test.YtgchepkcjkhmmaaDoorQc
namespace Go.Proofs.YtgchepkcjkhmmaaDoor.slv
open Go.RowKit
def ix (n : Int) : Nat := if n < 0 then 2 * n.natAbs + 1 else 2 * n.natAbs
theorem index_any {w : World} {n : Int} (hn : n.natAbs ≤ 1000000) : Calls Tryd.prog 46 #[.int .i64 n] w fun e w' => e = .returned (.int .i64 (ix n : Nat)) ∧ w = w' := by
  unfold ix
  by_cases h : n < 0
  · rw [if_pos h]
    obtain ⟨k, hk⟩ : ∃ k : Nat, n = -(k : Int) := ⟨n.natAbs, by omega⟩
    subst hk
    rw [show (-(k : Int)).natAbs = k by omega] at hn ⊢
    have w1 : IntKind.i64.wrap (-2 * -(k : Int)) = 2 * (k : Int) := by rw [IntKind.wrap_i64]; omega
    have w2 : IntKind.i64.wrap (2 * (k : Int) + 1) = 2 * (k : Int) + 1 := by rw [IntKind.wrap_i64]; omega
    have w3 : IntKind.i64.wrap (2 * (k : Int)) = 2 * (k : Int) := by rw [IntKind.wrap_i64]; omega
    have hk0 : (0 : Int) < (k : Int) := by omega
    have hd : decide (-(k : Int) < 0) = true := decide_eq_true h
    have hd2 : decide (0 < k) = true := decide_eq_true (by omega)
    clear h
    go_enter Tryd.func46, Tryd.ntmps46
    go_wp2
    all_goals (go_ret; exact ⟨by go_num, rfl⟩)
  · rw [if_neg h]
    obtain ⟨k, hk⟩ : ∃ k : Nat, n = (k : Int) := ⟨n.natAbs, by omega⟩
    subst hk
    rw [show ((k : Int)).natAbs = k by omega] at hn ⊢
    have w3 : IntKind.i64.wrap (2 * (k : Int)) = 2 * (k : Int) := by rw [IntKind.wrap_i64]; omega
    clear h
    go_enter Tryd.func46, Tryd.ntmps46
    go_wp2
    all_goals (go_ret; exact ⟨by go_num, rfl⟩)
section
variable {w : World} {tag : Nat → Tag} {p V : Nat} {y : SLay} {s : SS}
def PpP (w : World) (tag : Nat → Tag) (p V : Nat) (s : SS) (v : Nat) (e : Ending) (w' : World) : Prop :=
  e = .returned (.int .i64 (v : Nat)) ∧ ∃ tag' y', Re w tag tag' ∧ Cg tag (Fr 16) w w' ∧ Slv w' tag' p V y' s
attribute [local irreducible] wpSeq
set_option maxRecDepth 100000 in
set_option maxHeartbeats 2000000 in
/-- down, of a heap of one -/
theorem down1 {v : Nat} (h : Slv w tag p V y s) (hh : s.hp = [v]) (hv : v ≤ V) : Calls Tryd.prog 55 #[.pointer (some ⟨p, 0, none⟩), .int .i64 0] w (StS w tag p V { s with pl := s.pl.set v 0 }) := by
  obtain ⟨vC, rows, gw, wrows, gv, gl, gr, vt, vL, gs, gp, vh, gP, vP, prows⟩ := y
  obtain ⟨g, c, hvh, _, hcel⟩ := h.hea.at_ (by rw [kVals_len, hh]; simp)
  rw [kVals_len, hh] at hvh
  dsimp only at hvh
  subst hvh
  have ch : w.cell? ⟨g, 0, none⟩ = some (.int .i64 (v : Nat)) := hcel.cell (k_at (by rw [hh]; rfl))
  have fh : w.frozen? ⟨g, 0, none⟩ = false := hcel.frozen 0
  have c12 : w.cell? ⟨p, 12, none⟩ = some (.slice (some ⟨g, 0, none⟩) 1 c) := h.blk.cell 12
  obtain ⟨h1, a1⟩ := h.setHeap (g := g) (c := c) (m := 1) rfl (by rw [hh]; rfl) 0 v
  have e1 : s.hp.set 0 v = s.hp := by rw [hh]; rfl
  rw [e1] at h1
  obtain ⟨u, hu⟩ : ∃ u, s.pl[v]? = some u := ⟨_, List.getElem?_eq_getElem (by rw [h.pll]; omega)⟩
  obtain ⟨W1, hW1⟩ : ∃ W1, W1 = w.setCell ⟨g, 0, none⟩ (.int .i64 (v : Nat)) := ⟨_, rfl⟩
  rw [← hW1] at h1 a1
  have c13 : W1.cell? ⟨p, 13, none⟩ = some (.slice (some ⟨gP, 0, none⟩) (V + 1) (V + 1)) := h1.blk.cell 13
  have cP : W1.cell? ⟨gP, v, none⟩ = some (.int .i64 u) := h1.pla.cell (lit_at hu)
  have fP : W1.frozen? ⟨gP, v, none⟩ = false := h1.pla.frozen v
  obtain ⟨h2, a2⟩ := h1.setPla v 0
  have HE := Lib.hid (show StS w tag p V { s with pl := s.pl.set v 0 } (.returned (.tuple #[])) (W1.setCell ⟨gP, v, none⟩ (.int .i64 0)) from ⟨rfl, tag, _, Re.refl _ _, a1.trans a2, h2⟩)
  have HW1 := Lib.hid hW1
  have hvV : (v : Int) < (V : Int) + 1 := by omega
  clear h h1 h2 a1 a2 hW1 hcel hu hh e1
  go_enter Tryd.func55, Tryd.ntmps55
  go_wp2_with fail
  go_loopw [1, 5] (fun iv _ wr => iv = .int .i64 0 ∧ wr = w) (fun _ _ _ => 0)
  case atStart => exact ⟨rfl, rfl⟩
  case round =>
    obtain ⟨h1, h2⟩ := hrel
    subst h1
    subst h2
    go_upto_region 10 with fail
    rw [← HW1.out]
    go_wp2_with fail
    go_end0
    exact HE.out
end
end Go.Proofs.YtgchepkcjkhmmaaDoor.slv
namespace Go.Proofs.YtgchepkcjkhmmaaDoor.slv
open Go.RowKit
section
variable {w : World} {tag : Nat → Tag} {p V : Nat} {y : SLay} {s : SS}
attribute [local irreducible] wpSeq wpMv
set_option maxRecDepth 100000 in
set_option maxHeartbeats 4000000 in
theorem pop2 {a b : Nat} (h : Slv w tag p V y s) (hh : s.hp = [a, b]) (ha : a ≤ V) (hb : b ≤ V) : Calls Tryd.prog 48 #[.pointer (some ⟨p, 0, none⟩)] w
    (PpP w tag p V { s with hp := [b], pl := ((s.pl.set a (-1)).set b 0).set b 0 } a) := by
  obtain ⟨vC, rows, gw, wrows, gv, gl, gr, vt, vL, gs, gp, vh, gP, vP, prows⟩ := y
  obtain ⟨g, c, hvh, _, hcel⟩ := h.hea.at_ (by rw [kVals_len, hh]; simp)
  rw [kVals_len, hh] at hvh
  dsimp only at hvh
  subst hvh
  have ch0 : w.cell? ⟨g, 0, none⟩ = some (.int .i64 (a : Nat)) := hcel.cell (k_at (by rw [hh]; rfl))
  have ch1 : w.cell? ⟨g, 1, none⟩ = some (.int .i64 (b : Nat)) := hcel.cell (k_at (by rw [hh]; rfl))
  have hl2 : ([a, b] : List Nat).length = 2 := rfl
  have c12 : w.cell? ⟨p, 12, none⟩ = some (.slice (some ⟨g, 0, none⟩) 2 c) := h.blk.cell 12
  have f12 : w.frozen? ⟨p, 12, none⟩ = false := h.blk.frozen 12
  have hc2 : 2 ≤ c := by
    rcases h.hea.own.2 with ⟨h0, h1⟩ | ⟨g', c', cur, hv', _, _, hle, _⟩
    · cases h0
    · dsimp only at hv'; rw [kVals_len, hh] at hv' hle; injection hv' with _ _ e3; subst e3; exact hle
  have HH := Lib.hid h
  have HE := Lib.hid hh
  have haV : (a : Int) < (V : Int) + 1 := by omega
  have hbV : (b : Int) < (V : Int) + 1 := by omega
  have hc1 : 1 ≤ c := by omega
  have hc1i : (1 : Int) ≤ (c : Int) := by omega
  have hw1 : IntKind.i64.wrap 1 = 1 := by rw [IntKind.wrap_i64]; omega
  clear h hcel hh
  go_enter Tryd.func48, Tryd.ntmps48
  go_upto_region 2 with fail
  go_quiet (fail)
  go_upto_region 3 with fail
  refine wp_region_mv (S := fun w' => w'.cell? ⟨p, 12, none⟩ = some (.slice (some ⟨g, 0, none⟩) 2 c)) 14 [.f 0, .f 1, .f 2, .f 3, .f 4, .f 5, .f 6, .f 7, .f 8, .f 9, .f 10, .f 11, .t 12, .f 13, .t 14] (by kernel_rfl) (by kernel_rfl) (by kernel_rfl) c12 ?_
  iterate 12 (refine mv_take _ _ rfl (by kernel_rfl) (fun wv hv => by have hv1 := hv; clear hv; go_simp; try with_reducible rfl) ?_; simp only [Act.put, List.getElem_toArray, List.getElem_cons_zero, List.getElem_cons_succ, List.setIfInBounds_toArray, List.set_cons_zero, List.set_cons_succ])
  refine mv_act _ rfl (fun K hK => ?_)
  go_simp
  go_simp
  refine hK _ _ (.inr (c12)) ?_
  clear hK K
  iterate 1 (refine mv_take _ _ rfl (by kernel_rfl) (fun wv hv => by have hv1 := hv; clear hv; go_simp; try with_reducible rfl) ?_; simp only [Act.put, List.getElem_toArray, List.getElem_cons_zero, List.getElem_cons_succ, List.setIfInBounds_toArray, List.set_cons_zero, List.set_cons_succ])
  refine mv_act _ rfl (fun K hK => ?_)
  go_simp
  go_simp
  refine hK _ _ (.inl rfl) ?_
  clear hK K
  refine mv_nil ?_
  go_upto_region 4 with fail
  have hq := HH.out.drewN (nq + 1)
  have hh := HE.out
  obtain ⟨h1, a1⟩ := hq.cutHeap (A := some ⟨g, 0, none⟩) (n := 1) (c := c) (by rw [hh]) (by rw [hh]; simp)
  have e1 : s.hp.take 1 = [a] := by rw [hh]; rfl
  rw [e1] at h1
  obtain ⟨W1, hW1⟩ : ∃ W1, W1 = (w.drewN (nq + 1)).setCell ⟨p, 12, none⟩ (.slice (some ⟨g, 0, none⟩) 1 c) := ⟨_, rfl⟩
  rw [← hW1] at h1 a1
  obtain ⟨ua, hua⟩ : ∃ u, s.pl[a]? = some u := ⟨_, List.getElem?_eq_getElem (by rw [hq.pll]; omega)⟩
  have c13 : W1.cell? ⟨p, 13, none⟩ = some (.slice (some ⟨gP, 0, none⟩) (V + 1) (V + 1)) := h1.blk.cell 13
  have cP1 : W1.cell? ⟨gP, a, none⟩ = some (.int .i64 ua) := h1.pla.cell (lit_at hua)
  have fP1 : W1.frozen? ⟨gP, a, none⟩ = false := h1.pla.frozen a
  obtain ⟨h2, a2⟩ := h1.setPla a (-1)
  obtain ⟨W2, hW2⟩ : ∃ W2, W2 = W1.setCell ⟨gP, a, none⟩ (.int .i64 (-1)) := ⟨_, rfl⟩
  dsimp only at h2 a2
  rw [← hW2] at h2 a2
  have c212 : W2.cell? ⟨p, 12, none⟩ = some (.slice (some ⟨g, 0, none⟩) 1 c) := h2.blk.cell 12
  have ch2 : W2.cell? ⟨g, 0, none⟩ = some (.int .i64 (a : Nat)) := by
    obtain ⟨g', c', hv', _, hcel'⟩ := h2.hea.at_ (by rw [kVals_len]; simp)
    simp only [Value.slice.injEq, Option.some.injEq, Addr.mk.injEq] at hv'
    obtain ⟨⟨rfl, -⟩, -⟩ := hv'
    exact hcel'.cell (k_at rfl)
  have fh2 : W2.frozen? ⟨g, 0, none⟩ = false := by
    obtain ⟨g', c', hv', _, hcel'⟩ := h2.hea.at_ (by rw [kVals_len]; simp)
    simp only [Value.slice.injEq, Option.some.injEq, Addr.mk.injEq] at hv'
    obtain ⟨⟨rfl, -⟩, -⟩ := hv'
    exact hcel'.frozen 0
  obtain ⟨h3, a3⟩ := h2.setHeap (g := g) (c := c) (m := 1) rfl rfl 0 b
  obtain ⟨W3, hW3⟩ : ∃ W3, W3 = W2.setCell ⟨g, 0, none⟩ (.int .i64 (b : Nat)) := ⟨_, rfl⟩
  dsimp only at h3 a3
  rw [← hW3] at h3 a3
  obtain ⟨ub, hub⟩ : ∃ u, (s.pl.set a (-1))[b]? = some u := ⟨_, List.getElem?_eq_getElem (by rw [List.length_set, hq.pll]; omega)⟩
  have c313 : W3.cell? ⟨p, 13, none⟩ = some (.slice (some ⟨gP, 0, none⟩) (V + 1) (V + 1)) := h3.blk.cell 13
  have cP3 : W3.cell? ⟨gP, b, none⟩ = some (.int .i64 ub) := h3.pla.cell (lit_at hub)
  have fP3 : W3.frozen? ⟨gP, b, none⟩ = false := h3.pla.frozen b
  obtain ⟨h4, a4⟩ := h3.setPla b 0
  obtain ⟨W4, hW4⟩ : ∃ W4, W4 = W3.setCell ⟨gP, b, none⟩ (.int .i64 0) := ⟨_, rfl⟩
  dsimp only at h4 a4
  rw [← hW4] at h4 a4
  have CD := Lib.hid (down1 h4 rfl hb)
  have AA := Lib.hid ((cg_new (tag := tag) (S := Fr 16) (below_drewN (Below.refl w.heap.size w) (nq + 1))).trans (((a1.trans a2).trans a3).trans a4))
  have HW1 := Lib.hid hW1
  have HW2 := Lib.hid hW2
  have HW3 := Lib.hid hW3
  have HW4 := Lib.hid hW4
  clear hq hh e1 h1 h2 h3 h4 a1 a2 a3 a4 hW1 hW2 hW3 hW4 hua hub HH HE
  rw [← HW1.out]
  go_upto_region 5 with fail
  rw [← HW2.out]
  go_upto_region 7 with fail
  rw [← HW3.out]
  go_upto_region 8 with fail
  rw [← HW4.out]
  go_wp2_with fail
  refine CD.out.mono ?_
  rintro e w' ⟨rfl, tag', y', hre, hcg, hs⟩
  go_wp2_with fail
  go_ret
  exact ⟨rfl, tag', y', fun g hg => hre g (by have := AA.out.size; omega), AA.out.trans hcg, hs⟩
end
end Go.Proofs.YtgchepkcjkhmmaaDoor.slv
namespace Go.Proofs.YtgchepkcjkhmmaaDoor.slv
open Go.RowKit
section
variable {w : World} {tag : Nat → Tag} {p V : Nat} {y : SLay} {s : SS}
attribute [local irreducible] wpSeq wpMv
set_option maxRecDepth 100000 in
set_option maxHeartbeats 4000000 in
theorem pop1 {a : Nat} (h : Slv w tag p V y s) (hh : s.hp = [a]) (ha : a ≤ V) : Calls Tryd.prog 48 #[.pointer (some ⟨p, 0, none⟩)] w
    (PpP w tag p V { s with hp := [], pl := s.pl.set a (-1) } a) := by
  obtain ⟨vC, rows, gw, wrows, gv, gl, gr, vt, vL, gs, gp, vh, gP, vP, prows⟩ := y
  obtain ⟨g, c, hvh, _, hcel⟩ := h.hea.at_ (by rw [kVals_len, hh]; simp)
  rw [kVals_len, hh] at hvh
  dsimp only at hvh
  subst hvh
  have ch0 : w.cell? ⟨g, 0, none⟩ = some (.int .i64 (a : Nat)) := hcel.cell (k_at (by rw [hh]; rfl))
  have c12 : w.cell? ⟨p, 12, none⟩ = some (.slice (some ⟨g, 0, none⟩) 1 c) := h.blk.cell 12
  have f12 : w.frozen? ⟨p, 12, none⟩ = false := h.blk.frozen 12
  have HH := Lib.hid h
  have HE := Lib.hid hh
  have haV : (a : Int) < (V : Int) + 1 := by omega
  have hw0 : IntKind.i64.wrap 0 = 0 := by rw [IntKind.wrap_i64]; omega
  have hc0 : (0 : Int) ≤ (c : Int) := by omega
  clear h hcel hh
  go_enter Tryd.func48, Tryd.ntmps48
  go_upto_region 2 with fail
  go_quiet (fail)
  go_upto_region 3 with fail
  refine wp_region_mv (S := fun w' => w'.cell? ⟨p, 12, none⟩ = some (.slice (some ⟨g, 0, none⟩) 1 c)) 14 [.f 0, .f 1, .f 2, .f 3, .f 4, .f 5, .f 6, .f 7, .f 8, .f 9, .f 10, .f 11, .t 12, .f 13, .t 14] (by kernel_rfl) (by kernel_rfl) (by kernel_rfl) c12 ?_
  iterate 12 (refine mv_take _ _ rfl (by kernel_rfl) (fun wv hv => by have hv1 := hv; clear hv; go_simp; try with_reducible rfl) ?_; simp only [Act.put, List.getElem_toArray, List.getElem_cons_zero, List.getElem_cons_succ, List.setIfInBounds_toArray, List.set_cons_zero, List.set_cons_succ])
  refine mv_act _ rfl (fun K hK => ?_)
  go_simp
  go_simp
  refine hK _ _ (.inr (c12)) ?_
  clear hK K
  iterate 1 (refine mv_take _ _ rfl (by kernel_rfl) (fun wv hv => by have hv1 := hv; clear hv; go_simp; try with_reducible rfl) ?_; simp only [Act.put, List.getElem_toArray, List.getElem_cons_zero, List.getElem_cons_succ, List.setIfInBounds_toArray, List.set_cons_zero, List.set_cons_succ])
  refine mv_act _ rfl (fun K hK => ?_)
  go_simp
  go_simp
  refine hK _ _ (.inl rfl) ?_
  clear hK K
  refine mv_nil ?_
  go_upto_region 4 with fail
  have hq := HH.out.drewN (nq + 1)
  have hh := HE.out
  obtain ⟨h1, a1⟩ := hq.cutHeap (A := some ⟨g, 0, none⟩) (n := 0) (c := c) (by rw [hh]; try rfl) (by rw [hh]; simp)
  have e1 : s.hp.take 0 = [] := rfl
  rw [e1] at h1
  obtain ⟨W1, hW1⟩ : ∃ W1, W1 = (w.drewN (nq + 1)).setCell ⟨p, 12, none⟩ (.slice (some ⟨g, 0, none⟩) 0 c) := ⟨_, rfl⟩
  rw [← hW1] at h1 a1
  obtain ⟨ua, hua⟩ : ∃ u, s.pl[a]? = some u := ⟨_, List.getElem?_eq_getElem (by rw [hq.pll]; omega)⟩
  have c13 : W1.cell? ⟨p, 13, none⟩ = some (.slice (some ⟨gP, 0, none⟩) (V + 1) (V + 1)) := h1.blk.cell 13
  have cP1 : W1.cell? ⟨gP, a, none⟩ = some (.int .i64 ua) := h1.pla.cell (lit_at hua)
  have fP1 : W1.frozen? ⟨gP, a, none⟩ = false := h1.pla.frozen a
  obtain ⟨h2, a2⟩ := h1.setPla a (-1)
  obtain ⟨W2, hW2⟩ : ∃ W2, W2 = W1.setCell ⟨gP, a, none⟩ (.int .i64 (-1)) := ⟨_, rfl⟩
  dsimp only at h2 a2
  rw [← hW2] at h2 a2
  have c212 : W2.cell? ⟨p, 12, none⟩ = some (.slice (some ⟨g, 0, none⟩) 0 c) := h2.blk.cell 12
  have AA := Lib.hid ((cg_new (tag := tag) (S := Fr 16) (below_drewN (Below.refl w.heap.size w) (nq + 1))).trans (a1.trans a2))
  have HS := Lib.hid h2
  have HW1 := Lib.hid hW1
  have HW2 := Lib.hid hW2
  clear hq hh e1 h1 h2 a1 a2 hW1 hW2 hua HH HE
  rw [← HW1.out]
  go_upto_region 5 with fail
  rw [← HW2.out]
  go_wp2_with fail
  go_ret
  exact ⟨rfl, tag, _, Re.refl _ _, AA.out, HS.out⟩
def DcP (w : World) (tag : Nat → Tag) (p V : Nat) (s : SS) (e : Ending) (w' : World) : Prop :=
  e = .returned (.bool true) ∧ ∃ tag' y', Re w tag tag' ∧ Cg tag (Fr 16) w w' ∧ Slv w' tag' p V y' s
theorem decide0 (h : Slv w tag p V y s) (hh : s.hp = []) : Calls Tryd.prog 27 #[.pointer (some ⟨p, 0, none⟩)] w fun e w' => e = .returned (.bool false) ∧ w = w' := by
  obtain ⟨A, c, hv⟩ := h.hea.form
  rw [kVals_len, hh] at hv
  have c12 : w.cell? ⟨p, 12, none⟩ = some (.slice A 0 c) := by have := h.blk.cell 12; rw [hv] at this; exact this
  clear h hv hh
  go_enter Tryd.func27, Tryd.ntmps27
  go_wp2_with fail
  go_loopw [2] (fun _ wr => wr = w) (fun _ _ => 0)
  case atStart => rfl
  case round =>
    subst hrel
    go_wp2_with fail
    go_ret
    exact ⟨rfl, rfl⟩
set_option maxRecDepth 100000 in
set_option maxHeartbeats 4000000 in
theorem decide_step {s1 : SS} {v : Nat} (h : Slv w tag p V y s) (hh : 0 < s.hp.length) (hv1 : 1 ≤ v) (hvV : v ≤ V) (hV : V ≤ 400000) (CP : Calls Tryd.prog 48 #[.pointer (some ⟨p, 0, none⟩)] w (PpP w tag p V s1 v))
    (hv0 : s1.vs[v]? = some 0) (hp0 : s1.ph[v]? = some false) (ht : s1.tr.length ≤ V) (hlm : s1.lm.length < V) :
    Calls Tryd.prog 27 #[.pointer (some ⟨p, 0, none⟩)] w (DcP w tag p V (setS { s1 with lm := s1.lm ++ [s1.tr.length] } (-(v : Int)) (-1))) := by
  obtain ⟨i0, hi, hz0, hz1, hz2⟩ := info_parts info_int
  have HI := Lib.hid (And.intro hi (And.intro hz0 (And.intro hz1 hz2)))
  clear hi hz0 hz1 hz2
  obtain ⟨A, c, hv⟩ := h.hea.form
  rw [kVals_len] at hv
  have c12 : w.cell? ⟨p, 12, none⟩ = some (.slice A s.hp.length c) := by have := h.blk.cell 12; rw [hv] at this; exact this
  have hz : decide (0 < s.hp.length) = true := decide_eq_true hh
  have C1 := Lib.hid CP
  have HV0 := Lib.hid hv0
  have HP0 := Lib.hid hp0
  have HTL := Lib.hid ht
  have HLM := Lib.hid hlm
  clear h hv hh CP hv0 hp0 ht hlm
  go_enter Tryd.func27, Tryd.ntmps27
  go_wp2_with fail
  go_loopw [2] (fun _ wr => wr = w) (fun _ _ => 0)
  case atStart => rfl
  case round =>
    subst hrel
    go_wp2_with fail
    refine C1.out.mono ?_
    rintro e w1 ⟨rfl, tag1, y1, hre1, hcg1, h1⟩
    obtain ⟨vC, rows, gw, wrows, gv, gl, gr, vt, vL, gs, gp, vh, gP, vP, prows⟩ := y1
    obtain ⟨At, ct, hvt⟩ := h1.trl.form
    rw [litVals_len] at hvt
    dsimp only at hvt
    subst hvt
    obtain ⟨AL, cL, hvL⟩ := h1.lim.form
    rw [kVals_len] at hvL
    dsimp only at hvL
    subst hvL
    have c3 : w1.cell? ⟨p, 3, none⟩ = some (.slice (some ⟨gv, 0, none⟩) (V + 1) (V + 1)) := h1.blk.cell 3
    have cv : w1.cell? ⟨gv, v, none⟩ = some (.int .i8 0) := h1.val.cell (i8_at HV0.out)
    have c6 : w1.cell? ⟨p, 6, none⟩ = some (.slice At s1.tr.length ct) := h1.blk.cell 6
    have c7 : w1.cell? ⟨p, 7, none⟩ = some (.slice AL s1.lm.length cL) := h1.blk.cell 7
    have hvI : (v : Int) < (V : Int) + 1 := by omega
    have H1 := Lib.hid h1
    have HR1 := Lib.hid hre1
    have HC1 := Lib.hid hcg1
    clear h1 hre1 hcg1 c12 hz
    go_upto_region 4 with fail
    clear cv
    have ho7 : (w1.drew.alloc (.cells #[.int .i64 (s1.tr.length : Nat)] 3)).ownsRow 0 3 1 (.slice AL s1.lm.length cL) s1.lm.length (kVals s1.lm) := by
      have := (H1.out.drew.alloc (.cells #[.int .i64 (s1.tr.length : Nat)] 3)).lim.own
      rw [kVals_len] at this; exact this
    have HO7 := Lib.hid ho7
    clear ho7
    refine wp_region_mv (S := fun w' => w'.cell? ⟨p, 6, none⟩ = some (.slice At s1.tr.length ct) ∧ w'.cell? ⟨p, 7, none⟩ = some (.slice AL s1.lm.length cL)) 14 [.f 0, .f 1, .f 2, .f 3, .f 4, .f 5, .f 6, .f 7, .f 8, .f 9, .t 10, .t 11, .t 12, .f 13, .t 14] (by kernel_rfl) (by kernel_rfl) (by kernel_rfl) (And.intro c6 c7) ?_
    iterate 10 (refine mv_take _ _ rfl (by kernel_rfl) (fun wv hv => by obtain ⟨hv1, hv2⟩ := hv; go_simp; try with_reducible rfl) ?_; simp only [Act.put, List.getElem_toArray, List.getElem_cons_zero, List.getElem_cons_succ, List.setIfInBounds_toArray, List.set_cons_zero, List.set_cons_succ])
    refine mv_act _ rfl (fun K hK => ?_)
    go_simp
    go_simp
    refine hK _ _ (.inr ((And.intro ((H1.out.drew.alloc _).blk.cell 6) ((H1.out.drew.alloc _).blk.cell 7)))) ?_
    clear hK K
    refine mv_act _ rfl (fun K hK => ?_)
    refine step_append_loc _ rfl (.tmp 24) (.tmp 30) _ rfl 0 3 i0 _ 1 8 Tryd.underlying27 HI.out.1 HI.out.2.1 HI.out.2.2.1 HI.out.2.2.2 rfl (by omega) (.slice AL s1.lm.length cL) s1.lm.length (kVals s1.lm) rfl HO7.out (w1.heap.size + 1) (some ⟨w1.heap.size, 0, none⟩) 1 1 [.int .i64 (s1.tr.length : Nat)] rfl (reads_new (by simp) (by simp) rfl) (by intro u hu; rw [List.mem_singleton.1 hu]; rfl) (le_maxLen (by have := HLM.out; omega)) (le_bytes (by have := HLM.out; omega) (by omega)) (by simp) ?_
    intro A6 c8 w6 hown6 hg6 hl6
    have e8 : kVals s1.lm ++ [Value.int .i64 ((s1.tr.length : Nat) : Int)] = kVals (s1.lm ++ [s1.tr.length]) := by unfold kVals; simp
    rw [e8] at hown6
    obtain ⟨tag6, hr6, hc6, hk6⟩ := (H1.out.drew.alloc (.cells #[.int .i64 (s1.tr.length : Nat)] 3)).limit (l' := s1.lm ++ [s1.tr.length]) hown6 (by simp) hg6 hl6
    have hb6 := (H1.out.drew.alloc (.cells #[.int .i64 (s1.tr.length : Nat)] 3)).blk.grown hg6 (own_blk_ne HO7.out (H1.out.drew.alloc (.cells #[.int .i64 (s1.tr.length : Nat)] 3)).blk (by decide)).symm
    have c66 : w6.cell? ⟨p, 6, none⟩ = some (.slice At s1.tr.length ct) := hb6.cell 6
    have c67 : w6.cell? ⟨p, 7, none⟩ = some (.slice AL s1.lm.length cL) := hb6.cell 7
    have f67 : w6.frozen? ⟨p, 7, none⟩ = false := hb6.frozen 7
    have l67 : p < w6.heap.size := hb6.lt
    have HC6 := Lib.hid hc6
    have HK6 := Lib.hid hk6
    have HR6 := Lib.hid hr6
    clear hown6 hg6 hl6 hc6 hk6 hr6 hb6 e8
    refine hK _ _ (.inr ((And.intro c66 c67))) ?_
    clear hK K
    try simp only [Act.put, List.getElem_toArray, List.getElem_cons_zero, List.getElem_cons_succ, List.setIfInBounds_toArray, List.set_cons_zero, List.set_cons_succ]
    refine mv_act _ rfl (fun K hK => ?_)
    go_simp
    go_simp
    refine hK _ _ (.inr ((And.intro c66 c67))) ?_
    clear hK K
    iterate 1 (refine mv_take _ _ rfl (by kernel_rfl) (fun wv hv => by obtain ⟨hv1, hv2⟩ := hv; go_simp; try with_reducible rfl) ?_; simp only [Act.put, List.getElem_toArray, List.getElem_cons_zero, List.getElem_cons_succ, List.setIfInBounds_toArray, List.set_cons_zero, List.set_cons_succ])
    refine mv_act _ rfl (fun K hK => ?_)
    go_simp
    go_simp
    refine hK _ _ (.inl rfl) ?_
    clear hK K
    refine mv_nil ?_
    go_upto_region 5 with fail
    obtain ⟨W7, hW7⟩ : ∃ W7, w6.setCell ⟨p, 7, none⟩ (.slice A6 (s1.lm.length + 1) c8) = W7 := ⟨_, rfl⟩
    have hk7 := HK6.out
    have hc7 := HC6.out
    rw [hW7] at hk7 hc7 ⊢
    clear hW7 c66 c67 f67 l67
    have c11 : W7.cell? ⟨p, 11, none⟩ = some (.slice (some ⟨gp, 0, none⟩) (V + 1) (V + 1)) := hk7.blk.cell 11
    have cp : W7.cell? ⟨gp, v, none⟩ = some (.bool false) := hk7.pha.cell (bool_at HP0.out)
    have w2 : IntKind.i64.wrap (-(v : Int)) = -(v : Int) := by rw [IntKind.wrap_i64]; omega
    have CS := Lib.hid (set_any hk7 (n := -(v : Int)) (by_ := -1) HTL.out (by have := HLM.out; simp; omega) (by unfold Lit; omega) (by omega))
    have HC7 := Lib.hid hc7
    clear hk7 hc7
    go_wp2_with fail
    refine CS.out.mono ?_
    rintro e w8 ⟨rfl, tag8, y8, hre8, hcg8, h8⟩
    have z1 : wr.heap.size ≤ w1.heap.size := HC1.out.size
    have z7 : w1.heap.size + 1 ≤ W7.heap.size := by have := HC7.out.size; simp at this; exact this
    have HE := Lib.hid (show DcP wr tag p V (setS { s1 with lm := s1.lm ++ [s1.tr.length] } (-(v : Int)) (-1)) (.returned (.bool true)) w8 from
      ⟨rfl, tag8, y8, fun g hg => (hre8 g (by omega)).trans ((HR6.out g (by simp; omega)).trans (HR1.out g hg)),
        HC1.out.trans_ ((cg_new (tag := tag1) (S := Fr 16) ((below_drewN (Below.refl _ w1) 1).alloc (Nat.le_refl _) (.cells #[.int .i64 (s1.tr.length : Nat)] 3))).trans (HC7.out.trans_ hcg8 HR6.out)) HR1.out, h8⟩)
    clear z1 z7
    clear hre8 hcg8 h8
    go_wp2_with fail
    go_ret
    exact HE.out
end
end Go.Proofs.YtgchepkcjkhmmaaDoor.slv
