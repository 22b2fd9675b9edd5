/-
  WALK of (*solver).up.
  WALK of (*solver).down.
-/
import Derived.Test.YtaedbnbeelkkcaaDoorAa
import Derived.Test.YtaedbnbeelkkcaaDoorNc
import Derived.Test.YtaedbnbeelkkcaaDoorHq
import Derived.BigQuiet
import Derived.Deep.DeepCutAuto
namespace Go.Proofs.YtaedbnbeelkkcaaDoor.slv
open Go.RowKit
section
variable {w : World} {tag : Nat → Tag} {p V : Nat} {y : SLay} {s : SS}
theorem Slv.hpAt (h : Slv w tag p V y s) {i v : Nat} (hi : s.hp[i]? = some v) : ∃ g c, y.vh = .slice (some ⟨g, 0, none⟩) s.hp.length c ∧ w.cell? ⟨g, i, none⟩ = some (.int .i64 (v : Nat)) ∧ (∀ j, w.frozen? ⟨g, j, none⟩ = false) := by
  have hlt := (List.getElem?_eq_some_iff.1 hi).1
  obtain ⟨g, c, hvh, _, hcel⟩ := h.hea.at_ (by rw [kVals_len]; omega)
  rw [kVals_len] at hvh
  exact ⟨g, c, hvh, hcel.cell (k_at hi), fun j => hcel.frozen j⟩
def UpR (w : World) (tag : Nat → Tag) (p V : Nat) (y : SLay) (s' : SS) (v n : Nat) (iv : Value) (wr : World) : Prop :=
  ∃ f i s1, iv = .int .i64 (i : Nat) ∧ upL v f i s1 = some s' ∧ Slv wr tag p V y s1 ∧ Cg tag (Fr 16) w wr ∧ i < n ∧ s1.hp.length = n
/-- a call that leaves the layout -/
def StY (w : World) (tag : Nat → Tag) (p V : Nat) (y : SLay) (s : SS) (e : Ending) (w' : World) : Prop := e = .returned (.tuple #[]) ∧ Cg tag (Fr 16) w w' ∧ Slv w' tag p V y s
/-- where the variable comes to stand -/
def StR (w : World) (tag : Nat → Tag) (p V : Nat) (y : SLay) (s' : SS) (w' : World) : Prop := Cg tag (Fr 16) w w' ∧ Slv w' tag p V y s'
theorem stopH_st {w wr : World} {g c n i v : Nat} {s1 : SS} (h : Slv wr tag p V y s1) (ha : Cg tag (Fr 16) w wr) (hv : y.vh = .slice (some ⟨g, 0, none⟩) n c) (hn : s1.hp.length = n) :
    StR w tag p V y (stopH s1 i v) ((wr.setCell ⟨g, i, none⟩ (.int .i64 (v : Nat))).setCell ⟨y.gP, v, none⟩ (.int .i64 (i : Nat))) := by
  obtain ⟨h1, a1⟩ := h.setHeap hv hn i v
  obtain ⟨h2, a2⟩ := h1.setPla v (i : Nat)
  exact ⟨(ha.trans a1).trans a2, h2⟩
attribute [local irreducible] wpSeq wpMv
set_option maxRecDepth 100000 in
set_option maxHeartbeats 4000000 in
theorem up_any {s' : SS} {i : Nat} (h : Slv w tag p V y s) (hu : upM V s i = some s') (_hV : V ≤ 400000) (hh : s.hp.length ≤ 1000000) :
    Calls Tryd.prog 36 #[.pointer (some ⟨p, 0, none⟩), .int .i64 (i : Nat)] w (StY w tag p V y s') := by
  unfold upM at hu
  split at hu
  · cases hu
  rename_i v hiv
  split at hu
  case isFalse => cases hu
  rename_i hvV
  obtain ⟨n, hn⟩ : ∃ n, s.hp.length = n := ⟨_, rfl⟩
  have hin : i < n := by have := (List.getElem?_eq_some_iff.1 hiv).1; omega
  obtain ⟨g, c, hvh, ch, _⟩ := h.hpAt hiv
  rw [hn] at hvh hh
  obtain ⟨vC, rows, gw, wrows, gv, gl, gr, vt, vL, gs, gp, vh, gP, vP, prows⟩ := y
  dsimp only at hvh
  subst hvh
  have c12 : w.cell? ⟨p, 12, none⟩ = some (.slice (some ⟨g, 0, none⟩) n c) := h.blk.cell 12
  have HST := Lib.hid (show UpR w tag p V ⟨vC, rows, gw, wrows, gv, gl, gr, vt, vL, gs, gp, .slice (some ⟨g, 0, none⟩) n c, gP, vP, prows⟩ s' v n (.int .i64 (i : Nat)) w from ⟨_, i, s, rfl, hu, h, Chg.refl _ w, hin, hn⟩)
  have hinI : (i : Int) < (n : Int) := by omega
  clear hu hiv h hn
  go_enter Tryd.func36, Tryd.ntmps36
  go_wp2_with fail
  go_loopw [1] (fun iv wr => UpR w tag p V ⟨vC, rows, gw, wrows, gv, gl, gr, vt, vL, gs, gp, .slice (some ⟨g, 0, none⟩) n c, gP, vP, prows⟩ s' v n iv wr) (fun iv _ => (intOf iv).toNat)
  case atStart => exact HST.out
  case round =>
    clear HST ch c12 hin hinI
    obtain ⟨f, i, s1, e1, hu, hs, ha, hin, hn⟩ := hrel
    subst e1
    have hinI : (i : Int) < (n : Int) := by omega
    have hvV1 : (v : Int) < (V : Int) + 1 := by omega
    obtain ⟨q0, hq0⟩ : ∃ q, s1.pl[v]? = some q := ⟨_, List.getElem?_eq_getElem (by have := hs.pll; omega)⟩
    obtain ⟨t0, ht0⟩ : ∃ q, s1.hp[i]? = some q := ⟨_, List.getElem?_eq_getElem (by omega)⟩
    obtain ⟨g', c', hvh', ci, hfz⟩ := hs.hpAt ht0
    rw [hn] at hvh'
    dsimp only at hvh'
    injection hvh' with e1 _ e3
    injection e1 with e1
    injection e1 with e1
    subst e1
    subst e3
    cases f with
    | zero => cases hu
    | succ f =>
    unfold upL at hu
    by_cases hi0 : i = 0
    · subst hi0
      rw [if_pos rfl] at hu
      injection hu with hu
      subst hu
      have HS := Lib.hid hs
      have HA := Lib.hid ha
      have HN := Lib.hid hn
      clear hs ha hn ht0
      go_upto_region 1 with fail
      go_quiet (fail)
      have hsq := (HS.out).drewN nq
      obtain ⟨wq, hwq⟩ : ∃ wq, wr.drewN nq = wq := ⟨_, rfl⟩
      have haq := HA.out.trans (cg_new (tag := tag) (S := Fr 16) (below_drewN (Below.refl _ wr) nq))
      rw [hwq] at hsq haq ⊢
      clear hwq
      obtain ⟨h5, a5⟩ := hsq.setHeap (g := g) (c := c) (m := n) rfl HN.out 0 v
      obtain ⟨W5, hW5⟩ : ∃ W5, wq.setCell ⟨g, 0, none⟩ (.int .i64 (v : Nat)) = W5 := ⟨_, rfl⟩
      have hst := stopH_st (i := 0) (v := v) hsq haq rfl HN.out
      have q12 : wq.cell? ⟨p, 12, none⟩ = some (.slice (some ⟨g, 0, none⟩) n c) := hsq.blk.cell 12
      obtain ⟨t1, ht1⟩ : ∃ q, s1.hp[0]? = some q := ⟨_, List.getElem?_eq_getElem (by have := HN.out; omega)⟩
      have qh : wq.cell? ⟨g, 0, none⟩ = some (.int .i64 (t1 : Nat)) := by
        obtain ⟨g', c', hvh', ci, _⟩ := hsq.hpAt ht1
        dsimp only at hvh'
        injection hvh' with e1 _ e3
        injection e1 with e1
        injection e1 with e1
        subst e1
        exact ci
      have qf : wq.frozen? ⟨g, 0, none⟩ = false := by
        obtain ⟨g', c', hvh', _, hf⟩ := hsq.hpAt ht1
        dsimp only at hvh'
        injection hvh' with e1 _ e3
        injection e1 with e1
        injection e1 with e1
        subst e1
        exact hf 0
      dsimp only at h5 a5 hst
      rw [hW5] at h5 a5 hst
      have q13 : W5.cell? ⟨p, 13, none⟩ = some (.slice (some ⟨gP, 0, none⟩) (V + 1) (V + 1)) := h5.blk.cell 13
      have qp : W5.cell? ⟨gP, v, none⟩ = some (.int .i64 q0) := h5.pla.cell (lit_at hq0)
      have qpf : W5.frozen? ⟨gP, v, none⟩ = false := h5.pla.frozen v
      have HE := Lib.hid (show StY w tag p V ⟨vC, rows, gw, wrows, gv, gl, gr, vt, vL, gs, gp, .slice (some ⟨g, 0, none⟩) n c, gP, vP, prows⟩ (stopH s1 0 v) (.returned (.tuple #[])) (W5.setCell ⟨gP, v, none⟩ (.int .i64 (0 : Nat))) from ⟨rfl, hst.1, hst.2⟩)
      have HW5 := Lib.hid hW5
      clear hsq haq h5 a5 hst hW5 ht1
      go_upto_region 6 with fail
      rw [HW5.out]
      go_wp2_with fail
      go_end0
      exact HE.out
    · rw [if_neg hi0] at hu
      split at hu
      · cases hu
      rename_i u hu1
      split at hu
      case h_2 => cases hu
      rename_i a b ha1 hb1
      obtain ⟨j, hj⟩ : ∃ j, i = j + 1 := ⟨i - 1, by omega⟩
      subst hj
      rw [show (j + 1 - 1) / 2 = j / 2 by rw [Nat.add_sub_cancel]] at hu hu1
      obtain ⟨hh, hhh⟩ : ∃ hh, j / 2 = hh := ⟨_, rfl⟩
      have hhI : (j : Int) / 2 = (hh : Int) := by omega
      rw [hhh] at hu hu1
      have hhn : hh < n := by omega
      have hhnI : (hh : Int) < (n : Int) := by omega
      have huV : u < V + 1 := by have := hs.sl; have := (List.getElem?_eq_some_iff.1 ha1).1; omega
      have huVI : (u : Int) < (V : Int) + 1 := by omega
      have c9 : wr.cell? ⟨p, 9, none⟩ = some (.slice (some ⟨gs, 0, none⟩) (V + 1) (V + 1)) := hs.blk.cell 9
      have c12 : wr.cell? ⟨p, 12, none⟩ = some (.slice (some ⟨g, 0, none⟩) n c) := hs.blk.cell 12
      have cu : wr.cell? ⟨g, hh, none⟩ = some (.int .i64 (u : Nat)) := by
        obtain ⟨g', c', hvh', ci, _⟩ := hs.hpAt hu1
        dsimp only at hvh'
        injection hvh' with e1 _ e3
        injection e1 with e1
        injection e1 with e1
        subst e1
        exact ci
      have cb : wr.cell? ⟨gs, v, none⟩ = some (.float .f64 b) := hs.sco.cell (f_at hb1)
      have ca : wr.cell? ⟨gs, u, none⟩ = some (.float .f64 a) := hs.sco.cell (f_at ha1)
      obtain ⟨q, hq⟩ : ∃ q, flt a b = q := ⟨_, rfl⟩
      rw [hq] at hu
      have w1 : IntKind.i64.wrap (((j + 1 : Nat) : Int) - 1) = (j : Int) := by rw [IntKind.wrap_i64]; omega
      have HS := Lib.hid hs
      have HA := Lib.hid ha
      have HN := Lib.hid hn
      have HU := Lib.hid hu
      have hqf : (FloatKind.f64.format.order a b == some Ordering.lt) = q := hq
      clear hs ha hn ht0 hu hu1 ha1 hb1 hhh hi0 hq
      go_upto_region 1 with fail
      go_quiet (fail)
      clear hqf ca cb c9
      cases q with
      | false =>
        rw [if_neg (by simp)] at HU
        have hu := HU.out
        injection hu with hu
        subst hu
        have hsq := (HS.out).drewN nq
        obtain ⟨wq, hwq⟩ : ∃ wq, wr.drewN nq = wq := ⟨_, rfl⟩
        have haq := HA.out.trans (cg_new (tag := tag) (S := Fr 16) (below_drewN (Below.refl _ wr) nq))
        rw [hwq] at hsq haq ⊢
        clear hwq
        obtain ⟨h5, a5⟩ := hsq.setHeap (g := g) (c := c) (m := n) rfl HN.out (j + 1) v
        obtain ⟨W5, hW5⟩ : ∃ W5, wq.setCell ⟨g, j + 1, none⟩ (.int .i64 (v : Nat)) = W5 := ⟨_, rfl⟩
        have hst := stopH_st (i := j + 1) (v := v) hsq haq rfl HN.out
        have q12 : wq.cell? ⟨p, 12, none⟩ = some (.slice (some ⟨g, 0, none⟩) n c) := hsq.blk.cell 12
        obtain ⟨t1, ht1⟩ : ∃ q, s1.hp[j + 1]? = some q := ⟨_, List.getElem?_eq_getElem (by have := HN.out; omega)⟩
        have qh : wq.cell? ⟨g, j + 1, none⟩ = some (.int .i64 (t1 : Nat)) := by
          obtain ⟨g', c', hvh', ci, _⟩ := hsq.hpAt ht1
          dsimp only at hvh'
          injection hvh' with e1 _ e3
          injection e1 with e1
          injection e1 with e1
          subst e1
          exact ci
        have qf : wq.frozen? ⟨g, j + 1, none⟩ = false := by
          obtain ⟨g', c', hvh', _, hf⟩ := hsq.hpAt ht1
          dsimp only at hvh'
          injection hvh' with e1 _ e3
          injection e1 with e1
          injection e1 with e1
          subst e1
          exact hf (j + 1)
        dsimp only at h5 a5 hst
        rw [hW5] at h5 a5 hst
        have q13 : W5.cell? ⟨p, 13, none⟩ = some (.slice (some ⟨gP, 0, none⟩) (V + 1) (V + 1)) := h5.blk.cell 13
        have qp : W5.cell? ⟨gP, v, none⟩ = some (.int .i64 q0) := h5.pla.cell (lit_at hq0)
        have qpf : W5.frozen? ⟨gP, v, none⟩ = false := h5.pla.frozen v
        have HE := Lib.hid (show StY w tag p V ⟨vC, rows, gw, wrows, gv, gl, gr, vt, vL, gs, gp, .slice (some ⟨g, 0, none⟩) n c, gP, vP, prows⟩ (stopH s1 (j + 1) v) (.returned (.tuple #[])) (W5.setCell ⟨gP, v, none⟩ (.int .i64 (j + 1 : Nat))) from ⟨rfl, hst.1, hst.2⟩)
        have HW5 := Lib.hid hW5
        clear hsq haq h5 a5 hst hW5 ht1
        go_upto_region 6 with fail
        rw [HW5.out]
        go_wp2_with fail
        go_end0
        exact HE.out
      | true =>
        rw [if_pos rfl] at HU
        have hu := HU.out
        have hsq := (HS.out).drewN nq
        obtain ⟨wq, hwq⟩ : ∃ wq, wr.drewN nq = wq := ⟨_, rfl⟩
        have haq := HA.out.trans (cg_new (tag := tag) (S := Fr 16) (below_drewN (Below.refl _ wr) nq))
        rw [hwq] at hsq haq ⊢
        have q12 : wq.cell? ⟨p, 12, none⟩ = some (.slice (some ⟨g, 0, none⟩) n c) := hsq.blk.cell 12
        have qu : wq.cell? ⟨g, hh, none⟩ = some (.int .i64 (u : Nat)) := by rw [← hwq]; exact cu
        have qi : wq.cell? ⟨g, j + 1, none⟩ = some (.int .i64 (t0 : Nat)) := by rw [← hwq]; exact ci
        have qf : wq.frozen? ⟨g, j + 1, none⟩ = false := by rw [← hwq]; exact hfz (j + 1)
        obtain ⟨h4, a4⟩ := hsq.setHeap (g := g) (c := c) (m := n) rfl HN.out (j + 1) u
        have h5 := h4.drew
        obtain ⟨W5, hW5⟩ : ∃ W5, (wq.setCell ⟨g, j + 1, none⟩ (.int .i64 (u : Nat))).drew = W5 := ⟨_, rfl⟩
        have a5 := (haq.trans a4).trans (cg_new (tag := tag) (S := Fr 16) (below_drewN (Below.refl _ (wq.setCell ⟨g, j + 1, none⟩ (.int .i64 (u : Nat)))) 1))
        change Cg tag (Fr 16) w (wq.setCell ⟨g, j + 1, none⟩ (.int .i64 (u : Nat))).drew at a5
        skip
        rw [hW5] at h5 a5
        obtain ⟨h6, a6⟩ := h5.setPla u ((j + 1 : Nat) : Int)
        obtain ⟨qpu, hqpu⟩ : ∃ q, s1.pl[u]? = some q := ⟨_, List.getElem?_eq_getElem (by have := hsq.pll; omega)⟩
        have q13 : W5.cell? ⟨p, 13, none⟩ = some (.slice (some ⟨gP, 0, none⟩) (V + 1) (V + 1)) := h5.blk.cell 13
        have q512 : W5.cell? ⟨p, 12, none⟩ = some (.slice (some ⟨g, 0, none⟩) n c) := h5.blk.cell 12
        have q5u : W5.cell? ⟨g, j + 1, none⟩ = some (.int .i64 (u : Nat)) := by
          have hlt : j + 1 < s1.hp.length := by have := HN.out; omega
          obtain ⟨g', c', hvh', ci', _⟩ := h5.hpAt (i := j + 1) (v := u) (by show (s1.hp.set (j + 1) u)[j + 1]? = some u; rw [List.getElem?_set_self hlt])
          dsimp only at hvh'
          injection hvh' with e1 _ e3
          injection e1 with e1
          injection e1 with e1
          subst e1
          exact ci'
        have qp : W5.cell? ⟨gP, u, none⟩ = some (.int .i64 qpu) := h5.pla.cell (lit_at hqpu)
        have qpf : W5.frozen? ⟨gP, u, none⟩ = false := h5.pla.frozen u
        have HNX := Lib.hid (show ∀ k, UpR w tag p V ⟨vC, rows, gw, wrows, gv, gl, gr, vt, vL, gs, gp, .slice (some ⟨g, 0, none⟩) n c, gP, vP, prows⟩ s' v n (.int .i64 (hh : Nat)) ((W5.setCell ⟨gP, u, none⟩ (.int .i64 ((j + 1 : Nat) : Int))).drewN k) from fun k =>
          ⟨f, hh, stopH s1 (j + 1) u, rfl, hu, Slv.drewN h6 k, (a5.trans a6).trans (cg_new (below_drewN (Below.refl _ _) k)), hhn, by unfold stopH; show (s1.hp.set _ _).length = n; rw [List.length_set]; exact HN.out⟩)
        have HW5 := Lib.hid hW5
        clear hu hsq haq h4 a4 h5 a5 h6 a6 hW5 hwq hqpu cu ci hfz c12
        go_upto_region 2 with fail
        have wj : IntKind.i64.wrap (j : Int) = (j : Int) := by rw [IntKind.wrap_i64]; omega
        have wt : (j : Int).tdiv 2 = (hh : Int) := by rw [Int.tdiv_eq_ediv_of_nonneg (by omega)]; exact hhI
        have hj0 : (0 : Int) ≤ (j : Int) + 1 := by omega
        have hj1 : (j : Int) + 1 < (n : Int) := by omega
        have wh : IntKind.i64.wrap (hh : Int) = (hh : Int) := by rw [IntKind.wrap_i64]; omega
        refine wp_region_mv (S := fun w' => w'.cell? ⟨p, 12, none⟩ = some (.slice (some ⟨g, 0, none⟩) n c) ∧ w'.cell? ⟨g, hh, none⟩ = some (.int .i64 (u : Nat))) 15 [.f 0, .f 1, .f 2, .f 3, .f 4, .f 5, .f 6, .f 7, .f 8, .f 9, .f 10, .f 11, .f 12, .f 13, .f 14, .t 15] (by kernel_rfl) (by kernel_rfl) (by kernel_rfl) (And.intro q12 qu) ?_
        iterate 15 (refine mv_take _ _ rfl (by kernel_rfl) (fun wv hv => by obtain ⟨hv1, hv2⟩ := hv; go_simp; try with_reducible rfl) ?_; simp only [Act.put, List.getElem_toArray, List.getElem_cons_zero, List.getElem_cons_succ, List.setIfInBounds_toArray, List.set_cons_zero, List.set_cons_succ])
        refine mv_act _ rfl (fun K hK => ?_)
        go_simp
        go_simp
        refine hK _ _ (.inl rfl) ?_
        clear hK K
        refine mv_nil ?_
        go_upto_region 3 with fail
        rw [HW5.out]
        clear q12 qu qi qf
        refine wp_region_mv (S := fun w' => w'.cell? ⟨p, 12, none⟩ = some (.slice (some ⟨g, 0, none⟩) n c) ∧ w'.cell? ⟨p, 13, none⟩ = some (.slice (some ⟨gP, 0, none⟩) (V + 1) (V + 1)) ∧ w'.cell? ⟨g, j + 1, none⟩ = some (.int .i64 (u : Nat))) 13 [.f 0, .f 1, .f 2, .f 3, .f 4, .f 5, .f 6, .f 7, .f 8, .f 9, .f 10, .f 11, .f 12, .t 13] (by kernel_rfl) (by kernel_rfl) (by kernel_rfl) (And.intro q512 (And.intro q13 q5u)) ?_
        iterate 13 (refine mv_take _ _ rfl (by kernel_rfl) (fun wv hv => by obtain ⟨hv1, hv2, hv3⟩ := hv; go_simp; try with_reducible rfl) ?_; simp only [Act.put, List.getElem_toArray, List.getElem_cons_zero, List.getElem_cons_succ, List.setIfInBounds_toArray, List.set_cons_zero, List.set_cons_succ])
        refine mv_act _ rfl (fun K hK => ?_)
        go_simp
        go_simp
        refine hK _ _ (.inl rfl) ?_
        clear hK K
        refine mv_nil ?_
        go_wp2_with fail
        exact ⟨HNX.out 1, by simp [intOf]; omega⟩
end
end Go.Proofs.YtaedbnbeelkkcaaDoor.slv
namespace Go.Proofs.YtaedbnbeelkkcaaDoor.slv
open Go.RowKit
section
variable {w : World} {tag : Nat → Tag} {p V : Nat} {y : SLay} {s : SS}
theorem Slv.hpc (h : Slv w tag p V y s) {g n c i v : Nat} (hv : y.vh = .slice (some ⟨g, 0, none⟩) n c) (hi : s.hp[i]? = some v) : w.cell? ⟨g, i, none⟩ = some (.int .i64 (v : Nat)) := by
  obtain ⟨g', c', hvh', ci, _⟩ := h.hpAt hi
  rw [hv] at hvh'
  injection hvh' with e1 _ e3
  injection e1 with e1
  injection e1 with e1
  subst e1
  exact ci
theorem Slv.hpf (h : Slv w tag p V y s) {g n c i v : Nat} (hv : y.vh = .slice (some ⟨g, 0, none⟩) n c) (hi : s.hp[i]? = some v) (j : Nat) : w.frozen? ⟨g, j, none⟩ = false := by
  obtain ⟨g', c', hvh', _, hf⟩ := h.hpAt hi
  rw [hv] at hvh'
  injection hvh' with e1 _ e3
  injection e1 with e1
  injection e1 with e1
  subst e1
  exact hf j
def DnR (w : World) (tag : Nat → Tag) (p V : Nat) (y : SLay) (s' : SS) (v n : Nat) (iv : Value) (wr : World) : Prop :=
  ∃ f i s1, iv = .int .i64 (i : Nat) ∧ downL v f i s1 = some s' ∧ Slv wr tag p V y s1 ∧ Cg tag (Fr 16) w wr ∧ i < n ∧ s1.hp.length = n
theorem kidM_ge {s : SS} {i k : Nat} (h : kidM s i = some k) : 2 * i + 1 ≤ k ∧ k ≤ 2 * i + 2 := by
  unfold kidM at h
  split at h
  · split at h
    · split at h
      · injection h with h; subst h; split <;> omega
      · cases h
    · cases h
  · injection h with h; omega
attribute [local irreducible] wpSeq wpMv
set_option maxRecDepth 100000 in
set_option maxHeartbeats 8000000 in
theorem down_any {s' : SS} (h : Slv w tag p V y s) (hu : downM V s = some s') (_hV : V ≤ 400000) (hh : s.hp.length ≤ 1000000) :
    Calls Tryd.prog 58 #[.pointer (some ⟨p, 0, none⟩), .int .i64 0] w (StY w tag p V y s') := by
  unfold downM at hu
  split at hu
  · cases hu
  rename_i v hiv
  split at hu
  case isFalse => cases hu
  rename_i hvV
  obtain ⟨n, hn⟩ : ∃ n, s.hp.length = n := ⟨_, rfl⟩
  have hin : 0 < n := by have := (List.getElem?_eq_some_iff.1 hiv).1; omega
  obtain ⟨g, c, hvh, ch, _⟩ := h.hpAt hiv
  rw [hn] at hvh hh hu
  obtain ⟨vC, rows, gw, wrows, gv, gl, gr, vt, vL, gs, gp, vh, gP, vP, prows⟩ := y
  dsimp only at hvh
  subst hvh
  have c12 : w.cell? ⟨p, 12, none⟩ = some (.slice (some ⟨g, 0, none⟩) n c) := h.blk.cell 12
  have HST := Lib.hid (show DnR w tag p V ⟨vC, rows, gw, wrows, gv, gl, gr, vt, vL, gs, gp, .slice (some ⟨g, 0, none⟩) n c, gP, vP, prows⟩ s' v n (.int .i64 ((0 : Nat) : Int)) w from ⟨_, 0, s, rfl, hu, h, Chg.refl _ w, hin, hn⟩)
  have hinI : (0 : Int) < (n : Int) := by omega
  clear hu hiv h hn
  go_enter Tryd.func58, Tryd.ntmps58
  go_wp2_with fail
  go_loopw [1, 5] (fun iv _ wr => DnR w tag p V ⟨vC, rows, gw, wrows, gv, gl, gr, vt, vL, gs, gp, .slice (some ⟨g, 0, none⟩) n c, gP, vP, prows⟩ s' v n iv wr) (fun iv _ _ => n - (intOf iv).toNat)
  case atStart => exact HST.out
  case round =>
    clear HST ch c12 hin hinI
    obtain ⟨f, i, s1, e1, hu, hs, ha, hin, hn⟩ := hrel
    subst e1
    have hinI : (i : Int) < (n : Int) := by omega
    have hvV1 : (v : Int) < (V : Int) + 1 := by omega
    obtain ⟨q0, hq0⟩ : ∃ q, s1.pl[v]? = some q := ⟨_, List.getElem?_eq_getElem (by have := hs.pll; omega)⟩
    obtain ⟨t0, ht0⟩ : ∃ q, s1.hp[i]? = some q := ⟨_, List.getElem?_eq_getElem (by omega)⟩
    have c12 : wr.cell? ⟨p, 12, none⟩ = some (.slice (some ⟨g, 0, none⟩) n c) := hs.blk.cell 12
    obtain ⟨k1, hk1⟩ : ∃ k1, 2 * i + 1 = k1 := ⟨_, rfl⟩
    have w1 : IntKind.i64.wrap (2 * (i : Int)) = 2 * (i : Int) := by rw [IntKind.wrap_i64]; omega
    have w2 : IntKind.i64.wrap (2 * (i : Int) + 1) = (k1 : Int) := by rw [IntKind.wrap_i64]; omega
    cases f with
    | zero => cases hu
    | succ f =>
    unfold downL at hu
    rw [hk1, hn] at hu
    by_cases hk1n : k1 < n
    · rw [if_pos hk1n] at hu
      split at hu
      · cases hu
      rename_i kk hkk
      have hge := kidM_ge hkk
      split at hu
      · cases hu
      rename_i u hu1
      split at hu
      case h_2 => cases hu
      rename_i a b ha1 hb1
      have hkkn : kk < n := by have := (List.getElem?_eq_some_iff.1 hu1).1; omega
      have hkkI : (kk : Int) < (n : Int) := by omega
      have huV : u < V + 1 := by have := hs.sl; have := (List.getElem?_eq_some_iff.1 ha1).1; omega
      have huVI : (u : Int) < (V : Int) + 1 := by omega
      have hk1I : (k1 : Int) < (n : Int) := by omega
      have hdk : decide ((k1 : Int) < (n : Int)) = true := decide_eq_true hk1I
      have hdk2 : decide (k1 < n) = true := decide_eq_true hk1n
      obtain ⟨q2, hq2⟩ : ∃ q, fle a b = q := ⟨_, rfl⟩
      rw [hq2] at hu
      have HS := Lib.hid hs
      have HA := Lib.hid ha
      have HN := Lib.hid hn
      have HU := Lib.hid hu
      have HK := Lib.hid hkk
      have HGE := Lib.hid (And.intro hge hk1)
      have HU1 := Lib.hid hu1
      have HAB := Lib.hid (And.intro ha1 (And.intro hb1 hq2))
      have HT0 := Lib.hid ht0
      clear hs ha hn ht0 hu hu1 ha1 hb1 hkk hge hk1 hq2
      go_upto_region 3 with fail
      obtain ⟨qk, hqk⟩ : ∃ qk, decide (kk = k1 + 1) = qk := ⟨_, rfl⟩
      have HQK := Lib.hid hqk
      clear hqk
      go_cut [62] (fun bv wx => bv = .bool qk ∧ ∃ nq, wx = wr.drewN nq)
      case first =>
        have hkk := HK.out
        obtain ⟨k2, hk2⟩ : ∃ k2, k1 + 1 = k2 := ⟨_, rfl⟩
        have w3 : IntKind.i64.wrap ((k1 : Int) + 1) = (k2 : Int) := by rw [IntKind.wrap_i64]; omega
        have e2 : 2 * i + 2 = k2 := by have := HGE.out; omega
        have e1 : 2 * i + 1 = k1 := by have := HGE.out; omega
        unfold kidM at hkk
        rw [e2, e1, HN.out] at hkk
        have HE1 := Lib.hid e1
        have HE2 := Lib.hid hk2
        clear e1 e2 hk2
        by_cases hk2n : k2 < n
        · rw [if_pos hk2n] at hkk
          split at hkk
          case h_2 => cases hkk
          rename_i u1 u0 hu1 hu0
          split at hkk
          case h_2 => cases hkk
          rename_i a1 a0 ha1 ha0
          obtain ⟨q1, hq1⟩ : ∃ q, fgt a1 a0 = q := ⟨_, rfl⟩
          rw [hq1] at hkk
          have hk2I : (k2 : Int) < (n : Int) := by omega
          have hd1 : decide ((k2 : Int) < (n : Int)) = true := decide_eq_true hk2I
          have hd2 : decide (k2 < n) = true := decide_eq_true hk2n
          have hs := HS.out
          have z0 : u0 < V + 1 := by have := hs.sl; have := (List.getElem?_eq_some_iff.1 ha0).1; omega
          have z1 : u1 < V + 1 := by have := hs.sl; have := (List.getElem?_eq_some_iff.1 ha1).1; omega
          have z0I : (u0 : Int) < (V : Int) + 1 := by omega
          have z1I : (u1 : Int) < (V : Int) + 1 := by omega
          have c9 : wr.cell? ⟨p, 9, none⟩ = some (.slice (some ⟨gs, 0, none⟩) (V + 1) (V + 1)) := hs.blk.cell 9
          have y1 := hs.hpc rfl hu1
          have y0 := hs.hpc rfl hu0
          have x1 : wr.cell? ⟨gs, u1, none⟩ = some (.float .f64 a1) := hs.sco.cell (f_at ha1)
          have x0 : wr.cell? ⟨gs, u0, none⟩ = some (.float .f64 a0) := hs.sco.cell (f_at ha0)
          have hqf : (FloatKind.f64.format.order a1 a0 == some Ordering.gt) = q1 := hq1
          injection hkk with hkk
          have hres : q1 = decide (kk = k2) := by
            cases q1
            · rw [if_neg (by simp)] at hkk; exact (decide_eq_false (by have := HE2.out; omega)).symm
            · rw [if_pos rfl] at hkk; exact (decide_eq_true (by omega)).symm
          have HR := Lib.hid hres
          clear hkk hq1 hs hres hu1 hu0 ha1 ha0
          go_quiet (fail)
          go_wp2_with fail
          go_meet
          exact ⟨by rw [← HQK.out, HE2.out, ← HR.out], nq, rfl⟩
        · rw [if_neg hk2n] at hkk
          injection hkk with hkk
          have hd1 : decide ((k2 : Int) < (n : Int)) = false := decide_eq_false (by omega)
          have hd2 : decide (k2 < n) = false := decide_eq_false hk2n
          have HR := Lib.hid (show decide (kk = k2) = false from decide_eq_false (by have := HE2.out; omega))
          clear hkk
          go_quiet (fail)
          go_wp2_with fail
          go_meet
          exact ⟨by rw [← HQK.out, HE2.out, HR.out], nq, rfl⟩
      case rest =>
      obtain ⟨e62, nq, hwc⟩ := hcut
      subst e62
      have HSQ := Lib.hid (show Slv wc tag p V ⟨vC, rows, gw, wrows, gv, gl, gr, vt, vL, gs, gp, .slice (some ⟨g, 0, none⟩) n c, gP, vP, prows⟩ s1 by rw [hwc]; exact HS.out.drewN nq)
      have HAQ := Lib.hid (show Cg tag (Fr 16) w wc by rw [hwc]; exact HA.out.trans (cg_new (below_drewN (Below.refl _ wr) nq)))
      clear hwc HS HA c12
      obtain ⟨wq, hwq⟩ : ∃ wq, wc = wq := ⟨_, rfl⟩
      rw [hwq] at HSQ HAQ ⊢
      clear hwq
      go_upto_if 62 with fail
      go_cut [5] (fun kv wx => kv = .int .i64 (kk : Nat) ∧ wx = wq)
      case first =>
        have w3 : IntKind.i64.wrap ((k1 : Int) + 1) = ((k1 + 1 : Nat) : Int) := by rw [IntKind.wrap_i64]; omega
        cases qk with
        | true =>
          have hk : kk = k1 + 1 := of_decide_eq_true HQK.out
          subst hk
          go_wp2_with fail
          go_meet
          exact ⟨by go_num, rfl⟩
        | false =>
          have HKK := Lib.hid (show kk = k1 by have := HGE.out; have := of_decide_eq_false HQK.out; omega)
          go_wp2_with fail
          go_meet
          exact ⟨by rw [HKK.out], rfl⟩
      case rest =>
      obtain ⟨e5, hwc⟩ := hcut
      subst e5
      rw [hwc]
      clear hwc
      have c9 : wq.cell? ⟨p, 9, none⟩ = some (.slice (some ⟨gs, 0, none⟩) (V + 1) (V + 1)) := HSQ.out.blk.cell 9
      have c12 : wq.cell? ⟨p, 12, none⟩ = some (.slice (some ⟨g, 0, none⟩) n c) := HSQ.out.blk.cell 12
      have yk := HSQ.out.hpc rfl HU1.out
      have xa : wq.cell? ⟨gs, u, none⟩ = some (.float .f64 a) := HSQ.out.sco.cell (f_at HAB.out.1)
      have xb : wq.cell? ⟨gs, v, none⟩ = some (.float .f64 b) := HSQ.out.sco.cell (f_at HAB.out.2.1)
      have hqf : (FloatKind.f64.format.order a b == some Ordering.lt || FloatKind.f64.format.order a b == some Ordering.eq) = q2 := HAB.out.2.2
      go_upto_region 5 with fail
      go_quiet (fail)
      clear hqf xa xb c9 c12 yk
      cases q2 with
      | true =>
        rw [if_pos rfl] at HU
        have hu := HU.out
        injection hu with hu
        subst hu
        have hsq := HSQ.out.drewN nq
        have haq := HAQ.out.trans (cg_new (tag := tag) (S := Fr 16) (below_drewN (Below.refl _ wq) nq))
        obtain ⟨wz, hwz⟩ : ∃ wz, wq.drewN nq = wz := ⟨_, rfl⟩
        rw [hwz] at hsq haq ⊢
        clear hwz
        obtain ⟨h5, a5⟩ := hsq.setHeap (g := g) (c := c) (m := n) rfl HN.out i v
        obtain ⟨W5, hW5⟩ : ∃ W5, wz.setCell ⟨g, i, none⟩ (.int .i64 (v : Nat)) = W5 := ⟨_, rfl⟩
        have hst := stopH_st (i := i) (v := v) hsq haq rfl HN.out
        have q12 : wz.cell? ⟨p, 12, none⟩ = some (.slice (some ⟨g, 0, none⟩) n c) := hsq.blk.cell 12
        have qh := hsq.hpc rfl HT0.out
        have qf := hsq.hpf rfl HT0.out i
        dsimp only at h5 a5 hst
        rw [hW5] at h5 a5 hst
        have q13 : W5.cell? ⟨p, 13, none⟩ = some (.slice (some ⟨gP, 0, none⟩) (V + 1) (V + 1)) := h5.blk.cell 13
        have qp : W5.cell? ⟨gP, v, none⟩ = some (.int .i64 q0) := h5.pla.cell (lit_at hq0)
        have qpf : W5.frozen? ⟨gP, v, none⟩ = false := h5.pla.frozen v
        have HE := Lib.hid (show StY w tag p V ⟨vC, rows, gw, wrows, gv, gl, gr, vt, vL, gs, gp, .slice (some ⟨g, 0, none⟩) n c, gP, vP, prows⟩ (stopH s1 i v) (.returned (.tuple #[])) (W5.setCell ⟨gP, v, none⟩ (.int .i64 (i : Nat))) from ⟨rfl, hst.1, hst.2⟩)
        have HW5 := Lib.hid hW5
        clear hsq haq h5 a5 hst hW5
        go_upto_region 10 with fail
        rw [HW5.out]
        go_wp2_with fail
        go_end0
        exact HE.out
      | false =>
        rw [if_neg (by simp)] at HU
        have hu := HU.out
        have hsq := HSQ.out.drewN nq
        obtain ⟨wz, hwz⟩ : ∃ wz, wq.drewN nq = wz := ⟨_, rfl⟩
        have haq := HAQ.out.trans (cg_new (tag := tag) (S := Fr 16) (below_drewN (Below.refl _ wq) nq))
        rw [hwz] at hsq haq ⊢
        clear hwz
        have q12 : wz.cell? ⟨p, 12, none⟩ = some (.slice (some ⟨g, 0, none⟩) n c) := hsq.blk.cell 12
        have qu := hsq.hpc rfl HU1.out
        have qi := hsq.hpc rfl HT0.out
        have qf := hsq.hpf rfl HT0.out i
        obtain ⟨h4, a4⟩ := hsq.setHeap (g := g) (c := c) (m := n) rfl HN.out i u
        have h5 := h4.drew
        obtain ⟨W5, hW5⟩ : ∃ W5, (wz.setCell ⟨g, i, none⟩ (.int .i64 (u : Nat))).drew = W5 := ⟨_, rfl⟩
        have a5 := (haq.trans a4).trans (cg_new (tag := tag) (S := Fr 16) (below_drewN (Below.refl _ (wz.setCell ⟨g, i, none⟩ (.int .i64 (u : Nat)))) 1))
        change Cg tag (Fr 16) w (wz.setCell ⟨g, i, none⟩ (.int .i64 (u : Nat))).drew at a5
        rw [hW5] at h5 a5
        obtain ⟨h6, a6⟩ := h5.setPla u (i : Nat)
        obtain ⟨qpu, hqpu⟩ : ∃ q, s1.pl[u]? = some q := ⟨_, List.getElem?_eq_getElem (by have := hsq.pll; omega)⟩
        have q13 : W5.cell? ⟨p, 13, none⟩ = some (.slice (some ⟨gP, 0, none⟩) (V + 1) (V + 1)) := h5.blk.cell 13
        have q512 : W5.cell? ⟨p, 12, none⟩ = some (.slice (some ⟨g, 0, none⟩) n c) := h5.blk.cell 12
        have q5u := h5.hpc (i := i) (v := u) rfl (by
          have hlt : i < s1.hp.length := by have := HN.out; omega
          show (s1.hp.set i u)[i]? = some u
          rw [List.getElem?_set_self hlt])
        have qp : W5.cell? ⟨gP, u, none⟩ = some (.int .i64 qpu) := h5.pla.cell (lit_at hqpu)
        have qpf : W5.frozen? ⟨gP, u, none⟩ = false := h5.pla.frozen u
        have HNX := Lib.hid (show ∀ k, DnR w tag p V ⟨vC, rows, gw, wrows, gv, gl, gr, vt, vL, gs, gp, .slice (some ⟨g, 0, none⟩) n c, gP, vP, prows⟩ s' v n (.int .i64 (kk : Nat)) ((W5.setCell ⟨gP, u, none⟩ (.int .i64 (i : Nat))).drewN k) from fun k =>
          ⟨f, kk, stopH s1 i u, rfl, hu, Slv.drewN h6 k, (a5.trans a6).trans (cg_new (below_drewN (Below.refl _ _) k)), hkkn, by unfold stopH; show (s1.hp.set _ _).length = n; rw [List.length_set]; exact HN.out⟩)
        have HW5 := Lib.hid hW5
        clear hu hsq haq h4 a4 h5 a5 h6 a6 hW5 hqpu
        go_upto_region 6 with fail
        refine wp_region_mv (S := fun w' => w'.cell? ⟨p, 12, none⟩ = some (.slice (some ⟨g, 0, none⟩) n c) ∧ w'.cell? ⟨g, kk, none⟩ = some (.int .i64 (u : Nat))) 13 [.f 0, .f 1, .f 2, .f 3, .f 4, .f 5, .f 6, .f 7, .f 8, .f 9, .f 10, .f 11, .f 12, .t 13] (by kernel_rfl) (by kernel_rfl) (by kernel_rfl) (And.intro q12 qu) ?_
        iterate 13 (refine mv_take _ _ rfl (by kernel_rfl) (fun wv hv => by obtain ⟨hv1, hv2⟩ := hv; go_simp; try with_reducible rfl) ?_; simp only [Act.put, List.getElem_toArray, List.getElem_cons_zero, List.getElem_cons_succ, List.setIfInBounds_toArray, List.set_cons_zero, List.set_cons_succ])
        refine mv_act _ rfl (fun K hK => ?_)
        go_simp
        go_simp
        refine hK _ _ (.inl rfl) ?_
        clear hK K
        refine mv_nil ?_
        go_upto_region 7 with fail
        rw [HW5.out]
        clear q12 qu qi qf
        refine wp_region_mv (S := fun w' => w'.cell? ⟨p, 12, none⟩ = some (.slice (some ⟨g, 0, none⟩) n c) ∧ w'.cell? ⟨p, 13, none⟩ = some (.slice (some ⟨gP, 0, none⟩) (V + 1) (V + 1)) ∧ w'.cell? ⟨g, i, none⟩ = some (.int .i64 (u : Nat))) 13 [.f 0, .f 1, .f 2, .f 3, .f 4, .f 5, .f 6, .f 7, .f 8, .f 9, .f 10, .f 11, .f 12, .t 13] (by kernel_rfl) (by kernel_rfl) (by kernel_rfl) (And.intro q512 (And.intro q13 q5u)) ?_
        iterate 13 (refine mv_take _ _ rfl (by kernel_rfl) (fun wv hv => by obtain ⟨hv1, hv2, hv3⟩ := hv; go_simp; try with_reducible rfl) ?_; simp only [Act.put, List.getElem_toArray, List.getElem_cons_zero, List.getElem_cons_succ, List.setIfInBounds_toArray, List.set_cons_zero, List.set_cons_succ])
        refine mv_act _ rfl (fun K hK => ?_)
        go_simp
        go_simp
        refine hK _ _ (.inl rfl) ?_
        clear hK K
        refine mv_nil ?_
        go_wp2_with fail
        exact ⟨HNX.out 1, by have := HGE.out; simp [intOf]; omega⟩
    · rw [if_neg hk1n] at hu
      injection hu with hu
      subst hu
      have hdk : decide ((k1 : Int) < (n : Int)) = false := decide_eq_false (by omega)
      have hdk2 : decide (k1 < n) = false := decide_eq_false hk1n
      have HT0 := Lib.hid ht0
      have HN := Lib.hid hn
      have HS := Lib.hid hs
      have HA := Lib.hid ha
      clear ht0 hn hs ha
      go_upto_region 9 with fail
      have hsq := HS.out
      have haq := HA.out
      obtain ⟨wz, hwz⟩ : ∃ wz, wr = wz := ⟨_, rfl⟩
      rw [hwz] at hsq haq ⊢
      clear hwz
      obtain ⟨h5, a5⟩ := hsq.setHeap (g := g) (c := c) (m := n) rfl HN.out i v
      obtain ⟨W5, hW5⟩ : ∃ W5, wz.setCell ⟨g, i, none⟩ (.int .i64 (v : Nat)) = W5 := ⟨_, rfl⟩
      have hst := stopH_st (i := i) (v := v) hsq haq rfl HN.out
      have q12 : wz.cell? ⟨p, 12, none⟩ = some (.slice (some ⟨g, 0, none⟩) n c) := hsq.blk.cell 12
      have qh := hsq.hpc rfl HT0.out
      have qf := hsq.hpf rfl HT0.out i
      dsimp only at h5 a5 hst
      rw [hW5] at h5 a5 hst
      have q13 : W5.cell? ⟨p, 13, none⟩ = some (.slice (some ⟨gP, 0, none⟩) (V + 1) (V + 1)) := h5.blk.cell 13
      have qp : W5.cell? ⟨gP, v, none⟩ = some (.int .i64 q0) := h5.pla.cell (lit_at hq0)
      have qpf : W5.frozen? ⟨gP, v, none⟩ = false := h5.pla.frozen v
      have HE := Lib.hid (show StY w tag p V ⟨vC, rows, gw, wrows, gv, gl, gr, vt, vL, gs, gp, .slice (some ⟨g, 0, none⟩) n c, gP, vP, prows⟩ (stopH s1 i v) (.returned (.tuple #[])) (W5.setCell ⟨gP, v, none⟩ (.int .i64 (i : Nat))) from ⟨rfl, hst.1, hst.2⟩)
      have HW5 := Lib.hid hW5
      clear hsq haq h5 a5 hst hW5
      go_upto_region 10 with fail
      rw [HW5.out]
      go_wp2_with fail
      go_end0
      exact HE.out
end
end Go.Proofs.YtaedbnbeelkkcaaDoor.slv
