/-
  WALK of (*solver).spread where nothing is watched.
-/
import Derived.Test.YtgchepkcjkhmmaaDoorQg
namespace Go.Proofs.YtgchepkcjkhmmaaDoor.slv
open Go.RowKit
section
variable {w : World} {tag : Nat → Tag} {p V : Nat} {y : SLay} {s : SS}
def S0P (w : World) (tag : Nat → Tag) (p V : Nat) (s : SS) (e : Ending) (w' : World) : Prop :=
  e = .returned (.int .i64 (-1)) ∧ ∃ tag' y', Re w tag tag' ∧ Cg tag (Fr 16) w w' ∧ Slv w' tag' p V y' { s with hd := s.tr.length }
def SpH (w : World) (tag : Nat → Tag) (p V : Nat) (s : SS) (wr : World) : Prop :=
  ∃ (h : Nat) (tag' : Nat → Tag) (y' : SLay), h ≤ s.tr.length ∧ Re w tag tag' ∧ Cg tag (Fr 16) w wr ∧ Slv wr tag' p V y' { s with hd := h }
def hdOf (w : World) (p : Nat) : Nat := match w.cell? ⟨p, 8, none⟩ with
  | some (.int _ k) => k.toNat
  | _ => 0
theorem hdOf_eq {y' : SLay} {h : Nat} {tag' : Nat → Tag} {wr : World} (hs : Slv wr tag' p V y' { s with hd := h }) : hdOf wr p = h := by
  unfold hdOf
  rw [show wr.cell? ⟨p, 8, none⟩ = some (.int .i64 (h : Nat)) from hs.blk.cell 8]
  simp
theorem nil_forms {t : Tag} {base : Nat} {v : Value} {e : TypeId} (h : Row w tag t base e v []) : ∃ A c, v = .slice A 0 c ∧ ((A = none ∧ c = 0) ∨ ∃ g, A = some ⟨g, 0, none⟩) := by
  rcases h.own.2 with ⟨h0, h1⟩ | ⟨g, cap, cur, hv, _⟩
  · exact ⟨none, 0, h0, .inl ⟨rfl, rfl⟩⟩
  · exact ⟨_, _, hv, .inr ⟨g, rfl⟩⟩
attribute [local irreducible] wpSeq wpMv
set_option maxRecDepth 100000 in
set_option maxHeartbeats 4000000 in
theorem spread0 (h : Slv w tag p V y s) (hhd : s.hd ≤ s.tr.length) (hwt : ∀ i, s.wt i = []) (hL : ∀ x ∈ s.tr, Lit V x) (htl : s.tr.length ≤ V) (hV : V ≤ 400000) : Calls Tryd.prog 23 #[.pointer (some ⟨p, 0, none⟩)] w (S0P w tag p V s) := by
  have H0 := Lib.hid (show SpH w tag p V s w from ⟨s.hd, tag, y, hhd, Re.refl _ _, cg_new (Below.refl _ _), h⟩)
  have HL := Lib.hid hL
  have HTL := Lib.hid htl
  have HWT := Lib.hid hwt
  clear h hhd hwt hL htl
  go_enter Tryd.func23, Tryd.ntmps23
  go_wp2_with fail
  go_loopw [2] (fun _ wr => SpH w tag p V s wr) (fun _ wr => s.tr.length - hdOf wr p)
  case atStart => exact H0.out
  case round =>
    clear H0
    obtain ⟨hd, tag1, y1, hle, hre, hcg, hs⟩ := hrel
    obtain ⟨vC, rows, gw, wrows, gv, gl, gr, vt, vL, gs, gp, vh, gP, vP, prows⟩ := y1
    obtain ⟨A, c, hvt⟩ := hs.trl.form
    rw [litVals_len] at hvt
    dsimp only at hvt
    subst hvt
    have HM := Lib.hid (hdOf_eq hs)
    have c8 : wr.cell? ⟨p, 8, none⟩ = some (.int .i64 (hd : Nat)) := hs.blk.cell 8
    have c6 : wr.cell? ⟨p, 6, none⟩ = some (.slice A s.tr.length c) := hs.blk.cell 6
    by_cases hlt : hd < s.tr.length
    · obtain ⟨x, hx⟩ : ∃ x, s.tr[hd]? = some x := ⟨_, List.getElem?_eq_getElem hlt⟩
      have hLx := HL.out x (List.mem_of_getElem? hx)
      obtain ⟨g, c', hv', _, hcel⟩ := hs.trl.at_ (by rw [litVals_len]; show 0 < s.tr.length; omega)
      dsimp only at hv'
      simp only [Value.slice.injEq] at hv'
      obtain ⟨rfl, -, rfl⟩ := hv'
      have ct : wr.cell? ⟨g, hd, none⟩ = some (.int .i64 x) := hcel.cell (lit_at hx)
      have f8 : wr.frozen? ⟨p, 8, none⟩ = false := hs.blk.frozen 8
      have l8 : p < wr.heap.size := hs.blk.lt
      have hI : (hd : Int) < (s.tr.length : Int) := by omega
      have w2 : IntKind.i64.wrap ((hd : Int) + 1) = (hd : Int) + 1 := by have := HTL.out; rw [IntKind.wrap_i64]; omega
      obtain ⟨n, hn⟩ : ∃ n : Int, -x = n := ⟨_, rfl⟩
      have w1 : IntKind.i64.wrap (-x) = n := by have := hLx.2; rw [IntKind.wrap_i64]; omega
      have hnV : n.natAbs ≤ V := by have := hLx.2; omega
      have CI := Lib.hid (fun wx => index_any (w := wx) (n := n) (by omega))
      have hixV : ix n < 2 * V + 2 := by unfold ix; split <;> omega
      obtain ⟨iz, hiz⟩ : ∃ iz, ix n = iz := ⟨_, rfl⟩
      rw [hiz] at CI hixV
      have HS := Lib.hid hs
      have HCG := Lib.hid hcg
      have HRE := Lib.hid hre
      have HLT := Lib.hid hlt
      have HN := Lib.hid hn
      clear hs hcg hre hle hlt hLx hx hcel hn hiz
      go_wp2_with fail
      go_quiet (fail)
      rename Nat => nq1
      go_upto_region 2 with fail
      go_quiet (fail)
      rename Nat => nq2
      go_upto_region 4 with fail
      obtain ⟨h1, a1⟩ := (HS.out.drewN (nq1 + nq2)).setHd (hd + 1)
      rw [show (((hd + 1 : Nat)) : Int) = (hd : Int) + 1 from by omega] at h1 a1
      obtain ⟨W1, hW1⟩ : ∃ W1, W1 = (wr.drewN (nq1 + nq2)).setCell ⟨p, 8, none⟩ (.int .i64 ((hd : Int) + 1)) := ⟨_, rfl⟩
      rw [← hW1] at h1 a1
      rw [← hW1]
      have A1 := Lib.hid (HCG.out.trans_ ((cg_new (tag := tag1) (S := Fr 16) (below_drewN (Below.refl _ wr) (nq1 + nq2))).trans a1) HRE.out)
      clear hW1 a1 c8 c6 ct f8 l8
      dsimp only at h1
      obtain ⟨u, hu⟩ : ∃ u, wrows[iz]? = some u := ⟨_, List.getElem?_eq_getElem (by have := h1.wlen; dsimp only at this; omega)⟩
      have cw : W1.cell? ⟨p, 2, none⟩ = some (.slice (some ⟨gw, 0, none⟩) (2 * V + 2) (2 * V + 2)) := h1.blk.cell 2
      have cu : W1.cell? ⟨gw, iz, none⟩ = some u := h1.whd.cell hu
      have fu : W1.frozen? ⟨gw, iz, none⟩ = false := h1.whd.frozen iz
      have hr := h1.wts iz u hu
      dsimp only at hr
      rw [HWT.out iz] at hr
      obtain ⟨Au, cpu, rfl, hA⟩ := nil_forms hr
      have H1 := Lib.hid h1
      have HU := Lib.hid hu
      have hizI : (iz : Int) < 2 * (V : Int) + 2 := by omega
      clear h1 hr hu
      go_wp2_with fail
      go_quiet ((go_at_call 46; with_reducible exact quiet_left (CI.out _)))
      rename Nat => nq3
      have hw0 : IntKind.i64.wrap 0 = 0 := by rw [IntKind.wrap_i64]; omega
      go_upto_region 6 with fail
      go_wp2_with fail
      go_loopw [5, 50] (fun v5 kv wx => v5 = .slice Au 0 cpu ∧ kv = .int .i64 0 ∧ wx = W1.drewN nq3) (fun _ _ _ => 0)
      case atStart => exact ⟨rfl, rfl, rfl⟩
      case round =>
        obtain ⟨e0, e1, e2⟩ := hrel
        subst e0
        subst e1
        subst e2
        go_upto_region 27 with fail
        refine wp_region_mv (S := fun w' => w'.cell? ⟨p, 2, none⟩ = some (.slice (some ⟨gw, 0, none⟩) (2 * V + 2) (2 * V + 2))) 8 [.f 0, .f 1, .f 2, .f 3, .f 4, .f 5, .f 6, .f 7, .t 8] (by kernel_rfl) (by kernel_rfl) (by kernel_rfl) cw ?_
        iterate 5 (refine mv_take _ _ rfl (by kernel_rfl) (fun wv hv => by have hv1 := hv; clear hv; go_simp; try with_reducible rfl) ?_; simp only [Act.put, List.getElem_toArray, List.getElem_cons_zero, List.getElem_cons_succ, List.setIfInBounds_toArray, List.set_cons_zero, List.set_cons_succ])
        refine mv_quiet _ _ _ _ rfl (by kernel_rfl) (fun wv hv => by go_simp; try with_reducible rfl) (fun wv hv => CI.out _) ?_
        simp only [Act.put, List.getElem_toArray, List.getElem_cons_zero, List.getElem_cons_succ, List.setIfInBounds_toArray, List.set_cons_zero, List.set_cons_succ]
        iterate 2 (refine mv_take _ _ rfl (by kernel_rfl) (fun wv hv => by have hv1 := hv; clear hv; go_simp; try with_reducible rfl) ?_; simp only [Act.put, List.getElem_toArray, List.getElem_cons_zero, List.getElem_cons_succ, List.setIfInBounds_toArray, List.set_cons_zero, List.set_cons_succ])
        refine mv_act _ rfl (fun K hK => ?_)
        go_simp
        go_simp
        refine hK _ _ (.inl rfl) ?_
        clear hK K
        refine mv_nil ?_
        have hr2 := (H1.out.drewN (nq3 + 1)).setW (l := []) iz (v := .slice Au 0 cpu) (by
          have h2 := (H1.out.drewN (nq3 + 1)).wts iz _ HU.out
          dsimp only at h2
          rw [HWT.out iz] at h2
          exact h2)
        obtain ⟨h2, a2⟩ := hr2
        have e : (fun j => if j = iz then [] else s.wt j) = s.wt := by funext j; rw [HWT.out j]; split <;> rfl
        dsimp only at h2 a2
        rw [e] at h2
        have A2 := A1.out.trans_ ((cg_new (tag := tag1) (S := Fr 16) (below_drewN (Below.refl _ W1) (nq3 + 1))).trans a2) HRE.out
        have HN := Lib.hid (show SpH w tag p V s ((W1.drewN (nq3 + 1)).setCell ⟨gw, iz, none⟩ (.slice Au 0 cpu)) from ⟨hd + 1, tag1, _, HLT.out, HRE.out, A2, h2⟩)
        have HN2 := Lib.hid (show s.tr.length - hdOf ((W1.drewN (nq3 + 1)).setCell ⟨gw, iz, none⟩ (.slice Au 0 cpu)) p < s.tr.length - hdOf wr p from by
          rw [hdOf_eq h2, HM.out]
          have := HLT.out
          omega)
        clear a2 e A2 h2
        go_wp2_with fail
        go_roundw
        case rel => exact HN.out
        case measure => exact HN2.out
    · obtain rfl : hd = s.tr.length := by omega
      have HS := Lib.hid hs
      have HCG := Lib.hid hcg
      have HRE := Lib.hid hre
      clear hs hcg hre hle hlt
      go_wp2_with fail
      go_quiet (fail)
      go_wp2_with fail
      go_ret
      exact ⟨rfl, tag1, _, HRE.out, HCG.out.trans (cg_new (below_drewN (Below.refl _ _) _)), HS.out.drewN _⟩
end
end Go.Proofs.YtgchepkcjkhmmaaDoor.slv
