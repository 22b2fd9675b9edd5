/-
  WALK of (*solver).attach, and where the clause's row lies behind it.
-/
import Derived.Test.YtaedbnbeelkkcaaDoorNm
namespace Go.Proofs.YtaedbnbeelkkcaaDoor.slv
open Go.RowKit
section
variable {w : World} {tag : Nat → Tag} {p V : Nat} {y : SLay} {s : SS}
def AtP2 (w : World) (tag : Nat → Tag) (p V : Nat) (s : SS) (k : Nat) (cv : Value) (e : Ending) (w' : World) : Prop :=
  e = .returned (.int .i64 (k : Nat)) ∧ ∃ tag' y', Re w tag tag' ∧ Cg tag (Fr 16) w w' ∧ Slv w' tag' p V y' s ∧ y'.rows[k]? = some cv
attribute [local irreducible] wpSeq wpMv
set_option maxRecDepth 100000 in
set_option maxHeartbeats 8000000 in
theorem attach_any2 {s' : SS} {c : List Int} {g n cc : Nat} (h : Slv w tag p V y s) (hu : attachM V s c = some s') (hV : V ≤ 400000) (hn : c.length = n)
    (hrow : Row w tag (3, (s.xs.length : Int)) 0 3 (.slice (some ⟨g, 0, none⟩) n cc) (litVals c)) :
    Calls Tryd.prog 35 #[.pointer (some ⟨p, 0, none⟩), .slice (some ⟨g, 0, none⟩) n cc] w (AtP2 w tag p V s' s.xs.length (.slice (some ⟨g, 0, none⟩) n cc)) := by
  obtain ⟨hc2, hs', hxl, hats⟩ := attachM_eq hu
  subst hs'
  obtain ⟨i1, hi1, hz0, hz1, hz2⟩ := info_parts info_ints
  have HI1 := Lib.hid (And.intro hi1 (And.intro hz0 (And.intro hz1 hz2)))
  clear hi1 hz0 hz1 hz2
  obtain ⟨i0, hi0, hz0, hz1, hz2⟩ := info_parts info_int
  have HI := Lib.hid (And.intro hi0 (And.intro hz0 (And.intro hz1 hz2)))
  clear hi0 hz0 hz1 hz2
  obtain ⟨k, hk⟩ : ∃ k, s.xs.length = k := ⟨_, rfl⟩
  obtain ⟨vC, rows, gw, wrows, gv, gl, gr, vt, vL, gs, gp, vh, gP, vP, prows⟩ := y
  obtain ⟨AC, cC, hvC⟩ := h.hdr.form
  have hrl : rows.length = k := by rw [← hk]; exact h.rlen
  rw [hrl] at hvC
  dsimp only at hvC
  subst hvC
  have c1 : w.cell? ⟨p, 1, none⟩ = some (.slice AC k cC) := h.blk.cell 1
  have HHD := Lib.hid (show (w.alloc (.cells #[.slice (some ⟨g, 0, none⟩) n cc] 25)).ownsRow 0 25 1 (.slice AC k cC) k rows from by
    have := (h.hdr.alloc (.cells #[.slice (some ⟨g, 0, none⟩) n cc] 25)).own
    rw [hrl] at this; exact this)
  have HH := Lib.hid (h.alloc (.cells #[.slice (some ⟨g, 0, none⟩) n cc] 25))
  have HROW := Lib.hid (hrow.alloc (.cells #[.slice (some ⟨g, 0, none⟩) n cc] 25))
  have HK := Lib.hid hk
  have HN := Lib.hid hn
  have HATS := Lib.hid hats
  have HC2 := Lib.hid hc2
  have hk4 : k < 4000000 := by omega
  have hn2 : 2 ≤ n := by omega
  have hccn : n ≤ cc := by
    rcases hrow.own.2 with ⟨h0, h1⟩ | ⟨g', c', cur, hv', _, _, hle, _⟩
    · rw [litVals_len] at h1; omega
    · rw [litVals_len] at hle; injection hv' with _ _ e3; omega
  have hcc2 : 2 ≤ cc := by omega
  have hcc2i : (2 : Int) ≤ (cc : Int) := by omega
  clear h hu hrow hk hn hats hc2 hrl hxl
  go_enter Tryd.func35, Tryd.ntmps35
  go_upto_region 2 with fail
  go_wp2_with (first | (at_builtin; refine wpList_append_loc _ rfl (.tmp 17) (.tmp 19) _ rfl 0 25 i1 _ 1 24 Tryd.underlying64 HI1.out.1 HI1.out.2.1 HI1.out.2.2.1 HI1.out.2.2.2 rfl (by omega) (.slice AC k cC) k rows rfl HHD.out (w.heap.size + 1) (some ⟨w.heap.size, 0, none⟩) 1 1 [.slice (some ⟨g, 0, none⟩) n cc] rfl (reads_new (by simp) (by simp) rfl) (by intro u hu; rw [List.mem_singleton.1 hu]; rfl) (le_maxLen4 (by omega)) (le_bytes4 (by omega) (by omega)) (by simp) ?_; intro A2 c2 w2 hown2 hg2 hl2; have hb2 := HH.out.blk.grown hg2 (own_blk_ne HHD.out HH.out.blk (by decide)).symm; have c21 : w2.cell? ⟨p, 1, none⟩ = some (.slice AC k cC) := hb2.cell 1; have f21 : w2.frozen? ⟨p, 1, none⟩ = false := hb2.frozen 1; have l21 := hb2.lt; have HOWN2 := Lib.hid hown2; have HG2 := Lib.hid hg2; have HL2 := Lib.hid hl2; clear hown2 hg2 hl2 hb2) | fail)
  obtain ⟨tag3, hr3, hc3, h3⟩ := HH.out.attachX (x := c) (u := .slice (some ⟨g, 0, none⟩) n cc) HROW.out HOWN2.out (by rw [HK.out]) HG2.out HL2.out
  obtain ⟨w3, hw3⟩ : ∃ w3, w2.setCell ⟨p, 1, none⟩ (.slice A2 (k + 1) c2) = w3 := ⟨_, rfl⟩
  have HST := Lib.hid (show AtR w tag p V s c (.slice (some ⟨g, 0, none⟩) n cc) (.int .i64 ((0 : Nat) : Int)) (w2.setCell ⟨p, 1, none⟩ (.slice A2 (k + 1) c2)) from
    ⟨0, tag3, _, rfl, by omega, fun b hb => hr3 b (by simp; omega), (cg_new ((Below.refl _ w).alloc (Nat.le_refl _) _)).trans hc3, h3, by
      show (rows ++ [_])[s.xs.length]? = _
      rw [List.getElem?_append_right (by have h9 := HH.out.rlen; dsimp only at h9; omega)]
      have e : s.xs.length - rows.length = 0 := by have h9 := HH.out.rlen; dsimp only at h9; omega
      rw [e]; rfl⟩)
  rw [hw3] at HST ⊢
  clear hr3 hc3 h3 hw3 HOWN2 HG2 HL2 HHD HH HROW c1 c21 f21 l21
  go_loopw [26, 7] (fun iv _ wr => AtR w tag p V s c (.slice (some ⟨g, 0, none⟩) n cc) iv wr) (fun iv _ _ => 2 - (intOf iv).toNat)
  case atStart => exact HST.out
  case round =>
    clear HST
    obtain ⟨i, tag4, y4, e1, hi, hr4, hc4, h4, hy4⟩ := hrel
    subst e1
    by_cases hi2 : i < 2
    · obtain ⟨m, hm⟩ : ∃ m, c[i]? = some m := ⟨_, List.getElem?_eq_getElem (by have := HC2.out; omega)⟩
      obtain ⟨hmV, hwl⟩ := HATS.out i m hi2 hm
      have hxk : (atS s c i).xs[s.xs.length]? = some c := by
        show (s.xs ++ [c])[s.xs.length]? = some c
        rw [List.getElem?_append_right (Nat.le_refl _), Nat.sub_self]; rfl
      have hcr := h4.cls _ _ _ hxk hy4
      have cm : wr.cell? ⟨g, i, none⟩ = some (.int .i64 m) := by
        obtain ⟨g', c', hvh', _, hcel⟩ := hcr.at_ (by rw [litVals_len]; have := HC2.out; omega)
        injection hvh' with e1 _ e3
        injection e1 with e1
        injection e1 with e1
        subst e1
        exact hcel.cell (lit_at hm)
      obtain ⟨im, him⟩ : ∃ im, ix m = im := ⟨_, rfl⟩
      have himV : im < 2 * V + 2 := by rw [← him]; unfold ix; split <;> omega
      have himI : (im : Int) < 2 * (V : Int) + 2 := by omega
      obtain ⟨vC4, rows4, gw4, wrows4, gv4, gl4, gr4, vt4, vL4, gs4, gp4, vh4, gP4, vP4, prows4⟩ := y4
      obtain ⟨u, hu⟩ : ∃ u, wrows4[im]? = some u := ⟨_, List.getElem?_eq_getElem (by have := h4.wlen; dsimp only at this; omega)⟩
      obtain ⟨lw, hlw⟩ : ∃ lw, atW s.xs.length s.wt (c.take i) im = lw := ⟨_, rfl⟩
      have hrw : Row wr tag4 (5, (im : Int)) 0 3 u (kVals lw) := by
        have := h4.wts im u hu
        have e : (atS s c i).wt im = lw := hlw
        rw [e] at this; exact this
      rw [him, hlw] at hwl
      obtain ⟨Au, cu, hvu⟩ := hrw.form
      rw [kVals_len] at hvu
      subst hvu
      have c2p : wr.cell? ⟨p, 2, none⟩ = some (.slice (some ⟨gw4, 0, none⟩) (2 * V + 2) (2 * V + 2)) := h4.blk.cell 2
      have cgw : wr.cell? ⟨gw4, im, none⟩ = some (.slice Au lw.length cu) := h4.whd.cell hu
      have hiI : (i : Int) < 2 := by omega
      have hi0 : (0 : Int) ≤ (i : Int) := by omega
      have CI := Lib.hid (fun (w' : World) => index_any (w := w') (n := m) (by omega))
      rw [him] at CI
      have hin : (i : Int) < (n : Int) := by omega
      have H4 := Lib.hid h4
      have HR4 := Lib.hid hr4
      have HC4 := Lib.hid hc4
      have HY4 := Lib.hid hy4
      have HM := Lib.hid hm
      have HIM := Lib.hid him
      have HRW := Lib.hid hrw
      have HLW := Lib.hid hlw
      have HU4 := Lib.hid hu
      clear h4 hr4 hc4 hy4 hm him hrw hlw hu hcr hxk
      go_upto_region 6 with fail
      refine wp_region_mv (S := fun w' => w'.cell? ⟨p, 2, none⟩ = some (.slice (some ⟨gw4, 0, none⟩) (2 * V + 2) (2 * V + 2)) ∧ w'.cell? ⟨gw4, im, none⟩ = some (.slice Au lw.length cu)) 18 [.f 0, .f 1, .f 2, .f 3, .f 4, .f 5, .f 6, .f 7, .f 8, .f 9, .f 10, .f 11, .f 12, .f 13, .f 14, .t 15, .t 16, .f 17, .t 18] (by kernel_rfl) (by kernel_rfl) (by kernel_rfl) (And.intro c2p cgw) ?_
      iterate 5 (refine mv_take _ _ rfl (by kernel_rfl) (fun wv hv => by obtain ⟨hv1, hv2⟩ := hv; go_simp; try with_reducible rfl) ?_; simp only [Act.put, List.getElem_toArray, List.getElem_cons_zero, List.getElem_cons_succ, List.setIfInBounds_toArray, List.set_cons_zero, List.set_cons_succ])
      refine mv_quiet _ _ _ _ rfl (by kernel_rfl) (fun wv hv => by go_simp; try with_reducible rfl) (fun wv hv => CI.out _) ?_
      simp only [Act.put, List.getElem_toArray, List.getElem_cons_zero, List.getElem_cons_succ, List.setIfInBounds_toArray, List.set_cons_zero, List.set_cons_succ]
      iterate 5 (refine mv_take _ _ rfl (by kernel_rfl) (fun wv hv => by obtain ⟨hv1, hv2⟩ := hv; go_simp; try with_reducible rfl) ?_; simp only [Act.put, List.getElem_toArray, List.getElem_cons_zero, List.getElem_cons_succ, List.setIfInBounds_toArray, List.set_cons_zero, List.set_cons_succ])
      refine mv_quiet _ _ _ _ rfl (by kernel_rfl) (fun wv hv => by go_simp; try with_reducible rfl) (fun wv hv => CI.out _) ?_
      simp only [Act.put, List.getElem_toArray, List.getElem_cons_zero, List.getElem_cons_succ, List.setIfInBounds_toArray, List.set_cons_zero, List.set_cons_succ]
      iterate 3 (refine mv_take _ _ rfl (by kernel_rfl) (fun wv hv => by obtain ⟨hv1, hv2⟩ := hv; go_simp; try with_reducible rfl) ?_; simp only [Act.put, List.getElem_toArray, List.getElem_cons_zero, List.getElem_cons_succ, List.setIfInBounds_toArray, List.set_cons_zero, List.set_cons_succ])
      refine mv_act _ rfl (fun K hK => ?_)
      go_simp
      go_simp
      refine hK _ _ (.inr ((And.intro ((H4.out.drew.alloc (.cells #[.int .i64 (k : Nat)] 3)).blk.cell 2) ((H4.out.drew.alloc (.cells #[.int .i64 (k : Nat)] 3)).whd.cell HU4.out)))) ?_
      clear hK K
      refine mv_act _ rfl (fun K hK => ?_)
      have HO4 := Lib.hid (show (wr.drew.alloc (.cells #[.int .i64 (k : Nat)] 3)).ownsRow 0 3 1 (.slice Au lw.length cu) lw.length (kVals lw) from by
        have := (HRW.out.chg (S := fun _ => False) (cg_new (below_drewN (Below.refl _ wr) 1)) id).alloc (.cells #[.int .i64 (k : Nat)] 3)
        have h9 := this.own
        rw [kVals_len] at h9; exact h9)
      refine step_append_loc _ rfl (.tmp 43) (.tmp 45) _ rfl 0 3 i0 _ 1 8 Tryd.underlying25 HI.out.1 HI.out.2.1 HI.out.2.2.1 HI.out.2.2.2 rfl (by omega) (.slice Au lw.length cu) lw.length (kVals lw) rfl HO4.out (wr.heap.size + 1) (some ⟨wr.heap.size, 0, none⟩) 1 1 [.int .i64 (k : Nat)] rfl (reads_new (by simp) (by simp) rfl) (by intro u hu; rw [List.mem_singleton.1 hu]; rfl) (le_maxLen4 (by omega)) (le_bytes4 (by omega) (by omega)) (by simp) ?_
      intro A6 c6 w6 hown6 hg6 hl6
      rw [k_snoc] at hown6
      have h40 := (H4.out.alloc (.cells #[.int .i64 (k : Nat)] 3)).drew
      obtain ⟨tag6, hr6, hc6, hk6⟩ := h40.pushW HU4.out hown6 (by rw [List.length_append]; rfl) hg6 hl6
      have hb6 := h40.blk.grown hg6 (own_blk_ne HO4.out h40.blk (by decide)).symm
      have hrw6 := (HRW.out.alloc (.cells #[.int .i64 (k : Nat)] 3)).chg (S := fun _ => False) (cg_new (below_drewN (Below.refl _ (wr.alloc (.cells #[.int .i64 (k : Nat)] 3))) 1)) id
      have hw6 := h40.whd.chg (cg_grown (tag := tag4) (S := fun s => s = (5, (im : Int))) hg6 (fun g' hg' => hrw6.tg g' hg')) (by simp)
      have c62 : w6.cell? ⟨p, 2, none⟩ = some (.slice (some ⟨gw4, 0, none⟩) (2 * V + 2) (2 * V + 2)) := hb6.cell 2
      have c6w : w6.cell? ⟨gw4, im, none⟩ = some (.slice Au lw.length cu) := hw6.cell HU4.out
      have f6w : w6.frozen? ⟨gw4, im, none⟩ = false := hw6.frozen im
      have l6w : gw4 < w6.heap.size := hw6.lt
      have HNX := Lib.hid (show AtR w tag p V s c (.slice (some ⟨g, 0, none⟩) n cc) (.int .i64 ((i + 1 : Nat) : Int)) (w6.setCell ⟨gw4, im, none⟩ (.slice A6 (lw.length + 1) c6)) from
        ⟨i + 1, tag6, ⟨vC4, rows4, gw4, wrows4.set im (.slice A6 (lw.length + 1) c6), gv4, gl4, gr4, vt4, vL4, gs4, gp4, vh4, gP4, vP4, prows4⟩, rfl, by omega, fun b hb => (hr6 b (by have := HC4.out.size; simp; omega)).trans (HR4.out b hb),
          HC4.out.trans_ (((cg_new (tag := tag4) (S := Fr 16) ((Below.refl _ wr).alloc (Nat.le_refl _) (.cells #[.int .i64 (k : Nat)] 3))).trans (cg_new (below_drewN (Below.refl _ (wr.alloc (.cells #[.int .i64 (k : Nat)] 3))) 1))).trans hc6) HR4.out, by
          have e : atS s c (i + 1) = { atS s c i with wt := fun j => if j = im then lw ++ [k] else (atS s c i).wt j } := by
            have e0 : c.take (i + 1) = c.take i ++ [m] := by rw [List.take_add_one, HM.out]; rfl
            unfold atS
            rw [e0, atW_snoc, HIM.out, HLW.out, HK.out]; rfl
          rw [e]; exact hk6, HY4.out⟩)
      clear hown6 hg6 hl6 h40 hr6 hc6 hk6 hb6 hrw6 hw6
      refine hK _ _ (.inr ((And.intro c62 c6w))) ?_
      clear hK K
      try simp only [Act.put, List.getElem_toArray, List.getElem_cons_zero, List.getElem_cons_succ, List.setIfInBounds_toArray, List.set_cons_zero, List.set_cons_succ]
      iterate 1 (refine mv_take _ _ rfl (by kernel_rfl) (fun wv hv => by obtain ⟨hv1, hv2⟩ := hv; go_simp; try with_reducible rfl) ?_; simp only [Act.put, List.getElem_toArray, List.getElem_cons_zero, List.getElem_cons_succ, List.setIfInBounds_toArray, List.set_cons_zero, List.set_cons_succ])
      refine mv_act _ rfl (fun K hK => ?_)
      go_simp
      go_simp
      refine hK _ _ (.inl rfl) ?_
      clear hK K
      refine mv_nil ?_
      go_wp2_with fail
      go_roundw
      case rel => exact HNX.out
      case measure => simp [intOf]; omega
    · obtain rfl : i = 2 := by omega
      go_wp2_with fail
      go_ret
      exact ⟨by rw [HK.out]; rfl, tag4, y4, hr4, hc4, h4, by have := hy4; exact this⟩
end
end Go.Proofs.YtaedbnbeelkkcaaDoor.slv
