/-
  WALK of (*solver).back.
-/
import Derived.Test.YtaedbnbeelkkcaaDoorNm
namespace Go.Proofs.YtaedbnbeelkkcaaDoor.slv
open Go.RowKit
section
variable {w : World} {tag : Nat → Tag} {p V : Nat} {y : SLay} {s : SS}
/-- on the way back: some numbers are left -/
def BkR (w : World) (tag : Nat → Tag) (p V : Nat) (y : SLay) (s : SS) (suf : List Int) (sF : SS) (iv : Value) (wr : World) : Prop :=
  ∃ i s1 tag1 y1, iv = .int .i64 (i : Nat) ∧ i ≤ suf.length ∧ backL V (suf.drop i) s1 = some sF ∧ Slv wr tag1 p V y1 s1 ∧ y1.vt = y.vt ∧ y1.vL = y.vL ∧ Re w tag tag1 ∧ Cg tag (Fr 16) w wr ∧ s1.tr = s.tr ∧ s1.lm = s.lm
theorem upL_keeps {v : Nat} : ∀ {f i : Nat} {s s' : SS}, upL v f i s = some s' → s'.tr = s.tr ∧ s'.lm = s.lm
  | 0, _, _, _, h => by cases h
  | f + 1, i, s, s', h => by
    unfold upL at h
    split at h
    · injection h with h; subst h; exact ⟨rfl, rfl⟩
    · split at h
      · cases h
      · split at h
        · split at h
          · have := upL_keeps h
            exact this
          · injection h with h; subst h; exact ⟨rfl, rfl⟩
        · cases h
theorem upM_keeps {V i : Nat} {s s' : SS} (h : upM V s i = some s') : s'.tr = s.tr ∧ s'.lm = s.lm := by
  unfold upM at h
  split at h
  · cases h
  · split at h
    · exact upL_keeps h
    · cases h
attribute [local irreducible] wpSeq wpMv
set_option maxRecDepth 100000 in
set_option maxHeartbeats 8000000 in
theorem back_any {s' : SS} {lev : Nat} (h : Slv w tag p V y s) (hu : backM V s lev = some s') (hV : V ≤ 400000) (hlev : lev ≤ 1000000) (htb : s.tr.length ≤ 1000000) :
    Calls Tryd.prog 18 #[.pointer (some ⟨p, 0, none⟩), .int .i64 (lev : Nat)] w (StS w tag p V s') := by
  obtain ⟨i0, hi0, hz0, hz1, hz2⟩ := info_parts info_int
  have HI := Lib.hid (And.intro hi0 (And.intro hz0 (And.intro hz1 hz2)))
  clear hi0 hz0 hz1 hz2
  obtain ⟨nl, hnl⟩ : ∃ nl, s.lm.length = nl := ⟨_, rfl⟩
  obtain ⟨nt, hnt⟩ : ∃ nt, s.tr.length = nt := ⟨_, rfl⟩
  rw [hnt] at htb
  obtain ⟨vC, rows, gw, wrows, gv, gl, gr, vt, vL, gs, gp, vh, gP, vP, prows⟩ := y
  obtain ⟨AL, cL, hvL⟩ := h.lim.form
  rw [kVals_len, hnl] at hvL
  dsimp only at hvL
  subst hvL
  have c7 : w.cell? ⟨p, 7, none⟩ = some (.slice AL nl cL) := h.blk.cell 7
  unfold backM at hu
  rw [hnl, hnt] at hu
  by_cases hle : nl ≤ lev
  · rw [if_pos hle] at hu
    injection hu with hu
    subst hu
    have hd : decide ((nl : Int) ≤ (lev : Int)) = true := decide_eq_true (by omega)
    have hd2 : decide (nl ≤ lev) = true := decide_eq_true hle
    have HE := Lib.hid (show StS w tag p V s (.returned (.tuple #[])) w from ⟨rfl, tag, _, Re.refl _ _, Chg.refl _ w, h⟩)
    clear h hle
    go_enter Tryd.func18, Tryd.ntmps18
    go_wp2_with fail
    go_end0
    exact HE.out
  · rw [if_neg hle] at hu
    split at hu
    · cases hu
    rename_i m hm
    split at hu
    case isFalse => cases hu
    rename_i hmt
    split at hu
    · cases hu
    rename_i sF hbl
    injection hu with hu
    subst hu
    have hd : decide ((nl : Int) ≤ (lev : Int)) = false := decide_eq_false (by omega)
    have hd2 : decide (nl ≤ lev) = false := decide_eq_false hle
    obtain ⟨gL, cL', hvL', _, hcelL⟩ := h.lim.at_ (by rw [kVals_len, hnl]; omega)
    rw [kVals_len, hnl] at hvL'
    dsimp only at hvL'
    injection hvL' with e1 _ e3
    subst e1
    subst e3
    have cm : w.cell? ⟨gL, lev, none⟩ = some (.int .i64 (m : Nat)) := hcelL.cell (k_at hm)
    obtain ⟨gt, ct, hvt, _, hcelt⟩ := h.trl.at_ (by rw [litVals_len, hnt]; omega)
    rw [litVals_len, hnt] at hvt
    dsimp only at hvt
    subst hvt
    have c6 : w.cell? ⟨p, 6, none⟩ = some (.slice (some ⟨gt, 0, none⟩) nt ct) := h.blk.cell 6
    have hct : nt ≤ ct := by
      rcases h.trl.own.2 with ⟨h0, h1⟩ | ⟨g', c', cur, hv', _, _, hle, _⟩
      · cases h0
      · rw [litVals_len, hnt] at hle; injection hv' with _ _ e3; omega
    have hcL : nl ≤ cL := by
      rcases h.lim.own.2 with ⟨h0, h1⟩ | ⟨g', c', cur, hv', _, _, hle, _⟩
      · cases h0
      · rw [kVals_len, hnl] at hle; injection hv' with _ _ e3; omega
    have hlI : (lev : Int) < (nl : Int) := by omega
    have l1 : (m : Int) ≤ (nt : Int) := by omega
    have l2 : m ≤ nt := by omega
    have l3 : (nt : Int) ≤ (ct : Int) := by omega
    obtain ⟨suf, hsuf⟩ : ∃ suf, s.tr.drop m = suf := ⟨_, rfl⟩
    have hsl : suf.length = nt - m := by rw [← hsuf, List.length_drop, hnt]
    rw [hsuf] at hbl
    have HST := Lib.hid (show ∀ k, BkR w tag p V ⟨vC, rows, gw, wrows, gv, gl, gr, .slice (some ⟨gt, 0, none⟩) nt ct, .slice (some ⟨gL, 0, none⟩) nl cL, gs, gp, vh, gP, vP, prows⟩ s suf sF (.int .i64 ((0 : Nat) : Int)) (w.drewN k) from fun k => ⟨0, s, tag, _, rfl, Nat.zero_le _, by rw [List.drop_zero]; exact hbl, h.drewN k, rfl, rfl, Re.refl _ _, cg_new (below_drewN (Below.refl _ w) k), rfl, rfl⟩)
    have HSUF := Lib.hid (And.intro hsuf hsl)
    have HNT := Lib.hid (And.intro hnt (And.intro hnl hm))
    clear h hsuf hsl hnt hnl hm hcelL hcelt hbl hle
    go_enter Tryd.func18, Tryd.ntmps18
    go_upto_region 1 with fail
    go_quiet (fail)
    obtain ⟨ns, hns⟩ : ∃ ns, nt - m = ns := ⟨_, rfl⟩
    rw [hns]
    have HNS := Lib.hid (show suf.length = ns ∧ m + ns = nt from ⟨by rw [HSUF.out.2]; exact hns, by omega⟩)
    have HSTQ := Lib.hid (HST.out nq)
    clear hns HST c6 c7 cm
    go_wp2_with fail
    go_loopw [27, 5, 6] (fun iv _ _ wr => BkR w tag p V ⟨vC, rows, gw, wrows, gv, gl, gr, .slice (some ⟨gt, 0, none⟩) nt ct, .slice (some ⟨gL, 0, none⟩) nl cL, gs, gp, vh, gP, vP, prows⟩ s suf sF iv wr) (fun iv _ _ _ => suf.length - (intOf iv).toNat)
    case atStart => exact HSTQ.out
    case round =>
      clear HSTQ
      obtain ⟨i, s1, tag1, y1, e1, hi, hbl, hs, hyt, hyL, hre, hcg, htr, hlm⟩ := hrel
      subst e1
      obtain ⟨vC1, rows1, gw1, wrows1, gv1, gl1, gr1, vt1, vL1, gs1, gp1, vh1, gP1, vP1, prows1⟩ := y1
      dsimp only at hyt hyL
      subst hyt
      subst hyL
      have HRE := Lib.hid hre
      have HCG := Lib.hid hcg
      have HTL := Lib.hid (And.intro htr hlm)
      clear hre hcg
      rw [HNS.out.1] at hi
      by_cases hin : i < ns
      · obtain ⟨n, hn⟩ : ∃ n, suf[i]? = some n := ⟨_, List.getElem?_eq_getElem (by have := HNS.out.1; omega)⟩
        have hdrop : suf.drop i = n :: suf.drop (i + 1) := by
          obtain ⟨h1, h2⟩ := List.getElem?_eq_some_iff.1 hn
          rw [List.drop_eq_getElem_cons h1, h2]
        rw [hdrop] at hbl
        unfold backL at hbl
        split at hbl
        case h_2 => cases hbl
        rename_i x0 pv hx0 hpv
        have hnt1 : s1.tr[m + i]? = some n := by
          rw [htr]
          have := hn
          rw [← HSUF.out.1, List.getElem?_drop] at this
          exact this
        have cn : wr.cell? ⟨gt, m + i, none⟩ = some (.int .i64 n) := by
          have hlen : s1.tr.length = nt := by rw [htr]; exact HNT.out.1
          obtain ⟨g', c', hvh', _, hcel⟩ := hs.trl.at_ (by rw [litVals_len, hlen]; omega)
          injection hvh' with e1 _ e3
          injection e1 with e1
          injection e1 with e1
          subst e1
          exact hcel.cell (lit_at hnt1)
        obtain ⟨v, hv⟩ : ∃ v, n.natAbs = v := ⟨_, rfl⟩
        rw [hv] at hbl hx0 hpv
        have hvV : v < V + 1 := by have := hs.vl; have := (List.getElem?_eq_some_iff.1 hx0).1; omega
        have hvI : (v : Int) < (V : Int) + 1 := by omega
        have HV := Lib.hid (show n = (v : Int) ∨ n = -(v : Int) by omega)
        have hiI : (i : Int) < (ns : Int) := by omega
        have w4 : IntKind.i64.wrap ((i : Int) + 1) = ((i + 1 : Nat) : Int) := by have := HNS.out.2; rw [IntKind.wrap_i64]; omega
        have c3 : wr.cell? ⟨p, 3, none⟩ = some (.slice (some ⟨gv1, 0, none⟩) (V + 1) (V + 1)) := hs.blk.cell 3
        have cv : wr.cell? ⟨gv1, v, none⟩ = some (.int .i8 x0) := hs.val.cell (i8_at hx0)
        have fv : wr.frozen? ⟨gv1, v, none⟩ = false := hs.val.frozen v
        obtain ⟨h2, a2⟩ := hs.setVal v 0
        obtain ⟨W2, hW2⟩ : ∃ W2, wr.setCell ⟨gv1, v, none⟩ (.int .i8 0) = W2 := ⟨_, rfl⟩
        dsimp only at h2 a2
        rw [hW2] at h2 a2
        have c13 : W2.cell? ⟨p, 13, none⟩ = some (.slice (some ⟨gP1, 0, none⟩) (V + 1) (V + 1)) := h2.blk.cell 13
        have cP : W2.cell? ⟨gP1, v, none⟩ = some (.int .i64 pv) := h2.pla.cell (lit_at hpv)
        have H2 := Lib.hid h2
        have HA2 := Lib.hid (HCG.out.trans_ a2 HRE.out)
        have HW2 := Lib.hid hW2
        have HN := Lib.hid hn
        clear hs h2 a2 hW2 hn hdrop hnt1 hx0 htr hlm hv
        obtain ⟨wy, hwy⟩ : ∃ wy, wr = wy := ⟨_, rfl⟩
        rw [hwy] at c3 cv fv HW2 HCG cn ⊢
        clear hwy
        go_upto_region 4 with fail
        go_cut [6] (fun vv wx => vv = .int .i64 (v : Nat) ∧ wx = wy)
        case first =>
          rcases HV.out with hv | hv
          · subst hv
            have wn : IntKind.i64.wrap (-(v : Int)) = -(v : Int) := by rw [IntKind.wrap_i64]; omega
            have hmx : max (v : Int) (-(v : Int)) = (v : Int) := by omega
            go_wp2_with fail
            all_goals (go_meet; exact ⟨by go_num, rfl⟩)
          · subst hv
            have wn : IntKind.i64.wrap (- -(v : Int)) = (v : Int) := by rw [IntKind.wrap_i64]; omega
            have hmx : max (-(v : Int)) (v : Int) = (v : Int) := by omega
            go_wp2_with fail
            all_goals (go_meet; exact ⟨by go_num, rfl⟩)
        case rest =>
        obtain ⟨e6, hwc⟩ := hcut
        subst e6
        rw [hwc]
        clear hwc cn
        by_cases hp0 : pv < 0
        · rw [if_pos hp0] at hbl
          split at hbl
          case isFalse => cases hbl
          rename_i hhl'
          split at hbl
          · cases hbl
          rename_i s2 hup
          have hd3 : decide (pv < (0 : Int)) = true := decide_eq_true hp0
          obtain ⟨hl, hhl⟩ : ∃ hl, s1.hp.length = hl := ⟨_, rfl⟩
          obtain ⟨Ah, ch, hvh⟩ := H2.out.hea.form
          dsimp only at hvh
          rw [kVals_len, hhl] at hvh
          subst hvh
          rw [hhl] at hhl' hup
          obtain ⟨W3, hW3⟩ : ∃ W3, W3 = W2.alloc (.cells #[.int .i64 (v : Nat)] 3) := ⟨_, rfl⟩
          have h3 := H2.out.alloc (.cells #[.int .i64 (v : Nat)] 3)
          have HO3 := Lib.hid (show (W2.alloc (.cells #[.int .i64 (v : Nat)] 3)).ownsRow 0 3 1 (.slice Ah hl ch) hl (kVals s1.hp) from by
            have := h3.hea.own
            dsimp only at this
            rw [kVals_len, hhl] at this; exact this)
          have H3 := Lib.hid h3
          have c12 : W2.cell? ⟨p, 12, none⟩ = some (.slice Ah hl ch) := H2.out.blk.cell 12
          have HHL := Lib.hid hhl
          have HUP := Lib.hid hup
          have HBL := Lib.hid hbl
          clear h3 hhl hup hbl hp0 hW3
          go_upto_region 6 with fail
          rw [HW2.out]
          go_upto_region 7 with fail
          go_wp2_with (first | (at_builtin; refine wpList_append_loc _ rfl (.tmp 53) (.tmp 55) _ rfl 0 3 i0 _ 1 8 Tryd.underlying25 HI.out.1 HI.out.2.1 HI.out.2.2.1 HI.out.2.2.2 rfl (by omega) (.slice Ah hl ch) hl (kVals s1.hp) rfl HO3.out (W2.heap.size + 1) (some ⟨W2.heap.size, 0, none⟩) 1 1 [.int .i64 (v : Nat)] rfl (reads_new (by simp) (by simp) rfl) (by intro u hu; rw [List.mem_singleton.1 hu]; rfl) (le_maxLen4 (by omega)) (le_bytes4 (by omega) (by omega)) (by simp) ?_; intro A6 c6 w6 hown6 hg6 hl6; have hb6 := H3.out.blk.grown hg6 (own_blk_ne HO3.out H3.out.blk (by decide)).symm; have c612 : w6.cell? ⟨p, 12, none⟩ = some (.slice Ah hl ch) := hb6.cell 12; have f612 : w6.frozen? ⟨p, 12, none⟩ = false := hb6.frozen 12; have l6 := hb6.lt; have HO6 := Lib.hid hown6; have HG6 := Lib.hid hg6; have HL6 := Lib.hid hl6; clear hown6 hg6 hl6 hb6) | fail)
          have hown6 := HO6.out
          rw [k_snoc] at hown6
          obtain ⟨tag7, hr7, hc7, h7⟩ := H3.out.heapUp hown6 (by rw [List.length_append, HHL.out]; rfl) HG6.out HL6.out
          obtain ⟨W7, hW7⟩ : ∃ W7, w6.setCell ⟨p, 12, none⟩ (.slice A6 (hl + 1) c6) = W7 := ⟨_, rfl⟩
          rw [hW7] at hc7 h7 ⊢
          have hc07 := HA2.out.trans_ ((cg_new (tag := tag1) (S := Fr 16) ((Below.refl _ W2).alloc (Nat.le_refl _) (.cells #[.int .i64 (v : Nat)] 3))).trans hc7) HRE.out
          have hr07 : Re w tag tag7 := fun b hb => (hr7 b (by have := HA2.out.size; simp; omega)).trans (HRE.out b hb)
          obtain ⟨h8', a8'⟩ := h7.setPla v (hl : Nat)
          have h8 := h8'.drew
          obtain ⟨W8, hW8⟩ : ∃ W8, (W7.setCell ⟨gP1, v, none⟩ (.int .i64 (hl : Nat))).drew = W8 := ⟨_, rfl⟩
          have a8 := a8'.trans (cg_new (tag := tag7) (S := Fr 16) (below_drewN (Below.refl _ (W7.setCell ⟨gP1, v, none⟩ (.int .i64 (hl : Nat)))) 1))
          change Cg tag7 (Fr 16) W7 (W7.setCell ⟨gP1, v, none⟩ (.int .i64 (hl : Nat))).drew at a8
          rw [hW8] at h8 a8
          have c713 : W7.cell? ⟨p, 13, none⟩ = some (.slice (some ⟨gP1, 0, none⟩) (V + 1) (V + 1)) := h7.blk.cell 13
          have c712 : W7.cell? ⟨p, 12, none⟩ = some (.slice A6 (hl + 1) c6) := h7.blk.cell 12
          obtain ⟨q0, hq0⟩ : ∃ q, s1.pl[v]? = some q := ⟨_, List.getElem?_eq_getElem (by have := H2.out.pll; dsimp only at this; omega)⟩
          have c7P : W7.cell? ⟨gP1, v, none⟩ = some (.int .i64 q0) := h7.pla.cell (lit_at hq0)
          have f7P : W7.frozen? ⟨gP1, v, none⟩ = false := h7.pla.frozen v
          have c812 : W8.cell? ⟨p, 12, none⟩ = some (.slice A6 (hl + 1) c6) := h8.blk.cell 12
          have CU := Lib.hid (up_any h8 HUP.out hV (by show (s1.hp ++ [v]).length ≤ 1000000; rw [List.length_append, HHL.out]; simp; omega))
          have HA8 := Lib.hid (hc07.trans_ a8 hr07)
          have HR7 := Lib.hid hr07
          have HW8 := Lib.hid hW8
          have wl : IntKind.i64.wrap (((hl + 1 : Nat) : Int) - 1) = (hl : Int) := by rw [IntKind.wrap_i64]; omega
          have wl2 : IntKind.i64.wrap (hl : Int) = (hl : Int) := by rw [IntKind.wrap_i64]; omega
          clear hown6 hr7 hc7 h7 hW7 hc07 hr07 h8' a8' h8 a8 hW8 hq0 HO6 HG6 HL6 HO3 H3 c612 f612 l6 c12
          refine wp_region_mv (S := fun w' => w'.cell? ⟨p, 12, none⟩ = some (.slice A6 (hl + 1) c6) ∧ w'.cell? ⟨p, 13, none⟩ = some (.slice (some ⟨gP1, 0, none⟩) (V + 1) (V + 1))) 12 [.f 0, .f 1, .f 2, .f 3, .f 4, .f 5, .f 6, .f 7, .f 8, .f 9, .f 10, .f 11, .t 12] (by kernel_rfl) (by kernel_rfl) (by kernel_rfl) (And.intro c712 c713) ?_
          iterate 12 (refine mv_take _ _ rfl (by kernel_rfl) (fun wv hv => by obtain ⟨hv1, hv2⟩ := hv; go_simp; try with_reducible rfl) ?_; simp only [Act.put, List.getElem_toArray, List.getElem_cons_zero, List.getElem_cons_succ, List.setIfInBounds_toArray, List.set_cons_zero, List.set_cons_succ])
          refine mv_act _ rfl (fun K hK => ?_)
          go_simp
          go_simp
          refine hK _ _ (.inl rfl) ?_
          clear hK K
          refine mv_nil ?_
          go_upto_region 9 with fail
          rw [HW8.out]
          go_wp2_with fail
          refine CU.out.mono ?_
          rintro e w9 ⟨rfl, hcg9, hs9⟩
          have HNX := Lib.hid (show BkR w tag p V ⟨vC, rows, gw, wrows, gv, gl, gr, .slice (some ⟨gt, 0, none⟩) nt ct, .slice (some ⟨gL, 0, none⟩) nl cL, gs, gp, vh, gP, vP, prows⟩ s suf sF (.int .i64 ((i + 1 : Nat) : Int)) w9 from ⟨i + 1, s2, tag7, _, rfl, by have := HNS.out.1; omega, HBL.out, hs9, rfl, rfl, HR7.out, HA8.out.trans_ hcg9 HR7.out, (upM_keeps HUP.out).1.trans HTL.out.1, (upM_keeps HUP.out).2.trans HTL.out.2⟩)
          clear hcg9 hs9 c713 c712 c7P f7P c812
          go_wp2_with fail
          go_roundw
          case rel => exact HNX.out
          case measure => have := HNS.out.1; simp [intOf]; omega
        · rw [if_neg hp0] at hbl
          have hd3 : decide (pv < (0 : Int)) = false := decide_eq_false hp0
          have HNX := Lib.hid (show BkR w tag p V ⟨vC, rows, gw, wrows, gv, gl, gr, .slice (some ⟨gt, 0, none⟩) nt ct, .slice (some ⟨gL, 0, none⟩) nl cL, gs, gp, vh, gP, vP, prows⟩ s suf sF (.int .i64 ((i + 1 : Nat) : Int)) W2 from ⟨i + 1, _, tag1, _, rfl, by have := HNS.out.1; omega, hbl, H2.out, rfl, rfl, HRE.out, HA2.out, HTL.out.1, HTL.out.2⟩)
          clear hbl hp0
          go_upto_region 6 with fail
          rw [HW2.out]
          go_wp2_with fail
          go_roundw
          case rel => exact HNX.out
          case measure => have := HNS.out.1; simp [intOf]; omega
      · obtain rfl : i = ns := by omega
        rw [List.drop_eq_nil_of_le (by rw [HNS.out.1]; exact Nat.le_refl _)] at hbl
        unfold backL at hbl
        injection hbl with hbl
        subst hbl
        have htl : s1.tr.length = nt := by rw [htr]; exact HNT.out.1
        have hll : s1.lm.length = nl := by rw [hlm]; exact HNT.out.2.1
        have c6 : wr.cell? ⟨p, 6, none⟩ = some (.slice (some ⟨gt, 0, none⟩) nt ct) := hs.blk.cell 6
        have f6 : wr.frozen? ⟨p, 6, none⟩ = false := hs.blk.frozen 6
        have c7 : wr.cell? ⟨p, 7, none⟩ = some (.slice (some ⟨gL, 0, none⟩) nl cL) := hs.blk.cell 7
        have cm : wr.cell? ⟨gL, lev, none⟩ = some (.int .i64 (m : Nat)) := by
          obtain ⟨g', c', hvh', _, hcel⟩ := hs.lim.at_ (by rw [kVals_len, hll]; omega)
          injection hvh' with e1 _ e3
          injection e1 with e1
          injection e1 with e1
          subst e1
          exact hcel.cell (k_at (by rw [hlm]; exact HNT.out.2.2))
        obtain ⟨h4', a4'⟩ := hs.cutTrail (A := some ⟨gt, 0, none⟩) (n := m) (c := ct) (by rw [htl]) (by omega)
        have h4 := h4'.drew
        obtain ⟨W4, hW4⟩ : ∃ W4, (wr.setCell ⟨p, 6, none⟩ (.slice (some ⟨gt, 0, none⟩) m ct)).drew = W4 := ⟨_, rfl⟩
        have a4 := a4'.trans (cg_new (tag := tag1) (S := Fr 16) (below_drewN (Below.refl _ (wr.setCell ⟨p, 6, none⟩ (.slice (some ⟨gt, 0, none⟩) m ct))) 1))
        change Cg tag1 (Fr 16) wr (wr.setCell ⟨p, 6, none⟩ (.slice (some ⟨gt, 0, none⟩) m ct)).drew at a4
        rw [hW4] at h4 a4
        have c47 : W4.cell? ⟨p, 7, none⟩ = some (.slice (some ⟨gL, 0, none⟩) nl cL) := h4.blk.cell 7
        have f47 : W4.frozen? ⟨p, 7, none⟩ = false := h4.blk.frozen 7
        obtain ⟨h5, a5⟩ := h4.cutLimits (A := some ⟨gL, 0, none⟩) (n := lev) (c := cL) (by rw [← hll]) (by show lev ≤ s1.lm.length; omega)
        obtain ⟨W5, hW5⟩ : ∃ W5, W4.setCell ⟨p, 7, none⟩ (.slice (some ⟨gL, 0, none⟩) lev cL) = W5 := ⟨_, rfl⟩
        rw [hW5] at h5 a5
        have c56 : W5.cell? ⟨p, 6, none⟩ = some (.slice (some ⟨gt, 0, none⟩) m ct) := h5.blk.cell 6
        have f58 : W5.frozen? ⟨p, 8, none⟩ = false := h5.blk.frozen 8
        have c58 : W5.cell? ⟨p, 8, none⟩ = some (.int .i64 (s1.hd : Nat)) := h5.blk.cell 8
        obtain ⟨h6, a6⟩ := h5.setHd m
        have HE := Lib.hid (show StS w tag p V { s1 with tr := s.tr.take m, lm := s.lm.take lev, hd := m } (.returned (.tuple #[])) (W5.setCell ⟨p, 8, none⟩ (.int .i64 (m : Nat))) from ⟨rfl, tag1, _, HRE.out, HCG.out.trans_ ((a4.trans a5).trans a6) HRE.out, by
          have := h6
          dsimp only at this
          rw [htr, hlm] at this
          exact this⟩)
        have HW4 := Lib.hid hW4
        have HW5 := Lib.hid hW5
        have l5 : (m : Int) ≤ (ct : Int) := by omega
        have l6 : m ≤ ct := by omega
        have l7 : (lev : Int) ≤ (cL : Int) := by omega
        have l8 : lev ≤ cL := by omega
        clear hs htr hlm htl hll h4' a4' h4 a4 h5 a5 h6 a6 hW4 hW5
        go_upto_region 11 with fail
        refine wp_region_mv (S := fun w' => w'.cell? ⟨p, 6, none⟩ = some (.slice (some ⟨gt, 0, none⟩) nt ct) ∧ w'.cell? ⟨p, 7, none⟩ = some (.slice (some ⟨gL, 0, none⟩) nl cL) ∧ w'.cell? ⟨gL, lev, none⟩ = some (.int .i64 (m : Nat))) 15 [.f 0, .f 1, .f 2, .f 3, .f 4, .f 5, .f 6, .f 7, .f 8, .f 9, .f 10, .f 11, .f 12, .t 13, .f 14, .t 15] (by kernel_rfl) (by kernel_rfl) (by kernel_rfl) (And.intro c6 (And.intro c7 cm)) ?_
        iterate 13 (refine mv_take _ _ rfl (by kernel_rfl) (fun wv hv => by obtain ⟨hv1, hv2, hv3⟩ := hv; go_simp; try with_reducible rfl) ?_; simp only [Act.put, List.getElem_toArray, List.getElem_cons_zero, List.getElem_cons_succ, List.setIfInBounds_toArray, List.set_cons_zero, List.set_cons_succ])
        refine mv_act _ rfl (fun K hK => ?_)
        go_simp
        go_simp
        refine hK _ _ (.inr ((And.intro c6 (And.intro c7 cm)))) ?_
        clear hK K
        iterate 1 (refine mv_take _ _ rfl (by kernel_rfl) (fun wv hv => by obtain ⟨hv1, hv2, hv3⟩ := hv; go_simp; try with_reducible rfl) ?_; simp only [Act.put, List.getElem_toArray, List.getElem_cons_zero, List.getElem_cons_succ, List.setIfInBounds_toArray, List.set_cons_zero, List.set_cons_succ])
        refine mv_act _ rfl (fun K hK => ?_)
        go_simp
        go_simp
        refine hK _ _ (.inl rfl) ?_
        clear hK K
        refine mv_nil ?_
        go_upto_region 12 with fail
        rw [HW4.out]
        go_upto_region 13 with fail
        rw [HW5.out]
        go_wp2_with fail
        go_end0
        exact HE.out
end
end Go.Proofs.YtaedbnbeelkkcaaDoor.slv
