/-
  WALK of (*solver).decide.
-/
import Derived.Test.YtaedbnbeelkkcaaDoorNn
import Derived.Deep.LoopGhost
namespace Go.Proofs.YtaedbnbeelkkcaaDoor.slv
open Go.RowKit
theorem downL_len {v : Nat} : ∀ {f i : Nat} {s s' : SS}, downL v f i s = some s' → s'.hp.length = s.hp.length
  | 0, _, _, _, h => by cases h
  | f + 1, i, s, s', h => by
    unfold downL at h
    split at h
    · split at h
      · cases h
      · split at h
        · cases h
        · split at h
          · split at h
            · injection h with h; subst h; show (s.hp.set _ _).length = _; rw [List.length_set]
            · have := downL_len h
              rw [this]; show (s.hp.set _ _).length = _; rw [List.length_set]
          · cases h
    · injection h with h; subst h; show (s.hp.set _ _).length = _; rw [List.length_set]
theorem popM_len {V v : Nat} {s s' : SS} (h : popM V s = some (v, s')) : s'.hp.length ≤ s.hp.length ∧ v ≤ V := by
  unfold popM at h
  split at h
  · rename_i v0 l _ _
    split at h
    · rename_i hv
      dsimp only at h
      split at h
      · injection h with h
        injection h with h1 h2
        subst h1; subst h2
        exact ⟨by show (s.hp.take _).length ≤ _; rw [List.length_take]; omega, hv.1⟩
      · split at h
        · rename_i s2 hd
          injection h with h
          injection h with h1 h2
          subst h1; subst h2
          refine ⟨?_, hv.1⟩
          unfold downM at hd
          split at hd
          · cases hd
          · split at hd
            · rw [downL_len hd]
              show ((s.hp.take _).set _ _).length ≤ _
              rw [List.length_set, List.length_take]; omega
            · cases hd
        · cases h
    · cases h
  · cases h
theorem setM_some {V : Nat} {s s' : SS} {n b : Int} (h : setM V s n b = some s') : 1 ≤ n.natAbs ∧ n.natAbs ≤ V ∧ s.tr.length ≤ V ∧ s.lm.length ≤ V ∧ s' = setS s n b := by
  unfold setM at h
  split at h
  · rename_i hc
    injection h with h
    exact ⟨hc.1, hc.2.1, hc.2.2.1, hc.2.2.2, h.symm⟩
  · cases h
section
variable {w : World} {tag : Nat → Tag} {p V : Nat} {y : SLay} {s : SS}
/-- a set number, as the mirror has it -/
theorem setM_any {s' : SS} {n b : Int} (h : Slv w tag p V y s) (hu : setM V s n b = some s') (hV : V ≤ 400000) : Calls Tryd.prog 34 #[.pointer (some ⟨p, 0, none⟩), .int .i64 n, .int .i64 b] w (StS w tag p V s') := by
  obtain ⟨h1, h2, h3, h4, rfl⟩ := setM_some hu
  exact set_any h h3 h4 ⟨by omega, by omega⟩ (by omega)
def DcR (w : World) (tag : Nat → Tag) (p V : Nat) (b : Bool) (s' : SS) (k : Nat) (wr : World) : Prop :=
  ∃ s1 tag1 y1, decL V k s1 = some (b, s') ∧ Slv wr tag1 p V y1 s1 ∧ Re w tag tag1 ∧ Cg tag (Fr 16) w wr ∧ s1.hp.length ≤ 1000000
def DcP (w : World) (tag : Nat → Tag) (p V : Nat) (b : Bool) (s : SS) (e : Ending) (w' : World) : Prop :=
  e = .returned (.bool b) ∧ ∃ tag' y', Re w tag tag' ∧ Cg tag (Fr 16) w w' ∧ Slv w' tag' p V y' s
attribute [local irreducible] wpSeq wpMv
set_option maxRecDepth 100000 in
set_option maxHeartbeats 8000000 in
theorem decide_any {s' : SS} {b : Bool} (h : Slv w tag p V y s) (hu : decideM V s = some (b, s')) (hV : V ≤ 400000) (hh : s.hp.length ≤ 1000000) :
    Calls Tryd.prog 31 #[.pointer (some ⟨p, 0, none⟩)] w (DcP w tag p V b s') := by
  obtain ⟨i0, hi0, hz0, hz1, hz2⟩ := info_parts info_int
  have HI := Lib.hid (And.intro hi0 (And.intro hz0 (And.intro hz1 hz2)))
  clear hi0 hz0 hz1 hz2
  unfold decideM at hu
  have HST := Lib.hid (show DcR w tag p V b s' (s.hp.length + 1) w from ⟨s, tag, y, hu, h, Re.refl _ _, Chg.refl _ w, hh⟩)
  obtain ⟨n0, hn0⟩ : ∃ n0, s.hp.length + 1 = n0 := ⟨_, rfl⟩
  rw [hn0] at HST
  clear h hu hh hn0
  go_enter Tryd.func31, Tryd.ntmps31
  go_wp2_with fail
  go_loopg [3] n0 (fun k _ wr => DcR w tag p V b s' k wr)
  case atStart => exact HST.out
  case round =>
    clear HST
    obtain ⟨s1, tag1, y1, hu, hs, hre, hcg, hh⟩ := hrel
    have HRE := Lib.hid hre
    have HCG := Lib.hid hcg
    clear hre hcg
    cases gk with
    | zero => cases hu
    | succ f =>
    unfold decL at hu
    obtain ⟨hl, hhl⟩ : ∃ hl, s1.hp.length = hl := ⟨_, rfl⟩
    obtain ⟨Ah, ch, hvh⟩ := hs.hea.form
    rw [kVals_len, hhl] at hvh
    have c12 : wr.cell? ⟨p, 12, none⟩ = some (.slice Ah hl ch) := by have := hs.blk.cell 12; rw [hvh] at this; exact this
    rw [hhl] at hu
    by_cases hl0 : hl = 0
    · subst hl0
      rw [if_pos rfl] at hu
      injection hu with hu
      injection hu with e1 e2
      subst e1
      subst e2
      have HE := Lib.hid (show DcP w tag p V false s1 (.returned (.bool false)) wr from ⟨rfl, tag1, y1, HRE.out, HCG.out, hs⟩)
      clear hs hvh hhl
      go_wp2_with fail
      go_ret
      exact HE.out
    · rw [if_neg hl0] at hu
      split at hu
      · cases hu
      rename_i v s2 hpop
      have hd : decide (0 < hl) = true := decide_eq_true (by omega)
      have hdI : decide ((0 : Int) < (hl : Int)) = true := decide_eq_true (by omega)
      obtain ⟨hl2, hvV⟩ := popM_len hpop
      have CP := Lib.hid (pop_any hs hpop hV hh)
      have HHL := Lib.hid (Nat.le_trans hl2 hh)
      have HU := Lib.hid hu
      clear hs hvh hhl hpop hl2 hh hu
      go_wp2_with fail
      refine CP.out.mono ?_
      rintro e w1 ⟨rfl, tag2, y2, hr2, hc2, h2⟩
      have HR2 := Lib.hid (show Re w tag tag2 from fun b hb => (hr2 b (by have := HCG.out.size; omega)).trans (HRE.out b hb))
      have HC2 := Lib.hid (HCG.out.trans_ hc2 HRE.out)
      have hu := HU.out
      split at hu
      · cases hu
      rename_i x hx
      have hvI : (v : Int) < (V : Int) + 1 := by omega
      obtain ⟨vC, rows, gw, wrows, gv, gl, gr, vt, vL, gs, gp, vh, gP, vP, prows⟩ := y2
      have c3 : w1.cell? ⟨p, 3, none⟩ = some (.slice (some ⟨gv, 0, none⟩) (V + 1) (V + 1)) := h2.blk.cell 3
      have cv : w1.cell? ⟨gv, v, none⟩ = some (.int .i8 x) := h2.val.cell (i8_at hx)
      by_cases hx0 : x = 0
      · subst hx0
        rw [if_neg (by simp)] at hu
        split at hu
        · cases hu
        rename_i pb hpb
        split at hu
        · cases hu
        rename_i s3 hset
        injection hu with hu
        injection hu with e1 e2
        subst e1
        subst e2
        split at hset
        case isFalse => cases hset
        rename_i hlm
        obtain ⟨nt, hnt⟩ : ∃ nt, s2.tr.length = nt := ⟨_, rfl⟩
        obtain ⟨nl, hnl⟩ : ∃ nl, s2.lm.length = nl := ⟨_, rfl⟩
        obtain ⟨At, ct, hvt⟩ := h2.trl.form
        rw [litVals_len, hnt] at hvt
        dsimp only at hvt
        subst hvt
        obtain ⟨AL, cL, hvL⟩ := h2.lim.form
        rw [kVals_len, hnl] at hvL
        dsimp only at hvL
        subst hvL
        have c6 : w1.cell? ⟨p, 6, none⟩ = some (.slice At nt ct) := h2.blk.cell 6
        have c7 : w1.cell? ⟨p, 7, none⟩ = some (.slice AL nl cL) := h2.blk.cell 7
        rw [hnl] at hlm
        rw [hnt] at hset
        have H2 := Lib.hid h2
        have HSET := Lib.hid hset
        have HPB := Lib.hid hpb
        have HNL := Lib.hid (And.intro hnl hlm)
        have ho7 : ((w1.alloc (.cells #[.int .i64 (nt : Nat)] 3)).drew).ownsRow 0 3 1 (.slice AL nl cL) nl (kVals s2.lm) := by
          have := ((h2.alloc (.cells #[.int .i64 (nt : Nat)] 3)).drew).lim.own
          rw [kVals_len, hnl] at this; exact this
        have HO7 := Lib.hid ho7
        clear h2 hr2 hc2 hx hpb hset hnt hnl ho7 HU
        go_upto_region 4 with fail
        clear cv c3
        refine wp_region_mv (S := fun w' => w'.cell? ⟨p, 6, none⟩ = some (.slice At nt ct) ∧ w'.cell? ⟨p, 7, none⟩ = some (.slice AL nl cL)) 14 [.f 0, .f 1, .f 2, .f 3, .f 4, .f 5, .f 6, .f 7, .f 8, .f 9, .t 10, .t 11, .t 12, .f 13, .t 14] (by kernel_rfl) (by kernel_rfl) (by kernel_rfl) (And.intro c6 c7) ?_
        iterate 10 (refine mv_take _ _ rfl (by kernel_rfl) (fun wv hv => by obtain ⟨hv1, hv2⟩ := hv; go_simp; try with_reducible rfl) ?_; simp only [Act.put, List.getElem_toArray, List.getElem_cons_zero, List.getElem_cons_succ, List.setIfInBounds_toArray, List.set_cons_zero, List.set_cons_succ])
        refine mv_act _ rfl (fun K hK => ?_)
        go_simp
        go_simp
        refine hK _ _ (.inr ((And.intro ((H2.out.drew.alloc (.cells #[.int .i64 (nt : Nat)] 3)).blk.cell 6) ((H2.out.drew.alloc (.cells #[.int .i64 (nt : Nat)] 3)).blk.cell 7)))) ?_
        clear hK K
        refine mv_act _ rfl (fun K hK => ?_)
        refine step_append_loc _ rfl (.tmp 24) (.tmp 30) _ rfl 0 3 i0 _ 1 8 Tryd.underlying25 HI.out.1 HI.out.2.1 HI.out.2.2.1 HI.out.2.2.2 rfl (by omega) (.slice AL nl cL) nl (kVals s2.lm) rfl HO7.out (w1.heap.size + 1) (some ⟨w1.heap.size, 0, none⟩) 1 1 [.int .i64 (nt : Nat)] rfl (reads_new (by simp) (by simp) rfl) (by intro u hu; rw [List.mem_singleton.1 hu]; rfl) (le_maxLen4 (by have := HNL.out.2; omega)) (le_bytes4 (by have := HNL.out.2; omega) (by omega)) (by simp) ?_
        intro A6 c6' w6 hown6 hg6 hl6
        rw [k_snoc] at hown6
        have h40 := (H2.out.alloc (.cells #[.int .i64 (nt : Nat)] 3)).drew
        obtain ⟨tag6, hr6, hc6, hk6⟩ := h40.limit hown6 (by rw [List.length_append, HNL.out.1]; rfl) hg6 hl6
        have hb6 := h40.blk.grown hg6 (own_blk_ne HO7.out h40.blk (by decide)).symm
        have c66 : w6.cell? ⟨p, 6, none⟩ = some (.slice At nt ct) := hb6.cell 6
        have c67 : w6.cell? ⟨p, 7, none⟩ = some (.slice AL nl cL) := hb6.cell 7
        have f67 : w6.frozen? ⟨p, 7, none⟩ = false := hb6.frozen 7
        have l67 : p < w6.heap.size := hb6.lt
        have HC6 := Lib.hid (HC2.out.trans_ (((cg_new (tag := tag2) (S := Fr 16) ((Below.refl _ w1).alloc (Nat.le_refl _) (.cells #[.int .i64 (nt : Nat)] 3))).trans (cg_new (below_drewN (Below.refl _ (w1.alloc (.cells #[.int .i64 (nt : Nat)] 3))) 1))).trans hc6) HR2.out)
        have HR6 := Lib.hid (show Re w tag tag6 from fun b hb => (hr6 b (by have := HC2.out.size; simp; omega)).trans (HR2.out b hb))
        have HK6 := Lib.hid hk6
        clear hown6 hg6 hl6 h40 hr6 hc6 hk6 hb6
        refine hK _ _ (.inr ((And.intro c66 c67))) ?_
        clear hK K
        try simp only [Act.put, List.getElem_toArray, List.getElem_cons_zero, List.getElem_cons_succ, List.setIfInBounds_toArray, List.set_cons_zero, List.set_cons_succ]
        refine mv_act _ rfl (fun K hK => ?_)
        go_simp
        go_simp
        refine hK _ _ (.inr ((And.intro c66 c67))) ?_
        clear hK K
        iterate 1 (refine mv_take _ _ rfl (by kernel_rfl) (fun wv hv => by obtain ⟨hv1, hv2⟩ := hv; go_simp; try with_reducible rfl) ?_; simp only [Act.put, List.getElem_toArray, List.getElem_cons_zero, List.getElem_cons_succ, List.setIfInBounds_toArray, List.set_cons_zero, List.set_cons_succ])
        refine mv_act _ rfl (fun K hK => ?_)
        go_simp
        go_simp
        refine hK _ _ (.inl rfl) ?_
        clear hK K
        refine mv_nil ?_
        go_upto_region 5 with fail
        obtain ⟨W7, hW7⟩ : ∃ W7, w6.setCell ⟨p, 7, none⟩ (.slice A6 (nl + 1) c6') = W7 := ⟨_, rfl⟩
        rw [hW7] at HC6 HK6 ⊢
        clear hW7 c66 c67 f67 l67
        have c11 : W7.cell? ⟨p, 11, none⟩ = some (.slice (some ⟨gp, 0, none⟩) (V + 1) (V + 1)) := HK6.out.blk.cell 11
        have cp : W7.cell? ⟨gp, v, none⟩ = some (.bool pb) := HK6.out.pha.cell (bool_at HPB.out)
        have CS := Lib.hid (setM_any HK6.out HSET.out hV)
        have w2 : IntKind.i64.wrap (-(v : Int)) = -(v : Int) := by rw [IntKind.wrap_i64]; omega
        cases pb with
        | true =>
          rw [if_pos rfl] at CS
          go_wp2_with fail
          refine CS.out.mono ?_
          rintro e w8 ⟨rfl, tag8, y8, hre8, hcg8, h8⟩
          have HE := Lib.hid (show DcP w tag p V true s3 (.returned (.bool true)) w8 from ⟨rfl, tag8, y8, fun b hb => (hre8 b (by have := HC6.out.size; omega)).trans (HR6.out b hb), HC6.out.trans_ hcg8 HR6.out, h8⟩)
          clear hre8 hcg8 h8
          go_wp2_with fail
          go_ret
          exact HE.out
        | false =>
          rw [if_neg (by simp)] at CS
          go_wp2_with fail
          refine CS.out.mono ?_
          rintro e w8 ⟨rfl, tag8, y8, hre8, hcg8, h8⟩
          have HE := Lib.hid (show DcP w tag p V true s3 (.returned (.bool true)) w8 from ⟨rfl, tag8, y8, fun b hb => (hre8 b (by have := HC6.out.size; omega)).trans (HR6.out b hb), HC6.out.trans_ hcg8 HR6.out, h8⟩)
          clear hre8 hcg8 h8
          go_wp2_with fail
          go_ret
          exact HE.out
      · rw [if_pos hx0] at hu
        have hxb : (x != 0) = true := by simp [hx0]
        have HNX := Lib.hid (show DcR w tag p V b s' f w1 from ⟨s2, tag2, _, hu, h2, HR2.out, HC2.out, HHL.out⟩)
        clear h2 hr2 hc2 hx hu HU
        go_wp2_with fail
        go_roundg f
        case measure => omega
        case rel => exact HNX.out
end
end Go.Proofs.YtaedbnbeelkkcaaDoor.slv
