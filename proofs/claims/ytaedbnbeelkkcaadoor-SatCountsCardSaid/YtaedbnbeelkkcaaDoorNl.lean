/-
  WALK of (*solver).pop.
  WALK of (*solver).bump.
-/
import Derived.Test.YtaedbnbeelkkcaaDoorNj
namespace Go.Proofs.YtaedbnbeelkkcaaDoor.slv
open Go.RowKit
section
variable {w : World} {tag : Nat → Tag} {p V : Nat} {y : SLay} {s : SS}
def PpP (w : World) (tag : Nat → Tag) (p V : Nat) (s : SS) (v : Nat) (e : Ending) (w' : World) : Prop :=
  e = .returned (.int .i64 (v : Nat)) ∧ ∃ tag' y', Re w tag tag' ∧ Cg tag (Fr 16) w w' ∧ Slv w' tag' p V y' s
attribute [local irreducible] wpSeq wpMv
set_option maxRecDepth 100000 in
set_option maxHeartbeats 4000000 in
theorem pop_any {s' : SS} {v : Nat} (h : Slv w tag p V y s) (hu : popM V s = some (v, s')) (hV : V ≤ 400000) (hh : s.hp.length ≤ 1000000) :
    Calls Tryd.prog 46 #[.pointer (some ⟨p, 0, none⟩)] w (PpP w tag p V s' v) := by
  unfold popM at hu
  split at hu
  case h_2 => cases hu
  rename_i v0 l hv0 hl
  split at hu
  case isFalse => cases hu
  rename_i hvl
  obtain ⟨m, hm⟩ : ∃ m, s.hp.length = m + 1 := ⟨s.hp.length - 1, by have := (List.getElem?_eq_some_iff.1 hv0).1; omega⟩
  rw [hm, Nat.add_sub_cancel] at hl hu
  rw [hm] at hh
  obtain ⟨g, c, hvh, ch0, _⟩ := h.hpAt hv0
  rw [hm] at hvh
  obtain ⟨vC, rows, gw, wrows, gv, gl, gr, vt, vL, gs, gp, vh, gP, vP, prows⟩ := y
  dsimp only at hvh
  subst hvh
  have chm := h.hpc rfl hl
  have c12 : w.cell? ⟨p, 12, none⟩ = some (.slice (some ⟨g, 0, none⟩) (m + 1) c) := h.blk.cell 12
  have f12 : w.frozen? ⟨p, 12, none⟩ = false := h.blk.frozen 12
  have hcm : m + 1 ≤ c := by
    rcases h.hea.own.2 with ⟨h0, h1⟩ | ⟨g', c', cur, hv', _, _, hle, _⟩
    · cases h0
    · dsimp only at hv'; rw [kVals_len, hm] at hv' hle; injection hv' with _ _ e3; subst e3; exact hle
  have hc1 : m ≤ c := by omega
  have hc1i : (m : Int) ≤ (c : Int) := by omega
  have hv0V : (v0 : Int) < (V : Int) + 1 := by omega
  have hlV : (l : Int) < (V : Int) + 1 := by omega
  have hw1 : IntKind.i64.wrap (((m + 1 : Nat) : Int) - 1) = (m : Int) := by rw [IntKind.wrap_i64]; omega
  have hw2 : IntKind.i64.wrap (m : Int) = (m : Int) := by rw [IntKind.wrap_i64]; omega
  have hmI : (m : Int) < (m : Int) + 1 := by omega
  have hm0 : (0 : Int) < (m : Int) + 1 := by omega
  have HH := Lib.hid h
  have HM := Lib.hid hm
  have HU := Lib.hid hu
  have HHP := Lib.hid (And.intro hv0 hl)
  clear h hu hm hv0 hl
  go_enter Tryd.func46, Tryd.ntmps46
  go_upto_region 2 with fail
  go_quiet (fail)
  go_upto_region 3 with fail
  refine wp_region_mv (S := fun w' => w'.cell? ⟨p, 12, none⟩ = some (.slice (some ⟨g, 0, none⟩) (m + 1) c)) 14 [.f 0, .f 1, .f 2, .f 3, .f 4, .f 5, .f 6, .f 7, .f 8, .f 9, .f 10, .f 11, .t 12, .f 13, .t 14] (by kernel_rfl) (by kernel_rfl) (by kernel_rfl) c12 ?_
  iterate 12 (refine mv_take _ _ rfl (by kernel_rfl) (fun wv hv => by have hv1 := hv; clear hv; go_simp; try with_reducible rfl) ?_; simp only [Act.put, List.getElem_toArray, List.getElem_cons_zero, List.getElem_cons_succ, List.setIfInBounds_toArray, List.set_cons_zero, List.set_cons_succ])
  refine mv_act _ rfl (fun K hK => ?_)
  go_simp
  go_simp
  refine hK _ _ (.inr (c12)) ?_
  clear hK K
  iterate 1 (refine mv_take _ _ rfl (by kernel_rfl) (fun wv hv => by have hv1 := hv; clear hv; go_simp; try with_reducible rfl) ?_; simp only [Act.put, List.getElem_toArray, List.getElem_cons_zero, List.getElem_cons_succ, List.setIfInBounds_toArray, List.set_cons_zero, List.set_cons_succ])
  refine mv_act _ rfl (fun K hK => ?_)
  go_simp
  go_simp
  refine hK _ _ (.inl rfl) ?_
  clear hK K
  refine mv_nil ?_
  go_upto_region 4 with fail
  have hq := HH.out.drewN (nq + 1)
  obtain ⟨h1, a1⟩ := hq.cutHeap (A := some ⟨g, 0, none⟩) (n := m) (c := c) (by rw [HM.out]) (by rw [HM.out]; omega)
  obtain ⟨W1, hW1⟩ : ∃ W1, W1 = (w.drewN (nq + 1)).setCell ⟨p, 12, none⟩ (.slice (some ⟨g, 0, none⟩) m c) := ⟨_, rfl⟩
  rw [← hW1] at h1 a1
  obtain ⟨ua, hua⟩ : ∃ u, s.pl[v0]? = some u := ⟨_, List.getElem?_eq_getElem (by rw [hq.pll]; omega)⟩
  have c13 : W1.cell? ⟨p, 13, none⟩ = some (.slice (some ⟨gP, 0, none⟩) (V + 1) (V + 1)) := h1.blk.cell 13
  have cP1 : W1.cell? ⟨gP, v0, none⟩ = some (.int .i64 ua) := h1.pla.cell (lit_at hua)
  have fP1 : W1.frozen? ⟨gP, v0, none⟩ = false := h1.pla.frozen v0
  obtain ⟨h2, a2⟩ := h1.setPla v0 (-1)
  obtain ⟨W2, hW2⟩ : ∃ W2, W2 = W1.setCell ⟨gP, v0, none⟩ (.int .i64 (-1)) := ⟨_, rfl⟩
  dsimp only at h2 a2
  rw [← hW2] at h2 a2
  have c212 : W2.cell? ⟨p, 12, none⟩ = some (.slice (some ⟨g, 0, none⟩) m c) := h2.blk.cell 12
  have AA2 := (cg_new (tag := tag) (S := Fr 16) (below_drewN (Below.refl w.heap.size w) (nq + 1))).trans (a1.trans a2)
  have HW1 := Lib.hid hW1
  have HW2 := Lib.hid hW2
  have H2 := Lib.hid h2
  have HA2 := Lib.hid AA2
  clear hW1 hW2 h1 h2 a1 a2 hq hua AA2 HH
  rw [← HW1.out]
  go_upto_region 5 with fail
  rw [← HW2.out]
  have htl : (s.hp.take m).length = m := by rw [List.length_take, HM.out]; omega
  cases m with
  | zero =>
    have hu := HU.out
    rw [if_pos rfl] at hu
    injection hu with hu
    injection hu with hu1 hu2
    subst hu1
    subst hu2
    have HE := Lib.hid (show PpP w tag p V { s with hp := s.hp.take 0, pl := s.pl.set v0 (-1) } v0 (.returned (.int .i64 (v0 : Nat))) W2 from ⟨rfl, tag, _, Re.refl _ _, HA2.out, H2.out⟩)
    clear htl
    go_wp2_with fail
    go_ret
    exact HE.out
  | succ k =>
    have hu := HU.out
    rw [if_neg (by omega)] at hu
    split at hu
    case h_2 => cases hu
    rename_i s2 hdn
    injection hu with hu
    injection hu with hu1 hu2
    subst hu1
    subst hu2
    have hz0 : decide (0 < k + 1) = true := decide_eq_true (by omega)
    have hzI : decide ((0 : Int) < ((k + 1 : Nat) : Int)) = true := decide_eq_true (by omega)
    obtain ⟨t0, ht0⟩ : ∃ u, (s.hp.take (k + 1))[0]? = some u := ⟨_, List.getElem?_eq_getElem (by omega)⟩
    have ch2 := H2.out.hpc rfl ht0
    have fh2 := H2.out.hpf rfl ht0 0
    obtain ⟨h3, a3⟩ := H2.out.setHeap (g := g) (c := c) (m := k + 1) rfl htl 0 l
    obtain ⟨W3, hW3⟩ : ∃ W3, W3 = W2.setCell ⟨g, 0, none⟩ (.int .i64 (l : Nat)) := ⟨_, rfl⟩
    dsimp only at h3 a3
    rw [← hW3] at h3 a3
    obtain ⟨ub, hub⟩ : ∃ u, (s.pl.set v0 (-1))[l]? = some u := ⟨_, List.getElem?_eq_getElem (by have := H2.out.pll; dsimp only at this; omega)⟩
    have c313 : W3.cell? ⟨p, 13, none⟩ = some (.slice (some ⟨gP, 0, none⟩) (V + 1) (V + 1)) := h3.blk.cell 13
    have cP3 : W3.cell? ⟨gP, l, none⟩ = some (.int .i64 ub) := h3.pla.cell (lit_at hub)
    have fP3 : W3.frozen? ⟨gP, l, none⟩ = false := h3.pla.frozen l
    obtain ⟨h4, a4⟩ := h3.setPla l 0
    obtain ⟨W4, hW4⟩ : ∃ W4, W4 = W3.setCell ⟨gP, l, none⟩ (.int .i64 0) := ⟨_, rfl⟩
    dsimp only at h4 a4
    rw [← hW4] at h4 a4
    have CD := Lib.hid (down_any h4 hdn hV (by show ((s.hp.take (k + 1)).set 0 l).length ≤ 1000000; rw [List.length_set, htl]; omega))
    have HA4 := Lib.hid (HA2.out.trans (a3.trans a4))
    have HW3 := Lib.hid hW3
    have HW4 := Lib.hid hW4
    have hkI : (0 : Int) < (k : Int) + 1 := by omega
    clear htl hdn h3 h4 a3 a4 hW3 hW4 hub ht0
    go_upto_region 7 with fail
    rw [← HW3.out]
    go_upto_region 8 with fail
    rw [← HW4.out]
    go_wp2_with fail
    refine CD.out.mono ?_
    rintro e w' ⟨rfl, hcg, hs⟩
    go_wp2_with fail
    go_ret
    exact ⟨rfl, tag, _, Re.refl _ _, HA4.out.trans hcg, hs⟩
end
end Go.Proofs.YtaedbnbeelkkcaaDoor.slv
namespace Go.Proofs.YtaedbnbeelkkcaaDoor.slv
open Go.RowKit
section
variable {w : World} {tag : Nat → Tag} {p V : Nat} {y : SLay} {s : SS}
theorem mulAll_len {c : Nat} : ∀ {l l' : List Nat}, mulAll c l = some l' → l'.length = l.length
  | [], l', h => by unfold mulAll at h; injection h with h; subst h; rfl
  | a :: r, l', h => by
    unfold mulAll at h
    split at h
    · rename_i x y _ hy
      injection h with h
      subst h
      rw [List.length_cons, List.length_cons, mulAll_len hy]
    · cases h
theorem mulAll_at {c : Nat} : ∀ {l l' : List Nat} {k a : Nat}, mulAll c l = some l' → l[k]? = some a → ∃ b, fmul a c = some b ∧ l'[k]? = some b
  | [], l', k, a, h, hk => by simp at hk
  | x :: r, l', k, a, h, hk => by
    unfold mulAll at h
    split at h
    · rename_i z y hz hy
      injection h with h
      subst h
      match k, hk with
      | 0, hk => obtain rfl : x = a := by simpa using hk
                 exact ⟨z, hz, rfl⟩
      | k + 1, hk =>
        obtain ⟨b, h1, h2⟩ := mulAll_at hy (by simpa using hk)
        exact ⟨b, h1, by simpa using h2⟩
    · cases h
theorem run_fadd {P : Program} {a b r : Nat} (h : fadd a b = some r) (t : TypeId) (w : World) : (binOp .add t (.float .f64 a) (.float .f64 b)).run P w = .ok (.float .f64 r) w := by
  have h2 : FloatKind.f64.format.add a b = some r := h
  simp [binOp, Op.floatArith, h2]
theorem run_fmul {P : Program} {a b r : Nat} (h : fmul a b = some r) (t : TypeId) (w : World) : (binOp .mul t (.float .f64 a) (.float .f64 b)).run P w = .ok (.float .f64 r) w := by
  have h2 : FloatKind.f64.format.mul a b = some r := h
  simp [binOp, Op.floatArith, h2]
theorem run_store_flt {P : Program} (a : Addr) (b : Nat) (m : Mode) (w : World) : (store a (.float .f64 b) m).run P w = stored P w a (.float .f64 b) m := run_store P w a _ m rfl
/-- rescaling: so many are done -/
def ScR (w : World) (tag : Nat → Tag) (p V : Nat) (y : SLay) (s : SS) (l0 l : List Nat) (iv : Value) (wr : World) : Prop :=
  ∃ i, iv = .int .i64 (i : Nat) ∧ i ≤ V + 1 ∧ Slv wr tag p V y { s with sc := l.take i ++ l0.drop i } ∧ Cg tag (Fr 16) w wr
theorem sc_step {l0 l : List Nat} {i b : Nat} (hl : l.length = l0.length) (hi : i < l0.length) (hb : l[i]? = some b) : (l.take i ++ l0.drop i).set i b = l.take (i + 1) ++ l0.drop (i + 1) := by
  have h1 : (l.take i).length = i := by rw [List.length_take]; omega
  rw [List.set_append_right _ _ (by omega), h1, Nat.sub_self, List.take_add_one, hb, List.drop_eq_getElem_cons hi, List.set_cons_zero]
  simp
attribute [local irreducible] wpSeq wpMv
set_option maxRecDepth 100000 in
set_option maxHeartbeats 8000000 in
theorem bump_any {s' : SS} {v : Nat} (h : Slv w tag p V y s) (hu : bumpM V s v = some s') (hV : V ≤ 400000) (hh : s.hp.length ≤ 1000000) :
    Calls Tryd.prog 47 #[.pointer (some ⟨p, 0, none⟩), .int .i64 (v : Nat)] w (StY w tag p V y s') := by
  unfold bumpM at hu
  split at hu
  · cases hu
  rename_i l g hbf
  dsimp only at hu
  split at hu
  · cases hu
  rename_i pv hpv
  unfold bumpF at hbf
  split at hbf
  · cases hbf
  rename_i a ha
  split at hbf
  · cases hbf
  rename_i b hb
  have hvV : v < V + 1 := by have := h.sl; have := (List.getElem?_eq_some_iff.1 ha).1; omega
  have hvI : (v : Int) < (V : Int) + 1 := by omega
  obtain ⟨vC, rows, gw, wrows, gv, gl, gr, vt, vL, gs, gp, vh, gP, vP, prows⟩ := y
  have c9 : w.cell? ⟨p, 9, none⟩ = some (.slice (some ⟨gs, 0, none⟩) (V + 1) (V + 1)) := h.blk.cell 9
  have c10 : w.cell? ⟨p, 10, none⟩ = some (.float .f64 s.gr) := h.blk.cell 10
  have ca : w.cell? ⟨gs, v, none⟩ = some (.float .f64 a) := h.sco.cell (f_at ha)
  have fa : w.frozen? ⟨gs, v, none⟩ = false := h.sco.frozen v
  have hadd := run_fadd (P := Tryd.prog) hb 67
  have hsf := run_store_flt (P := Tryd.prog) ⟨gs, v, none⟩ b
  obtain ⟨h0, a0⟩ := h.setSco v b
  have h1 := h0.drew
  have AA1 := a0.trans (cg_new (tag := tag) (S := Fr 16) (below_drewN (Below.refl _ (w.setCell ⟨gs, v, none⟩ (.float .f64 b))) 1))
  obtain ⟨W1, hW1⟩ : ∃ W1, (w.setCell ⟨gs, v, none⟩ (.float .f64 b)).drew = W1 := ⟨_, rfl⟩
  change Cg tag (Fr 16) w (w.setCell ⟨gs, v, none⟩ (.float .f64 b)).drew at AA1
  rw [hW1] at h1 AA1
  have hbv : (s.sc.set v b)[v]? = some b := by rw [List.getElem?_set_self (by have := h.sl; omega)]
  obtain ⟨q, hq⟩ : ∃ q, fgt b fBig = q := ⟨_, rfl⟩
  have HQQ := Lib.hid (show (FloatKind.f64.format.order b 6103021453049119613 == some Ordering.gt) = q from hq)
  have d9 : W1.cell? ⟨p, 9, none⟩ = some (.slice (some ⟨gs, 0, none⟩) (V + 1) (V + 1)) := h1.blk.cell 9
  have db : W1.cell? ⟨gs, v, none⟩ = some (.float .f64 b) := h1.sco.cell (f_at hbv)
  rw [hq] at hbf
  have H1 := Lib.hid h1
  have HA1 := Lib.hid AA1
  have HW1 := Lib.hid hW1
  have HBF := Lib.hid hbf
  have HU := Lib.hid (And.intro hpv hu)
  clear h h0 h1 a0 AA1 hW1 hbf hpv hu hbv hq ha hb
  have hqf := HQQ.out
  go_enter Tryd.func47, Tryd.ntmps47
  go_upto_region 0 with fail
  refine wp_region_mv (S := fun w' => w'.cell? ⟨p, 9, none⟩ = some (.slice (some ⟨gs, 0, none⟩) (V + 1) (V + 1)) ∧ w'.cell? ⟨p, 10, none⟩ = some (.float .f64 s.gr) ∧ w'.cell? ⟨gs, v, none⟩ = some (.float .f64 a)) 13 [.f 0, .f 1, .f 2, .f 3, .f 4, .f 5, .f 6, .f 7, .f 8, .f 9, .f 10, .f 11, .f 12, .t 13] (by kernel_rfl) (by kernel_rfl) (by kernel_rfl) (And.intro c9 (And.intro c10 ca)) ?_
  iterate 13 (refine mv_take _ _ rfl (by kernel_rfl) (fun wv hv => by obtain ⟨hv1, hv2, hv3⟩ := hv; go_simp; try with_reducible rfl) ?_; simp only [Act.put, List.getElem_toArray, List.getElem_cons_zero, List.getElem_cons_succ, List.setIfInBounds_toArray, List.set_cons_zero, List.set_cons_succ])
  refine mv_act _ rfl (fun K hK => ?_)
  go_simp
  go_simp
  refine hK _ _ (.inl rfl) ?_
  clear hK K
  refine mv_nil ?_
  go_upto_region 1 with fail
  rw [HW1.out]
  clear c9 c10 ca fa hadd hsf
  go_upto_if 25 with fail
  clear hqf d9 db
  go_cut [] (fun wx => Slv wx tag p V ⟨vC, rows, gw, wrows, gv, gl, gr, vt, vL, gs, gp, vh, gP, vP, prows⟩ { s with sc := l, gr := g } ∧ Cg tag (Fr 16) w wx)
  case first =>
    cases q with
    | false =>
      have hbf := HBF.out
      rw [if_neg (by simp)] at hbf
      injection hbf with hbf
      injection hbf with e1 e2
      subst e1
      subst e2
      go_wp2_with fail
      go_meet
      exact ⟨H1.out, HA1.out⟩
    | true =>
      have hbf := HBF.out
      rw [if_pos rfl] at hbf
      obtain ⟨l0, hl0⟩ : ∃ l0, s.sc.set v b = l0 := ⟨_, rfl⟩
      rw [hl0] at hbf
      have h1 := H1.out
      rw [hl0] at h1
      have hlen0 : l0.length = V + 1 := h1.sl
      split at hbf
      case h_2 => cases hbf
      rename_i l' g' hml hmg
      injection hbf with hbf
      injection hbf with e1 e2
      subst e1
      subst e2
      have hll := mulAll_len hml
      have HML := Lib.hid hml
      have HLL := Lib.hid hll
      have hmgr := run_fmul (P := Tryd.prog) (show fmul s.gr 3110860544497550640 = some g' from hmg) 67
      have HST := Lib.hid (show ScR w tag p V ⟨vC, rows, gw, wrows, gv, gl, gr, vt, vL, gs, gp, vh, gP, vP, prows⟩ s l0 l' (.int .i64 ((0 : Nat) : Int)) W1 from ⟨0, rfl, Nat.zero_le _, by rw [List.take_zero, List.drop_zero, List.nil_append]; exact h1, HA1.out⟩)
      have d9 : W1.cell? ⟨p, 9, none⟩ = some (.slice (some ⟨gs, 0, none⟩) (V + 1) (V + 1)) := h1.blk.cell 9
      clear hml hmg hll hl0 h1 HBF HQQ H1 HA1
      go_wp2_with fail
      go_loopw [31, 4] (fun iv _ wr => ScR w tag p V ⟨vC, rows, gw, wrows, gv, gl, gr, vt, vL, gs, gp, vh, gP, vP, prows⟩ s l0 l' iv wr) (fun iv _ _ => V + 1 - (intOf iv).toNat)
      case atStart => exact HST.out
      case round =>
        clear HST d9
        obtain ⟨i, e1, hi, hs, ha⟩ := hrel
        subst e1
        by_cases hiV : i < V + 1
        · have hiI : (i : Int) < (V : Int) + 1 := by omega
          obtain ⟨ai, hai⟩ : ∃ x, l0[i]? = some x := ⟨_, List.getElem?_eq_getElem (by omega)⟩
          obtain ⟨bi, hbi, hlbi⟩ := mulAll_at HML.out hai
          have hcur : (l'.take i ++ l0.drop i)[i]? = some ai := by
            have e1 : (l'.take i).length = i := by rw [List.length_take, HLL.out]; omega
            rw [List.getElem?_append_right (by omega), e1, Nat.sub_self, List.getElem?_drop, Nat.add_zero]; exact hai
          have d9 : wr.cell? ⟨p, 9, none⟩ = some (.slice (some ⟨gs, 0, none⟩) (V + 1) (V + 1)) := hs.blk.cell 9
          have dc : wr.cell? ⟨gs, i, none⟩ = some (.float .f64 ai) := hs.sco.cell (f_at hcur)
          have df : wr.frozen? ⟨gs, i, none⟩ = false := hs.sco.frozen i
          have hmi := run_fmul (P := Tryd.prog) (show fmul ai 3110860544497550640 = some bi from hbi) 67
          have hsf := run_store_flt (P := Tryd.prog) ⟨gs, i, none⟩ bi
          obtain ⟨h3, a3⟩ := hs.setSco i bi
          have hst := sc_step (by rw [HLL.out]) (by omega : i < l0.length) hlbi
          dsimp only at h3 a3
          rw [hst] at h3
          have HN := Lib.hid (show ScR w tag p V ⟨vC, rows, gw, wrows, gv, gl, gr, vt, vL, gs, gp, vh, gP, vP, prows⟩ s l0 l' (.int .i64 ((i + 1 : Nat) : Int)) (wr.setCell ⟨gs, i, none⟩ (.float .f64 bi)) from ⟨i + 1, rfl, by omega, h3, ha.trans a3⟩)
          clear hs ha hai hbi hlbi hcur h3 a3 hst
          go_wp2_with fail
          go_roundw
          case rel => exact HN.out
          case measure => simp [intOf]; omega
        · obtain rfl : i = V + 1 := by omega
          rw [List.take_of_length_le (by rw [HLL.out]; omega), List.drop_eq_nil_of_le (by omega), List.append_nil] at hs
          have d10 : wr.cell? ⟨p, 10, none⟩ = some (.float .f64 s.gr) := hs.blk.cell 10
          have f10 : wr.frozen? ⟨p, 10, none⟩ = false := hs.blk.frozen 10
          have hsf := run_store_flt (P := Tryd.prog) ⟨p, 10, none⟩ g'
          obtain ⟨h3, a3⟩ := hs.setGr g'
          have HE := Lib.hid (And.intro h3 (ha.trans a3))
          clear hs ha h3 a3
          go_wp2_with fail
          go_meet
          exact HE.out
  case rest =>
  obtain ⟨h5, a5⟩ := hcut
  obtain ⟨W5, hW5⟩ : ∃ W5, wc = W5 := ⟨_, rfl⟩
  rw [hW5] at h5 a5 ⊢
  clear hW5 HBF HQQ H1 HA1 HW1
  have d13 : W5.cell? ⟨p, 13, none⟩ = some (.slice (some ⟨gP, 0, none⟩) (V + 1) (V + 1)) := h5.blk.cell 13
  obtain ⟨hpv, hu⟩ := HU.out
  have dp : W5.cell? ⟨gP, v, none⟩ = some (.int .i64 pv) := h5.pla.cell (lit_at hpv)
  by_cases hp0 : 0 ≤ pv
  · rw [if_pos hp0] at hu
    obtain ⟨k, hk⟩ : ∃ k : Nat, pv = (k : Int) := ⟨pv.toNat, by omega⟩
    subst hk
    rw [Int.toNat_natCast] at hu
    have CU := Lib.hid (up_any h5 hu hV hh)
    have HA5 := Lib.hid a5
    clear hu hpv h5 a5 hp0 HU
    go_wp2_with fail
    refine CU.out.mono ?_
    rintro e w' ⟨rfl, hcg, hs⟩
    go_wp2_with fail
    go_end0
    exact ⟨rfl, HA5.out.trans hcg, hs⟩
  · rw [if_neg hp0] at hu
    injection hu with hu
    subst hu
    have hd : decide ((0 : Int) ≤ pv) = false := decide_eq_false hp0
    have HE := Lib.hid (show StY w tag p V ⟨vC, rows, gw, wrows, gv, gl, gr, vt, vL, gs, gp, vh, gP, vP, prows⟩ { s with sc := l, gr := g } (.returned (.tuple #[])) W5 from ⟨rfl, a5, h5⟩)
    clear hpv h5 a5 hp0 HU
    go_wp2_with fail
    go_end0
    exact HE.out
end
end Go.Proofs.YtaedbnbeelkkcaaDoor.slv
