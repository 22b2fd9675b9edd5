/-
  WALK of (*solver).spread.
-/
import Derived.Test.YtaedbnbeelkkcaaDoorNq
namespace Go.Proofs.YtaedbnbeelkkcaaDoor.slv
open Go.RowKit
theorem seekM_spec {vs : List Int} : ∀ {t : List Int} {j : Nat}, seekM vs t = some j → j ≤ t.length ∧ (∀ q z, q < j → t[q]? = some z → ofM vs z = some (-1)) ∧ (∀ z, t[j]? = some z → ∃ v, ofM vs z = some v ∧ v ≠ -1)
  | [], j, h => by
    unfold seekM at h
    injection h with h
    subst h
    exact ⟨Nat.le_refl _, fun q z hq => by omega, fun z hz => by simp at hz⟩
  | a :: r, j, h => by
    unfold seekM at h
    split at h
    · cases h
    rename_i x hx
    split at h
    · rename_i hx1
      subst hx1
      split at h
      · rename_i j' hj'
        injection h with h
        subst h
        obtain ⟨h1, h2, h3⟩ := seekM_spec hj'
        refine ⟨by simp; omega, fun q z hq hz => ?_, fun z hz => h3 z (by simpa using hz)⟩
        match q, hz with
        | 0, hz => obtain rfl : a = z := by simpa using hz
                   exact hx
        | q + 1, hz => exact h2 q z (by omega) (by simpa using hz)
      · cases h
    · rename_i hx1
      injection h with h
      subst h
      refine ⟨Nat.zero_le _, fun q z hq => by omega, fun z hz => ?_⟩
      obtain rfl : a = z := by simpa using hz
      exact ⟨x, hx, hx1⟩
theorem set_self {xs : List (List Int)} {k : Nat} {c : List Int} (h : xs[k]? = some c) : xs.set k c = xs := by
  obtain ⟨h1, h2⟩ := List.getElem?_eq_some_iff.1 h
  rw [← h2]; exact List.set_getElem_self h1
section
variable {w wr w' : World} {tag tag1 : Nat → Tag} {p V im : Nat} {l kept : List Nat} {lw : Value} {y1 : SLay} {s1 : SS}
/-- two of a clause's numbers -/
theorem SpM.two {k g m c : Nat} {x : List Int} (h : SpM w tag p V im l lw kept wr tag1 y1 s1) (hx : s1.xs[k]? = some x) (hu : y1.rows[k]? = some (.slice (some ⟨g, 0, none⟩) m c)) (hm : x.length = m) (i j : Nat) (zi zj : Int) {x' : List Int} (hx' : (x.set i zi).set j zj = x') :
    SpM w tag p V im l lw kept ((wr.setCell ⟨g, i, none⟩ (.int .i64 zi)).setCell ⟨g, j, none⟩ (.int .i64 zj)).drew tag1 y1 { s1 with xs := s1.xs.set k x' } := by
  have hlt := (List.getElem?_eq_some_iff.1 hx).1
  have h1 := h.setX hx hu hm i zi
  have h2 := h1.setX (k := k) (x := x.set i zi) (by show (s1.xs.set k _)[k]? = _; rw [List.getElem?_set_self hlt]) hu (by rw [List.length_set]; exact hm) j zj
  have h3 := h2.new (below_drewN (Below.refl _ _) 1)
  dsimp only at h3
  rw [List.set_set, hx'] at h3
  exact h3
theorem SpM.cap {g c : Nat} (h : SpM w tag p V im l lw kept wr tag1 y1 s1) (hlw : lw = .slice (some ⟨g, 0, none⟩) l.length c) : l.length ≤ c ∧ c ≤ maxLen := by
  have hr := h.row
  rw [hlw] at hr
  rcases (h.slv.wts im _ hr).own.2 with ⟨h0, h1⟩ | ⟨g', c', cur, hv', _, _, hle, hm, _⟩
  · cases h0
  · injection hv' with _ e2 e3; subst e3; omega
/-- the clause's own cells -/
theorem SpM.cells {k g m c : Nat} {x : List Int} (h : SpM w tag p V im l lw kept wr tag1 y1 s1) (hx : s1.xs[k]? = some x) (hu : y1.rows[k]? = some (.slice (some ⟨g, 0, none⟩) m c)) (hm : x.length = m) {j : Nat} {z : Int} (hz : x[j]? = some z) : wr.cell? ⟨g, j, none⟩ = some (.int .i64 z) ∧ wr.frozen? ⟨g, j, none⟩ = false := by
  have h1 := h.slv.cls k x _ hx hu
  have hlt := (List.getElem?_eq_some_iff.1 hz).1
  obtain ⟨g', c', hv, _, hcel⟩ := h1.at_ (by rw [litVals_len]; omega)
  injection hv with e1 _ _
  injection e1 with e1
  injection e1 with e1
  subst e1
  exact ⟨hcel.cell (lit_at hz), hcel.frozen j⟩
end
section
variable {w : World} {tag : Nat → Tag} {p V : Nat} {y : SLay} {s : SS}
def rvK : Option Nat → Int
  | none => -1
  | some k => k
def SprO (w : World) (tag : Nat → Tag) (p V : Nat) (r : Option Nat) (s' : SS) (k : Nat) (wr : World) : Prop :=
  ∃ s1 tag1 y1, sprL V k s1 = some (r, s') ∧ Slv wr tag1 p V y1 s1 ∧ Re w tag tag1 ∧ Cg tag (Fr 16) w wr
def SprP (w : World) (tag : Nat → Tag) (p V : Nat) (r : Option Nat) (s : SS) (e : Ending) (w' : World) : Prop :=
  e = .returned (.int .i64 (rvK r)) ∧ ∃ tag' y', Re w tag tag' ∧ Cg tag (Fr 16) w w' ∧ Slv w' tag' p V y' s
def SprI (w : World) (tag : Nat → Tag) (p V im : Nat) (n : Int) (l : List Nat) (Al : Option Addr) (cl : Nat) (R : Spr) (iv kv : Value) (wr : World) : Prop :=
  ∃ i kept s2 tag2 y2, iv = .int .i64 (i : Nat) ∧ kv = .slice Al kept.length cl ∧ kept.length ≤ i ∧ i ≤ l.length ∧ SpM w tag p V im l (.slice Al l.length cl) kept wr tag2 y2 s2 ∧ sprI V n (l.drop i) kept s2 = some R
theorem upd_self (wt : Nat → List Nat) (i : Nat) : upd wt i ([] ++ (wt i).drop ([] : List Nat).length) = wt := by
  funext j
  unfold upd
  by_cases h : j = i
  · rw [if_pos h, h]; rfl
  · rw [if_neg h]
theorem ix_lt {V : Nat} {n : Int} (h : n.natAbs ≤ V) : ix n < 2 * V + 2 := by unfold ix; split <;> omega
attribute [local irreducible] wpSeq wpMv
set_option maxRecDepth 100000 in
set_option maxHeartbeats 16000000 in
theorem spread_any {s' : SS} {r : Option Nat} (h : Slv w tag p V y s) (hu : spreadM V s = some (r, s')) (hV : V ≤ 400000) :
    Calls Tryd.prog 28 #[.pointer (some ⟨p, 0, none⟩)] w (SprP w tag p V r s') := by
  obtain ⟨i0, hi0, hz0, hz1, hz2⟩ := info_parts info_int
  have HI := Lib.hid (And.intro hi0 (And.intro hz0 (And.intro hz1 hz2)))
  clear hi0 hz0 hz1 hz2
  unfold spreadM at hu
  have HST := Lib.hid (show SprO w tag p V r s' (V + 2) w from ⟨s, tag, y, hu, h, Re.refl _ _, Chg.refl _ w⟩)
  clear h hu
  go_enter Tryd.func28, Tryd.ntmps28
  go_wp2_with fail
  go_loopg [3] (V + 2) (fun k _ wr => SprO w tag p V r s' k wr)
  case atStart => exact HST.out
  case round =>
    clear HST
    obtain ⟨s1, tag1, y1, hu, hs, hre, hcg⟩ := hrel
    have HRE := Lib.hid hre
    have HCG := Lib.hid hcg
    clear hre hcg
    cases gk with
    | zero => cases hu
    | succ f =>
    unfold sprL at hu
    obtain ⟨nt, hnt⟩ : ∃ nt, s1.tr.length = nt := ⟨_, rfl⟩
    obtain ⟨hd, hhd⟩ : ∃ hd, s1.hd = hd := ⟨_, rfl⟩
    obtain ⟨vC, rows, gw, wrows, gv, gl, gr, vt, vL, gs, gp, vh, gP, vP, prows⟩ := y1
    obtain ⟨At, ct, hvt⟩ := hs.trl.form
    rw [litVals_len, hnt] at hvt
    dsimp only at hvt
    subst hvt
    have c6 : wr.cell? ⟨p, 6, none⟩ = some (.slice At nt ct) := hs.blk.cell 6
    have c8 : wr.cell? ⟨p, 8, none⟩ = some (.int .i64 (hd : Nat)) := by rw [← hhd]; exact hs.blk.cell 8
    rw [hhd, hnt] at hu
    by_cases hlt : hd < nt
    · obtain ⟨t, ht⟩ : ∃ t, s1.tr[hd]? = some t := ⟨_, List.getElem?_eq_getElem (by omega)⟩
      rw [ht] at hu
      dsimp only at hu
      split at hu
      case isFalse => cases hu
      rename_i htV
      obtain ⟨gt, hAt⟩ : ∃ gt, At = some ⟨gt, 0, none⟩ := by
        obtain ⟨g', c', hv, _, _⟩ := hs.trl.at_ (by rw [litVals_len, hnt]; omega)
        injection hv with e1; exact ⟨g', e1⟩
      subst hAt
      have ctr : wr.cell? ⟨gt, hd, none⟩ = some (.int .i64 t) := Row.cell (xs := litVals s1.tr) (c := ct) (by rw [litVals_len, hnt]; exact hs.trl) (lit_at ht)
      obtain ⟨n, hn⟩ : ∃ n, -t = n := ⟨_, rfl⟩
      rw [hn] at hu
      have hnV : n.natAbs ≤ V := by omega
      have w1 : IntKind.i64.wrap (-t) = n := by rw [IntKind.wrap_i64]; omega
      have hdI : (hd : Int) < (nt : Int) := by omega
      have hnt5 : nt ≤ 9223372036854775807 := by
        rcases hs.trl.own.2 with ⟨h0, h1⟩ | ⟨g', c', cur, hv', _, _, hle, hm, _⟩
        · cases h0
        · rw [litVals_len, hnt] at hle; unfold maxLen at hm; omega
      have w2 : IntKind.i64.wrap ((hd : Int) + 1) = ((hd + 1 : Nat) : Int) := by rw [IntKind.wrap_i64]; omega
      obtain ⟨im, him⟩ : ∃ im, ix n = im := ⟨_, rfl⟩
      rw [him] at hu
      have himV : im < 2 * V + 2 := by rw [← him]; exact ix_lt hnV
      have himI : (im : Int) < 2 * (V : Int) + 2 := by omega
      obtain ⟨l, hl⟩ : ∃ l, s1.wt im = l := ⟨_, rfl⟩
      have hl1 : ({ s1 with hd := hd + 1 } : SS).wt im = l := hl
      rw [hl] at hu
      obtain ⟨u, hu0⟩ : ∃ u, wrows[im]? = some u := ⟨_, List.getElem?_eq_getElem (by have := hs.wlen; dsimp only at this; omega)⟩
      have hrw := hs.wts im u hu0
      rw [hl] at hrw
      obtain ⟨Al, cl, hvu⟩ := hrw.form
      rw [kVals_len] at hvu
      subst hvu
      have CI := Lib.hid (fun (w' : World) => index_any (w := w') (n := n) (by omega))
      rw [him] at CI
      have HS := Lib.hid hs
      obtain ⟨RR, hRR⟩ : ∃ RR, sprI V n l [] { s1 with hd := hd + 1 } = some RR := by
        cases hr : sprI V n l [] { s1 with hd := hd + 1 } with
        | none => rw [hr] at hu; cases hu
        | some RR => exact ⟨RR, rfl⟩
      rw [hRR] at hu
      have HRR := Lib.hid (show sprI V n (l.drop 0) [] { s1 with hd := hd + 1 } = some RR by rw [List.drop_zero]; exact hRR)
      have HU := Lib.hid hu
      clear hRR
      have HU0 := Lib.hid hu0
      have HL := Lib.hid hl
      have HRW := Lib.hid hrw
      have HIM := Lib.hid him
      have HD1 := Lib.hid hhd
      clear hs hu hu0 hl hl1 hrw him ht hn htV hhd hnt
      go_upto_region 1 with fail
      go_quiet (fail)
      obtain ⟨wa, hwa⟩ : ∃ wa, wr.drewN nq = wa := ⟨_, rfl⟩
      have HSA := Lib.hid (show Slv wa tag1 p V ⟨vC, rows, gw, wrows, gv, gl, gr, .slice (some ⟨gt, 0, none⟩) nt ct, vL, gs, gp, vh, gP, vP, prows⟩ s1 by rw [← hwa]; exact HS.out.drewN nq)
      have HCA := Lib.hid (show Cg tag (Fr 16) w wa by rw [← hwa]; exact HCG.out.trans (cg_new (below_drewN (Below.refl _ wr) nq)))
      have a6 : wa.cell? ⟨p, 6, none⟩ = some (.slice (some ⟨gt, 0, none⟩) nt ct) := by rw [← hwa]; exact c6
      have a8 : wa.cell? ⟨p, 8, none⟩ = some (.int .i64 (hd : Nat)) := by rw [← hwa]; exact c8
      have atr : wa.cell? ⟨gt, hd, none⟩ = some (.int .i64 t) := by rw [← hwa]; exact ctr
      rw [hwa]
      clear hwa c6 c8 ctr HS HCG
      go_upto_region 2 with fail
      go_quiet (fail)
      obtain ⟨wb, hwb⟩ : ∃ wb, wa.drewN nq = wb := ⟨_, rfl⟩
      have hsb : Slv wb tag1 p V ⟨vC, rows, gw, wrows, gv, gl, gr, .slice (some ⟨gt, 0, none⟩) nt ct, vL, gs, gp, vh, gP, vP, prows⟩ s1 := by rw [← hwb]; exact HSA.out.drewN nq
      have hcb : Cg tag (Fr 16) w wb := by rw [← hwb]; exact HCA.out.trans (cg_new (below_drewN (Below.refl _ wa) nq))
      have b8 : wb.cell? ⟨p, 8, none⟩ = some (.int .i64 (hd : Nat)) := by rw [← hwb]; exact a8
      have f8 : wb.frozen? ⟨p, 8, none⟩ = false := hsb.blk.frozen 8
      rw [hwb]
      clear hwb a6 a8 atr HSA HCA
      obtain ⟨hs3, a3⟩ := hsb.setHd (hd + 1)
      obtain ⟨W3, hW3⟩ : ∃ W3, wb.setCell ⟨p, 8, none⟩ (.int .i64 ((hd : Int) + 1)) = W3 := ⟨_, rfl⟩
      change Slv (wb.setCell ⟨p, 8, none⟩ (.int .i64 ((hd : Int) + 1))) tag1 p V _ _ at hs3
      change Cg tag1 (Fr 16) wb (wb.setCell ⟨p, 8, none⟩ (.int .i64 ((hd : Int) + 1))) at a3
      rw [hW3] at hs3 a3
      have HCG := Lib.hid (hcb.trans_ a3 HRE.out)
      have c2 : W3.cell? ⟨p, 2, none⟩ = some (.slice (some ⟨gw, 0, none⟩) (2 * V + 2) (2 * V + 2)) := hs3.blk.cell 2
      have cw : W3.cell? ⟨gw, im, none⟩ = some (.slice Al l.length cl) := hs3.whd.cell HU0.out
      have HS := Lib.hid hs3
      have HW3 := Lib.hid hW3
      clear hsb hcb hs3 a3 hW3
      go_upto_region 4 with fail
      rw [HW3.out]
      clear b8 f8
      go_quiet ((go_at_call 45; with_reducible exact quiet_left (CI.out _)))
      obtain ⟨wd, hwd⟩ : ∃ wd, W3.drewN nq = wd := ⟨_, rfl⟩
      have HST := Lib.hid (show SprI w tag p V im n l Al cl RR (.int .i64 ((0 : Nat) : Int)) (.slice Al 0 cl) wd from
        ⟨0, [], { s1 with hd := hd + 1 }, tag1, ⟨vC, rows, gw, wrows, gv, gl, gr, .slice (some ⟨gt, 0, none⟩) nt ct, vL, gs, gp, vh, gP, vP, prows⟩, rfl, rfl, Nat.le_refl _, Nat.zero_le _, ⟨by
          have := HS.out.drewN nq
          rw [hwd] at this
          have e : upd s1.wt im ([] ++ l.drop ([] : List Nat).length) = s1.wt := by rw [← HL.out]; exact upd_self _ _
          show Slv wd tag1 p V _ { s1 with hd := hd + 1, wt := upd s1.wt im ([] ++ l.drop ([] : List Nat).length) }
          rw [e]; exact this, HU0.out, HRE.out, by rw [← hwd]; exact HCG.out.trans (cg_new (below_drewN (Below.refl _ W3) nq)), HL.out⟩, HRR.out⟩)
      rw [hwd]
      clear hwd HS HCG HW3 c2 cw
      have hcl0 : (0 : Int) ≤ (cl : Int) := by omega
      go_upto_region 6 with fail
      go_wp2_with fail
      go_loopw [50, 5] (fun iv kv wr => SprI w tag p V im n l Al cl RR iv kv wr) (fun iv _ _ => l.length - (intOf iv).toNat)
      case atStart => exact HST.out
      case round =>
        clear HST
        obtain ⟨i, kept, s2, tag2, y2, e1, e2, hki, hil, hM, hsp⟩ := hrel
        subst e1
        subst e2
        obtain ⟨vC2, rows2, gw2, wrows2, gv2, gl2, gr2, vt2, vL2, gs2, gp2, vh2, gP2, vP2, prows2⟩ := y2
        by_cases hi : i < l.length
        · have hiI : (i : Int) < (l.length : Int) := by omega
          obtain ⟨k, hk⟩ : ∃ k, l[i]? = some k := ⟨_, List.getElem?_eq_getElem hi⟩
          obtain ⟨rest, hrest⟩ : ∃ rest, l.drop (i + 1) = rest := ⟨_, rfl⟩
          have hdr : l.drop i = k :: rest := by rw [← hrest, List.drop_eq_getElem_cons hi]; congr 1; rw [List.getElem?_eq_getElem hi] at hk; injection hk
          rw [hdr] at hsp
          unfold sprI at hsp
          obtain ⟨gl, hAl⟩ : ∃ gl, Al = some ⟨gl, 0, none⟩ := by
            obtain ⟨g', c', hv, _, _⟩ := (hM.slv.wts im _ hM.row).at_ (by
              show 0 < (kVals (upd s2.wt im (kept ++ l.drop kept.length) im)).length
              unfold upd
              rw [if_pos rfl, kVals_len, kept_len (by omega)]; omega)
            injection hv with e1; exact ⟨g', e1⟩
          subst hAl
          have cl1 := hM.at_ rfl hki hk
          obtain ⟨hlc, hcm⟩ := hM.cap rfl
          obtain ⟨R1, hR1⟩ : ∃ R1, spr1 V n k rest kept s2 = some R1 := by
            cases hr : spr1 V n k rest kept s2 with
            | none => rw [hr] at hsp; cases hsp
            | some R1 => exact ⟨R1, rfl⟩
          rw [hR1] at hsp
          unfold spr1 at hR1
          split at hR1
          · cases hR1
          rename_i c0 hc0
          split at hR1
          case h_2 => cases hR1
          rename_i a b tl hsw
          obtain ⟨x0, x1, t0, hc00⟩ : ∃ x0 x1 t0, c0 = x0 :: x1 :: t0 := by
            match c0, hsw with
            | x0 :: x1 :: t0, _ => exact ⟨x0, x1, t0, rfl⟩
          subst hc00
          obtain ⟨m, hm⟩ : ∃ m, tl.length + 2 = m := ⟨_, rfl⟩
          have ht0 : tl = t0 ∧ ((x0 = n ∧ a = x1 ∧ b = x0) ∨ (x0 ≠ n ∧ a = x0 ∧ b = x1)) := by
            unfold swap2 at hsw
            dsimp only at hsw
            by_cases h0 : x0 = n
            · rw [if_pos h0] at hsw
              injection hsw with e1 e2
              injection e2 with e2 e3
              exact ⟨e3.symm, .inl ⟨h0, e1.symm, e2.symm⟩⟩
            · rw [if_neg h0] at hsw
              injection hsw with e1 e2
              injection e2 with e2 e3
              exact ⟨e3.symm, .inr ⟨h0, e1.symm, e2.symm⟩⟩
          obtain ⟨ht0, hab⟩ := ht0
          subst ht0
          have hml : (x0 :: x1 :: tl).length = m := by simp; omega
          have hkx := (List.getElem?_eq_some_iff.1 hc0).1
          obtain ⟨cv, hcv⟩ : ∃ cv, rows2[k]? = some cv := ⟨_, List.getElem?_eq_getElem (by have h9 := hM.slv.rlen; dsimp only at h9; omega)⟩
          have hrowk := hM.slv.cls k _ _ hc0 hcv
          obtain ⟨gc, cc, hcvv, _, _⟩ := hrowk.at_ (by rw [litVals_len]; simp)
          rw [litVals_len, hml] at hcvv
          subst hcvv
          have hmb : m ≤ 9223372036854775807 := by
            rcases hrowk.own.2 with ⟨h0, h1⟩ | ⟨g', c', cur, hv', _, _, hle, hm', _⟩
            · cases h0
            · rw [litVals_len, hml] at hle; unfold maxLen at hm'; omega
          obtain ⟨gC, cC, hvC2, _, hcelC⟩ := hM.slv.hdr.at_ (by show 0 < rows2.length; have := (List.getElem?_eq_some_iff.1 hcv).1; omega)
          dsimp only at hvC2
          obtain ⟨nx, hnx⟩ : ∃ nx, rows2.length = nx := ⟨_, rfl⟩
          rw [hnx] at hvC2
          subst hvC2
          have cC1 : wr.cell? ⟨p, 1, none⟩ = some (.slice (some ⟨gC, 0, none⟩) nx cC) := hM.slv.blk.cell 1
          have cCk : wr.cell? ⟨gC, k, none⟩ = some (.slice (some ⟨gc, 0, none⟩) m cc) := hcelC.cell hcv
          obtain ⟨cx0, fx0⟩ := hM.cells hc0 hcv hml (j := 0) rfl
          obtain ⟨cx1, fx1⟩ := hM.cells hc0 hcv hml (j := 1) rfl
          have hknx : k < nx := by have := (List.getElem?_eq_some_iff.1 hcv).1; omega
          have hkI : (k : Int) < (nx : Int) := by omega
          have hm2 : 2 ≤ m := by omega
          have m0 : (0 : Int) < (m : Int) := by omega
          have m1 : (1 : Int) < (m : Int) := by omega
          have HM2 := Lib.hid hM
          have HR1 := Lib.hid hR1
          have HSP := Lib.hid hsp
          have HC0 := Lib.hid (And.intro hc0 (And.intro hcv hml))
          have HAB := Lib.hid hab
          have HKI := Lib.hid (And.intro hki (And.intro hk hrest))
          have HLC := Lib.hid (And.intro hlc hcm)
          have wi : IntKind.i64.wrap ((i : Int) + 1) = ((i + 1 : Nat) : Int) := by unfold maxLen at hcm; rw [IntKind.wrap_i64]; omega
          have HMT := Lib.hid hm
          have HMB := Lib.hid (show m ≤ 9223372036854775807 from hmb)
          clear hmb hM hR1 hsp hc0 hcv hml hab hki hk hrest hlc hcm hm hdr hsw hrowk hcelC hkx hnx
          go_upto_if 66 with fail
          go_cut [] (fun wx => ∃ wz, wz = wx ∧ SpM w tag p V im l (.slice (some ⟨gl, 0, none⟩) l.length cl) kept wz tag2 ⟨.slice (some ⟨gC, 0, none⟩) nx cC, rows2, gw2, wrows2, gv2, gl2, gr2, vt2, vL2, gs2, gp2, vh2, gP2, vP2, prows2⟩ { s2 with xs := s2.xs.set k (a :: b :: tl) })
          case first =>
            as_aux_lemma =>
            rcases HAB.out with ⟨h0, ha, hb⟩ | ⟨h0, ha, hb⟩
            · subst h0
              subst ha
              subst hb
              have htt : ((b : Int) == b) = true := by simp
              have E1 := Lib.hid (HM2.out.two HC0.out.1 HC0.out.2.1 HC0.out.2.2 0 1 a b (x' := a :: b :: tl) rfl)
              have E2 := Lib.hid (HM2.out.two HC0.out.1 HC0.out.2.1 HC0.out.2.2 1 0 b a (x' := a :: b :: tl) rfl)
              go_wp2_with fail
              go_region
              all_goals go_wp2
              all_goals go_meet
              all_goals first
                | exact ⟨_, rfl, E1.out⟩
                | exact ⟨_, rfl, E2.out⟩
            · subst ha
              subst hb
              have htt : ((a : Int) == n) = false := by simp [h0]
              have E1 := Lib.hid (show SpM w tag p V im l (.slice (some ⟨gl, 0, none⟩) l.length cl) kept wr tag2 ⟨.slice (some ⟨gC, 0, none⟩) nx cC, rows2, gw2, wrows2, gv2, gl2, gr2, vt2, vL2, gs2, gp2, vh2, gP2, vP2, prows2⟩ { s2 with xs := s2.xs.set k (a :: b :: tl) } by rw [set_self HC0.out.1]; exact HM2.out)
              clear h0
              go_wp2_with fail
              go_meet
              exact ⟨_, rfl, E1.out⟩
          case rest =>
          obtain ⟨wz, hwz, hM3⟩ := hcut
          subst hwz
          clear cx0 fx0 cx1 fx1 cC1 cCk cl1 HM2
          have hR1 := HR1.out
          dsimp only at hR1
          split at hR1
          · cases hR1
          rename_i x hx
          have C1 := Lib.hid (of_any hM3.slv (n := a) (x := x) hx hV)
          have hx3 : ({ s2 with xs := s2.xs.set k (a :: b :: tl) } : SS).xs[k]? = some (a :: b :: tl) := by
            show (s2.xs.set k _)[k]? = _
            rw [List.getElem?_set_self (List.getElem?_eq_some_iff.1 HC0.out.1).1]
          have hml3 : (a :: b :: tl).length = m := by have := HMT.out; simp; omega
          have HXC := Lib.hid (fun (j : Nat) (z : Int) (hz : (a :: b :: tl)[j]? = some z) => hM3.cells hx3 HC0.out.2.1 hml3 hz)
          have cx0 := (HXC.out 0 a rfl).1
          have HM3 := Lib.hid hM3
          have HX3 := Lib.hid (And.intro hx3 (And.intro hml3 hx))
          clear hM3 hx3 hml3 hx HR1
          by_cases hx1 : x = 1
          · as_aux_lemma =>
            subst hx1
            rw [if_pos rfl] at hR1
            injection hR1 with hR1
            subst hR1
            have hsp := HSP.out
            dsimp only at hsp
            have HSP2 := Lib.hid hsp
            obtain ⟨hki, hk, hrest⟩ := HKI.out
            obtain ⟨hlc, hcm⟩ := HLC.out
            obtain ⟨kl, hkl⟩ : ∃ kl, kept.length = kl := ⟨_, rfl⟩
            obtain ⟨W0, hW0⟩ : ∃ W0, wz.alloc (.cells #[.int .i64 (k : Nat)] 3) = W0 := ⟨_, rfl⟩
            have hA := HM3.out.new ((Below.refl _ wz).alloc (Nat.le_refl _) (.cells #[.int .i64 (k : Nat)] 3))
            have hbn : (wz.alloc (.cells #[.int .i64 (k : Nat)] 3)).cell? ⟨wz.heap.size, 0, none⟩ = some (.int .i64 (k : Nat)) := (Blk.new wz 3 #[.int .i64 (k : Nat)]).cell 0
            obtain ⟨sp1, sp2⟩ := hA.spare rfl (by omega) (j := kept.length) (by omega)
            rw [hkl] at sp1 sp2
            have hrz := fun ty => run_keep (cu := cl) (k := k) ty sp1 sp2 (by omega) hbn
            have hA2 := hA.keep_ (k := k) rfl (by omega)
            rw [hkl] at hA2
            have HA2 := Lib.hid hA2
            have HKL := Lib.hid hkl
            clear hA hbn sp1 sp2 hA2 hW0
            rw [hkl]
            clear hsp HSP
            have HN := Lib.hid (show SprI w tag p V im n l (some ⟨gl, 0, none⟩) cl RR (.int .i64 ((i + 1 : Nat) : Int)) (.slice (some ⟨gl, 0, none⟩) (kl + 1) cl) ((wz.alloc (.cells #[.int .i64 (k : Nat)] 3)).setCell ⟨gl, kl, none⟩ (.int .i64 (k : Nat))) from
              ⟨i + 1, kept ++ [k], _, _, _, rfl, by rw [List.length_append, HKL.out]; rfl, by rw [List.length_append, List.length_singleton]; omega, by omega, HA2.out, by rw [hrest]; exact HSP2.out⟩)
            clear hki hk hrest hlc hcm hkl
            go_wp2_with fail
            refine C1.out.mono ?_
            rintro e w' ⟨rfl, rfl⟩
            go_wp2_with (first | (at_builtin; refine Lib.wpList_append_run _ rfl _ _ _ _ rfl _ _ rfl rfl _ _ (hrz _) ?_) | fail)
            go_roundw
            case rel => exact HN.out
            case measure => simp [intOf]; omega
          · rw [if_neg hx1] at hR1
            split at hR1
            · cases hR1
            rename_i j0 hj0
            obtain ⟨hjl, hjb, hjn⟩ := seekM_spec hj0
            have hxn : ((x : Int) == 1) = false := by simp [hx1]
            have HR2 := Lib.hid hR1
            have HJ := Lib.hid (And.intro hjl (And.intro hjb hjn))
            have HX1 := Lib.hid hx1
            clear hR1 hj0 hjl hjb hjn hx1
            go_wp2_with fail
            refine C1.out.mono ?_
            rintro e w' ⟨rfl, rfl⟩
            go_wp2_with fail
            go_loop [9] (fun jv => ∃ j : Nat, jv = .int .i64 (j : Nat) ∧ 2 ≤ j ∧ j ≤ j0 + 2) (fun jv => j0 + 2 - (intOf jv).toNat)
            case atStart => exact ⟨2, rfl, Nat.le_refl _, by omega⟩
            case round =>
              obtain ⟨j, e1, hj2, hjj⟩ := hrel
              subst e1
              by_cases hjlt : j < j0 + 2
              · as_aux_lemma =>
                obtain ⟨q, hq⟩ : ∃ q, j = q + 2 := ⟨j - 2, by omega⟩
                obtain ⟨z, hz⟩ : ∃ z, tl[q]? = some z := ⟨_, List.getElem?_eq_getElem (by have := HJ.out.1; omega)⟩
                have hof := HJ.out.2.1 q z (by omega) hz
                have cz := (HXC.out j z (by rw [hq]; exact hz)).1
                have Cz := Lib.hid (of_any HM3.out.slv (n := z) (x := -1) hof hV)
                have jI : (j : Int) < (m : Int) := by have := HJ.out.1; have := HMT.out; omega
                have w5 : IntKind.i64.wrap ((j : Int) + 1) = ((j + 1 : Nat) : Int) := by have := HJ.out.1; have := HMT.out; have := HMB.out; rw [IntKind.wrap_i64]; omega
                have HQ := Lib.hid (show j + 1 ≤ j0 + 2 by omega)
                clear hq hz hof
                go_wp2_with fail
                refine Cz.out.mono ?_
                rintro e w' ⟨rfl, rfl⟩
                go_wp2_with fail
                go_round
                case rel => exact ⟨j + 1, by go_num, by omega, HQ.out⟩
                case measure => simp [intOf]; omega
              · obtain rfl : j = j0 + 2 := by omega
                have hR2 := HR2.out
                cases htz : tl[j0]? with
                | some z =>
                  as_aux_lemma =>
                  rw [htz] at hR2
                  dsimp only at hR2
                  split at hR2
                  case isFalse => cases hR2
                  rename_i hzc
                  injection hR2 with hR2
                  subst hR2
                  have hsp := HSP.out
                  dsimp only at hsp
                  obtain ⟨v, hv, hv1⟩ := HJ.out.2.2 z htz
                  have hjl := HJ.out.1
                  have hjlt2 : j0 < tl.length := (List.getElem?_eq_some_iff.1 htz).1
                  obtain ⟨cz, fz⟩ := HXC.out (j0 + 2) z (by exact htz)
                  obtain ⟨cb, fb⟩ := HXC.out 1 b rfl
                  have Cz := Lib.hid (of_any HM3.out.slv (n := z) (x := v) hv hV)
                  have jI : ((j0 + 2 : Nat) : Int) < (m : Int) := by have := HMT.out; omega
                  have jI2 : (j0 : Int) + 2 < (m : Int) := by omega
                  have jI0 : (0 : Int) ≤ (j0 : Int) + 2 := by omega
                  have hvn : ((v : Int) == -1) = false := by simp [hv1]
                  have E1 := Lib.hid (HM3.out.two HX3.out.1 HC0.out.2.1 HX3.out.2.1 1 (j0 + 2) z b (x' := a :: z :: tl.set j0 b) rfl)
                  have E2 := Lib.hid (HM3.out.two HX3.out.1 HC0.out.2.1 HX3.out.2.1 (j0 + 2) 1 b z (x' := a :: z :: tl.set j0 b) rfl)
                  have hj1 : j0 + 2 ≠ 1 := by omega
                  have hj1' : 1 ≠ j0 + 2 := by omega
                  have HSP2 := Lib.hid hsp
                  have HZC := Lib.hid hzc
                  have HTZ := Lib.hid (And.intro htz hjlt2)
                  clear hsp hv hv1 hjl htz hjlt2 hzc HSP HR2
                  go_wp2_with fail
                  refine Cz.out.mono ?_
                  rintro e w' ⟨rfl, rfl⟩
                  go_upto_region 18 with fail
                  go_cut [] (fun wx => ∃ wm, wm = wx ∧ SpM w tag p V im l (.slice (some ⟨gl, 0, none⟩) l.length cl) kept wm tag2 ⟨.slice (some ⟨gC, 0, none⟩) nx cC, rows2, gw2, wrows2, gv2, gl2, gr2, vt2, vL2, gs2, gp2, vh2, gP2, vP2, prows2⟩ { s2 with xs := s2.xs.set k (a :: z :: tl.set j0 b) })
                  case first =>
                    as_aux_lemma =>
                    go_region
                    all_goals go_wp2
                    all_goals go_meet
                    all_goals first
                      | exact ⟨_, rfl, by
                          have h9 := E1.out
                          try dsimp only at h9
                          rw [List.set_set] at h9
                          exact h9⟩
                      | exact ⟨_, rfl, by
                          have h9 := E2.out
                          try dsimp only at h9
                          rw [List.set_set] at h9
                          exact h9⟩
                  case rest =>
                  obtain ⟨wm, hwm, hM4⟩ := hcut
                  subst hwm
                  clear cz fz cb fb E1 E2 cx0
                  obtain ⟨hzV, hzi, hzl⟩ := HZC.out
                  obtain ⟨iy, hiy⟩ : ∃ iy, ix z = iy := ⟨_, rfl⟩
                  rw [hiy] at hzi hzl
                  have hine : iy ≠ im := by rw [← HIM.out]; exact hzi
                  have hiyV : iy < 2 * V + 2 := by rw [← hiy]; exact ix_lt hzV
                  have hiyI : (iy : Int) < 2 * (V : Int) + 2 := by omega
                  obtain ⟨uy, huy⟩ : ∃ u, wrows2[iy]? = some u := ⟨_, List.getElem?_eq_getElem (by have h9 := hM4.slv.wlen; dsimp only at h9; omega)⟩
                  obtain ⟨lw, hlw⟩ : ∃ lw, s2.wt iy = lw := ⟨_, rfl⟩
                  have hry : Row wm tag2 (5, (iy : Int)) 0 3 uy (kVals lw) := by
                    have h9 := hM4.slv.wts iy uy huy
                    have e : upd s2.wt im (kept ++ l.drop kept.length) iy = lw := by unfold upd; rw [if_neg hine]; exact hlw
                    dsimp only at h9
                    rw [e] at h9
                    exact h9
                  rw [hlw] at hzl
                  obtain ⟨Au, cu, hvu⟩ := hry.form
                  rw [kVals_len] at hvu
                  subst hvu
                  have CY := Lib.hid (fun (w' : World) => index_any (w := w') (n := z) (by omega))
                  rw [hiy] at CY
                  have hx4 : ({ s2 with xs := s2.xs.set k (a :: z :: tl.set j0 b) } : SS).xs[k]? = some (a :: z :: tl.set j0 b) := by
                    show (s2.xs.set k _)[k]? = _
                    rw [List.getElem?_set_self (List.getElem?_eq_some_iff.1 HC0.out.1).1]
                  have hml4 : (a :: z :: tl.set j0 b).length = m := by have := HMT.out; simp; omega
                  have c2p : wm.cell? ⟨p, 2, none⟩ = some (.slice (some ⟨gw2, 0, none⟩) (2 * V + 2) (2 * V + 2)) := hM4.slv.blk.cell 2
                  have cgw : wm.cell? ⟨gw2, iy, none⟩ = some (.slice Au lw.length cu) := hM4.slv.whd.cell huy
                  have cz1 := (hM4.cells hx4 HC0.out.2.1 hml4 (j := 1) (z := z) rfl).1
                  have hM5 := (hM4.new ((Below.refl _ wm).alloc (Nat.le_refl _) (.cells #[.int .i64 (k : Nat)] 3))).new (below_drewN (Below.refl _ (wm.alloc (.cells #[.int .i64 (k : Nat)] 3))) 1)
                  have hry5 := (hry.alloc (.cells #[.int .i64 (k : Nat)] 3)).chg (S := fun _ => False) (cg_new (below_drewN (Below.refl _ (wm.alloc (.cells #[.int .i64 (k : Nat)] 3))) 1)) id
                  have hcr5 := hM5.slv.cls _ _ _ hx4 HC0.out.2.1
                  have HO5 := Lib.hid (show ((wm.alloc (.cells #[.int .i64 (k : Nat)] 3)).drew).ownsRow 0 3 1 (.slice Au lw.length cu) lw.length (kVals lw) from by
                    have h9 := hry5.own
                    rw [kVals_len] at h9; exact h9)
                  have HM5 := Lib.hid hM5
                  have HRY5 := Lib.hid hry5
                  have HCR5 := Lib.hid hcr5
                  have HUY := Lib.hid huy
                  have HW5 := Lib.hid (And.intro hiy (And.intro hlw (And.intro hml4 hine)))
                  have d2 : ((wm.alloc (.cells #[.int .i64 (k : Nat)] 3)).drew).cell? ⟨p, 2, none⟩ = some (.slice (some ⟨gw2, 0, none⟩) (2 * V + 2) (2 * V + 2)) := hM5.slv.blk.cell 2
                  have dgw : ((wm.alloc (.cells #[.int .i64 (k : Nat)] 3)).drew).cell? ⟨gw2, iy, none⟩ = some (.slice Au lw.length cu) := hM5.slv.whd.cell huy
                  have dz1 := (hM5.cells hx4 HC0.out.2.1 hml4 (j := 1) (z := z) rfl).1
                  clear hM4 hM5 hry hry5 hcr5 huy hlw hiy hzi hx4 hml4 hine
                  go_upto_region 19 with fail
                  refine wp_region_mv (S := fun w' => w'.cell? ⟨p, 2, none⟩ = some (.slice (some ⟨gw2, 0, none⟩) (2 * V + 2) (2 * V + 2)) ∧ w'.cell? ⟨gw2, iy, none⟩ = some (.slice Au lw.length cu) ∧ w'.cell? ⟨gc, 1, none⟩ = some (.int .i64 z)) 22 [.f 0, .f 1, .f 2, .f 3, .f 4, .f 5, .f 6, .f 7, .f 8, .f 9, .f 10, .f 11, .f 12, .f 13, .f 14, .f 15, .f 16, .f 17, .f 18, .t 19, .t 20, .f 21, .t 22] (by kernel_rfl) (by kernel_rfl) (by kernel_rfl) (And.intro c2p (And.intro cgw cz1)) ?_
                  iterate 7 (refine mv_take _ _ rfl (by kernel_rfl) (fun wv hv => by obtain ⟨hv1, hv2, hv3⟩ := hv; go_simp; try with_reducible rfl) ?_; simp only [Act.put, List.getElem_toArray, List.getElem_cons_zero, List.getElem_cons_succ, List.setIfInBounds_toArray, List.set_cons_zero, List.set_cons_succ])
                  refine mv_quiet _ _ _ _ rfl (by kernel_rfl) (fun wv hv => by go_simp; try with_reducible rfl) (fun wv hv => CY.out _) ?_
                  simp only [Act.put, List.getElem_toArray, List.getElem_cons_zero, List.getElem_cons_succ, List.setIfInBounds_toArray, List.set_cons_zero, List.set_cons_succ]
                  iterate 7 (refine mv_take _ _ rfl (by kernel_rfl) (fun wv hv => by obtain ⟨hv1, hv2, hv3⟩ := hv; go_simp; try with_reducible rfl) ?_; simp only [Act.put, List.getElem_toArray, List.getElem_cons_zero, List.getElem_cons_succ, List.setIfInBounds_toArray, List.set_cons_zero, List.set_cons_succ])
                  refine mv_quiet _ _ _ _ rfl (by kernel_rfl) (fun wv hv => by go_simp; try with_reducible rfl) (fun wv hv => CY.out _) ?_
                  simp only [Act.put, List.getElem_toArray, List.getElem_cons_zero, List.getElem_cons_succ, List.setIfInBounds_toArray, List.set_cons_zero, List.set_cons_succ]
                  iterate 3 (refine mv_take _ _ rfl (by kernel_rfl) (fun wv hv => by obtain ⟨hv1, hv2, hv3⟩ := hv; go_simp; try with_reducible rfl) ?_; simp only [Act.put, List.getElem_toArray, List.getElem_cons_zero, List.getElem_cons_succ, List.setIfInBounds_toArray, List.set_cons_zero, List.set_cons_succ])
                  refine mv_act _ rfl (fun K hK => ?_)
                  go_simp
                  go_simp
                  refine hK _ _ (.inr ((And.intro d2 (And.intro dgw dz1)))) ?_
                  clear hK K
                  refine mv_act _ rfl (fun K hK => ?_)
                  refine step_append_loc _ rfl (.tmp 135) (.tmp 137) _ rfl 0 3 i0 _ 1 8 Tryd.underlying25 HI.out.1 HI.out.2.1 HI.out.2.2.1 HI.out.2.2.2 rfl (by omega) (.slice Au lw.length cu) lw.length (kVals lw) rfl HO5.out (wm.heap.size + 1) (some ⟨wm.heap.size, 0, none⟩) 1 1 [.int .i64 (k : Nat)] rfl (reads_new (by simp) (by simp) rfl) (by intro u hu; rw [List.mem_singleton.1 hu]; rfl) (le_maxLen4 (by omega)) (le_bytes4 (by omega) (by omega)) (by simp) ?_
                  intro A6 c6 w6 hown6 hg6 hl6
                  rw [k_snoc] at hown6
                  obtain ⟨tag6, hM6⟩ := HM5.out.push HW5.out.2.2.2 HUY.out hown6 (by rw [List.length_append]; rfl) hg6 hl6
                  have hb6 := HM5.out.slv.blk.grown hg6 (own_blk_ne HO5.out HM5.out.slv.blk (by decide)).symm
                  have hcg6 := cg_grown (tag := tag2) (S := fun s => s = (5, (iy : Int))) hg6 (fun g' hg' => HRY5.out.tg g' hg')
                  have hw6 := HM5.out.slv.whd.chg hcg6 (by simp)
                  have hc6 := HCR5.out.chg hcg6 (by simp)
                  have c62 : w6.cell? ⟨p, 2, none⟩ = some (.slice (some ⟨gw2, 0, none⟩) (2 * V + 2) (2 * V + 2)) := hb6.cell 2
                  have c6w : w6.cell? ⟨gw2, iy, none⟩ = some (.slice Au lw.length cu) := hw6.cell HUY.out
                  have f6w : w6.frozen? ⟨gw2, iy, none⟩ = false := hw6.frozen iy
                  have l6w : gw2 < w6.heap.size := hw6.lt
                  have c6z : w6.cell? ⟨gc, 1, none⟩ = some (.int .i64 z) := by
                    obtain ⟨g', c', hv', _, hcel⟩ := hc6.at_ (by rw [litVals_len]; simp)
                    injection hv' with e1 _ _
                    injection e1 with e1
                    injection e1 with e1
                    subst e1
                    exact hcel.cell (lit_at rfl)
                  have hsp := HSP2.out
                  rw [HW5.out.1, HW5.out.2.1] at hsp
                  have HNX := Lib.hid (show SprI w tag p V im n l (some ⟨gl, 0, none⟩) cl RR (.int .i64 ((i + 1 : Nat) : Int)) (.slice (some ⟨gl, 0, none⟩) kept.length cl) (w6.setCell ⟨gw2, iy, none⟩ (.slice A6 (lw.length + 1) c6)) from
                    ⟨i + 1, kept, _, tag6, _, rfl, rfl, by have := HKI.out.1; omega, by omega, hM6, by rw [HKI.out.2.2]; exact hsp⟩)
                  clear hown6 hg6 hl6 hM6 hb6 hcg6 hw6 hc6 hsp
                  refine hK _ _ (.inr ((And.intro c62 (And.intro c6w c6z)))) ?_
                  clear hK K
                  try simp only [Act.put, List.getElem_toArray, List.getElem_cons_zero, List.getElem_cons_succ, List.setIfInBounds_toArray, List.set_cons_zero, List.set_cons_succ]
                  iterate 1 (refine mv_take _ _ rfl (by kernel_rfl) (fun wv hv => by obtain ⟨hv1, hv2, hv3⟩ := hv; go_simp; try with_reducible rfl) ?_; simp only [Act.put, List.getElem_toArray, List.getElem_cons_zero, List.getElem_cons_succ, List.setIfInBounds_toArray, List.set_cons_zero, List.set_cons_succ])
                  refine mv_act _ rfl (fun K hK => ?_)
                  go_simp
                  go_simp
                  refine hK _ _ (.inl rfl) ?_
                  clear hK K
                  refine mv_nil ?_
                  go_wp2_with fail
                  go_roundw
                  case rel => exact HNX.out
                  case measure => simp [intOf]; omega
                | none =>
                  as_aux_lemma =>
                  rw [htz] at hR2
                  dsimp only at hR2
                  obtain rfl : j0 = tl.length := by
                    have h1 := HJ.out.1
                    have h2 := List.getElem?_eq_none_iff.1 htz
                    omega
                  have jF1 : ¬ (((tl.length + 2 : Nat) : Int) < (m : Int)) := by have := HMT.out; omega
                  have jF2 : decide (((tl.length + 2 : Nat) : Int) < (m : Int)) = false := decide_eq_false jF1
                  have jF3 : decide ((tl.length : Int) + 2 < (m : Int)) = false := decide_eq_false (by have := HMT.out; omega)
                  have jF4 : decide (tl.length + 2 < m) = false := decide_eq_false (by have := HMT.out; omega)
                  have hsp := HSP.out
                  obtain ⟨hki, hk, hrest⟩ := HKI.out
                  obtain ⟨hlc, hcm⟩ := HLC.out
                  obtain ⟨kl, hkl⟩ : ∃ kl, kept.length = kl := ⟨_, rfl⟩
                  obtain ⟨W0, hW0⟩ : ∃ W0, wz.alloc (.cells #[.int .i64 (k : Nat)] 3) = W0 := ⟨_, rfl⟩
                  have hA := HM3.out.new ((Below.refl _ wz).alloc (Nat.le_refl _) (.cells #[.int .i64 (k : Nat)] 3))
                  have hbn : (wz.alloc (.cells #[.int .i64 (k : Nat)] 3)).cell? ⟨wz.heap.size, 0, none⟩ = some (.int .i64 (k : Nat)) := (Blk.new wz 3 #[.int .i64 (k : Nat)]).cell 0
                  obtain ⟨sp1, sp2⟩ := hA.spare rfl (by omega) (j := kept.length) (by omega)
                  rw [hkl] at sp1 sp2
                  have hrz := fun ty => run_keep (cu := cl) (k := k) ty sp1 sp2 (by omega) hbn
                  have hA2 := hA.keep_ (k := k) rfl (by omega)
                  rw [hkl] at hA2
                  obtain ⟨wk, hwk⟩ : ∃ wk, (wz.alloc (.cells #[.int .i64 (k : Nat)] 3)).setCell ⟨gl, kl, none⟩ (.int .i64 (k : Nat)) = wk := ⟨_, rfl⟩
                  rw [hwk] at hA2 hrz
                  have HA2 := Lib.hid hA2
                  have HKL := Lib.hid hkl
                  clear hA hbn sp1 sp2 hA2 hW0 hwk
                  rw [hkl]
                  have C4 := Lib.hid (of_any HA2.out.slv (n := a) (x := x) HX3.out.2.2 hV)
                  have HX4 := HX3.out.1
                  have cc0 := (HA2.out.cells HX3.out.1 HC0.out.2.1 HX3.out.2.1 (j := 0) (z := a) rfl).1
                  clear HX4
                  go_wp2_with (first | (at_builtin; refine Lib.wpList_append_run _ rfl _ _ _ _ rfl _ _ rfl rfl _ _ (hrz _) ?_) | fail)
                  refine C4.out.mono ?_
                  rintro e w' ⟨rfl, rfl⟩
                  by_cases hxm : x = -1
                  · as_aux_lemma =>
                    subst hxm
                    rw [if_pos rfl] at hR2
                    injection hR2 with hR2
                    subst hR2
                    dsimp only at hsp
                    injection hsp with hsp
                    subst hsp
                    have hu := HU.out
                    dsimp only at hu
                    obtain ⟨q, hq⟩ : ∃ q, rest.length = q := ⟨_, rfl⟩
                    have hlq : i + 1 + q = l.length := by rw [← hq, ← hrest, List.length_drop]; omega
                    have hkl1 : (kept ++ [k]).length = kl + 1 := by rw [List.length_append, HKL.out]; rfl
                    have hsp2 : ∀ j, j < q → (wk.cell? ⟨gl, kl + 1 + j, none⟩).isSome = true ∧ wk.frozen? ⟨gl, kl + 1 + j, none⟩ = false := fun j hj => HA2.out.spare rfl (by omega) (by omega)
                    have hat : ∀ j k', rest[j]? = some k' → wk.cell? ⟨gl, (i + 1) + j, none⟩ = some (.int .i64 (k' : Nat)) := fun j k' hk' => HA2.out.at_ rfl (by omega) (by rw [← hrest, List.getElem?_drop] at hk'; exact hk')
                    have hA3 := SpM.keepAll rfl rest HA2.out (by omega)
                    rw [hkl1] at hA3
                    have HA3 := Lib.hid hA3
                    have HU3 := Lib.hid hu
                    have HSQ := Lib.hid (And.intro hsp2 hat)
                    have si1 : (0 : Int) ≤ (i : Int) + 1 := by omega
                    have si2 : (i : Int) + 1 ≤ (l.length : Int) := by omega
                    have si3 : i + 1 ≤ l.length := by omega
                    clear hA3 hu hsp2 hat
                    have hrz2 : ∀ ty o q' c', q' = q → (o = i + 1 ∨ q = 0) → (Builtin.append_ #[25, 25] ty #[.slice (some ⟨gl, 0, none⟩) (kl + 1) cl, .slice (some ⟨gl, o, none⟩) q' c']).run Tryd.prog wk = .ok (.slice (some ⟨gl, 0, none⟩) (kl + 1 + q) cl) (wk.setCells gl (kl + 1) (kVals rest)) := by
                      intro ty o q' c' hq' ho
                      subst hq'
                      have hcl2 : kl + 1 + q' ≤ cl := by omega
                      refine run_keepAll (w := wk) (g := gl) (m := kl + 1) (cu := cl) (o := o) (q := q') (c' := c') (r := rest) ty hq HSQ.out.1 hcl2 (fun j k' hk' => ?_)
                      rcases ho with ho | ho
                      · subst ho; exact HSQ.out.2 j k' hk'
                      · exfalso
                        have h1 := (List.getElem?_eq_some_iff.1 hk').1
                        omega
                    obtain ⟨wq, hwq⟩ : ∃ wq, wk.setCells gl (kl + 1) (kVals rest) = wq := ⟨_, rfl⟩
                    rw [hwq] at hrz2
                    have hA4 := HA3.out
                    rw [hwq] at hA4
                    have hlk : (kept ++ [k] ++ rest).length = kl + 1 + q := by rw [List.length_append, hkl1, hq]
                    have c2 : wq.cell? ⟨p, 2, none⟩ = some (.slice (some ⟨gw2, 0, none⟩) (2 * V + 2) (2 * V + 2)) := hA4.slv.blk.cell 2
                    have cw : wq.cell? ⟨gw2, im, none⟩ = some (.slice (some ⟨gl, 0, none⟩) l.length cl) := hA4.slv.whd.cell hA4.row
                    have fw : wq.frozen? ⟨gw2, im, none⟩ = false := hA4.slv.whd.frozen im
                    have lw : gw2 < wq.heap.size := hA4.slv.whd.lt
                    obtain ⟨h5, a5⟩ := hA4.lay rfl (by omega)
                    rw [hlk] at h5 a5
                    have HNX := Lib.hid (show SprP w tag p V r s' (.returned (.int .i64 (k : Nat))) (wq.setCell ⟨gw2, im, none⟩ (.slice (some ⟨gl, 0, none⟩) (kl + 1 + q) cl)).drew from by
                      have h6 := HU3.out
                      injection h6 with h6
                      injection h6 with e1 e2
                      subst e1
                      subst e2
                      exact ⟨rfl, tag2, _, hA4.re, a5.trans (cg_new (below_drewN (Below.refl _ (wq.setCell ⟨gw2, im, none⟩ (.slice (some ⟨gl, 0, none⟩) (kl + 1 + q) cl))) 1)), h5.drew⟩)
                    clear hA4 h5 a5 HA3 HU3 HSQ hwq HU HM3
                    by_cases hcl : cl = i + 1
                    · subst hcl
                      go_upto_region 23 with (first | (at_builtin; refine Lib.wpList_append_run _ rfl _ _ _ _ rfl _ _ rfl rfl _ _ (hrz2 _ _ _ _ (by omega) (by omega)) ?_) | fail)
                      refine wp_region_mv (S := fun w' => w'.cell? ⟨p, 2, none⟩ = some (.slice (some ⟨gw2, 0, none⟩) (2 * V + 2) (2 * V + 2))) 8 [.f 0, .f 1, .f 2, .f 3, .f 4, .f 5, .f 6, .f 7, .t 8] (by kernel_rfl) (by kernel_rfl) (by kernel_rfl) c2 ?_
                      iterate 5 (refine mv_take _ _ rfl (by kernel_rfl) (fun wv hv => by have hv1 := hv; clear hv; go_simp; try with_reducible rfl) ?_; simp only [Act.put, List.getElem_toArray, List.getElem_cons_zero, List.getElem_cons_succ, List.setIfInBounds_toArray, List.set_cons_zero, List.set_cons_succ])
                      refine mv_quiet _ _ _ _ rfl (by kernel_rfl) (fun wv hv => by go_simp; try with_reducible rfl) (fun wv hv => CI.out _) ?_
                      simp only [Act.put, List.getElem_toArray, List.getElem_cons_zero, List.getElem_cons_succ, List.setIfInBounds_toArray, List.set_cons_zero, List.set_cons_succ]
                      iterate 2 (refine mv_take _ _ rfl (by kernel_rfl) (fun wv hv => by have hv1 := hv; clear hv; go_simp; try with_reducible rfl) ?_; simp only [Act.put, List.getElem_toArray, List.getElem_cons_zero, List.getElem_cons_succ, List.setIfInBounds_toArray, List.set_cons_zero, List.set_cons_succ])
                      refine mv_act _ rfl (fun K hK => ?_)
                      go_simp
                      go_simp
                      refine hK _ _ (.inl rfl) ?_
                      clear hK K
                      refine mv_nil ?_
                      go_wp2_with fail
                      go_ret
                      exact HNX.out
                    · go_upto_region 23 with (first | (at_builtin; refine Lib.wpList_append_run _ rfl _ _ _ _ rfl _ _ rfl rfl _ _ (hrz2 _ _ _ _ (by omega) (by omega)) ?_) | fail)
                      refine wp_region_mv (S := fun w' => w'.cell? ⟨p, 2, none⟩ = some (.slice (some ⟨gw2, 0, none⟩) (2 * V + 2) (2 * V + 2))) 8 [.f 0, .f 1, .f 2, .f 3, .f 4, .f 5, .f 6, .f 7, .t 8] (by kernel_rfl) (by kernel_rfl) (by kernel_rfl) c2 ?_
                      iterate 5 (refine mv_take _ _ rfl (by kernel_rfl) (fun wv hv => by have hv1 := hv; clear hv; go_simp; try with_reducible rfl) ?_; simp only [Act.put, List.getElem_toArray, List.getElem_cons_zero, List.getElem_cons_succ, List.setIfInBounds_toArray, List.set_cons_zero, List.set_cons_succ])
                      refine mv_quiet _ _ _ _ rfl (by kernel_rfl) (fun wv hv => by go_simp; try with_reducible rfl) (fun wv hv => CI.out _) ?_
                      simp only [Act.put, List.getElem_toArray, List.getElem_cons_zero, List.getElem_cons_succ, List.setIfInBounds_toArray, List.set_cons_zero, List.set_cons_succ]
                      iterate 2 (refine mv_take _ _ rfl (by kernel_rfl) (fun wv hv => by have hv1 := hv; clear hv; go_simp; try with_reducible rfl) ?_; simp only [Act.put, List.getElem_toArray, List.getElem_cons_zero, List.getElem_cons_succ, List.setIfInBounds_toArray, List.set_cons_zero, List.set_cons_succ])
                      refine mv_act _ rfl (fun K hK => ?_)
                      go_simp
                      go_simp
                      refine hK _ _ (.inl rfl) ?_
                      clear hK K
                      refine mv_nil ?_
                      go_wp2_with fail
                      go_ret
                      exact HNX.out
                  · rw [if_neg hxm] at hR2
                    have hxmf : ((x : Int) == -1) = false := by simp [hxm]
                    cases hs4 : setM V { s2 with xs := s2.xs.set k (a :: b :: tl) } a (k : Int) with
                    | none => rw [hs4] at hR2; cases hR2
                    | some s4 =>
                    rw [hs4] at hR2
                    dsimp only at hR2
                    injection hR2 with hR2
                    subst hR2
                    dsimp only at hsp
                    have C5 := Lib.hid (HA2.out.set_ hs4 hV)
                    have HSP3 := Lib.hid hsp
                    clear hsp hs4
                    go_wp2_with fail
                    refine C5.out.mono ?_
                    rintro e w' ⟨rfl, tag4, vt4, hM4⟩
                    have HN := Lib.hid (show SprI w tag p V im n l (some ⟨gl, 0, none⟩) cl RR (.int .i64 ((i + 1 : Nat) : Int)) (.slice (some ⟨gl, 0, none⟩) (kl + 1) cl) w' from
                      ⟨i + 1, kept ++ [k], _, _, _, rfl, by rw [List.length_append, HKL.out]; rfl, by rw [List.length_append, List.length_singleton]; omega, by omega, hM4, by rw [hrest]; exact HSP3.out⟩)
                    clear hM4 hki hk hrest hlc hcm hkl
                    go_wp2_with fail
                    go_roundw
                    case rel => exact HN.out
                    case measure => simp [intOf]; omega
        · obtain rfl : i = l.length := by omega
          rw [List.drop_eq_nil_of_le (Nat.le_refl _)] at hsp
          unfold sprI at hsp
          injection hsp with hsp
          subst hsp
          have hu := HU.out
          dsimp only at hu
          obtain ⟨kl, hkl⟩ : ∃ kl, kept.length = kl := ⟨_, rfl⟩
          have c2 : wr.cell? ⟨p, 2, none⟩ = some (.slice (some ⟨gw2, 0, none⟩) (2 * V + 2) (2 * V + 2)) := hM.slv.blk.cell 2
          have cw : wr.cell? ⟨gw2, im, none⟩ = some (.slice Al l.length cl) := hM.slv.whd.cell hM.row
          have fw : wr.frozen? ⟨gw2, im, none⟩ = false := hM.slv.whd.frozen im
          have lw : gw2 < wr.heap.size := hM.slv.whd.lt
          obtain ⟨h5, a5⟩ := hM.lay rfl (by omega)
          rw [hkl] at h5 a5 ⊢
          have HNX := Lib.hid (show SprO w tag p V r s' f (wr.setCell ⟨gw2, im, none⟩ (.slice Al kl cl)).drew from ⟨_, tag2, _, hu, h5.drew, hM.re, a5.trans (cg_new (below_drewN (Below.refl _ (wr.setCell ⟨gw2, im, none⟩ (.slice Al kl cl))) 1))⟩)
          have HRE2 := Lib.hid hM.re
          clear hM hu h5 a5 hki hkl HU
          go_upto_region 27 with fail
          refine wp_region_mv (S := fun w' => w'.cell? ⟨p, 2, none⟩ = some (.slice (some ⟨gw2, 0, none⟩) (2 * V + 2) (2 * V + 2))) 8 [.f 0, .f 1, .f 2, .f 3, .f 4, .f 5, .f 6, .f 7, .t 8] (by kernel_rfl) (by kernel_rfl) (by kernel_rfl) c2 ?_
          iterate 5 (refine mv_take _ _ rfl (by kernel_rfl) (fun wv hv => by have hv1 := hv; clear hv; go_simp; try with_reducible rfl) ?_; simp only [Act.put, List.getElem_toArray, List.getElem_cons_zero, List.getElem_cons_succ, List.setIfInBounds_toArray, List.set_cons_zero, List.set_cons_succ])
          refine mv_quiet _ _ _ _ rfl (by kernel_rfl) (fun wv hv => by go_simp; try with_reducible rfl) (fun wv hv => CI.out _) ?_
          simp only [Act.put, List.getElem_toArray, List.getElem_cons_zero, List.getElem_cons_succ, List.setIfInBounds_toArray, List.set_cons_zero, List.set_cons_succ]
          iterate 2 (refine mv_take _ _ rfl (by kernel_rfl) (fun wv hv => by have hv1 := hv; clear hv; go_simp; try with_reducible rfl) ?_; simp only [Act.put, List.getElem_toArray, List.getElem_cons_zero, List.getElem_cons_succ, List.setIfInBounds_toArray, List.set_cons_zero, List.set_cons_succ])
          refine mv_act _ rfl (fun K hK => ?_)
          go_simp
          go_simp
          refine hK _ _ (.inl rfl) ?_
          clear hK K
          refine mv_nil ?_
          go_wp2_with fail
          go_roundg f
          case measure => omega
          case rel => exact HNX.out
    · have hnone : s1.tr[hd]? = none := List.getElem?_eq_none (by omega)
      rw [hnone] at hu
      dsimp only at hu
      rw [if_pos (by omega)] at hu
      injection hu with hu
      injection hu with e1 e2
      subst e1
      subst e2
      have hdf : decide ((hd : Int) < (nt : Int)) = false := decide_eq_false (by omega)
      have hdf2 : decide (hd < nt) = false := decide_eq_false hlt
      have HE := Lib.hid (fun j => show SprP w tag p V none s1 (.returned (.int .i64 (-1))) (wr.drewN j) from ⟨rfl, tag1, _, HRE.out, HCG.out.trans (cg_new (below_drewN (Below.refl _ wr) j)), hs.drewN j⟩)
      clear hs hnone
      go_upto_region 1 with fail
      go_quiet (fail)
      go_wp2_with fail
      go_ret
      exact HE.out _
end
end Go.Proofs.YtaedbnbeelkkcaaDoor.slv
