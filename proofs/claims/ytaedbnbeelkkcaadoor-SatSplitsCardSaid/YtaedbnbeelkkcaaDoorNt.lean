/-
  WALK of (*solver).learn: its memory.
  WALK of (*solver).learn.
-/
import Derived.Test.YtaedbnbeelkkcaaDoorNr
namespace Go.Proofs.YtaedbnbeelkkcaaDoor.slv
open Go.RowKit
theorem upL_len {v : Nat} : ∀ {f i : Nat} {s s' : SS}, upL v f i s = some s' → s'.hp.length = s.hp.length
  | 0, _, _, _, h => by cases h
  | f + 1, i, s, s', h => by
    unfold upL at h
    split at h
    · injection h with h; subst h; show (s.hp.set _ _).length = _; rw [List.length_set]
    · split at h
      · cases h
      · split at h
        · split at h
          · have := upL_len h
            rw [this]; show (s.hp.set _ _).length = _; rw [List.length_set]
          · injection h with h; subst h; show (s.hp.set _ _).length = _; rw [List.length_set]
        · cases h
theorem bumpM_len {V v : Nat} {s s' : SS} (h : bumpM V s v = some s') : s'.hp.length = s.hp.length ∧ s'.tr = s.tr ∧ s'.lv = s.lv ∧ s'.lm = s.lm ∧ s'.rs = s.rs ∧ s'.xs = s.xs := by
  have key : ∀ {v f i : Nat} {s s' : SS}, upL v f i s = some s' → s'.tr = s.tr ∧ s'.lv = s.lv ∧ s'.lm = s.lm ∧ s'.rs = s.rs ∧ s'.xs = s.xs := by
    intro v f
    induction f with
    | zero => intro i s s' h; cases h
    | succ f ih =>
      intro i s s' h
      unfold upL at h
      split at h
      · injection h with h; subst h; exact ⟨rfl, rfl, rfl, rfl, rfl⟩
      · split at h
        · cases h
        · split at h
          · split at h
            · have := ih h; exact this
            · injection h with h; subst h; exact ⟨rfl, rfl, rfl, rfl, rfl⟩
          · cases h
  unfold bumpM at h
  split at h
  · cases h
  · dsimp only at h
    split at h
    · cases h
    · split at h
      · unfold upM at h
        split at h
        · cases h
        · split at h
          · have h1 := upL_len h
            have h2 := key h
            exact ⟨h1, h2⟩
          · cases h
      · injection h with h; subst h; exact ⟨rfl, rfl, rfl, rfl, rfl, rfl⟩
/-- amid learning: the solver, and the two rows of the call's own -/
structure LrM (w : World) (tag : Nat → Tag) (p V gS : Nat) (seen : List Bool) (ov : Value) (out : List Int) (wr : World) (tag1 : Nat → Tag) (y : SLay) (s : SS) : Prop where
  slv : Slv wr tag1 p V y s
  re : Re w tag tag1
  cg : Cg tag (Fr 16) w wr
  see : Cel wr tag1 (17, 0) gS (boolVals seen)
  sn : w.heap.size ≤ gS
  sl : seen.length = V + 1
  ol : 0 < out.length
  row : Row wr tag1 (18, 0) w.heap.size 3 ov (litVals out)
section
variable {w w' wr : World} {tag tag1 : Nat → Tag} {p V gS : Nat} {seen : List Bool} {ov : Value} {out : List Int} {y : SLay} {s : SS}
theorem LrM.new (h : LrM w tag p V gS seen ov out wr tag1 y s) (hb : Below wr.heap.size wr w') : LrM w tag p V gS seen ov out w' tag1 y s :=
  ⟨h.slv.new hb, h.re, h.cg.trans (cg_new hb), h.see.chg (S := fun _ => False) (cg_new hb) id, h.sn, h.sl, h.ol, h.row.chg (S := fun _ => False) (cg_new hb) id⟩
theorem LrM.bump {s' : SS} {v : Nat} (h : LrM w tag p V gS seen ov out wr tag1 y s) (hu : bumpM V s v = some s') (hV : V ≤ 400000) (hh : s.hp.length ≤ 1000000) :
    Calls Tryd.prog 47 #[.pointer (some ⟨p, 0, none⟩), .int .i64 (v : Nat)] wr fun e w2 => e = .returned (.tuple #[]) ∧ LrM w tag p V gS seen ov out w2 tag1 y s' := by
  refine (bump_any h.slv hu hV hh).mono ?_
  rintro e w2 ⟨rfl, hc, hs⟩
  exact ⟨rfl, hs, h.re, h.cg.trans_ hc h.re, h.see.chg hc (fun e => by have := e.2; exact absurd this (by decide)), h.sn, h.sl, h.ol, h.row.chg hc (fun e => by have := e.2; exact absurd this (by decide))⟩
theorem LrM.see_ (h : LrM w tag p V gS seen ov out wr tag1 y s) (i : Nat) (b : Bool) : LrM w tag p V gS (seen.set i b) ov out (wr.setCell ⟨gS, i, none⟩ (.bool b)) tag1 y s := by
  have hc : Cg tag1 (fun t => t = (17, 0)) wr (wr.setCell ⟨gS, i, none⟩ (.bool b)) := cg_store (by show tag1 gS = _; exact h.see.tg) _
  refine ⟨h.slv.keep hc fun t ht e => ?_, h.re, h.cg.setCell (.inl h.sn) _, by rw [← bool_set]; exact h.see.set_ i _, h.sn, by rw [List.length_set]; exact h.sl, h.ol, h.row.chg hc (by simp)⟩
  subst e; exact absurd ht.2 (by decide)
/-- one number more -/
theorem LrM.push {A : Option Addr} {n c : Nat} {out' : List Int} (h : LrM w tag p V gS seen ov out wr tag1 y s) (ho : w'.ownsRow w.heap.size 3 1 (.slice A n c) n (litVals out')) (hl : out'.length = n) (hol : 0 < out'.length) (hg : wr.grownBy w' ov.ownBlock)
    (hloc : (Value.slice A n c).ownBlock = ov.ownBlock ∨ (Value.slice A n c).ownBlock = some wr.heap.size) : ∃ tag2, LrM w tag p V gS seen (.slice A n c) out' w' tag2 y s := by
  obtain ⟨tag2, hr, hrow, hc⟩ := h.row.grown ho (by rw [litVals_len]; exact hl) hg hloc
  have hc' := hc.re_ hr
  have hcg : Cg tag (Fr 16) w w' := h.cg.grown hg fun k o e ho => by
    have h1 := (h.row.own.lt k e).1
    have h2 := lt_of_heap ho
    omega
  exact ⟨tag2, (h.slv.re hr).keep hc' fun t ht e => (by subst e; exact absurd ht.2 (by decide)), fun b hb => (hr b (by have := h.cg.size; omega)).trans (h.re b hb), hcg, (h.see.re hr).chg hc' (by simp), h.sn, h.sl, hol, hrow⟩
/-- one number changed -/
theorem LrM.put {g m c : Nat} (h : LrM w tag p V gS seen ov out wr tag1 y s) (hv : ov = .slice (some ⟨g, 0, none⟩) m c) (hm : out.length = m) (i : Nat) (z : Int) : LrM w tag p V gS seen ov (out.set i z) (wr.setCell ⟨g, i, none⟩ (.int .i64 z)) tag1 y s := by
  subst hm
  subst hv
  have h1 : Row wr tag1 (18, 0) w.heap.size 3 (.slice (some ⟨g, 0, none⟩) (litVals out).length c) (litVals out) := by rw [litVals_len]; exact h.row
  have hg := h.row.tg g rfl
  have hb := (h.row.own.lt g rfl).1
  have hc : Cg tag1 (fun t => t = (18, 0)) wr (wr.setCell ⟨g, i, none⟩ (.int .i64 z)) := cg_store (by show tag1 g = _; exact hg) _
  have h2 := h1.set_ i (.int .i64 z)
  rw [lit_set, litVals_len] at h2
  exact ⟨h.slv.keep hc fun t ht e => (by subst e; exact absurd ht.2 (by decide)), h.re, h.cg.setCell (.inl hb) _, h.see.chg hc (by simp), h.sn, h.sl, by rw [List.length_set]; exact h.ol, h2⟩
theorem LrM.at_ {g m c j : Nat} {z : Int} (h : LrM w tag p V gS seen ov out wr tag1 y s) (hv : ov = .slice (some ⟨g, 0, none⟩) m c) (hm : out.length = m) (hz : out[j]? = some z) : wr.cell? ⟨g, j, none⟩ = some (.int .i64 z) ∧ wr.frozen? ⟨g, j, none⟩ = false := by
  subst hm
  subst hv
  have h1 : Row wr tag1 (18, 0) w.heap.size 3 (.slice (some ⟨g, 0, none⟩) (litVals out).length c) (litVals out) := by rw [litVals_len]; exact h.row
  exact ⟨h1.cell (lit_at hz), h1.frozen j⟩
theorem LrM.form (h : LrM w tag p V gS seen ov out wr tag1 y s) (ho : 0 < out.length) : ∃ g c, ov = .slice (some ⟨g, 0, none⟩) out.length c ∧ out.length ≤ c := by
  obtain ⟨g, c, hv, _⟩ := h.row.at_ (by rw [litVals_len]; exact ho)
  rw [litVals_len] at hv
  refine ⟨g, c, hv, ?_⟩
  rcases h.row.own.2 with ⟨h0, h1⟩ | ⟨g', c', cur, hv', _, _, hle, _⟩
  · rw [hv] at h0; cases h0
  · rw [litVals_len] at hle; rw [hv] at hv'; injection hv' with _ _ e3; omega
end
/-- what learning ends with -/
def LnP (w : World) (tag : Nat → Tag) (p V : Nat) (y : SLay) (c : List Int) (back : Int) (s : SS) (e : Ending) (w' : World) : Prop :=
  ∃ v tag', e = .returned (.tuple #[v, .int .i64 back]) ∧ Re w tag tag' ∧ Cg tag (Fr 16) w w' ∧ Slv w' tag' p V y s ∧ Row w' tag' (18, 0) w.heap.size 3 v (litVals c)
end Go.Proofs.YtaedbnbeelkkcaaDoor.slv
namespace Go.Proofs.YtaedbnbeelkkcaaDoor.slv
open Go.RowKit
theorem info_boolB : (Tryd.prog.info? 4).map (fun i => (i.zero, i.size, i.bytes)) = some (some (.bool false), 1, 1) := by kernel_rfl
set_option maxRecDepth 100000 in
theorem make_seen (n : Nat) (hn : n ≤ 1000000) (w : World) : (Instr.makeSlice 43 (.int .i64 (n : Int)) (.int .i64 (n : Int))).run Tryd.prog w =
    .ok (.slice (some ⟨w.heap.size, 0, none⟩) n n) (w.alloc (.cells (boolVals (List.replicate n false)).toArray 4)) := by
  obtain ⟨i0, hi, hz0, hz1, hz2⟩ := info_parts info_boolB
  have h := run_make_rowN (P := Tryd.prog) 43 4 i0 (.bool false) Tryd.underlying43 hi hz0 .i64 .i64 n n (Nat.le_refl _) (by rw [hz2]; omega) (by omega) w
  rw [h]
  congr 3
  rw [hz1, Nat.mul_one]
  have e := toList_madeCells_one (.bool false) n
  have e2 : boolVals (List.replicate n false) = List.replicate n (Value.bool false) := by unfold boolVals; simp
  rw [e2, ← e]; rfl
/-- bumps leave these -/
def Sm (s s1 : SS) : Prop := s1.hp.length = s.hp.length ∧ s1.tr = s.tr ∧ s1.lv = s.lv ∧ s1.lm = s.lm ∧ s1.rs = s.rs ∧ s1.xs = s.xs
theorem Sm.bump {V v : Nat} {s s1 s2 : SS} (h : Sm s s1) (hb : bumpM V s1 v = some s2) : Sm s s2 := by
  obtain ⟨a1, a2, a3, a4, a5, a6⟩ := bumpM_len hb
  obtain ⟨b1, b2, b3, b4, b5, b6⟩ := h
  exact ⟨a1.trans b1, a2.trans b2, a3.trans b3, a4.trans b4, a5.trans b5, a6.trans b6⟩
theorem lseek_spec {tr : List Int} {seen : List Bool} {a : Nat} : ∀ {j : Nat}, lseek tr seen j = some a → ∃ t b, tr[j]? = some t ∧ seen[t.natAbs]? = some b ∧ (b = true → a = j) ∧ (b = false → ∃ j', j = j' + 1 ∧ lseek tr seen j' = some a)
  | 0, h => by
    unfold lseek at h
    split at h
    · rename_i t ht
      split at h
      · rename_i hs
        injection h with h
        exact ⟨t, true, ht, hs, fun _ => h.symm, fun e => (by cases e)⟩
      · cases h
    · cases h
  | j + 1, h => by
    unfold lseek at h
    split at h
    · rename_i t ht
      split at h
      · rename_i hs
        injection h with h
        exact ⟨t, true, ht, hs, fun _ => h.symm, fun e => (by cases e)⟩
      · rename_i hs
        exact ⟨t, false, ht, hs, fun e => (by cases e), fun _ => ⟨j, rfl, h⟩⟩
      · cases h
    · cases h
section
variable {w : World} {tag : Nat → Tag} {p V : Nat} {y : SLay} {s : SS}
def LrO (w : World) (tag : Nat → Tag) (p V gS : Nat) (y : SLay) (s : SS) (F : Int × LS) (kv ov opv atv nv : Value) (f : Nat) (wr : World) : Prop :=
  ∃ (kn n : Int) (at_ : Nat) (l : LS) (tag1 : Nat → Tag), kv = .int .i64 kn ∧ opv = .int .i64 (l.op : Nat) ∧ atv = .int .i64 ((at_ : Int) - 1) ∧ nv = .int .i64 n ∧ lrnL V f kn n at_ l = some F ∧ LrM w tag p V gS l.seen ov l.out wr tag1 y l.s ∧ Sm s l.s ∧ l.op ≤ 1000000
def LrI (w : World) (tag : Nat → Tag) (p V gS : Nat) (y : SLay) (s : SS) (n : Int) (c : List Int) (l1 : LS) (iv ov opv : Value) (wr : World) : Prop :=
  ∃ (i : Nat) (l : LS) (tag1 : Nat → Tag), iv = .int .i64 (i : Nat) ∧ i ≤ c.length ∧ opv = .int .i64 (l.op : Nat) ∧ lcl V n (c.drop i) l = some l1 ∧ LrM w tag p V gS l.seen ov l.out wr tag1 y l.s ∧ Sm s l.s ∧ l.op ≤ 1000000
attribute [local irreducible] wpSeq wpMv
set_option maxRecDepth 100000 in
set_option maxHeartbeats 16000000 in
theorem learn_any {s' : SS} {k : Nat} {c : List Int} {back : Int} (h : Slv w tag p V y s) (hu : learnM V s k = some (c, back, s')) (hV : V ≤ 400000) (hh : s.hp.length ≤ 1000000) (htb : s.tr.length ≤ 1000000) :
    Calls Tryd.prog 32 #[.pointer (some ⟨p, 0, none⟩), .int .i64 (k : Nat)] w (LnP w tag p V y c back s') := by
  obtain ⟨i0, hi0, hz0, hz1, hz2⟩ := info_parts info_int
  have HI := Lib.hid (And.intro hi0 (And.intro hz0 (And.intro hz1 hz2)))
  clear hi0 hz0 hz1 hz2
  unfold learnM at hu
  split at hu
  · cases hu
  rename_i t lF hlr
  obtain ⟨gS, hgS⟩ : ∃ gS, w.heap.size = gS := ⟨_, rfl⟩
  obtain ⟨W1, hW1⟩ : ∃ W1, w.alloc (.cells (boolVals (List.replicate (V + 1) false)).toArray 4) = W1 := ⟨_, rfl⟩
  have m1 : (Instr.makeSlice 43 (.int .i64 ((V : Int) + 1)) (.int .i64 ((V : Int) + 1))).run Tryd.prog w = .ok (.slice (some ⟨gS, 0, none⟩) (V + 1) (V + 1)) W1 := by
    have := make_seen (V + 1) (by omega) w
    rw [hW1, hgS] at this
    exact this
  have wV : IntKind.i64.wrap ((V : Int) + 1) = (V : Int) + 1 := by rw [IntKind.wrap_i64]; omega
  have c0 : w.cell? ⟨p, 0, none⟩ = some (.int .i64 (V : Nat)) := h.blk.cell 0
  obtain ⟨W2, hW2⟩ : ∃ W2, W1.alloc (.cells #[.int .i64 0] 3) = W2 := ⟨_, rfl⟩
  have hs1 : W1.heap.size = gS + 1 := by rw [← hW1, ← hgS]; simp
  have hs2 : W2.heap.size = gS + 2 := by rw [← hW2]; simp [hs1]
  have hb1 : Below w.heap.size w W1 := by rw [← hW1]; exact (Below.refl _ _).alloc (Nat.le_refl _) _
  have hb2 : Below w.heap.size w W2 := by rw [← hW2]; exact hb1.alloc hb1.size _
  have k1 : Blk W1 gS 4 (boolVals (List.replicate (V + 1) false)).toArray := by rw [← hW1, ← hgS]; exact Blk.new w _ _
  have k2 : Blk W2 gS 4 (boolVals (List.replicate (V + 1) false)).toArray := by rw [← hW2]; exact k1.alloc _
  have k3 : Blk W2 (gS + 1) 3 #[.int .i64 0] := by rw [← hW2, ← hs1]; exact Blk.new W1 _ _
  have hre : Re w tag (put (put tag gS (17, 0)) (gS + 1) (18, 0)) := fun g hg => by
    unfold put
    rw [if_neg (by omega), if_neg (by omega)]
  have hM : LrM w tag p V gS (List.replicate (V + 1) false) (.slice (some ⟨gS + 1, 0, none⟩) 1 1) [0] W2 (put (put tag gS (17, 0)) (gS + 1) (18, 0)) y s := by
    refine ⟨(h.re hre).new hb2, hre, cg_new hb2, ?_, by omega, by simp, by simp, ⟨⟨by simp [litVals], .inr ⟨gS + 1, 1, #[.int .i64 0], rfl, by omega, k3, by simp [litVals], by simp [maxLen], by simp, by simp [litVals]⟩⟩, fun g hg => ?_⟩⟩
    · have := Blk.cel (tag := put (put tag gS (17, 0)) (gS + 1) (18, 0)) (t := (17, 0)) k2 (by unfold put; rw [if_neg (by omega), if_pos rfl])
      simpa using this
    · injection hg with hg
      subst hg
      exact put_same _ _ _
  obtain ⟨nt, hnt⟩ : ∃ nt, s.tr.length = nt := ⟨_, rfl⟩
  obtain ⟨At, ct, hvt⟩ := h.trl.form
  rw [litVals_len, hnt] at hvt
  have c6 : W2.cell? ⟨p, 6, none⟩ = some (.slice At nt ct) := by have := hM.slv.blk.cell 6; rw [hvt] at this; exact this
  have HST := Lib.hid (show ∀ q, LrO w tag p V gS y s (t, lF) (.int .i64 (k : Nat)) (.slice (some ⟨gS + 1, 0, none⟩) 1 1) (.int .i64 ((0 : Nat) : Int)) (.int .i64 ((nt : Int) - 1)) (.int .i64 0) (nt + 1) (W2.drewN q) from fun q =>
    ⟨k, 0, nt, _, _, rfl, rfl, rfl, rfl, by rw [← hnt]; exact hlr, hM.new (below_drewN (Below.refl _ W2) q), ⟨rfl, rfl, rfl, rfl, rfl, rfl⟩, Nat.zero_le _⟩)
  have HM := Lib.hid hM
  have HU := Lib.hid hu
  have HLR := Lib.hid hlr
  have HH := Lib.hid hh
  have HGS := Lib.hid hgS
  have HVT := Lib.hid hvt
  have HNT := Lib.hid hnt
  have wn : IntKind.i64.wrap ((nt : Int) - 1) = (nt : Int) - 1 := by rw [IntKind.wrap_i64]; omega
  clear h hM hu hlr hh hvt hnt hs2 hb1 hb2 k1 k2 k3 hre
  go_enter Tryd.func32, Tryd.ntmps32
  go_upto_region 2 with fail
  clear m1 c0
  go_upto_region 3 with fail
  try rw [hW2]
  clear hW1 hW2 hs1
  go_quiet (fail)
  have HSTQ := Lib.hid (HST.out nq)
  clear HST c6
  go_wp2_with fail
  go_loopg [1, 7, 8, 9, 10] (nt + 1) (fun f kv ov opv atv nv wr => LrO w tag p V gS y s (t, lF) kv ov opv atv nv f wr)
  case atStart => exact HSTQ.out
  case round =>
    clear HSTQ
    obtain ⟨kn, n, at_, l, tag1, e1, e2, e3, e4, hlr, hM, hSm, hopb⟩ := hrel
    subst e1
    subst e2
    subst e3
    subst e4
    cases gk with
    | zero => cases hlr
    | succ f =>
    unfold lrnL at hlr
    split at hlr
    · cases hlr
    rename_i hkn0
    obtain ⟨kc, rfl⟩ : ∃ kc : Nat, kn = (kc : Int) := ⟨kn.toNat, by omega⟩
    rw [show ((kc : Nat) : Int).toNat = kc from rfl] at hlr
    split at hlr
    · cases hlr
    rename_i c0 hc0
    split at hlr
    · cases hlr
    rename_i l1 hlc
    obtain ⟨vC, rows, gw, wrows, gv, gl, gr, vt, vL, gs, gp, vh, gP, vP, prows⟩ := y
    obtain ⟨cv, hcv⟩ : ∃ cv, rows[kc]? = some cv := ⟨_, List.getElem?_eq_getElem (by have h9 := hM.slv.rlen; have := (List.getElem?_eq_some_iff.1 hc0).1; dsimp only at h9; omega)⟩
    have hrowk := hM.slv.cls kc _ _ hc0 hcv
    obtain ⟨m, hm⟩ : ∃ m, c0.length = m := ⟨_, rfl⟩
    obtain ⟨Ac, cc, hcvv⟩ := hrowk.form
    rw [litVals_len, hm] at hcvv
    subst hcvv
    obtain ⟨gC, cC, hvC, _, hcelC⟩ := hM.slv.hdr.at_ (by show 0 < rows.length; have := (List.getElem?_eq_some_iff.1 hcv).1; omega)
    dsimp only at hvC
    obtain ⟨nx, hnx⟩ : ∃ nx, rows.length = nx := ⟨_, rfl⟩
    rw [hnx] at hvC
    subst hvC
    have cC1 : wr.cell? ⟨p, 1, none⟩ = some (.slice (some ⟨gC, 0, none⟩) nx cC) := hM.slv.blk.cell 1
    have cCk : wr.cell? ⟨gC, kc, none⟩ = some (.slice Ac m cc) := hcelC.cell hcv
    have hknx : kc < nx := by have := (List.getElem?_eq_some_iff.1 hcv).1; omega
    have hkI : (kc : Int) < (nx : Int) := by omega
    have HI0 := Lib.hid (show LrI w tag p V gS ⟨.slice (some ⟨gC, 0, none⟩) nx cC, rows, gw, wrows, gv, gl, gr, vt, vL, gs, gp, vh, gP, vP, prows⟩ s n c0 l1 (.int .i64 ((0 : Nat) : Int)) u7 (.int .i64 (l.op : Nat)) wr from
      ⟨0, l, tag1, rfl, Nat.zero_le _, rfl, by rw [List.drop_zero]; exact hlc, hM, hSm, hopb⟩)
    have HX := Lib.hid (show s.xs[kc]? = some c0 by rw [← hSm.2.2.2.2.2]; exact hc0)
    have HCV := Lib.hid (And.intro hcv hm)
    have HLR := Lib.hid hlr
    clear hM hSm hopb hlc hlr hc0 hcv hrowk hcelC hnx hm
    go_wp2_with fail
    clear cC1 cCk
    go_loopw [38, 7, 8] (fun iv ov opv wx => LrI w tag p V gS ⟨.slice (some ⟨gC, 0, none⟩) nx cC, rows, gw, wrows, gv, gl, gr, vt, vL, gs, gp, vh, gP, vP, prows⟩ s n c0 l1 iv ov opv wx) (fun iv _ _ _ => m - (intOf iv).toNat)
    case atStart => exact HI0.out
    case round =>
      clear HI0
      obtain ⟨i, l2, tag2, e1, hi, e2, hlc, hM, hSm, hopb⟩ := hrel
      subst e1
      subst e2
      rw [HCV.out.2] at hi
      by_cases him : i < m
      · as_aux_lemma =>
        obtain ⟨x, hx⟩ : ∃ x, c0[i]? = some x := ⟨_, List.getElem?_eq_getElem (by have := HCV.out.2; omega)⟩
        have hdrop : c0.drop i = x :: c0.drop (i + 1) := by
          obtain ⟨h1, h2⟩ := List.getElem?_eq_some_iff.1 hx
          rw [List.drop_eq_getElem_cons h1, h2]
        rw [hdrop] at hlc
        unfold lcl at hlc
        split at hlc
        case h_2 => cases hlc
        rename_i sb lvv hsb hlvv
        have hc0' : l2.s.xs[kc]? = some c0 := by rw [hSm.2.2.2.2.2]; exact HX.out
        have hrow2 := hM.slv.cls kc _ _ hc0' HCV.out.1
        obtain ⟨gc, cc2, hcv2, _, hcel2⟩ := hrow2.at_ (by rw [litVals_len, HCV.out.2]; omega)
        rw [litVals_len, HCV.out.2] at hcv2
        injection hcv2 with q1 _ q3
        subst q1
        subst q3
        have cx : wr.cell? ⟨gc, i, none⟩ = some (.int .i64 x) := hcel2.cell (lit_at hx)
        obtain ⟨v, hv⟩ : ∃ v, x.natAbs = v := ⟨_, rfl⟩
        rw [hv] at hsb hlvv hlc
        have hvV : v ≤ V := by have h9 := hM.slv.ll; have := (List.getElem?_eq_some_iff.1 hlvv).1; omega
        have hvI : (v : Int) < (V : Int) + 1 := by omega
        have hiI : (i : Int) < (m : Int) := by omega
        have hmb : m ≤ 9223372036854775807 := by
          rcases hrow2.own.2 with ⟨h0, h1⟩ | ⟨g', c', cur, hv', _, _, hle, hm', _⟩
          · cases h0
          · rw [litVals_len, HCV.out.2] at hle; unfold maxLen at hm'; omega
        have w4 : IntKind.i64.wrap ((i : Int) + 1) = ((i + 1 : Nat) : Int) := by rw [IntKind.wrap_i64]; omega
        have cs : wr.cell? ⟨gS, v, none⟩ = some (.bool sb) := hM.see.cell (bool_at hsb)
        have fs : wr.frozen? ⟨gS, v, none⟩ = false := hM.see.frozen v
        have c4 : wr.cell? ⟨p, 4, none⟩ = some (.slice (some ⟨gl, 0, none⟩) (V + 1) (V + 1)) := hM.slv.blk.cell 4
        have cl : wr.cell? ⟨gl, v, none⟩ = some (.int .i64 lvv) := hM.slv.lev.cell (lit_at hlvv)
        have HVX := Lib.hid (show x = (v : Int) ∨ x = -(v : Int) by omega)
        have HM := Lib.hid hM
        have HS := Lib.hid hSm
        have HLC := Lib.hid hlc
        have HHS := Lib.hid (And.intro hi (And.intro hmb hlvv))
        clear hM hSm hlc hdrop hx hrow2 hcel2 hc0' hsb hlvv hmb hv
        obtain ⟨wy, hwy⟩ : ∃ wy, wr = wy := ⟨_, rfl⟩
        rw [hwy] at cx cs fs c4 cl HM ⊢
        clear hwy
        go_upto_region 7 with fail
        go_cut [13] (fun vv wx => vv = .int .i64 (v : Nat) ∧ wx = wy)
        case first =>
          rcases HVX.out with hv | hv
          · subst hv
            have wn : IntKind.i64.wrap (-(v : Int)) = -(v : Int) := by rw [IntKind.wrap_i64]; omega
            have hmx : max (v : Int) (-(v : Int)) = (v : Int) := by omega
            go_wp2_with fail
            all_goals (go_meet; exact ⟨by go_num, rfl⟩)
          · subst hv
            have wn : IntKind.i64.wrap (- -(v : Int)) = (v : Int) := by rw [IntKind.wrap_i64]; omega
            have hmx : max (-(v : Int)) (v : Int) = (v : Int) := by omega
            go_wp2_with fail
            all_goals (go_meet; exact ⟨by go_num, rfl⟩)
        case rest =>
        obtain ⟨e6, hwc⟩ := hcut
        subst e6
        rw [hwc]
        clear hwc cx
        have hlc := HLC.out
        by_cases hcc : x = n ∨ sb = true ∨ lvv = 0
        · rw [if_pos hcc] at hlc
          have HNX := Lib.hid (show LrI w tag p V gS ⟨.slice (some ⟨gC, 0, none⟩) nx cC, rows, gw, wrows, gv, gl, gr, vt, vL, gs, gp, vh, gP, vP, prows⟩ s n c0 l1 (.int .i64 ((i + 1 : Nat) : Int)) u7 (.int .i64 (l2.op : Nat)) wy from
            ⟨i + 1, l2, tag2, rfl, by have := HCV.out.2; omega, rfl, hlc, HM.out, HS.out, hopb⟩)
          clear hlc
          by_cases hxn : x = n
          · have t1 : ((x : Int) == n) = true := by simp [hxn]
            clear hcc hxn
            go_wp2_with fail
            go_roundw
            case rel => exact HNX.out
            case measure => simp [intOf]; omega
          · have t1 : ((x : Int) == n) = false := by simp [hxn]
            cases sb with
            | true =>
              clear hcc hxn
              go_wp2_with fail
              go_roundw
              case rel => exact HNX.out
              case measure => simp [intOf]; omega
            | false =>
              have hl0 : lvv = 0 := by
                rcases hcc with h1 | h1 | h1
                · exact absurd h1 hxn
                · cases h1
                · exact h1
              have t2 : ((lvv : Int) == 0) = true := by simp [hl0]
              clear hcc hxn hl0
              go_wp2_with fail
              go_roundw
              case rel => exact HNX.out
              case measure => simp [intOf]; omega
        · rw [if_neg hcc] at hlc
          have hxn : x ≠ n := fun e => hcc (.inl e)
          have hsf : sb = false := by
            cases sb with
            | false => rfl
            | true => exact absurd (.inr (.inl rfl)) hcc
          subst hsf
          have hl0 : lvv ≠ 0 := fun e => hcc (.inr (.inr e))
          have t1 : ((x : Int) == n) = false := by simp [hxn]
          have t2 : ((lvv : Int) == 0) = false := by simp [hl0]
          split at hlc
          · cases hlc
          rename_i s3 hbm
          split at hlc
          case isFalse => cases hlc
          rename_i hsz
          have hM2 := HM.out.see_ v true
          obtain ⟨W2, hW2⟩ : ∃ W2, wy.setCell ⟨gS, v, none⟩ (.bool true) = W2 := ⟨_, rfl⟩
          rw [hW2] at hM2
          have CB := Lib.hid (hM2.bump hbm hV (by rw [HS.out.1]; exact HH.out))
          have HS3 := Lib.hid (HS.out.bump hbm)
          have HW2 := Lib.hid hW2
          clear hM2 hW2 hbm hcc hxn hl0
          go_upto_region 10 with fail
          rw [HW2.out]
          clear cs fs c4 cl
          go_wp2_with fail
          refine CB.out.mono ?_
          rintro e w3 ⟨rfl, hM3⟩
          obtain ⟨nl, hnl⟩ : ∃ nl, s3.lm.length = nl := ⟨_, rfl⟩
          obtain ⟨AL, cL, hvL⟩ := hM3.slv.lim.form
          rw [kVals_len, hnl] at hvL
          dsimp only at hvL
          subst hvL
          have d4 : w3.cell? ⟨p, 4, none⟩ = some (.slice (some ⟨gl, 0, none⟩) (V + 1) (V + 1)) := hM3.slv.blk.cell 4
          have dl : w3.cell? ⟨gl, v, none⟩ = some (.int .i64 lvv) := hM3.slv.lev.cell (lit_at (by rw [HS3.out.2.2.1, ← HS.out.2.2.1]; exact HHS.out.2.2))
          have d7 : w3.cell? ⟨p, 7, none⟩ = some (.slice AL nl cL) := hM3.slv.blk.cell 7
          have hln : l2.s.lm.length = nl := by rw [← hnl, HS3.out.2.2.2.1, HS.out.2.2.2.1]
          rw [hln] at hlc
          have HM3 := Lib.hid hM3
          obtain ⟨op, hop⟩ : ∃ op, l2.op = op := ⟨_, rfl⟩
          rw [hop] at hsz hlc ⊢
          have wo : IntKind.i64.wrap ((op : Int) + 1) = (op : Int) + 1 := by rw [IntKind.wrap_i64]; omega
          have HHI := Lib.hid HHS.out.1
          clear hM3 hnl hln
          by_cases hcur : lvv = (nl : Int)
          · rw [if_pos hcur] at hlc
            have t3 : ((lvv : Int) == (nl : Int)) = true := by simp [hcur]
            have HNX := Lib.hid (show ∀ q, LrI w tag p V gS ⟨.slice (some ⟨gC, 0, none⟩) nx cC, rows, gw, wrows, gv, gl, gr, vt, .slice AL nl cL, gs, gp, vh, gP, vP, prows⟩ s n c0 l1 (.int .i64 ((i + 1 : Nat) : Int)) u7 (.int .i64 ((op : Int) + 1)) (w3.drewN q) from fun q =>
              ⟨i + 1, _, tag2, rfl, by have := HCV.out.2; omega, rfl, hlc, HM3.out.new (below_drewN (Below.refl _ w3) q), HS3.out, by show op + 1 ≤ 1000000; have := hsz.1; omega⟩)
            clear hlc hcur
            go_upto_region 11 with fail
            go_quiet (fail)
            have HNXQ := Lib.hid (HNX.out nq)
            clear HNX d4 dl d7
            go_wp2_with fail
            go_roundw
            case rel => exact HNXQ.out
            case measure => simp [intOf]; omega
          · rw [if_neg hcur] at hlc
            have t3 : ((lvv : Int) == (nl : Int)) = false := by simp [hcur]
            go_upto_region 11 with fail
            go_quiet (fail)
            obtain ⟨wq, hwq⟩ : ∃ wq, w3.drewN nq = wq := ⟨_, rfl⟩
            have hMq := HM3.out.new (below_drewN (Below.refl _ w3) nq)
            rw [hwq] at hMq ⊢
            clear d4 dl d7 hwq
            obtain ⟨no, hno⟩ : ∃ no, l2.out.length = no := ⟨_, rfl⟩
            obtain ⟨Ao, co, hov⟩ := hMq.row.form
            rw [litVals_len, hno] at hov
            subst hov
            rw [hno] at hsz
            have hMa := hMq.new ((Below.refl _ wq).alloc (Nat.le_refl _) (.cells #[.int .i64 x] 3))
            have HO := Lib.hid (show (wq.alloc (.cells #[.int .i64 x] 3)).ownsRow w.heap.size 3 1 (.slice Ao no co) no (litVals l2.out) from by
              have := hMa.row.own
              rw [litVals_len, hno] at this; exact this)
            have HMA := Lib.hid hMa
            have HSZ := Lib.hid hMa.cg.size
            have HNO := Lib.hid hno
            have HLC2 := Lib.hid hlc
            clear hlc hcur hMq hMa hno
            go_wp2_with (first | (at_builtin; refine wpList_append_loc _ rfl (.tmp 86) (.tmp 88) _ rfl w.heap.size 3 i0 _ 1 8 Tryd.underlying25 HI.out.1 HI.out.2.1 HI.out.2.2.1 HI.out.2.2.2 rfl (by omega) (.slice Ao no co) no (litVals l2.out) rfl HO.out (wq.heap.size + 1) (some ⟨wq.heap.size, 0, none⟩) 1 1 [.int .i64 x] rfl (reads_new (by simp) (by simp) rfl) (by intro u hu; rw [List.mem_singleton.1 hu]; rfl) (le_maxLen4 (by omega)) (le_bytes4 (by omega) (by omega)) HSZ.out ?_; intro A6 c6 w6 hown6 hg6 hl6; have HO6 := Lib.hid hown6; have HG6 := Lib.hid hg6; have HL6 := Lib.hid hl6; clear hown6 hg6 hl6) | fail)
            have hown6 := HO6.out
            rw [lit_snoc] at hown6
            obtain ⟨tag6, hM6⟩ := HMA.out.push hown6 (by rw [List.length_append, HNO.out]; rfl) (by simp) HG6.out HL6.out
            have HNX := Lib.hid (show LrI w tag p V gS ⟨.slice (some ⟨gC, 0, none⟩) nx cC, rows, gw, wrows, gv, gl, gr, vt, .slice AL nl cL, gs, gp, vh, gP, vP, prows⟩ s n c0 l1 (.int .i64 ((i + 1 : Nat) : Int)) (.slice A6 (no + 1) c6) (.int .i64 (op : Nat)) w6 from
              ⟨i + 1, _, tag6, rfl, by have := HCV.out.2; omega, rfl, HLC2.out, hM6, HS3.out, by show op ≤ 1000000; have := hsz.1; omega⟩)
            clear hM6 hown6
            go_roundw
            case rel => exact HNX.out
            case measure => simp [intOf]; omega
      · obtain rfl : i = m := by omega
        rw [List.drop_eq_nil_of_le (by rw [HCV.out.2]; exact Nat.le_refl _)] at hlc
        unfold lcl at hlc
        injection hlc with hlc
        subst hlc
        have hlr := HLR.out
        cases at_ with
        | zero => cases hlr
        | succ at1 =>
        dsimp only at hlr
        split at hlr
        · cases hlr
        rename_i a hsk
        split at hlr
        · cases hlr
        rename_i ta hta
        split at hlr
        · cases hlr
        rename_i kr hkr
        rw [hSm.2.1] at hsk hta
        have HSK := Lib.hid hsk
        have HTA := Lib.hid (And.intro hta hkr)
        have HLR2 := Lib.hid hlr
        have HM := Lib.hid hM
        have HS := Lib.hid hSm
        have eat : ((at1 + 1 : Nat) : Int) - 1 = (at1 : Int) := by omega
        rw [eat]
        clear hM hSm hsk hta hkr hlr hi him
        obtain ⟨wy, hwy⟩ : ∃ wy, wr = wy := ⟨_, rfl⟩
        rw [hwy] at HM ⊢
        clear hwy
        go_wp2_with fail
        have hvt := HVT.out
        subst hvt
        go_loopw [9] (fun jv wx => ∃ j : Nat, jv = .int .i64 (j : Nat) ∧ lseek s.tr l2.seen j = some a ∧ LrM w tag p V gS l2.seen u7 l2.out wx tag2 ⟨.slice (some ⟨gC, 0, none⟩) nx cC, rows, gw, wrows, gv, gl, gr, .slice At nt ct, vL, gs, gp, vh, gP, vP, prows⟩ l2.s) (fun jv _ => (intOf jv).toNat)
        case atStart => exact ⟨at1, rfl, HSK.out, HM.out⟩
        case round =>
          obtain ⟨j, e1, hsk, hM⟩ := hrel
          subst e1
          obtain ⟨tj, b, htj, hsb, hbt, hbf⟩ := lseek_spec hsk
          have hjn : j < nt := by have := HNT.out; have := (List.getElem?_eq_some_iff.1 htj).1; omega
          have hjI : (j : Int) < (nt : Int) := by omega
          obtain ⟨gt, hAt⟩ : ∃ gt, At = some ⟨gt, 0, none⟩ := by
            obtain ⟨g', c', hv, _, _⟩ := hM.slv.trl.at_ (by rw [litVals_len, HS.out.2.1, HNT.out]; omega)
            injection hv with e1; exact ⟨g', e1⟩
          subst hAt
          have c6 : wr.cell? ⟨p, 6, none⟩ = some (.slice (some ⟨gt, 0, none⟩) nt ct) := hM.slv.blk.cell 6
          have ctr : wr.cell? ⟨gt, j, none⟩ = some (.int .i64 tj) := Row.cell (xs := litVals l2.s.tr) (c := ct) (by rw [litVals_len, show l2.s.tr.length = nt by rw [HS.out.2.1]; exact HNT.out]; exact hM.slv.trl) (lit_at (by rw [HS.out.2.1]; exact htj))
          obtain ⟨v, hv⟩ : ∃ v, tj.natAbs = v := ⟨_, rfl⟩
          rw [hv] at hsb
          have hvV : v < V + 1 := by rw [← hM.sl]; exact (List.getElem?_eq_some_iff.1 hsb).1
          have hvI : (v : Int) < (V : Int) + 1 := by omega
          have cs : wr.cell? ⟨gS, v, none⟩ = some (.bool b) := hM.see.cell (bool_at hsb)
          have HVX := Lib.hid (show tj = (v : Int) ∨ (tj = -(v : Int) ∧ 0 < v) by omega)
          have HMJ := Lib.hid hM
          have HB := Lib.hid (And.intro hbt hbf)
          clear hM hsk htj hbt hbf hsb hv
          obtain ⟨wz, hwz⟩ : ∃ wz, wr = wz := ⟨_, rfl⟩
          rw [hwz] at c6 ctr cs HMJ ⊢
          clear hwz
          go_upto_region 15 with fail
          go_cut [110] (fun bv wx => bv = .bool (!b) ∧ LrM w tag p V gS l2.seen u7 l2.out wx tag2 ⟨.slice (some ⟨gC, 0, none⟩) nx cC, rows, gw, wrows, gv, gl, gr, .slice (some ⟨gt, 0, none⟩) nt ct, vL, gs, gp, vh, gP, vP, prows⟩ l2.s)
          case first =>
            rcases HVX.out with hv | ⟨hv, hv0⟩
            · subst hv
              have wn : IntKind.i64.wrap (-(v : Int)) = -(v : Int) := by rw [IntKind.wrap_i64]; omega
              have hmx : max (v : Int) (-(v : Int)) = (v : Int) := by omega
              go_quiet (fail)
              go_wp2_with fail
              all_goals (go_meet; exact ⟨rfl, HMJ.out.new (below_drewN (Below.refl _ _) _)⟩)
            · subst hv
              have wn : IntKind.i64.wrap (- -(v : Int)) = (v : Int) := by rw [IntKind.wrap_i64]; omega
              have wv : IntKind.i64.wrap (v : Int) = (v : Int) := by rw [IntKind.wrap_i64]; omega
              have hmx : max (-(v : Int)) (v : Int) = (v : Int) := by omega
              have hv0I : (0 : Int) < (v : Int) := by omega
              go_quiet (fail)
              go_wp2_with fail
              all_goals (go_meet; exact ⟨rfl, HMJ.out.new (below_drewN (Below.refl _ _) _)⟩)
          case rest =>
          obtain ⟨e6, hM⟩ := hcut
          subst e6
          clear c6 ctr cs HMJ
          cases b with
          | false =>
            as_aux_lemma =>
            obtain ⟨j', hj', hsk⟩ := HB.out.2 rfl
            have wj : IntKind.i64.wrap ((j : Int) - 1) = (j' : Int) := by have := HNT.out; rw [IntKind.wrap_i64]; omega
            have HJ := Lib.hid hj'
            have HNX := Lib.hid (And.intro hsk hM)
            clear hsk hM hj'
            go_wp2_with fail
            go_roundw
            case rel => exact ⟨j', rfl, HNX.out.1, HNX.out.2⟩
            case measure => have := HJ.out; simp [intOf]; omega
          | true =>
            obtain rfl : a = j := HB.out.1 rfl
            obtain ⟨hta, hkr⟩ := HTA.out
            obtain ⟨wd, hwd⟩ : ∃ wd, wc = wd := ⟨_, rfl⟩
            rw [hwd] at hM ⊢
            clear hwd
            obtain ⟨v2, hv2⟩ : ∃ v, ta.natAbs = v := ⟨_, rfl⟩
            rw [hv2] at hkr
            have hv2V : v2 < V + 1 := by have h9 := hM.slv.rl; have := (List.getElem?_eq_some_iff.1 hkr).1; omega
            have hv2I : (v2 : Int) < (V : Int) + 1 := by omega
            have c6 : wd.cell? ⟨p, 6, none⟩ = some (.slice (some ⟨gt, 0, none⟩) nt ct) := hM.slv.blk.cell 6
            have ctr : wd.cell? ⟨gt, a, none⟩ = some (.int .i64 ta) := Row.cell (xs := litVals l2.s.tr) (c := ct) (by rw [litVals_len, show l2.s.tr.length = nt by rw [HS.out.2.1]; exact HNT.out]; exact hM.slv.trl) (lit_at (by rw [HS.out.2.1]; exact hta))
            have c5 : wd.cell? ⟨p, 5, none⟩ = some (.slice (some ⟨gr, 0, none⟩) (V + 1) (V + 1)) := hM.slv.blk.cell 5
            have cr : wd.cell? ⟨gr, v2, none⟩ = some (.int .i64 kr) := hM.slv.rea.cell (lit_at hkr)
            have HVX2 := Lib.hid (show ta = (v2 : Int) ∨ (ta = -(v2 : Int) ∧ 0 < v2) by omega)
            have hlr := HLR2.out
            have HMD := Lib.hid hM
            clear HB hM hta hkr hv2 HVX HTA HLR2
            go_upto_region 18 with fail
            go_cut [1, 10] (fun kv nv wx => kv = .int .i64 kr ∧ nv = .int .i64 ta ∧ wx = wd)
            case first =>
              rcases HVX2.out with hv | ⟨hv, hv0⟩
              · rw [hv]
                have wn : IntKind.i64.wrap (-(v2 : Int)) = -(v2 : Int) := by rw [IntKind.wrap_i64]; omega
                have hmx : max (v2 : Int) (-(v2 : Int)) = (v2 : Int) := by omega
                go_wp2_with fail
                all_goals (go_meet; exact ⟨rfl, by rw [hv], rfl⟩)
              · rw [hv]
                have wn : IntKind.i64.wrap (- -(v2 : Int)) = (v2 : Int) := by rw [IntKind.wrap_i64]; omega
                have hmx : max (-(v2 : Int)) (v2 : Int) = (v2 : Int) := by omega
                have hv0I : (0 : Int) < (v2 : Int) := by omega
                go_wp2_with fail
                all_goals (go_meet; exact ⟨rfl, by rw [hv], rfl⟩)
            case rest =>
            obtain ⟨e6, e7, hwc⟩ := hcut
            subst e6
            subst e7
            rw [hwc]
            clear hwc c6 ctr c5 cr
            obtain ⟨op, hop⟩ : ∃ op, l2.op = op := ⟨_, rfl⟩
            rw [hop] at hlr ⊢
            have wa : IntKind.i64.wrap ((a : Int) - 1) = (a : Int) - 1 := by have := HNT.out; rw [IntKind.wrap_i64]; omega
            match op, hlr with
            | 0, hlr => cases hlr
            | 1, hlr =>
              dsimp only at hlr
              injection hlr with hlr
              injection hlr with q1 q2
              subst q1
              subst q2
              clear hop
              have hol := HMD.out.ol
              obtain ⟨go, co, hov, hoc⟩ := HMD.out.form hol
              obtain ⟨no, hno⟩ : ∃ no, l2.out.length = no := ⟨_, rfl⟩
              rw [hno] at hov hoc
              subst hov
              obtain ⟨z0, hz0⟩ : ∃ z, l2.out[0]? = some z := ⟨_, List.getElem?_eq_getElem hol⟩
              obtain ⟨co0, fo0⟩ := HMD.out.at_ rfl hno hz0
              have hno0 : 0 < no := by omega
              have hno0I : (0 : Int) < (no : Int) := by omega
              obtain ⟨un, hun⟩ : ∃ un, -ta = un := ⟨_, rfl⟩
              have wt : IntKind.i64.wrap (-ta) = un := by have := HVX2.out; rw [IntKind.wrap_i64]; omega
              have hM7 := HMD.out.put rfl hno 0 un
              obtain ⟨w7, hw7⟩ : ∃ w7, wd.setCell ⟨go, 0, none⟩ (.int .i64 un) = w7 := ⟨_, rfl⟩
              rw [hw7] at hM7
              have hu := HU.out
              dsimp only at hu
              rw [hun] at hu
              split at hu
              · cases hu
              rename_i cF bF hsw
              injection hu with hu
              injection hu with q1 hu
              injection hu with q2 q3
              subst q1
              subst q2
              subst q3
              have HSW := Lib.hid (show ∃ f out, out.length = no ∧ lswap l2.s.lv f 1 out 0 = some (cF, bF) ∧ LrM w tag p V gS l2.seen (.slice (some ⟨go, 0, none⟩) no co) out w7 tag2 ⟨.slice (some ⟨gC, 0, none⟩) nx cC, rows, gw, wrows, gv, gl, gr, .slice (some ⟨gt, 0, none⟩) nt ct, vL, gs, gp, vh, gP, vP, prows⟩ l2.s from ⟨_, _, by rw [List.length_set]; exact hno, hsw, hM7⟩)
              have HW7 := Lib.hid hw7
              have HOC := Lib.hid hoc
              clear hM7 hw7 hsw hun hz0 hno hol
              go_upto_region 23 with fail
              rw [HW7.out]
              clear co0 fo0
              go_wp2_with fail
              go_loopw [14, 15] (fun bv iv wx => ∃ (f i : Nat) (o3 : List Int) (b : Int), bv = .int .i64 b ∧ iv = .int .i64 (i : Nat) ∧ o3.length = no ∧ lswap l2.s.lv f i o3 b = some (cF, bF) ∧ LrM w tag p V gS l2.seen (.slice (some ⟨go, 0, none⟩) no co) o3 wx tag2 ⟨.slice (some ⟨gC, 0, none⟩) nx cC, rows, gw, wrows, gv, gl, gr, .slice (some ⟨gt, 0, none⟩) nt ct, vL, gs, gp, vh, gP, vP, prows⟩ l2.s) (fun _ iv _ => no - (intOf iv).toNat)
              case atStart =>
                obtain ⟨f0, o0, q1, q2, q3⟩ := HSW.out
                exact ⟨f0, 1, o0, 0, rfl, rfl, q1, q2, q3⟩
              case round =>
                clear HSW
                obtain ⟨f3, i3, o3, b3, e1, e2, hol3, hsw, hM⟩ := hrel
                subst e1
                subst e2
                by_cases hin : i3 < no
                · cases f3 with
                  | zero => cases hsw
                  | succ f3 =>
                  unfold lswap at hsw
                  rw [hol3, if_pos hin] at hsw
                  split at hsw
                  case h_2 => cases hsw
                  rename_i x3 y3 hx3 hy3
                  split at hsw
                  · cases hsw
                  rename_i l3 hl3
                  have hinI : (i3 : Int) < (no : Int) := by omega
                  obtain ⟨cx3, fx3⟩ := hM.at_ rfl hol3 hx3
                  obtain ⟨cy3, fy3⟩ := hM.at_ rfl hol3 hy3
                  obtain ⟨v3, hv3⟩ : ∃ v, x3.natAbs = v := ⟨_, rfl⟩
                  rw [hv3] at hl3
                  have hv3V : v3 < V + 1 := by have h9 := hM.slv.ll; have := (List.getElem?_eq_some_iff.1 hl3).1; omega
                  have hv3I : (v3 : Int) < (V : Int) + 1 := by omega
                  have c4 : wr.cell? ⟨p, 4, none⟩ = some (.slice (some ⟨gl, 0, none⟩) (V + 1) (V + 1)) := hM.slv.blk.cell 4
                  have cl : wr.cell? ⟨gl, v3, none⟩ = some (.int .i64 l3) := hM.slv.lev.cell (lit_at hl3)
                  have HVX3 := Lib.hid (show x3 = (v3 : Int) ∨ (x3 = -(v3 : Int) ∧ 0 < v3) by omega)
                  have h1n : 1 < no := by have := (List.getElem?_eq_some_iff.1 hy3).1; omega
                  have h1nI : (1 : Int) < (no : Int) := by omega
                  have hnob : no ≤ 9223372036854775807 := by
                    rcases hM.row.own.2 with ⟨h0, h1⟩ | ⟨g', c', cur, hv', _, _, hle, hm', _⟩
                    · cases h0
                    · rw [litVals_len, hol3] at hle; unfold maxLen at hm'; omega
                  have w5 : IntKind.i64.wrap ((i3 : Int) + 1) = ((i3 + 1 : Nat) : Int) := by rw [IntKind.wrap_i64]; omega
                  have HM3 := Lib.hid hM
                  have HSW3 := Lib.hid hsw
                  have HX3 := Lib.hid (And.intro hx3 (And.intro hy3 hol3))
                  clear hM hsw hx3 hy3 hol3 hl3 hv3
                  obtain ⟨wz, hwz⟩ : ∃ wz, wr = wz := ⟨_, rfl⟩
                  rw [hwz] at cx3 fx3 cy3 fy3 c4 cl HM3 ⊢
                  clear hwz
                  go_upto_region 27 with fail
                  go_cut [16] (fun lv wx => lv = .int .i64 l3 ∧ ∃ q, wz.drewN q = wx)
                  case first =>
                    rcases HVX3.out with hv | ⟨hv, hv0⟩
                    · subst hv
                      have wn : IntKind.i64.wrap (-(v3 : Int)) = -(v3 : Int) := by rw [IntKind.wrap_i64]; omega
                      have hmx : max (v3 : Int) (-(v3 : Int)) = (v3 : Int) := by omega
                      go_quiet (fail)
                      go_wp2_with fail
                      all_goals (go_meet; exact ⟨rfl, _, rfl⟩)
                    · subst hv
                      have wn : IntKind.i64.wrap (- -(v3 : Int)) = (v3 : Int) := by rw [IntKind.wrap_i64]; omega
                      have wv : IntKind.i64.wrap (v3 : Int) = (v3 : Int) := by rw [IntKind.wrap_i64]; omega
                      have hmx : max (-(v3 : Int)) (v3 : Int) = (v3 : Int) := by omega
                      have hv0I : (0 : Int) < (v3 : Int) := by omega
                      go_quiet (fail)
                      go_wp2_with fail
                      all_goals (go_meet; exact ⟨rfl, _, rfl⟩)
                  case rest =>
                  obtain ⟨e6, q3, hwc⟩ := hcut
                  subst e6
                  have hM4 := HM3.out.new (below_drewN (Below.refl _ wz) q3)
                  rw [hwc] at hM4
                  clear hwc cx3 fx3 cy3 fy3 c4 cl HM3
                  obtain ⟨hx3, hy3, hol3⟩ := HX3.out
                  obtain ⟨cx3, fx3⟩ := hM4.at_ rfl hol3 hx3
                  obtain ⟨cy3, fy3⟩ := hM4.at_ rfl hol3 hy3
                  have hsw := HSW3.out
                  by_cases hbl : b3 < l3
                  · rw [if_pos hbl] at hsw
                    have tb : decide (l3 > b3) = true := decide_eq_true hbl
                    have hlen : ∀ (a b c d), ((o3.set a c).set b d).length = no := fun _ _ _ _ => by rw [List.length_set, List.length_set]; exact hol3
                    have hE : LrM w tag p V gS l2.seen (.slice (some ⟨go, 0, none⟩) no co) ((o3.set 1 x3).set i3 y3) ((wc.setCell ⟨go, 1, none⟩ (.int .i64 x3)).setCell ⟨go, i3, none⟩ (.int .i64 y3)).drew tag2 ⟨.slice (some ⟨gC, 0, none⟩) nx cC, rows, gw, wrows, gv, gl, gr, .slice (some ⟨gt, 0, none⟩) nt ct, vL, gs, gp, vh, gP, vP, prows⟩ l2.s :=
                      ((hM4.put rfl hol3 1 x3).put rfl (by rw [List.length_set]; exact hol3) i3 y3).new (below_drewN (Below.refl _ _) 1)
                    have hE2 : LrM w tag p V gS l2.seen (.slice (some ⟨go, 0, none⟩) no co) ((o3.set i3 y3).set 1 x3) ((wc.setCell ⟨go, i3, none⟩ (.int .i64 y3)).setCell ⟨go, 1, none⟩ (.int .i64 x3)).drew tag2 ⟨.slice (some ⟨gC, 0, none⟩) nx cC, rows, gw, wrows, gv, gl, gr, .slice (some ⟨gt, 0, none⟩) nt ct, vL, gs, gp, vh, gP, vP, prows⟩ l2.s :=
                      ((hM4.put rfl hol3 i3 y3).put rfl (by rw [List.length_set]; exact hol3) 1 x3).new (below_drewN (Below.refl _ _) 1)
                    have heq : (o3.set i3 y3).set 1 x3 = (o3.set 1 x3).set i3 y3 := by
                      by_cases e : i3 = 1
                      · subst e
                        rw [hx3] at hy3
                        injection hy3 with hy3
                        subst hy3
                        rfl
                      · rw [List.set_comm _ _ e]
                    rw [heq] at hE2
                    have HE := Lib.hid hE
                    have HE2 := Lib.hid hE2
                    have HSW4 := Lib.hid hsw
                    have HXY := Lib.hid (And.intro hx3 hy3)
                    have HLEN := Lib.hid (hlen 1 i3 x3 y3)
                    clear hE hE2 heq hsw hx3 hy3 hol3 hM4 hlen hbl
                    by_cases hi1 : i3 = 1
                    · subst hi1
                      obtain rfl : x3 = y3 := by
                        have h1 := HXY.out.1
                        rw [HXY.out.2] at h1
                        injection h1 with h1
                        exact h1.symm
                      go_upto_region 30 with fail
                      go_region
                      all_goals go_wp2
                      all_goals go_roundw
                      all_goals first
                        | exact ⟨_, _, _, _, rfl, rfl, HLEN.out, HSW4.out, HE.out⟩
                        | exact ⟨_, _, _, _, rfl, rfl, HLEN.out, HSW4.out, HE2.out⟩
                        | (simp [intOf]; omega)
                    · have hi1' : ¬ 1 = i3 := fun e => hi1 e.symm
                      go_upto_region 30 with fail
                      go_region
                      all_goals go_wp2
                      all_goals go_roundw
                      all_goals first
                        | exact ⟨_, _, _, _, rfl, rfl, HLEN.out, HSW4.out, HE.out⟩
                        | exact ⟨_, _, _, _, rfl, rfl, HLEN.out, HSW4.out, HE2.out⟩
                        | (simp [intOf]; omega)
                  · rw [if_neg hbl] at hsw
                    have tb : decide (l3 > b3) = false := decide_eq_false hbl
                    have HSW4 := Lib.hid hsw
                    have HM4 := Lib.hid hM4
                    have HOL := Lib.hid hol3
                    clear hsw hx3 hy3 hol3 hM4 hbl
                    go_wp2_with fail
                    go_roundw
                    case rel => exact ⟨_, _, _, _, rfl, rfl, HOL.out, HSW4.out, HM4.out⟩
                    case measure => simp [intOf]; omega
                · cases f3 with
                  | zero => cases hsw
                  | succ f3 =>
                  unfold lswap at hsw
                  rw [hol3, if_neg hin] at hsw
                  injection hsw with hsw
                  injection hsw with q1 q2
                  subst q1
                  subst q2
                  have t6 : decide ((i3 : Int) < (no : Int)) = false := decide_eq_false (by omega)
                  have t7 : decide (i3 < no) = false := decide_eq_false hin
                  have HE := Lib.hid (show LnP w tag p V ⟨.slice (some ⟨gC, 0, none⟩) nx cC, rows, gw, wrows, gv, gl, gr, .slice (some ⟨gt, 0, none⟩) nt ct, vL, gs, gp, vh, gP, vP, prows⟩ o3 b3 l2.s (.returned (.tuple #[.slice (some ⟨go, 0, none⟩) no co, .int .i64 b3])) wr from
                    ⟨_, tag2, rfl, hM.re, hM.cg, hM.slv, hM.row⟩)
                  clear hM hol3 hin
                  go_wp2_with fail
                  exact bodyPost_ret (v := .tuple #[.slice (some ⟨go, 0, none⟩) no co, .int .i64 b3]) (by simp [results, Tryd.results32, go_sem]) rfl HE.out
            | o + 2, hlr =>
              dsimp only at hlr
              have hopb2 : o + 2 ≤ 1000000 := by rw [← hop]; exact hopb
              have wo : IntKind.i64.wrap (((o + 2 : Nat) : Int) - 1) = ((o + 1 : Nat) : Int) := by rw [IntKind.wrap_i64]; omega
              have to1 : (((o + 1 : Nat) : Int) == 0) = false := by simp; omega
              have HNX := Lib.hid (show LrO w tag p V gS ⟨.slice (some ⟨gC, 0, none⟩) nx cC, rows, gw, wrows, gv, gl, gr, .slice (some ⟨gt, 0, none⟩) nt ct, vL, gs, gp, vh, gP, vP, prows⟩ s (t, lF) (.int .i64 kr) u7 (.int .i64 ((o + 1 : Nat) : Int)) (.int .i64 ((a : Int) - 1)) (.int .i64 ta) f wd from
                ⟨kr, ta, a, _, tag2, rfl, rfl, rfl, rfl, hlr, ⟨HMD.out.slv, HMD.out.re, HMD.out.cg, HMD.out.see, HMD.out.sn, HMD.out.sl, HMD.out.ol, HMD.out.row⟩, HS.out, by show o + 1 ≤ 1000000; omega⟩)
              clear hlr hop
              obtain ⟨o1, ho1⟩ : ∃ o1 : Int, ((o + 1 : Nat) : Int) = o1 := ⟨_, rfl⟩
              obtain ⟨o2, ho2⟩ : ∃ o2 : Int, ((o + 2 : Nat) : Int) = o2 := ⟨_, rfl⟩
              rw [ho1] at wo to1 HNX
              rw [ho2] at wo ⊢
              clear ho1 ho2
              go_wp2_with fail
              go_roundg f
              case measure => omega
              case rel => exact HNX.out
end
end Go.Proofs.YtaedbnbeelkkcaaDoor.slv
