/-
  WALK of (*solver).search.
-/
import Derived.Test.YtaedbnbeelkkcaaDoorNu
import Derived.Test.YtaedbnbeelkkcaaDoorAh
import Derived.Test.YtaedbnbeelkkcaaDoorSh
import Derived.Test.YtaedbnbeelkkcaaDoorNz
namespace Go.Proofs.YtaedbnbeelkkcaaDoor.slv
open Go.RowKit
theorem luby_le : ∀ {f i : Nat}, i ≤ 1000000000 → luby f i ≤ 2147483648
  | 0, _, _ => by show (1 : Nat) ≤ _; omega
  | f + 1, i, hi => by
    obtain ⟨a1, a2, a3, a4⟩ := lubyK_ok hi
    unfold luby
    by_cases c : 2 ^ lubyK i 64 1 - 1 = i + 1
    · rw [if_pos c]
      exact Nat.pow_le_pow_right (n := 2) (by omega) (show lubyK i 64 1 - 1 ≤ 31 by omega)
    · rw [if_neg c]
      obtain ⟨b1, b2, b3⟩ := luby_step hi c
      exact luby_le (f := f) (by omega)
section
variable {w w' : World} {tag : Nat → Tag} {p V : Nat} {y : SLay} {s : SS}
theorem blk16 {b : Nat} {t : TypeId} {cs : Array Value} (hc : Cg tag (Fr 16) w w') (ht : tag b = (0, 0)) (hx : Blk w b t cs) : Blk w' b t cs :=
  hc.keep b _ hx (by show ¬ Fr 16 (tag b); rw [ht]; exact fun h => absurd h.1 (by decide))
theorem PrA.chg {S : Tag → Prop} {pv : Value} {pf : List (List Int)} (h : PrA w tag pv pf) (hc : Cg tag S w w') (h1 : ¬ S (15, 0)) (h2 : ∀ k : Int, ¬ S (16, k)) : PrA w' tag pv pf := by
  obtain ⟨rows, a1, a2, a3⟩ := h
  exact ⟨rows, a1.chg hc h1, a2, fun k x u hx hu => (a3 k x u hx hu).chg hc (h2 _)⟩
/-- its tags may be others -/
theorem Slv.rt {tag' : Nat → Tag} (h : Slv w tag p V y s) (hr : ∀ t, Fr 16 t → Rt tag tag' t) : Slv w tag' p V y s where
  blk := h.blk
  tp := hr _ ⟨by decide, by decide⟩ _ h.tp
  hdr := h.hdr.rt (hr _ ⟨by decide, by decide⟩)
  cls := fun k x u hx hu => (h.cls k x u hx hu).rt (hr _ ⟨by show 1 ≤ 3; decide, by show 3 ≤ 16; decide⟩)
  whd := h.whd.rt (hr _ ⟨by decide, by decide⟩)
  wts := fun i u hu => (h.wts i u hu).rt (hr _ ⟨by show 1 ≤ 5; decide, by show 5 ≤ 16; decide⟩)
  val := h.val.rt (hr _ ⟨by decide, by decide⟩)
  lev := h.lev.rt (hr _ ⟨by decide, by decide⟩)
  rea := h.rea.rt (hr _ ⟨by decide, by decide⟩)
  trl := h.trl.rt (hr _ ⟨by decide, by decide⟩)
  lim := h.lim.rt (hr _ ⟨by decide, by decide⟩)
  sco := h.sco.rt (hr _ ⟨by decide, by decide⟩)
  pha := h.pha.rt (hr _ ⟨by decide, by decide⟩)
  hea := h.hea.rt (hr _ ⟨by decide, by decide⟩)
  pla := h.pla.rt (hr _ ⟨by decide, by decide⟩)
  prf := h.prf.rt (hr _ ⟨by decide, by decide⟩)
  prc := fun k x u hx hu => (h.prc k x u hx hu).rt (hr _ ⟨by show 1 ≤ 16; decide, by show 16 ≤ 16; decide⟩)
  rlen := h.rlen
  wlen := h.wlen
  vl := h.vl
  ll := h.ll
  rl := h.rl
  sl := h.sl
  phl := h.phl
  pll := h.pll
  plen := h.plen
/-- a row of another tag becomes one of the solver's -/
theorem retag {g : Nat} {t1 t2 : Tag} {base n c : Nat} {e : TypeId} {xs : List Value} (h : Slv w tag p V y s) (hr : Row w tag t1 base e (.slice (some ⟨g, 0, none⟩) n c) xs) (ht : ¬ Fr 16 t1) :
    Slv w (put tag g t2) p V y s ∧ Row w (put tag g t2) t2 0 e (.slice (some ⟨g, 0, none⟩) n c) xs ∧ (∀ g', g' ≠ g → put tag g t2 g' = tag g') ∧ base ≤ g := by
  have hg := hr.tg g rfl
  refine ⟨h.rt fun t hf g' hg' => ?_, ⟨own_base hr.own (Nat.zero_le _), fun g' hg' => ?_⟩, fun g' hne => if_neg hne, (hr.own.lt g rfl).1⟩
  · unfold put
    rw [if_neg (fun e => by subst e; rw [hg] at hg'; subst hg'; exact ht hf)]
    exact hg'
  · injection hg' with hg'
    subst hg'
    exact put_same _ _ _
theorem lits1' (l : List Int) : ∀ u ∈ litVals l, u.oneCell' = true := fun u hu => by
  unfold litVals at hu
  obtain ⟨x, _, rfl⟩ := List.mem_map.1 hu
  rfl
/-- what a search ends with -/
def SrP (w : World) (tag : Nat → Tag) (p V : Nat) : Ans → SS → Ending → World → Prop
  | .yes m, s', e, w' => ∃ A c tag' y', e = .returned (.agg #[.string ⟨#[121, 101, 115]⟩, .slice A V c, .slice none 0 0]) ∧ Re w tag tag' ∧ Cg tag (Fr 16) w w' ∧ Slv w' tag' p V y' s' ∧ w'.ownsRow w.heap.size 4 1 (.slice A V c) V (boolVals m)
  | .no pf, _, e, w' => ∃ pv tag', e = .returned (.agg #[.string ⟨#[110, 111]⟩, .slice none 0 0, pv]) ∧ Re w tag tag' ∧ Cg tag (Fr 16) w w' ∧ PrA w' tag' pv pf
  | .tired, _, e, w' => e = .returned (.agg #[.string ⟨#[116, 105, 114, 101, 100]⟩, .slice none 0 0, .slice none 0 0]) ∧ Cg tag (Fr 16) w w'
def SrO (w : World) (tag : Nat → Tag) (p V : Nat) (F : List (List Int)) (effort b0 : Nat) (res : Ans × SS) (rv cv lv : Value) (f : Nat) (wr : World) : Prop :=
  ∃ (rd cf : Nat) (left : Int) (s1 : SS) (tag1 : Nat → Tag) (y1 : SLay), rv = .int .i64 (rd : Nat) ∧ cv = .int .i64 (cf : Nat) ∧ lv = .int .i64 left ∧ searchL V effort f rd cf left s1 = some res ∧ Slv wr tag1 p V y1 s1 ∧ SI V F s1 ∧ s1.dead = false ∧ Re w tag tag1 ∧ Cg tag (Fr 16) w wr ∧ tag1 b0 = (0, 0) ∧
    Blk wr b0 45 #[.string ⟨#[]⟩, .slice none 0 0, .slice none 0 0] ∧ cf ≤ effort ∧ -(cf : Int) ≤ left ∧ left ≤ 1000000000000 ∧ ∃ b, (effort ≤ cf + b ∨ 3 ^ V ≤ s1.pf.length + b ∨ f ≤ b) ∧ F.length + s1.pf.length + b < 4000000
def SrM (w3 : World) (vs : List Int) (b1 : Nat) (V : Nat) (iv : Value) (wr : World) : Prop :=
  ∃ (k : Nat) (A : Option Addr) (c : Nat), k ≤ V ∧ iv = .int .i64 ((k + 1 : Nat) : Int) ∧ Below w3.heap.size w3 wr ∧ Blk wr b1 45 #[.string ⟨#[121, 101, 115]⟩, .slice A k c, .slice none 0 0] ∧ wr.ownsRow w3.heap.size 4 1 (.slice A k c) k (boolVals ((modelOf V vs).take k))
theorem own_geq {base : Nat} {e : TypeId} {size n : Nat} {v : Value} {xs : List Value} (h : w.ownsRow base e size v n xs) : ∀ k, v.ownBlock = some k → base ≤ k := by
  rcases h.2 with ⟨rfl, _⟩ | ⟨g', cap, cur, rfl, hb, _⟩
  · intro k hk; cases hk
  · intro k hk; injection hk with hk; subst hk; exact hb
def SpQ (_w : World) (_tag : Nat → Tag) (p V : Nat) (b0 : Nat) (w0 : World) (tag0 : Nat → Tag) (s : SS) (wr : World) : Prop :=
  ∃ tag' y', Slv wr tag' p V y' s ∧ Re w0 tag0 tag' ∧ Cg tag0 (Fr 16) w0 wr ∧ tag' b0 = (0, 0) ∧ Blk wr b0 45 #[.string ⟨#[]⟩, .slice none 0 0, .slice none 0 0]
theorem spread_q {b0 : Nat} {w0 : World} {tag0 : Nat → Tag} {r : Option Nat} {s1 : SS} (h : Slv w tag p V y s) (hu : spreadM V s = some (r, s1)) (hV : V ≤ 400000) (hre : Re w0 tag0 tag) (hcg : Cg tag0 (Fr 16) w0 w) (ht : tag b0 = (0, 0)) (hk : Blk w b0 45 #[.string ⟨#[]⟩, .slice none 0 0, .slice none 0 0]) (v : Int) (hv : rvK r = v) :
    Calls Tryd.prog 28 #[.pointer (some ⟨p, 0, none⟩)] w fun e w' => e = .returned (.int .i64 v) ∧ SpQ w tag p V b0 w0 tag0 s1 w' := by
  subst hv
  refine (spread_any h hu hV).mono ?_
  rintro e w2 ⟨rfl, tag2, y2, hre2, hcg2, h2⟩
  exact ⟨rfl, tag2, y2, h2, fun g hg => (hre2 g (by have := hcg.size; omega)).trans (hre g hg), hcg.trans_ hcg2 hre, (hre2 _ hk.lt).trans ht, blk16 hcg2 ht hk⟩
theorem own_farS {w : World} {base e n g k : Nat} {v : Value} {xs : List Value} (h : w.ownsRow base e 1 v n xs) (u : Value) (hg : v.ownBlock ≠ some g) : (w.setCell ⟨g, k, none⟩ u).ownsRow base e 1 v n xs := by
  refine ⟨h.1, ?_⟩
  rcases h.2 with h0 | ⟨g', cap, cur, rfl, hb, hh, rest⟩
  · exact .inl h0
  · refine .inr ⟨g', cap, cur, rfl, hb, ?_, rest⟩
    exact (Below.heap_setCell _ _ _ _ (fun e => hg (by simp [Value.ownBlock]; exact e))).trans hh
attribute [local irreducible] wpSeq wpMv
set_option maxRecDepth 100000 in
set_option maxHeartbeats 16000000 in
theorem search_any {F : List (List Int)} {effort fuel : Nat} {a : Ans} {s' : SS} (h : Slv w tag p V y s) (hS : SI V F s) (hu : searchM V effort fuel s = some (a, s')) (hV : V ≤ 400000) (heff : effort ≤ 1099511627776) {bud : Nat} (hbud : effort ≤ bud ∨ 3 ^ V ≤ s.pf.length + bud ∨ fuel ≤ bud) (hxl : F.length + s.pf.length + bud < 4000000) :
    Calls Tryd.prog 17 #[.pointer (some ⟨p, 0, none⟩), .int .i64 (effort : Nat)] w (SrP w tag p V a s') := by
  obtain ⟨i0, hi0, hz0, hz1, hz2⟩ := info_parts info_boolB
  have HIB := Lib.hid (And.intro hi0 (And.intro hz0 (And.intro hz1 hz2)))
  clear hz0 hz1 hz2
  obtain ⟨ic, hic, hz0, hz1, hz2⟩ := info_parts info_clauseA
  have HIC := Lib.hid (And.intro hic (And.intro hz0 (And.intro hz1 hz2)))
  clear hi0 hic hz0 hz1 hz2
  obtain ⟨b0, hb0⟩ : ∃ b0, w.heap.size = b0 := ⟨_, rfl⟩
  obtain ⟨W0, hW0⟩ : ∃ W0, W0 = w.alloc (.cells #[.string ⟨#[]⟩, .slice none 0 0, .slice none 0 0] 45) := ⟨_, rfl⟩
  have hbw : Below w.heap.size w W0 := by rw [hW0]; exact (Below.refl _ _).alloc (Nat.le_refl _) _
  obtain ⟨tag0, hre0, ht0⟩ : ∃ tag0, Re w tag tag0 ∧ tag0 b0 = (0, 0) := ⟨put tag b0 (0, 0), re_put (by omega), put_same _ _ _⟩
  have h0 := (h.re hre0).new hbw
  have k0 : Blk W0 b0 45 #[.string ⟨#[]⟩, .slice none 0 0, .slice none 0 0] := by rw [hW0, ← hb0]; exact Blk.new w _ _
  have c15 : W0.cell? ⟨p, 15, none⟩ = some (.bool s.dead) := h0.blk.cell 15
  have HW0 := Lib.hid hW0
  have HSL := Lib.hid h0
  have HRE := Lib.hid hre0
  have HCG := Lib.hid (show Cg tag (Fr 16) w W0 from cg_new hbw)
  have HT := Lib.hid ht0
  have HK := Lib.hid k0
  have HSI := Lib.hid hS
  have HB0 := Lib.hid hb0
  clear h hW0 h0 hre0 ht0 k0 hS hbw
  go_enter Tryd.func17, Tryd.ntmps17
  unfold searchM at hu
  cases hdd : s.dead with
  | true =>
    as_aux_lemma =>
    rw [hdd] at hu c15
    rw [if_pos rfl] at hu
    injection hu with hu
    injection hu with e1 e2
    subst e1
    subst e2
    clear hdd
    go_upto_region 1 with fail
    rw [← HW0.out]
    have CN := Lib.hid (no_any HSL.out (by omega))
    go_wp2_with fail
    refine CN.out.mono ?_
    rintro e w5 ⟨pv, tag5, rfl, hre5, hcg5, rows5, a1, a2, a3⟩
    obtain ⟨Ap, cp, hpv⟩ := a1.form
    obtain ⟨np, hnp⟩ : ∃ np, rows5.length = np := ⟨_, rfl⟩
    rw [hnp] at hpv
    subst hpv
    have hpr5 : PrA w5 tag5 (.slice Ap np cp) (s.pf ++ [[]]) := ⟨rows5, a1, a2, a3⟩
    have hcr : Cg tag (Fr 16) w w5 := HCG.out.trans_ hcg5 HRE.out
    have kr : Blk w5 b0 45 #[.string ⟨#[]⟩, .slice none 0 0, .slice none 0 0] := blk16 hcg5 HT.out HK.out
    have ht5 : tag5 b0 = (0, 0) := (hre5 _ HK.out.lt).trans HT.out
    obtain ⟨W9, hW9⟩ : ∃ W9, W9 = ((w5.setCell ⟨b0, 0, none⟩ (.string ⟨#[110, 111]⟩)).setCell ⟨b0, 1, none⟩ (.slice none 0 0)).setCell ⟨b0, 2, none⟩ (.slice Ap np cp) := ⟨_, rfl⟩
    have x9 : Blk W9 b0 45 #[.string ⟨#[110, 111]⟩, .slice none 0 0, .slice Ap np cp] := by rw [hW9]; exact ((kr.set_ 0 _).set_ 1 _).set_ 2 _
    have hg9 : Cg tag (Fr 16) w W9 := by
      rw [hW9]
      exact ((hcr.setCell (p := ⟨b0, 0, none⟩) (.inl (by show _ ≤ b0; omega)) _).setCell (p := ⟨b0, 1, none⟩) (.inl (by show _ ≤ b0; omega)) _).setCell (p := ⟨b0, 2, none⟩) (.inl (by show _ ≤ b0; omega)) _
    have hc9 : ∀ tg : Nat → Tag, tg b0 = (0, 0) → Cg tg (fun t => t = (0, 0)) w5 W9 := fun tg ht => by
      rw [hW9]
      exact (((Chg.refl _ w5).setCell (p := ⟨b0, 0, none⟩) (.inr fun _ => ht) _).setCell (p := ⟨b0, 1, none⟩) (.inr fun _ => ht) _).setCell (p := ⟨b0, 2, none⟩) (.inr fun _ => ht) _
    have x90 := x9.cell 0
    have x91 := x9.cell 1
    have x92 := x9.cell 2
    have r0 := kr.cell 0
    have r1 := kr.cell 1
    have r2 := kr.cell 2
    have fr0 := kr.frozen 0
    have fr1 := kr.frozen 1
    have fr2 := kr.frozen 2
    have HW9 := Lib.hid hW9
    have HE := Lib.hid (show SrP w tag p V (.no (s.pf ++ [[]])) s (.returned (.agg #[.string ⟨#[110, 111]⟩, .slice none 0 0, .slice Ap np cp])) W9 from
      ⟨_, tag5, rfl, fun g hg => (hre5 g (by have := HCG.out.size; omega)).trans (HRE.out g hg), hg9, hpr5.chg (hc9 tag5 ht5) (by simp) (by simp)⟩)
    clear hre5 hcg5 hpr5 a1 a2 a3 hnp hcr kr ht5 hg9 hc9 hW9 x9
    go_wp2_with fail
    rw [← HW9.out]
    exact bodyPost_ret (v := .agg #[.string ⟨#[110, 111]⟩, .slice none 0 0, .slice Ap np cp]) (by simp [results, Tryd.results17, go_sem, x90, x91, x92]) rfl HE.out
  | false =>
    rw [hdd] at hu c15
    rw [if_neg (by decide)] at hu
    obtain ⟨r, s1, e1, hsp⟩ := spreadM_ok HSI.out.full (by have := HSI.out.len; omega)
    rw [e1] at hu
    have CS := Lib.hid (fun v hv => spread_q HSL.out e1 hV HRE.out HCG.out HT.out HK.out v hv)
    go_upto_region 1 with fail
    rw [← HW0.out]
    have HHU := Lib.hid hu
    have HSP := Lib.hid hsp
    have HDD := Lib.hid hdd
    clear hu hsp hdd e1
    cases r with
    | some k =>
      as_aux_lemma =>
      have hu := HHU.out
      dsimp only at hu
      injection hu with hu
      injection hu with e1 e2
      subst e1
      subst e2
      have CS := Lib.hid (CS.out (k : Int) rfl)
      have tk0 : (0 : Int) ≤ (k : Int) := by omega
      have hpf1 : s1.pf = s.pf := HSP.out.2.2.pf
      have HPF1 := Lib.hid hpf1
      clear hpf1
      go_wp2_with (first | (refine CS.out.mono ?_; rintro e w2 ⟨rfl, hq2⟩; have HQ2 := Lib.hid hq2; clear hq2) | fail)
      obtain ⟨tag2, y2, h2, hre2, hcg2, ht2, hk2⟩ := HQ2.out
      have H2 := Lib.hid h2
      have HRE2 := Lib.hid hre2
      have HCG2 := Lib.hid hcg2
      have HT2 := Lib.hid ht2
      have HK2 := Lib.hid hk2
      clear h2 hre2 hcg2 ht2 hk2 HQ2
      have CN := Lib.hid (no_any H2.out (by rw [HPF1.out]; omega))
      skip
      refine CN.out.mono ?_
      rintro e w5 ⟨pv, tag5, rfl, hre5, hcg5, rows5, a1, a2, a3⟩
      obtain ⟨Ap, cp, hpv⟩ := a1.form
      obtain ⟨np, hnp⟩ : ∃ np, rows5.length = np := ⟨_, rfl⟩
      rw [hnp] at hpv
      subst hpv
      have hpr5 : PrA w5 tag5 (.slice Ap np cp) (s1.pf ++ [[]]) := ⟨rows5, a1, a2, a3⟩
      have hcr : Cg tag (Fr 16) w w5 := HCG2.out.trans_ hcg5 HRE2.out
      have kr : Blk w5 b0 45 #[.string ⟨#[]⟩, .slice none 0 0, .slice none 0 0] := blk16 hcg5 HT2.out HK2.out
      have ht5 : tag5 b0 = (0, 0) := (hre5 _ HK2.out.lt).trans HT2.out
      obtain ⟨W9, hW9⟩ : ∃ W9, W9 = ((w5.setCell ⟨b0, 0, none⟩ (.string ⟨#[110, 111]⟩)).setCell ⟨b0, 1, none⟩ (.slice none 0 0)).setCell ⟨b0, 2, none⟩ (.slice Ap np cp) := ⟨_, rfl⟩
      have x9 : Blk W9 b0 45 #[.string ⟨#[110, 111]⟩, .slice none 0 0, .slice Ap np cp] := by rw [hW9]; exact ((kr.set_ 0 _).set_ 1 _).set_ 2 _
      have hg9 : Cg tag (Fr 16) w W9 := by
        rw [hW9]
        exact ((hcr.setCell (p := ⟨b0, 0, none⟩) (.inl (by show _ ≤ b0; omega)) _).setCell (p := ⟨b0, 1, none⟩) (.inl (by show _ ≤ b0; omega)) _).setCell (p := ⟨b0, 2, none⟩) (.inl (by show _ ≤ b0; omega)) _
      have hc9 : ∀ tg : Nat → Tag, tg b0 = (0, 0) → Cg tg (fun t => t = (0, 0)) w5 W9 := fun tg ht => by
        rw [hW9]
        exact (((Chg.refl _ w5).setCell (p := ⟨b0, 0, none⟩) (.inr fun _ => ht) _).setCell (p := ⟨b0, 1, none⟩) (.inr fun _ => ht) _).setCell (p := ⟨b0, 2, none⟩) (.inr fun _ => ht) _
      have x90 := x9.cell 0
      have x91 := x9.cell 1
      have x92 := x9.cell 2
      have r0 := kr.cell 0
      have r1 := kr.cell 1
      have r2 := kr.cell 2
      have fr0 := kr.frozen 0
      have fr1 := kr.frozen 1
      have fr2 := kr.frozen 2
      have HW9 := Lib.hid hW9
      have HE := Lib.hid (show SrP w tag p V (.no (s1.pf ++ [[]])) s1 (.returned (.agg #[.string ⟨#[110, 111]⟩, .slice none 0 0, .slice Ap np cp])) W9 from
        ⟨_, tag5, rfl, fun g hg => (hre5 g (by have := HCG2.out.size; omega)).trans (HRE2.out g hg), hg9, hpr5.chg (hc9 tag5 ht5) (by simp) (by simp)⟩)
      clear hre5 hcg5 hpr5 a1 a2 a3 hnp hcr kr ht5 hg9 hc9 hW9 x9
      go_wp2_with fail
      rw [← HW9.out]
      exact bodyPost_ret (v := .agg #[.string ⟨#[110, 111]⟩, .slice none 0 0, .slice Ap np cp]) (by simp [results, Tryd.results17, go_sem, x90, x91, x92]) rfl HE.out
    | none =>
      have CS := Lib.hid (CS.out (-1) rfl)
      have hu := HHU.out
      dsimp only at hu
      obtain ⟨f1, d1, fr⟩ := HSP.out
      have HSI1 := Lib.hid (HSI.out.of_fra f1 fr.pf fr.xs.1)
      have HD1 := Lib.hid (fr.dead.trans HDD.out)
      have HP1 := Lib.hid (show (effort ≤ 0 + bud ∨ 3 ^ V ≤ s1.pf.length + bud ∨ fuel ≤ bud) ∧ F.length + s1.pf.length + bud < 4000000 by rw [fr.pf, Nat.zero_add]; exact ⟨hbud, hxl⟩)
      have HU1 := Lib.hid hu
      clear hu f1 d1 fr
      go_wp2_with (first | (refine CS.out.mono ?_; rintro e w2 ⟨rfl, hq2⟩; have HQ2 := Lib.hid hq2; clear hq2) | fail)
      obtain ⟨tag2, y2, h2, hre2, hcg2, ht2, hk2⟩ := HQ2.out
      have H2 := Lib.hid h2
      have HRE2 := Lib.hid hre2
      have HCG2 := Lib.hid hcg2
      have HT2 := Lib.hid ht2
      have HK2 := Lib.hid hk2
      clear h2 hre2 hcg2 ht2 hk2 HQ2
      have HST := Lib.hid (show SrO w tag p V F effort b0 (a, s') (.int .i64 ((0 : Nat) : Int)) (.int .i64 ((0 : Nat) : Int)) (.int .i64 100) fuel w2 from
        ⟨0, 0, 100, s1, tag2, y2, rfl, rfl, rfl, HU1.out, H2.out, HSI1.out, HD1.out, HRE2.out, HCG2.out, HT2.out, HK2.out, Nat.zero_le _, by omega, by omega, bud, HP1.out⟩)
      clear HU1 H2 HSI1 HD1 HRE2 HCG2 HT2 HK2 HP1 HHU HSP HDD HSL HRE HCG HT HK HSI CS HW0 c15
      go_loopg [5, 6, 7] fuel (fun f rv cv lv wr => SrO w tag p V F effort b0 (a, s') rv cv lv f wr)
      case atStart => exact HST.out
      case round =>
        clear HST
        obtain ⟨rd, cf, left, s1, tag1, y1, e1, e2, e3, hu, hsl, hsi, hdead, hre, hcg, ht, hk, hcf, hl1, hl2, b, hb1, hb2⟩ := hrel
        subst e1
        subst e2
        subst e3
        cases gk with
        | zero => cases hu
        | succ f =>
        unfold searchL at hu
        obtain ⟨r, s2, e1, hsp⟩ := spreadM_ok hsi.full (by have := hsi.len; omega)
        rw [e1] at hu
        have CS := Lib.hid (fun v hv => spread_q hsl e1 hV hre hcg ht hk v hv)
        have HU := Lib.hid hu
        have HSP := Lib.hid hsp
        have HSI := Lib.hid hsi
        have HDD := Lib.hid hdead
        have HBU := Lib.hid (And.intro hb1 hb2)
        have HL2 := Lib.hid hl2
        clear hu hsp e1 hsl hsi hdead hre hcg ht hk hb1 hb2
        cases r with
        | some k =>
          have CS := Lib.hid (CS.out (k : Int) rfl)
          go_wp2_with fail
          refine CS.out.mono ?_
          rintro e w2 ⟨rfl, tag2, y2, h2, hre2, hcg2, ht2, hk2⟩
          obtain ⟨nl, hnl⟩ : ∃ nl, s2.lm.length = nl := ⟨_, rfl⟩
          obtain ⟨vC, rows, gw, wrows, gv, gl, gr, vt, vL, gs, gp, vh, gP, vP, prows⟩ := y2
          obtain ⟨AL, cL, hvL⟩ := h2.lim.form
          rw [kVals_len, hnl] at hvL
          dsimp only at hvL
          subst hvL
          have c7 : w2.cell? ⟨p, 7, none⟩ = some (.slice AL nl cL) := h2.blk.cell 7
          have hu := HU.out
          try dsimp only at hu
          rw [hnl] at hu
          have H2 := Lib.hid h2
          have HRE2 := Lib.hid hre2
          have HCG2 := Lib.hid hcg2
          have HT2 := Lib.hid ht2
          have HK2 := Lib.hid hk2
          have HNL := Lib.hid hnl
          have HPF2 := Lib.hid (show s2.pf.length ≤ 4000000 by have := HSP.out.2.2.pf; have := HBU.out.2; rw [HSP.out.2.2.pf]; omega)
          have tk : decide ((k : Int) < 0) = false := decide_eq_false (by omega)
          clear h2 hre2 hcg2 ht2 hk2 HU CS hnl
          by_cases hl0 : nl = 0
          · as_aux_lemma =>
            rw [if_pos hl0] at hu
            injection hu with hu
            injection hu with q1 q2
            subst q1
            subst q2
            have t1 : ((nl : Int) == 0) = true := by simp [hl0]
            clear hl0
            have CN := Lib.hid (no_any H2.out (by exact HPF2.out))
            go_wp2_with fail
            refine CN.out.mono ?_
            rintro e w5 ⟨pv, tag5, rfl, hre5, hcg5, rows5, a1, a2, a3⟩
            obtain ⟨Ap, cp, hpv⟩ := a1.form
            obtain ⟨np, hnp⟩ : ∃ np, rows5.length = np := ⟨_, rfl⟩
            rw [hnp] at hpv
            subst hpv
            have hpr5 : PrA w5 tag5 (.slice Ap np cp) (s2.pf ++ [[]]) := ⟨rows5, a1, a2, a3⟩
            have hcr : Cg tag (Fr 16) w w5 := HCG2.out.trans_ hcg5 HRE2.out
            have kr : Blk w5 b0 45 #[.string ⟨#[]⟩, .slice none 0 0, .slice none 0 0] := blk16 hcg5 HT2.out HK2.out
            have ht5 : tag5 b0 = (0, 0) := (hre5 _ HK2.out.lt).trans HT2.out
            obtain ⟨W9, hW9⟩ : ∃ W9, W9 = ((w5.setCell ⟨b0, 0, none⟩ (.string ⟨#[110, 111]⟩)).setCell ⟨b0, 1, none⟩ (.slice none 0 0)).setCell ⟨b0, 2, none⟩ (.slice Ap np cp) := ⟨_, rfl⟩
            have x9 : Blk W9 b0 45 #[.string ⟨#[110, 111]⟩, .slice none 0 0, .slice Ap np cp] := by rw [hW9]; exact ((kr.set_ 0 _).set_ 1 _).set_ 2 _
            have hg9 : Cg tag (Fr 16) w W9 := by
              rw [hW9]
              exact ((hcr.setCell (p := ⟨b0, 0, none⟩) (.inl (by show _ ≤ b0; omega)) _).setCell (p := ⟨b0, 1, none⟩) (.inl (by show _ ≤ b0; omega)) _).setCell (p := ⟨b0, 2, none⟩) (.inl (by show _ ≤ b0; omega)) _
            have hc9 : ∀ tg : Nat → Tag, tg b0 = (0, 0) → Cg tg (fun t => t = (0, 0)) w5 W9 := fun tg ht => by
              rw [hW9]
              exact (((Chg.refl _ w5).setCell (p := ⟨b0, 0, none⟩) (.inr fun _ => ht) _).setCell (p := ⟨b0, 1, none⟩) (.inr fun _ => ht) _).setCell (p := ⟨b0, 2, none⟩) (.inr fun _ => ht) _
            have x90 := x9.cell 0
            have x91 := x9.cell 1
            have x92 := x9.cell 2
            have r0 := kr.cell 0
            have r1 := kr.cell 1
            have r2 := kr.cell 2
            have fr0 := kr.frozen 0
            have fr1 := kr.frozen 1
            have fr2 := kr.frozen 2
            have HW9 := Lib.hid hW9
            have HE := Lib.hid (show SrP w tag p V (.no (s2.pf ++ [[]])) s2 (.returned (.agg #[.string ⟨#[110, 111]⟩, .slice none 0 0, .slice Ap np cp])) W9 from
              ⟨_, tag5, rfl, fun g hg => (hre5 g (by have := HCG2.out.size; omega)).trans (HRE2.out g hg), hg9, hpr5.chg (hc9 tag5 ht5) (by simp) (by simp)⟩)
            clear hre5 hcg5 hpr5 a1 a2 a3 hnp hcr kr ht5 hg9 hc9 hW9 x9
            go_wp2_with fail
            rw [← HW9.out]
            exact bodyPost_ret (v := .agg #[.string ⟨#[110, 111]⟩, .slice none 0 0, .slice Ap np cp]) (by simp [results, Tryd.results17, go_sem, x90, x91, x92]) rfl HE.out
          · rw [if_neg hl0] at hu
            have t1 : ((nl : Int) == 0) = false := by simp [hl0]
            by_cases hce : cf = effort
            · as_aux_lemma =>
              rw [if_pos hce] at hu
              injection hu with hu
              injection hu with q1 q2
              subst q1
              subst q2
              have t2 : ((cf : Int) == (effort : Int)) = true := by simp [hce]
              have hcr := HCG2.out
              have kr := HK2.out
              obtain ⟨W9, hW9⟩ : ∃ W9, W9 = ((w2.setCell ⟨b0, 0, none⟩ (.string ⟨#[116, 105, 114, 101, 100]⟩)).setCell ⟨b0, 1, none⟩ (.slice none 0 0)).setCell ⟨b0, 2, none⟩ (.slice none 0 0) := ⟨_, rfl⟩
              have x9 : Blk W9 b0 45 #[.string ⟨#[116, 105, 114, 101, 100]⟩, .slice none 0 0, .slice none 0 0] := by rw [hW9]; exact ((kr.set_ 0 _).set_ 1 _).set_ 2 _
              have hg9 : Cg tag (Fr 16) w W9 := by
                rw [hW9]
                exact ((hcr.setCell (p := ⟨b0, 0, none⟩) (.inl (by show _ ≤ b0; omega)) _).setCell (p := ⟨b0, 1, none⟩) (.inl (by show _ ≤ b0; omega)) _).setCell (p := ⟨b0, 2, none⟩) (.inl (by show _ ≤ b0; omega)) _
              have hc9 : ∀ tg : Nat → Tag, tg b0 = (0, 0) → Cg tg (fun t => t = (0, 0)) w2 W9 := fun tg ht => by
                rw [hW9]
                exact (((Chg.refl _ w2).setCell (p := ⟨b0, 0, none⟩) (.inr fun _ => ht) _).setCell (p := ⟨b0, 1, none⟩) (.inr fun _ => ht) _).setCell (p := ⟨b0, 2, none⟩) (.inr fun _ => ht) _
              have x90 := x9.cell 0
              have x91 := x9.cell 1
              have x92 := x9.cell 2
              have r0 := kr.cell 0
              have r1 := kr.cell 1
              have r2 := kr.cell 2
              have fr0 := kr.frozen 0
              have fr1 := kr.frozen 1
              have fr2 := kr.frozen 2
              have HW9 := Lib.hid hW9
              have HE := Lib.hid (show SrP w tag p V .tired s2 (.returned (.agg #[.string ⟨#[116, 105, 114, 101, 100]⟩, .slice none 0 0, .slice none 0 0])) W9 from ⟨rfl, hg9⟩)
              clear hcr kr hg9 hc9 hW9 x9 hce hl0
              go_wp2_with fail
              rw [← HW9.out]
              exact bodyPost_ret (v := .agg #[.string ⟨#[116, 105, 114, 101, 100]⟩, .slice none 0 0, .slice none 0 0]) (by simp [results, Tryd.results17, go_sem, x90, x91, x92]) rfl HE.out
            · rw [if_neg hce] at hu
              have t2 : ((cf : Int) == (effort : Int)) = false := by simp; omega
              obtain ⟨hcfl, hwt2, fr2⟩ := HSP.out
              have hlm2 : s2.lm ≠ [] := fun e => by have := HNL.out; rw [e] at this; exact hl0 this.symm
              have hxl2 : s2.xs.length < 4000000 := by have h1 := fr2.xs.1; have h2 := HSI.out.len; have h3 := HBU.out.2; omega
              have hpl2 : s2.pf.length < 4000000 := by rw [fr2.pf]; have h3 := HBU.out.2; omega
              obtain ⟨s6, c6, e6, hcf6⟩ := conflictM_ok hV hcfl hwt2 hlm2 hxl2 hpl2
              rw [e6] at hu
              obtain ⟨c0, hk0, hc0⟩ := hcfl.cl
              obtain ⟨c, back, s3, e3, hL⟩ := learnM_ok hcfl.inv hlm2 hV hk0 hc0
              obtain ⟨l, ml, hbl, hml, a0, rr, hcc, _⟩ := hL.bk
              subst hbl
              obtain ⟨v1, v2, v3, v4, v5, v6, v7, v8, v9, v10⟩ := hL.bs.lv
              have hroom := hcfl.inv.room
              have hhp := hcfl.inv.hp.le
              have CLn := Lib.hid (learn_any H2.out e3 hV (by omega) (by omega))
              unfold conflictM at e6
              rw [e3] at e6
              dsimp only at e6
              split at e6
              · cases e6
              split at e6
              · cases e6
              rename_i s4 hbk
              split at e6
              · cases e6
              rename_i g hg
              have wcf : IntKind.i64.wrap ((cf : Int) + 1) = ((cf + 1 : Nat) : Int) := by rw [IntKind.wrap_i64]; omega
              have wlf : IntKind.i64.wrap (left - 1) = left - 1 := by have := HL2.out; rw [IntKind.wrap_i64]; omega
              obtain ⟨cf1, hcf1⟩ : ∃ cf1, cf + 1 = cf1 := ⟨_, rfl⟩
              rw [hcf1] at wcf hu
              have hll : l < nl := by rw [← HNL.out]; exact lt_of_at hml
              have HLL := Lib.hid (show l ≤ 1000000 ∧ s3.tr.length ≤ 1000000 from ⟨by have := HNL.out; omega, by rw [v2]; omega⟩)
              have hPf2 : PfOk V F s6.pf := by
                rw [hcf6.pf, fr2.pf]
                exact HSI.out.pf.snoc hcf6.ref ⟨hcf6.nd, hcf6.ne, hcf6.lit⟩ fun d hd' => hcf6.new (fr2.dead.trans HDD.out) d (List.mem_append_right _ hd')
              have hlen6 : s6.pf.length = s1.pf.length + 1 := by rw [hcf6.pf, fr2.pf, List.length_append]; rfl
              have hsi6 : SI V F s6 := ⟨by rw [hcf6.pf, fr2.pf, ← List.append_assoc]; exact hcf6.full, hPf2, by rw [hlen6]; have := hcf6.xs; have := fr2.xs.1; have := HSI.out.len; omega⟩
              have hbud6 : ∃ b', (effort ≤ cf1 + b' ∨ 3 ^ V ≤ s6.pf.length + b' ∨ f ≤ b') ∧ F.length + s6.pf.length + b' < 4000000 := by
                have hle := hPf2.le
                have hb1 : 1 ≤ b := by
                  rcases HBU.out.1 with e | e | e <;> omega
                have h3 := HBU.out.2
                refine ⟨b - 1, ?_, by omega⟩
                rcases HBU.out.1 with e | e | e
                · exact .inl (by omega)
                · exact .inr (.inl (by omega))
                · exact .inr (.inr (by omega))
              have HS6 := Lib.hid (And.intro hsi6 (And.intro (hcf6.dead.trans (fr2.dead.trans HDD.out)) hbud6))
              have HU6 := Lib.hid hu
              have HE6 := Lib.hid e6
              have HBK := Lib.hid hbk
              have HG := Lib.hid hg
              have HCC := Lib.hid hcc
              have HXP := Lib.hid (And.intro v4 (And.intro v6 v8))
              have HCF := Lib.hid (show cf1 ≤ effort ∧ -(cf1 : Int) ≤ left - 1 ∧ left - 1 ≤ 1000000000000 by have := HL2.out; omega)
              have HCL := Lib.hid (show c.length ≤ 400000 by
                have h1 : c.Nodup := hL.nd
                have h2 : (c.map fun z => -z) ⊆ s2.tr := fun z hz => by
                  obtain ⟨y, hy, e⟩ := List.mem_map.1 hz
                  rw [← e]; exact hL.fls y hy
                have h3 : (c.map fun z => -z).Nodup := by
                  rw [List.nodup_iff_pairwise_ne, List.pairwise_map]
                  rw [List.nodup_iff_pairwise_ne] at h1
                  exact h1.imp fun hne e => hne (by omega)
                have := h3.length_le_of_subset h2
                rw [List.length_map] at this
                omega)
              clear hcfl hwt2 fr2 hlm2 hxl2 hpl2 hcf6 hu hk0 hc0 e3 hL hml hcc v1 v2 v3 v4 v5 v6 v7 v8 v9 v10 hroom hhp e6 hbk hg hcf1 hPf2 hlen6 hsi6 hbud6 HSP hll hce hl0
              go_wp2_with fail
              refine CLn.out.mono ?_
              rintro e w3 ⟨vv, tag3, rfl, hre3, hcg3, h3, hrow3⟩
              obtain ⟨n, hn⟩ : ∃ n, c.length = n := ⟨_, rfl⟩
              have hn1 : 1 ≤ n := by rw [← hn, HCC.out]; simp
              have hn4 : n ≤ 400000 := by rw [← hn]; exact HCL.out
              obtain ⟨gc, cc, hvv, _, _⟩ := hrow3.at_ (by rw [litVals_len]; omega)
              rw [litVals_len, hn] at hvv
              subst hvv
              have HRE3 := Lib.hid (show Re w tag tag3 from fun g hg => (hre3 g (by have := HCG2.out.size; omega)).trans (HRE2.out g hg))
              have HCG3 := Lib.hid (HCG2.out.trans_ hcg3 HRE2.out)
              have HT3 := Lib.hid ((hre3 _ HK2.out.lt).trans HT2.out)
              have HK3 := Lib.hid (blk16 hcg3 HT2.out HK2.out)
              have HSZ3 := Lib.hid (show w.heap.size ≤ w2.heap.size from HCG2.out.size)
              clear hre3 hcg3 H2 HRE2 HCG2 HT2 HK2 CLn
              -- the copy
              have hcells : ∀ j u, (litVals c)[j]? = some u → w3.drew.cell? ⟨gc, 0 + j, none⟩ = some u := fun j u hu => by
                rw [Nat.zero_add]
                have h1 : Row w3 tag3 (18, 0) w2.heap.size 3 (.slice (some ⟨gc, 0, none⟩) (litVals c).length cc) (litVals c) := by rw [litVals_len, hn]; exact hrow3
                exact h1.cell hu
              obtain ⟨j0, hj0, hjz0, hjz1, hjz2⟩ := info_parts info_int
              have CK := Lib.hid (Tryd.slices_Clone j0 _ 1 8 hj0 hjz0 hjz1 hjz2 rfl (by omega) Tryd.sizeOf3 gc 0 n cc (litVals c) w3.drew (by rw [litVals_len, hn, Nat.mul_one]) (le_maxLen4 (by omega)) (le_bytes4 (by omega) (by omega)) hcells (lits1' c))
              obtain ⟨np, hnp⟩ : ∃ np, s3.pf.length = np := ⟨_, rfl⟩
              obtain ⟨AP, cP, hvP⟩ := h3.prf.form
              have hpl : prows.length = np := by have := h3.plen; dsimp only at this; omega
              rw [hpl] at hvP
              dsimp only at hvP
              subst hvP
              have c14 : w3.cell? ⟨p, 14, none⟩ = some (.slice AP np cP) := h3.blk.cell 14
              have hnp4 : np ≤ 4000000 := by rw [← hnp, HXP.out.2.1]; exact HPF2.out
              have H3 := Lib.hid h3
              have HROW3 := Lib.hid hrow3
              have HN := Lib.hid hn
              have HNP := Lib.hid (And.intro hnp hpl)
              clear h3 hrow3 hcells hj0 hjz0 hjz1 hjz2 hn hnp hpl c7
              go_upto_region 24 with fail
              refine wp_region_mv (S := fun w' => w'.cell? ⟨p, 14, none⟩ = some (.slice AP np cP)) 11 [.f 0, .f 1, .f 2, .f 3, .f 4, .f 5, .t 6, .t 7, .t 8, .t 9, .f 10, .t 11] (by kernel_rfl) (by kernel_rfl) (by kernel_rfl) c14 ?_
              iterate 6 (refine mv_take _ _ rfl (by kernel_rfl) (fun wv hv => by have hv1 := hv; clear hv; go_simp; try with_reducible rfl) ?_; simp only [Act.put, List.getElem_toArray, List.getElem_cons_zero, List.getElem_cons_succ, List.setIfInBounds_toArray, List.set_cons_zero, List.set_cons_succ])
              refine mv_act _ rfl (fun K hK => ?_)
              go_simp
              refine CK.out.mono ?_
              rintro e w5 ⟨v5, rfl, hown5, _, hb5⟩
              obtain ⟨g5, c5, hv5, hg5, hlt5⟩ := hown5.form (by omega)
              subst hv5
              have hg5' : w3.heap.size ≤ g5 := hg5
              have hre5 : Re w3 tag3 (put tag3 g5 (16, (np : Int))) := re_put hg5'
              have h5 := ((H3.out.re hre5).drew).new hb5
              have hr5 : Row w5 (put tag3 g5 (16, (np : Int))) (16, (np : Int)) 0 3 (.slice (some ⟨g5, 0, none⟩) n c5) (litVals c) :=
                ⟨by rw [litVals_len, HN.out]; exact own_base hown5 (Nat.zero_le _), fun g' hg' => by injection hg' with hg'; subst hg'; exact put_same _ _ _⟩
              have hb35 : Below w3.heap.size w3 w5 := (below_drewN (Below.refl _ w3) 1).trans hb5
              have h6 := h5.alloc (.cells #[.slice (some ⟨g5, 0, none⟩) n c5] 26)
              have hr6 := hr5.alloc (.cells #[.slice (some ⟨g5, 0, none⟩) n c5] 26)
              have HO6 := Lib.hid (show (w5.alloc (.cells #[.slice (some ⟨g5, 0, none⟩) n c5] 26)).ownsRow 0 26 1 (.slice AP np cP) np prows from by
                have := h6.prf.own
                rw [HNP.out.2] at this; exact this)
              have s5 : w5.cell? ⟨p, 14, none⟩ = some (.slice AP np cP) := h5.blk.cell 14
              have s6 : (w5.alloc (.cells #[.slice (some ⟨g5, 0, none⟩) n c5] 26)).cell? ⟨p, 14, none⟩ = some (.slice AP np cP) := h6.blk.cell 14
              have H6 := Lib.hid h6
              have HR6 := Lib.hid hr6
              have HRE5 := Lib.hid hre5
              have HB35 := Lib.hid hb35
              clear h5 hr5 h6 hr6 hre5 hb35 hown5 hb5 hg5 hlt5
              go_simp
              refine hK _ _ (.inr (s5)) ?_
              clear hK K
              refine mv_act _ rfl (fun K hK => ?_)
              go_simp
              go_simp
              refine hK _ _ (.inr (s6)) ?_
              clear hK K
              refine mv_act _ rfl (fun K hK => ?_)
              refine step_append_loc _ rfl (.tmp 89) (.tmp 92) _ rfl 0 26 ic _ 1 24 Tryd.underlying22 HIC.out.1 HIC.out.2.1 HIC.out.2.2.1 HIC.out.2.2.2 rfl (by omega) (.slice AP np cP) np prows rfl HO6.out (w5.heap.size + 1) (some ⟨w5.heap.size, 0, none⟩) 1 1 [.slice (some ⟨g5, 0, none⟩) n c5] rfl (reads_new (by simp) (by simp) rfl) (by intro u hu; rw [List.mem_singleton.1 hu]; rfl) (by unfold maxLen; omega) (by omega) (Nat.zero_le _) ?_
              intro A8 c8 w8 hown8 hg8 hl8
              have k8 := H6.out.blk.grown hg8 (own_blk_ne HO6.out H6.out.blk (by decide)).symm
              have s8 : w8.cell? ⟨p, 14, none⟩ = some (.slice AP np cP) := k8.cell 14
              have f8 : w8.frozen? ⟨p, 14, none⟩ = false := k8.frozen 14
              have l8 : p < w8.heap.size := k8.lt
              obtain ⟨tag8, hre8, hcg8, h8⟩ := H6.out.proofX (x := c) (u := .slice (some ⟨g5, 0, none⟩) n c5) (n := np + 1) (by show Row _ _ (16, (s3.pf.length : Int)) _ _ _ _; rw [HNP.out.1]; exact HR6.out) hown8 (by rw [HNP.out.1]) hg8 hl8
              have H8 := Lib.hid h8
              have HCG8 := Lib.hid hcg8
              have HRE8 := Lib.hid hre8
              clear k8 hown8 hg8 hl8 hre8 hcg8 h8
              refine hK _ _ (.inr (s8)) ?_
              clear hK K
              try simp only [Act.put, List.getElem_toArray, List.getElem_cons_zero, List.getElem_cons_succ, List.setIfInBounds_toArray, List.set_cons_zero, List.set_cons_succ]
              refine mv_act _ rfl (fun K hK => ?_)
              go_simp
              go_simp
              refine hK _ _ (.inr (s8)) ?_
              clear hK K
              iterate 1 (refine mv_take _ _ rfl (by kernel_rfl) (fun wv hv => by have hv1 := hv; clear hv; go_simp; try with_reducible rfl) ?_; simp only [Act.put, List.getElem_toArray, List.getElem_cons_zero, List.getElem_cons_succ, List.setIfInBounds_toArray, List.set_cons_zero, List.set_cons_succ])
              refine mv_act _ rfl (fun K hK => ?_)
              go_simp
              go_simp
              refine hK _ _ (.inl rfl) ?_
              clear hK K
              refine mv_nil ?_
              obtain ⟨W8, hW8⟩ : ∃ W8, w8.setCell ⟨p, 14, none⟩ (.slice A8 (np + 1) c8) = W8 := ⟨_, rfl⟩
              have h8 := H8.out
              have hcg8 := HCG8.out
              rw [hW8] at h8 hcg8 ⊢
              have hb36 : Below w3.heap.size w3 (w5.alloc (.cells #[.slice (some ⟨g5, 0, none⟩) n c5] 26)) := HB35.out.alloc HB35.out.size _
              have hre58 : Re w tag (put tag3 g5 (16, (np : Int))) := fun b hb => (HRE5.out b (by have := HCG3.out.size; omega)).trans (HRE3.out b hb)
              have hszw : w.heap.size ≤ (w5.alloc (.cells #[.slice (some ⟨g5, 0, none⟩) n c5] 26)).heap.size := Nat.le_trans HCG3.out.size hb36.size
              have HRE8' := Lib.hid (show Re w tag tag8 from fun b hb => (HRE8.out b (by omega)).trans (hre58 b hb))
              have HCG8' := Lib.hid (show Cg tag (Fr 16) w W8 from (HCG3.out.trans_ (cg_new (tag := tag3) (S := Fr 16) hb36) HRE3.out).trans_ hcg8 hre58)
              have ht5 : put tag3 g5 (16, (np : Int)) b0 = (0, 0) := (HRE5.out b0 HK3.out.lt).trans HT3.out
              have hk6 := HK3.out.below hb36 HK3.out.lt
              have HK8 := Lib.hid (blk16 hcg8 ht5 hk6)
              have HT8 := Lib.hid ((HRE8.out b0 hk6.lt).trans ht5)
              have hrow8 : Row W8 tag8 (18, 0) w2.heap.size 3 (.slice (some ⟨gc, 0, none⟩) n cc) (litVals c) :=
                (((HROW3.out.re HRE5.out).chg (S := fun _ => False) (cg_new hb36) id).re HRE8.out).chg (hcg8.re_ HRE8.out) (fun e => absurd e.2 (by decide))
              have HROW8 := Lib.hid hrow8
              have CB := Lib.hid (back_any h8 HBK.out hV HLL.out.1 HLL.out.2)
              clear h8 hcg8 hW8 hb36 hre58 hszw ht5 hk6 hrow8 H8 HCG8 HRE8 HROW3 HK3 HT3 HCG3 HRE3 H3 H6 HR6 HO6 HB35 HRE5 f8 l8 s8 s5 s6 c14 CK
              go_wp2_with fail
              refine CB.out.mono ?_
              rintro e w9 ⟨rfl, tag9, y9, hre9, hcg9, h9⟩
              have HRE9 := Lib.hid (show Re w tag tag9 from fun b hb => (hre9 b (by have := HCG8'.out.size; omega)).trans (HRE8'.out b hb))
              have HCG9 := Lib.hid (HCG8'.out.trans_ hcg9 HRE8'.out)
              have hk9 := blk16 hcg9 HT8.out HK8.out
              have ht9 : tag9 b0 = (0, 0) := (hre9 b0 HK8.out.lt).trans HT8.out
              have hrow9 := (HROW8.out.re hre9).chg (hcg9.re_ hre9) (fun e => absurd e.2 (by decide))
              have c10 : w9.cell? ⟨p, 10, none⟩ = some (.float .f64 s4.gr) := h9.blk.cell 10
              have f10 : w9.frozen? ⟨p, 10, none⟩ = false := h9.blk.frozen 10
              have l10 : p < w9.heap.size := h9.blk.lt
              have hmul := run_fmul (P := Tryd.prog) (show fmul s4.gr 4607407598781385933 = some g from HG.out) 67
              have hsf := run_store_flt (P := Tryd.prog) ⟨p, 10, none⟩ g
              obtain ⟨h10, a10⟩ := h9.setGr g
              obtain ⟨W10, hW10⟩ : ∃ W10, w9.setCell ⟨p, 10, none⟩ (.float .f64 g) = W10 := ⟨_, rfl⟩
              rw [hW10] at h10 a10
              have HCG10 := Lib.hid (HCG9.out.trans_ a10 HRE9.out)
              have HK10 := Lib.hid (blk16 a10 ht9 hk9)
              have HT10 := Lib.hid ht9
              have hrow10 := hrow9.chg a10 (fun e => absurd e.2 (by decide))
              have H10 := Lib.hid h10
              have HROW10 := Lib.hid hrow10
              have HW10 := Lib.hid hW10
              have cc0 : W10.cell? ⟨gc, 0, none⟩ = some (.int .i64 a0) := by
                have h1 : Row W10 tag9 (18, 0) w2.heap.size 3 (.slice (some ⟨gc, 0, none⟩) (litVals c).length cc) (litVals c) := by rw [litVals_len, HN.out]; exact hrow10
                exact h1.cell (by rw [HCC.out]; rfl)
              clear hre9 hcg9 h9 hk9 ht9 hrow9 hrow10 h10 a10 hW10 HRE8' HCG8' HK8 HT8 HROW8 HCG9 CB
              go_upto_region 27 with fail
              rw [HW10.out]
              clear c10 f10 l10 hmul hsf
              have he6 := HE6.out
              cases hrr : rr with
              | nil =>
                rw [hrr] at HCC
                rw [HCC.out] at he6
                dsimp only at he6
                have hn1' : n = 1 := by rw [← HN.out, HCC.out]; rfl
                subst hn1'
                have CS5 := Lib.hid (setM_any H10.out he6 hV)
                clear he6 hrr
                go_wp2_with fail
                refine CS5.out.mono ?_
                rintro e w11 ⟨rfl, tag11, y11, hre11, hcg11, h11⟩
                have HN11 := Lib.hid (show SrO w tag p V F effort b0 (a, s') (.int .i64 (rd : Nat)) (.int .i64 (cf1 : Nat)) (.int .i64 (left - 1)) f w11 from
                  ⟨rd, cf1, left - 1, s6, tag11, y11, rfl, rfl, rfl, HU6.out, h11, HS6.out.1, HS6.out.2.1, fun b hb => (hre11 b (by have := HCG10.out.size; omega)).trans (HRE9.out b hb), HCG10.out.trans_ hcg11 HRE9.out, (hre11 b0 HK10.out.lt).trans HT10.out, blk16 hcg11 HT10.out HK10.out, HCF.out.1, HCF.out.2.1, HCF.out.2.2, HS6.out.2.2⟩)
                clear hre11 hcg11 h11
                go_wp2_with fail
                go_roundg f
                case measure => omega
                case rel => exact HN11.out
              | cons b2 rr2 =>
                rw [hrr] at HCC
                rw [HCC.out] at he6
                dsimp only at he6
                split at he6
                · cases he6
                rename_i s5 hat
                have hn2 : 2 ≤ n := by rw [← HN.out, HCC.out]; simp
                have t5 : ((n : Int) == 1) = false := by simp; omega
                obtain ⟨hat2, hs5e, _⟩ := attachM_eq hat
                have hx5 : s5.xs = s4.xs ++ [c] := by rw [hs5e, HCC.out]; rfl
                obtain ⟨h11, hr11, hne11, hbase⟩ := retag (t2 := (3, (s4.xs.length : Int))) H10.out HROW10.out (fun e => absurd e.2 (by decide))
                have hretag : Re w tag (put tag9 gc (3, (s4.xs.length : Int))) := fun b hb => (hne11 b (by have := HSZ3.out; omega)).trans (HRE9.out b hb)
                have hb0gc : b0 ≠ gc := fun e => by
                  have h1 := HROW10.out.tg gc rfl
                  rw [← e, HT10.out] at h1
                  cases h1
                have CA := Lib.hid (attach_any2 (s' := s5) (c := c) (g := gc) (n := n) (cc := cc) h11.drew (by rw [HCC.out]; exact hat) hV HN.out (hr11.chg (S := fun _ => False) (cg_new (below_drewN (Below.refl _ W10) 1)) id))
                have HR11 := Lib.hid (And.intro hretag (show put tag9 gc (3, (s4.xs.length : Int)) b0 = (0, 0) from (hne11 b0 hb0gc).trans HT10.out))
                have HX5 := Lib.hid hx5
                have HE7 := Lib.hid he6
                have HCGD := Lib.hid (show Cg tag (Fr 16) w W10.drew from HCG10.out.trans (cg_new (below_drewN (Below.refl _ W10) 1)))
                have HKD := Lib.hid (show Blk W10.drew b0 45 #[.string ⟨#[]⟩, .slice none 0 0, .slice none 0 0] from HK10.out.below (below_drewN (Below.refl _ W10) 1) HK10.out.lt)
                have hn0 : 0 < n := by omega
                have hn0I : (0 : Int) < (n : Int) := by omega
                clear he6 hrr hat hat2 hs5e hx5 h11 hr11 hne11 hbase hretag hb0gc HE6
                go_upto_region 29 with fail
                refine wp_region_seq (S := fun w' => w'.cell? ⟨gc, 0, none⟩ = some (.int .i64 a0)) [(0, false), (1, false), (2, false), (3, false), (4, false), (5, false), (6, true), (7, true)] (by kernel_rfl) (by kernel_rfl) (by kernel_rfl) cc0 ?_
                iterate 6 (refine seq_take _ _ rfl (by kernel_rfl) (fun wv hv => by have hv1 := hv; clear hv; go_simp; try with_reducible rfl) ?_; simp only [Act.put, List.getElem_toArray, List.getElem_cons_zero, List.getElem_cons_succ, List.setIfInBounds_toArray, List.set_cons_zero, List.set_cons_succ])
                refine seq_act _ rfl (fun K hK => ?_)
                go_simp
                refine CA.out.mono ?_
                rintro e w11 ⟨rfl, tag11, y11, hre11, hcg11, h11, hrow11⟩
                have hcl11 := h11.cls s4.xs.length c _ (by rw [HX5.out]; simp) hrow11
                have hcell11 : ∀ (W : World) (tg : Nat → Tag), Row W tg (3, (s4.xs.length : Int)) 0 3 (.slice (some ⟨gc, 0, none⟩) n cc) (litVals c) → W.cell? ⟨gc, 0, none⟩ = some (.int .i64 a0)   := fun W tg hr => by
                  have h1 : Row W tg (3, (s4.xs.length : Int)) 0 3 (.slice (some ⟨gc, 0, none⟩) (litVals c).length cc) (litVals c) := by rw [litVals_len, HN.out]; exact hr
                  exact h1.cell (by rw [HCC.out]; rfl)
                have s11 := hcell11 _ _ hcl11
                obtain ⟨u1, u2, u3, u4, u5⟩ := setM_some HE7.out
                have CT := Lib.hid (set_anyT (n := a0) (by_ := (s4.xs.length : Int)) h11 u3 u4 ⟨by omega, u2⟩ (by omega))
                have HC11 := Lib.hid hcell11
                have HROW11 := Lib.hid hrow11
                have HRE11 := Lib.hid (show Re w tag tag11 from fun b hb => (hre11 b (by have := HCGD.out.size; omega)).trans (HR11.out.1 b hb))
                have HCG11 := Lib.hid (HCGD.out.trans_ hcg11 HR11.out.1)
                have HK11 := Lib.hid (blk16 hcg11 HR11.out.2 HKD.out)
                have HT11 := Lib.hid ((hre11 b0 HKD.out.lt).trans HR11.out.2)
                have HS6E := Lib.hid u5
                clear hre11 hcg11 h11 hrow11 hcl11 hcell11 u1 u2 u3 u4 u5
                go_simp
                refine hK _ _ (s11) ?_
                clear hK K
                refine seq_act _ rfl (fun K hK => ?_)
                go_simp
                refine CT.out.mono ?_
                rintro e w12 ⟨rfl, tag12, vt12, hre12, hcg12, h12⟩
                have s12 := HC11.out _ _ (h12.cls s4.xs.length c _ (by show s5.xs[s4.xs.length]? = _; rw [HX5.out]; simp) HROW11.out)
                have HN12 := Lib.hid (show SrO w tag p V F effort b0 (a, s') (.int .i64 (rd : Nat)) (.int .i64 (cf1 : Nat)) (.int .i64 (left - 1)) f w12 from
                  ⟨rd, cf1, left - 1, s6, tag12, _, rfl, rfl, rfl, HU6.out, by rw [HS6E.out]; exact h12, HS6.out.1, HS6.out.2.1, fun b hb => (hre12 b (by have := HCG11.out.size; omega)).trans (HRE11.out b hb), HCG11.out.trans_ hcg12 HRE11.out, (hre12 b0 HK11.out.lt).trans HT11.out, blk16 hcg12 HT11.out HK11.out, HCF.out.1, HCF.out.2.1, HCF.out.2.2, HS6.out.2.2⟩)
                clear hre12 hcg12 h12
                go_simp
                refine hK _ _ (s12) ?_
                clear hK K
                refine seq_nil ?_
                go_wp2_with fail
                go_roundg f
                case measure => omega
                case rel => exact HN12.out
        | none =>
          have CS := Lib.hid (CS.out (-1) rfl)
          go_wp2_with fail
          refine CS.out.mono ?_
          rintro e w2 ⟨rfl, tag2, y2, h2, hre2, hcg2, ht2, hk2⟩
          have hu := HU.out
          try dsimp only at hu
          obtain ⟨f2, d2, fr2⟩ := HSP.out
          have hsi2 := HSI.out.of_fra f2 fr2.pf fr2.xs.1
          have hroom := f2.inv.room
          have hhp := f2.inv.hp.le
          by_cases hl0 : left ≤ 0
          · rw [if_pos hl0] at hu
            have t1 : decide (left ≤ 0) = true := decide_eq_true hl0
            split at hu
            case isFalse => cases hu
            rename_i hrd
            split at hu
            · cases hu
            rename_i s3 hbk
            have wr1 : IntKind.i64.wrap ((rd : Int) + 1) = ((rd + 1 : Nat) : Int) := by rw [IntKind.wrap_i64]; omega
            obtain ⟨lb, hlb⟩ : ∃ lb, luby 64 (rd + 1) = lb := ⟨_, rfl⟩
            have hlb1 : lb ≤ 2147483648 := by rw [← hlb]; exact luby_le (by omega)
            rw [hlb] at hu
            have CL := Lib.hid (luby_any (w := w2) (i := rd + 1) (by omega))
            rw [hlb] at CL
            have wm : IntKind.i64.wrap (100 * (lb : Int)) = 100 * (lb : Int) := by rw [IntKind.wrap_i64]; omega
            have CB := Lib.hid (back_any h2 hbk hV (Nat.zero_le _) (by omega))
            have hs3 : SI V F s3 ∧ s3.dead = false ∧ s3.pf = s1.pf := by
              by_cases hlm : s2.lm.length = 0
              · rw [backM_none (by omega)] at hbk
                injection hbk with hbk
                subst hbk
                exact ⟨hsi2, fr2.dead.trans HDD.out, fr2.pf⟩
              · obtain ⟨m, hm⟩ := at_lt (l := s2.lm) (i := 0) (by omega)
                obtain ⟨s4, e4, hB⟩ := backM_ok hV f2.inv f2.wt hm
                rw [e4] at hbk
                injection hbk with hbk
                subst hbk
                exact ⟨HSI.out.of_fra hB.full (hB.pf.trans fr2.pf) (by rw [hB.xs]; exact fr2.xs.1), (hB.dead.trans fr2.dead).trans HDD.out, hB.pf.trans fr2.pf⟩
            have HU3 := Lib.hid hu
            have HS3 := Lib.hid hs3
            have HRE2 := Lib.hid hre2
            have HCG2 := Lib.hid hcg2
            have HT2 := Lib.hid ht2
            have HK2 := Lib.hid hk2
            clear h2 hre2 hcg2 ht2 hk2 hu hbk hs3 f2 d2 fr2 hsi2 hroom hhp HU CS HSP hlb hl0
            obtain ⟨rd1, hrd1⟩ : ∃ rd1, rd + 1 = rd1 := ⟨_, rfl⟩
            rw [hrd1] at wr1 CL HU3
            clear hrd1
            go_wp2_with fail
            refine CL.out.mono ?_
            rintro e w3 ⟨rfl, rfl⟩
            go_wp2_with fail
            refine CB.out.mono ?_
            rintro e w4 ⟨rfl, tag4, y4, hre4, hcg4, h4⟩
            have HN := Lib.hid (show SrO w tag p V F effort b0 (a, s') (.int .i64 (rd1 : Nat)) (.int .i64 (cf : Nat)) (.int .i64 (100 * (lb : Int))) f w4 from
              ⟨rd1, cf, _, s3, tag4, y4, rfl, rfl, rfl, HU3.out, h4, HS3.out.1, HS3.out.2.1, fun g hg => (hre4 g (by have := HCG2.out.size; omega)).trans (HRE2.out g hg), HCG2.out.trans_ hcg4 HRE2.out, (hre4 _ HK2.out.lt).trans HT2.out, blk16 hcg4 HT2.out HK2.out, hcf, by omega, by omega, b, by rw [HS3.out.2.2]; exact ⟨HBU.out.1.imp id (Or.imp id fun e => by omega), HBU.out.2⟩⟩)
            clear hre4 hcg4 h4
            go_wp2_with fail
            go_roundg f
            case measure => omega
            case rel => exact HN.out
          · rw [if_neg hl0] at hu
            have t1 : decide (left ≤ 0) = false := decide_eq_false hl0
            obtain ⟨q, s3, e3, hdc⟩ := decideM_ok f2 d2
            rw [e3] at hu
            have CD := Lib.hid (decide_any h2 e3 hV (by omega))
            have HDC := Lib.hid hdc
            have HU3 := Lib.hid hu
            have HRE2 := Lib.hid hre2
            have HCG2 := Lib.hid hcg2
            have HT2 := Lib.hid ht2
            have HK2 := Lib.hid hk2
            have HS2 := Lib.hid (And.intro fr2.xs.1 (And.intro fr2.dead fr2.pf))
            clear h2 hre2 hcg2 ht2 hk2 hu e3 hdc f2 d2 fr2 hsi2 hroom hhp HU CS HSP hl0
            go_wp2_with fail
            refine CD.out.mono ?_
            rintro e w3 ⟨rfl, tag3, y3, hre3, hcg3, h3⟩
            have hk3 := blk16 hcg3 HT2.out HK2.out
            have ht3 : tag3 b0 = (0, 0) := (hre3 _ HK2.out.lt).trans HT2.out
            have hre3' : Re w tag tag3 := fun g hg => (hre3 g (by have := HCG2.out.size; omega)).trans (HRE2.out g hg)
            have hcg3' := HCG2.out.trans_ hcg3 HRE2.out
            have hsi3 : SI V F s3 := HSI.out.of_fra HDC.out.full (HDC.out.pf.trans HS2.out.2.2) (by rw [HDC.out.xs]; exact HS2.out.1)
            cases q with
            | true =>
              as_aux_lemma =>
              have hu := HU3.out
              try dsimp only at hu
              have HN := Lib.hid (show SrO w tag p V F effort b0 (a, s') (.int .i64 (rd : Nat)) (.int .i64 (cf : Nat)) (.int .i64 left) f w3 from
                ⟨rd, cf, left, s3, tag3, y3, rfl, rfl, rfl, hu, h3, hsi3, HDC.out.dead.trans (HS2.out.2.1.trans HDD.out), hre3', hcg3', ht3, hk3, hcf, hl1, HL2.out, b, by rw [HDC.out.pf, HS2.out.2.2]; exact ⟨HBU.out.1.imp id (Or.imp id fun e => by omega), HBU.out.2⟩⟩)
              clear hre3 hcg3 h3 hk3 ht3 hre3' hcg3' hsi3 hu HU3
              go_wp2_with fail
              go_roundg f
              case measure => omega
              case rel => exact HN.out
            | false =>
              have hu := HU3.out
              try dsimp only at hu
              injection hu with hu
              injection hu with q1 q2
              subst q1
              subst q2
              obtain ⟨b1, hb1⟩ : ∃ b1, w3.heap.size = b1 := ⟨_, rfl⟩
              obtain ⟨W5, hW5⟩ : ∃ W5, W5 = w3.alloc (.cells #[.string ⟨#[121, 101, 115]⟩, .slice none 0 0, .slice none 0 0] 45) := ⟨_, rfl⟩
              have hs5 : SrM w3 s3.vs b1 V (.int .i64 ((0 + 1 : Nat) : Int)) W5 := by
                rw [hW5]
                exact ⟨0, none, 0, Nat.zero_le _, rfl, (Below.refl _ _).alloc (Nat.le_refl _) _, by rw [← hb1]; exact Blk.new w3 _ _, World.ownsRow_nil _ _ _ _⟩
              have hszb : b0 < b1 := by rw [← hb1]; exact hk3.lt
              have HS5 := Lib.hid hs5
              have HW5 := Lib.hid hW5
              have H3 := Lib.hid h3
              have HK3 := Lib.hid hk3
              have HT3 := Lib.hid ht3
              have HRE3 := Lib.hid hre3'
              have HCG3 := Lib.hid hcg3'
              have HVL := Lib.hid h3.vl
              have HB1 := Lib.hid hb1
              have HSZ := Lib.hid hszb
              clear hs5 hW5 h3 hk3 ht3 hre3 hcg3 hre3' hcg3' hsi3 HU3 HDC HS2 hszb
              go_wp2_with fail
              rw [← HW5.out]
              go_loopw [10] (fun v10 wx => SrM w3 s3.vs b1 V v10 wx) (fun v10 _ => V + 1 - (intOf v10).toNat)
              case atStart => exact HS5.out
              case round =>
                clear HS5 HW5
                obtain ⟨kk, Am, cm, hk2, e10, hb5, k5, ho5⟩ := hrel
                subst e10
                obtain ⟨vC, rows, gw, wrows, gv, gl, gr, vt, vL, gs, gp, vh, gP, vP, prows⟩ := y3
                have h5 := H3.out.new hb5
                have c0 : wr.cell? ⟨p, 0, none⟩ = some (.int .i64 (V : Nat)) := h5.blk.cell 0
                have c3 : wr.cell? ⟨p, 3, none⟩ = some (.slice (some ⟨gv, 0, none⟩) (V + 1) (V + 1)) := h5.blk.cell 3
                have cb1 : wr.cell? ⟨b1, 1, none⟩ = some (.slice Am kk cm) := k5.cell 1
                by_cases hk : kk < V
                · as_aux_lemma =>
                  obtain ⟨x, hx⟩ : ∃ x, s3.vs[kk + 1]? = some x := ⟨_, List.getElem?_eq_getElem (by have := HVL.out; omega)⟩
                  have cx : wr.cell? ⟨gv, kk + 1, none⟩ = some (.int .i8 x) := h5.val.cell (i8_at hx)
                  obtain ⟨bx, hb⟩ : ∃ bx, ((x : Int) == 1) = bx := ⟨_, rfl⟩
                  have hw1 : IntKind.i64.wrap ((kk : Int) + 1 + 1) = (kk : Int) + 1 + 1 := by rw [IntKind.wrap_i64]; omega
                  have hkI : (kk : Int) + 1 < (V : Int) + 1 := by omega
                  have hkI2 : (kk : Int) + 1 ≤ (V : Int) := by omega
                  have hkI0 : (0 : Int) ≤ (kk : Int) + 1 := by omega
                  have hd1 : decide ((kk : Int) + 1 ≤ (V : Int)) = true := decide_eq_true hkI2
                  have htk : (modelOf V s3.vs).take (kk + 1) = (modelOf V s3.vs).take kk ++ [bx] := by
                    have e : (modelOf V s3.vs)[kk]? = some bx := by
                      unfold modelOf
                      rw [List.getElem?_map, List.getElem?_range hk]
                      show some (s3.vs.getD (kk + 1) 0 == 1) = _
                      rw [List.getD_eq_getElem?_getD, hx]
                      exact congrArg some hb
                    rw [List.take_add_one, e]; rfl
                  have H5 := Lib.hid h5
                  have K5 := Lib.hid k5
                  have HB5 := Lib.hid hb5
                  have HTK := Lib.hid htk
                  have HO5 := Lib.hid (show (wr.drew.alloc (.cells #[.bool bx] 4)).ownsRow w3.heap.size 4 1 (.slice Am kk cm) kk (boolVals ((modelOf V s3.vs).take kk)) from (World.ownsRow.alloc (World.ownsRow.drew ho5) _))
                  have HX := Lib.hid hx
                  have HKV := Lib.hid hk
                  clear h5 k5 hb5 ho5 hx hk hk2 htk
                  go_upto_region 15 with fail
                  refine wp_region_mv (S := fun w' => w'.cell? ⟨b1, 1, none⟩ = some (.slice Am kk cm) ∧ w'.cell? ⟨p, 3, none⟩ = some (.slice (some ⟨gv, 0, none⟩) (V + 1) (V + 1)) ∧ w'.cell? ⟨gv, kk + 1, none⟩ = some (.int .i8 x)) 13 [.f 0, .f 1, .f 2, .f 3, .f 4, .f 5, .f 6, .f 7, .f 8, .f 9, .t 10, .t 11, .f 12, .t 13] (by kernel_rfl) (by kernel_rfl) (by kernel_rfl) (And.intro cb1 (And.intro c3 cx)) ?_
                  iterate 10 (refine mv_take _ _ rfl (by kernel_rfl) (fun wv hv => by obtain ⟨hv1, hv2, hv3⟩ := hv; go_simp; try with_reducible rfl) ?_; simp only [Act.put, List.getElem_toArray, List.getElem_cons_zero, List.getElem_cons_succ, List.setIfInBounds_toArray, List.set_cons_zero, List.set_cons_succ])
                  refine mv_act _ rfl (fun K hK => ?_)
                  go_simp
                  go_simp
                  refine hK _ _ (.inr ((And.intro ((K5.out.drew.alloc _).cell 1) (And.intro ((H5.out.drew.alloc _).blk.cell 3) ((H5.out.drew.alloc _).val.cell (i8_at HX.out)))))) ?_
                  clear hK K
                  refine mv_act _ rfl (fun K hK => ?_)
                  refine step_append_sl _ rfl (.tmp 50) (.tmp 59) _ rfl w3.heap.size 4 i0 _ 1 1 Tryd.underlying43 HIB.out.1 HIB.out.2.1 HIB.out.2.2.1 HIB.out.2.2.2 rfl (by omega) (.slice Am kk cm) kk (boolVals ((modelOf V s3.vs).take kk)) rfl HO5.out (wr.heap.size + 1) (some ⟨wr.heap.size, 0, none⟩) 1 1 [.bool bx] rfl (reads_new (by simp) (by simp) rfl) (by intro u hu; rw [List.mem_singleton.1 hu]; rfl) (by unfold maxLen; omega) (by omega) (by have := HB5.out.size; simp; omega) ?_
                  intro A6 c6 w6 hown6 hg6
                  have hb6 := ((HB5.out.trans (below_drewN (Below.refl _ _) 1)).alloc (by have := HB5.out.size; simp; omega) (.cells #[.bool bx] 4)).grown hg6 (by have := HB5.out.size; simp; omega) (own_geq HO5.out)
                  have k6 := (K5.out.drew.alloc (.cells #[.bool bx] 4)).grown hg6 (own_blk_ne HO5.out (K5.out.drew.alloc (.cells #[.bool bx] 4)) (by decide)).symm
                  have h6 := H3.out.new hb6
                  have c61 : w6.cell? ⟨b1, 1, none⟩ = some (.slice Am kk cm) := k6.cell 1
                  have f61 : w6.frozen? ⟨b1, 1, none⟩ = false := k6.frozen 1
                  have l61 : b1 < w6.heap.size := k6.lt
                  have S6 := And.intro c61 (And.intro (h6.blk.cell 3) (h6.val.cell (i8_at HX.out)))
                  have HB6 := Lib.hid hb6
                  have K6 := Lib.hid k6
                  have HO6 := Lib.hid hown6
                  clear hown6 hg6 hb6 k6 h6
                  refine hK _ _ (.inr (S6)) ?_
                  clear hK K
                  try simp only [Act.put, List.getElem_toArray, List.getElem_cons_zero, List.getElem_cons_succ, List.setIfInBounds_toArray, List.set_cons_zero, List.set_cons_succ]
                  clear S6
                  iterate 1 (refine mv_take _ _ rfl (by kernel_rfl) (fun wv hv => by obtain ⟨hv1, hv2, hv3⟩ := hv; go_simp; try with_reducible rfl) ?_; simp only [Act.put, List.getElem_toArray, List.getElem_cons_zero, List.getElem_cons_succ, List.setIfInBounds_toArray, List.set_cons_zero, List.set_cons_succ])
                  refine mv_act _ rfl (fun K hK => ?_)
                  go_simp
                  go_simp
                  refine hK _ _ (.inl rfl) ?_
                  clear hK K
                  refine mv_nil ?_
                  have HN := Lib.hid (show SrM w3 s3.vs b1 V (.int .i64 ((kk : Int) + 1 + 1)) (w6.setCell ⟨b1, 1, none⟩ (.slice A6 (kk + 1) c6)) from by
                    refine ⟨kk + 1, A6, c6, by have := HKV.out; omega, by go_num, HB6.out.setCell (by show w3.heap.size ≤ b1; have := HB1.out; omega) _, K6.out.set_ 1 _, ?_⟩
                    have := own_farS (g := b1) (k := 1) HO6.out (.slice A6 (kk + 1) c6) (own_blk_ne HO6.out K6.out (by decide))
                    rw [HTK.out]
                    unfold boolVals at this ⊢
                    rw [List.map_append]
                    exact this)
                  clear c61 f61 l61
                  go_wp2_with fail
                  go_roundw
                  case rel => exact HN.out
                  case measure => have := HKV.out; simp [intOf]; omega
                · obtain rfl : kk = V := by omega
                  have htk : (modelOf kk s3.vs).take kk = modelOf kk s3.vs := List.take_of_length_le (by unfold modelOf; simp)
                  rw [htk] at ho5
                  have HB5 := Lib.hid hb5
                  have K5 := Lib.hid k5
                  have c00 := k5.cell 0
                  have c02 := k5.cell 2
                  have kr := HK3.out.below hb5 HK3.out.lt
                  have hcr : Cg tag (Fr 16) w wr := HCG3.out.trans_ (cg_new (tag := tag3) (S := Fr 16) hb5) HRE3.out
                  have hd1 : decide ((kk : Int) + 1 ≤ (kk : Int)) = false := decide_eq_false (by omega)
                  obtain ⟨W9, hW9⟩ : ∃ W9, W9 = ((wr.setCell ⟨b0, 0, none⟩ (.string ⟨#[121, 101, 115]⟩)).setCell ⟨b0, 1, none⟩ (.slice Am kk cm)).setCell ⟨b0, 2, none⟩ (.slice none 0 0) := ⟨_, rfl⟩
                  have x9 : Blk W9 b0 45 #[.string ⟨#[121, 101, 115]⟩, .slice Am kk cm, .slice none 0 0] := by rw [hW9]; exact ((kr.set_ 0 _).set_ 1 _).set_ 2 _
                  have hg9 : Cg tag (Fr 16) w W9 := by
                    rw [hW9]
                    exact ((hcr.setCell (p := ⟨b0, 0, none⟩) (.inl (by show _ ≤ b0; omega)) _).setCell (p := ⟨b0, 1, none⟩) (.inl (by show _ ≤ b0; omega)) _).setCell (p := ⟨b0, 2, none⟩) (.inl (by show _ ≤ b0; omega)) _
                  have hc9 : ∀ tg : Nat → Tag, tg b0 = (0, 0) → Cg tg (fun t => t = (0, 0)) wr W9 := fun tg ht => by
                    rw [hW9]
                    exact (((Chg.refl _ wr).setCell (p := ⟨b0, 0, none⟩) (.inr fun _ => ht) _).setCell (p := ⟨b0, 1, none⟩) (.inr fun _ => ht) _).setCell (p := ⟨b0, 2, none⟩) (.inr fun _ => ht) _
                  have x90 := x9.cell 0
                  have x91 := x9.cell 1
                  have x92 := x9.cell 2
                  have r0 := kr.cell 0
                  have r1 := kr.cell 1
                  have r2 := kr.cell 2
                  have fr0 := kr.frozen 0
                  have fr1 := kr.frozen 1
                  have fr2 := kr.frozen 2
                  have HW9 := Lib.hid hW9
                  have hcb : Chg (fun k _ => k = b0) wr W9 := by
                    rw [hW9]
                    exact (((Chg.refl _ wr).setCell (p := ⟨b0, 0, none⟩) (.inr fun _ => rfl) _).setCell (p := ⟨b0, 1, none⟩) (.inr fun _ => rfl) _).setCell (p := ⟨b0, 2, none⟩) (.inr fun _ => rfl) _
                  have ho9 := own_chg ho5 hcb (fun g cur hg _ e => by have := HSZ.out; have := HB1.out; omega)
                  have hs9 := (H3.out.new hb5).keep (hc9 tag3 HT3.out) (fun t ht e => by subst e; exact absurd ht.1 (by decide))
                  have HE := Lib.hid (show SrP w tag p kk (.yes (modelOf kk s3.vs)) s3 (.returned (.agg #[.string ⟨#[121, 101, 115]⟩, .slice Am kk cm, .slice none 0 0])) W9 from
                    ⟨Am, cm, tag3, _, rfl, HRE3.out, hg9, hs9, own_base ho9 (by have := HSZ.out; have := HB1.out; omega)⟩)
                  clear hcr kr hg9 hc9 hW9 x9 hcb ho9 hs9 hb5 k5 ho5 h5 htk
                  go_wp2_with fail
                  rw [← HW9.out]
                  exact bodyPost_ret (v := .agg #[.string ⟨#[121, 101, 115]⟩, .slice Am kk cm, .slice none 0 0]) (by simp [results, Tryd.results17, go_sem, x90, x91, x92]) rfl HE.out
end
end Go.Proofs.YtaedbnbeelkkcaaDoor.slv
