/-
  WALK of (*solver).search: two variables, no clauses.
-/
import Derived.Test.YtgchepkcjkhmmaaDoorQf
import Derived.Test.YtgchepkcjkhmmaaDoorQg
namespace Go.Proofs.YtgchepkcjkhmmaaDoor.slv
open Go.RowKit
section
variable {w : World} {tag : Nat → Tag} {p : Nat} {y : SLay} {s : SS}
structure Qi (i : Nat) (s : SS) : Prop where
  tr : s.tr = ([-1, -2] : List Int).take i
  lm : s.lm = ([0, 1] : List Nat).take i
  hp : s.hp = ([1, 2] : List Nat).drop i
  vs : s.vs = [0, if 0 < i then -1 else 0, if 1 < i then -1 else 0]
  ph : s.ph = [false, false, false]
  wt : ∀ j, s.wt j = []
  hd : s.hd ≤ s.tr.length
  dead : s.dead = false
def DqP (w : World) (tag : Nat → Tag) (p i : Nat) (v : Value) (e : Ending) (w' : World) : Prop :=
  e = .returned v ∧ ∃ tag' y' s', Re w tag tag' ∧ Cg tag (Fr 16) w w' ∧ Slv w' tag' p 2 y' s' ∧ Qi i s'
theorem decQ {i : Nat} (h : Slv w tag p 2 y s) (hq : Qi i s) (hi : i < 2) : Calls Tryd.prog 27 #[.pointer (some ⟨p, 0, none⟩)] w (DqP w tag p (i + 1) (.bool true)) := by
  obtain ⟨q1, q2, q3, q4, q5, q6, q7, q8⟩ := hq
  rcases (by omega : i = 0 ∨ i = 1) with rfl | rfl
  · refine (decide_step (v := 1) h (by rw [q3]; decide) (by omega) (by omega) (by omega) (pop2 h (a := 1) (b := 2) (by rw [q3]; rfl) (by omega) (by omega)) ?_ ?_ ?_ ?_).mono ?_
    · show s.vs[1]? = some 0
      rw [q4]; rfl
    · show s.ph[1]? = some false
      rw [q5]; rfl
    · show s.tr.length ≤ 2
      rw [q1]; decide
    · show s.lm.length < 2
      rw [q2]; decide
    · rintro e w' ⟨rfl, tag', y', hre, hcg, h'⟩
      refine ⟨rfl, tag', y', _, hre, hcg, h', ?_⟩
      exact ⟨by simp [setS, q1], by simp [setS, q1, q2], by simp [setS], by simp [setS, q4, sg], by simp [setS, q5], fun j => by simpa [setS] using q6 j, by simp [setS]; omega, by simp [setS, q8]⟩
  · refine (decide_step (v := 2) h (by rw [q3]; decide) (by omega) (by omega) (by omega) (pop1 h (a := 2) (by rw [q3]; rfl) (by omega)) ?_ ?_ ?_ ?_).mono ?_
    · show s.vs[2]? = some 0
      rw [q4]; rfl
    · show s.ph[2]? = some false
      rw [q5]; rfl
    · show s.tr.length ≤ 2
      rw [q1]; decide
    · show s.lm.length < 2
      rw [q2]; decide
    · rintro e w' ⟨rfl, tag', y', hre, hcg, h'⟩
      refine ⟨rfl, tag', y', _, hre, hcg, h', ?_⟩
      exact ⟨by simp [setS, q1], by simp [setS, q1, q2], by simp [setS], by simp [setS, q4, sg], by simp [setS, q5], fun j => by simpa [setS] using q6 j, by simp [setS]; omega, by simp [setS, q8]⟩
theorem spQ {i : Nat} (h : Slv w tag p 2 y s) (hq : Qi i s) (hi : i ≤ 2) : Calls Tryd.prog 23 #[.pointer (some ⟨p, 0, none⟩)] w (DqP w tag p i (.int .i64 (-1))) := by
  obtain ⟨q1, q2, q3, q4, q5, q6, q7, q8⟩ := hq
  have hl : s.tr.length = i := by rw [q1]; simp; omega
  refine (spread0 h q7 q6 (fun x hx => ?_) (by omega) (by omega)).mono ?_
  · rw [q1] at hx
    have := List.mem_of_mem_take hx
    simp only [List.mem_cons, List.not_mem_nil, or_false] at this
    rcases this with rfl | rfl <;> exact ⟨by decide, by decide⟩
  · rintro e w' ⟨rfl, tag', y', hre, hcg, h'⟩
    exact ⟨rfl, tag', y', _, hre, hcg, h', q1, q2, q3, q4, q5, q6, Nat.le_refl _, q8⟩
theorem Cg.blk16 {w' : World} {b : Nat} {t : TypeId} {cs : Array Value} (hc : Cg tag (Fr 16) w w') (ht : tag b = (0, 0)) (hx : Blk w b t cs) : Blk w' b t cs :=
  hc.keep b _ hx (by show ¬ Fr 16 (tag b); rw [ht]; exact fun h => absurd h.1 (by decide))
def SqP (w : World) (tag : Nat → Tag) (e : Ending) (w' : World) : Prop := ∃ A c, e = .returned (.agg #[.string ⟨#[121, 101, 115]⟩, .slice A 2 c, .slice none 0 0]) ∧ Cg tag (Fr 16) w w'
def lmOf (w : World) (p : Nat) : Nat := match w.cell? ⟨p, 7, none⟩ with
  | some (.slice _ n _) => n
  | _ => 0
theorem lmOf_eq {tag' : Nat → Tag} (h : Slv w tag' p 2 y s) : lmOf w p = s.lm.length := by
  obtain ⟨A, c, hv⟩ := h.lim.form
  rw [kVals_len] at hv
  unfold lmOf
  rw [show w.cell? ⟨p, 7, none⟩ = some (.slice A s.lm.length c) by have := h.blk.cell 7; rw [hv] at this; exact this]
def SqL (w : World) (tag : Nat → Tag) (p b : Nat) (wr : World) : Prop :=
  ∃ (i : Nat) (tag' : Nat → Tag) (y' : SLay) (s' : SS), i ≤ 2 ∧ Re w tag tag' ∧ Cg tag (Fr 16) w wr ∧ Slv wr tag' p 2 y' s' ∧ Qi i s' ∧ tag' b = (0, 0) ∧ Blk wr b 41 #[.string ⟨#[]⟩, .slice none 0 0, .slice none 0 0]
def SmL (w3 : World) (iv : Value) (wr : World) : Prop :=
  ∃ (k : Nat) (A : Option Addr) (c : Nat) (xs : List Value), k ≤ 2 ∧ iv = .int .i64 ((k + 1 : Nat) : Int) ∧ Below w3.heap.size w3 wr ∧ Blk wr w3.heap.size 41 #[.string ⟨#[121, 101, 115]⟩, .slice A k c, .slice none 0 0] ∧ wr.ownsRow w3.heap.size 4 1 (.slice A k c) k xs
theorem own_ge {base : Nat} {e : TypeId} {size n : Nat} {v : Value} {xs : List Value} (h : w.ownsRow base e size v n xs) : ∀ k, v.ownBlock = some k → base ≤ k := by
  rcases h.2 with ⟨rfl, _⟩ | ⟨g', cap, cur, rfl, hb, _⟩
  · intro k hk; cases hk
  · intro k hk; injection hk with hk; subst hk; exact hb
attribute [local irreducible] wpSeq wpMv
set_option maxRecDepth 100000 in
set_option maxHeartbeats 4000000 in
theorem searchQ (h : Slv w tag p 2 y s) (hq : Qi 0 s) : Calls Tryd.prog 17 #[.pointer (some ⟨p, 0, none⟩), .int .i64 5] w (SqP w tag) := by
  obtain ⟨i0, hi, hz0, hz1, hz2⟩ := info_parts info_bool
  have HI := Lib.hid (And.intro hi (And.intro hz0 (And.intro hz1 hz2)))
  clear hi hz0 hz1 hz2
  have hr0 : Re w tag (put tag w.heap.size (0, 0)) := re_put (Nat.le_refl _)
  have h0 := (h.re hr0).alloc (.cells #[.string ⟨#[]⟩, .slice none 0 0, .slice none 0 0] 41)
  have k0 : Blk (w.alloc (.cells #[.string ⟨#[]⟩, .slice none 0 0, .slice none 0 0] 41)) w.heap.size 41 #[.string ⟨#[]⟩, .slice none 0 0, .slice none 0 0] := Blk.new w _ _
  have g0 : Cg tag (Fr 16) w (w.alloc (.cells #[.string ⟨#[]⟩, .slice none 0 0, .slice none 0 0] 41)) := cg_new ((Below.refl _ _).alloc (Nat.le_refl _) _)
  obtain ⟨W0, hW0⟩ : ∃ W0, W0 = w.alloc (.cells #[.string ⟨#[]⟩, .slice none 0 0, .slice none 0 0] 41) := ⟨_, rfl⟩
  rw [← hW0] at h0 k0 g0
  have hsz : w.heap.size ≤ W0.heap.size := g0.size
  have c15 : W0.cell? ⟨p, 15, none⟩ = some (.bool false) := by have := h0.blk.cell 15; rw [hq.dead] at this; exact this
  have CS := Lib.hid (spQ h0 hq (by omega))
  have HW0 := Lib.hid hW0
  have HG0 := Lib.hid g0
  have HR0 := Lib.hid hr0
  have HK0 := Lib.hid k0
  have HT0 := Lib.hid (put_same tag w.heap.size ((0, 0) : Tag))
  have HSZ := Lib.hid hsz
  clear h hr0 h0 k0 g0 hW0 hq hsz
  go_enter Tryd.func17, Tryd.ntmps17
  go_upto_region 1 with fail
  rw [← HW0.out]
  go_wp2_with (first | (refine CS.out.mono ?_; rintro e w1 ⟨rfl, tag1, y1, s1, hre1, hcg1, h1, hq1⟩; have HQ1 := Lib.hid hq1; have HRE1 := Lib.hid hre1; have HCG1 := Lib.hid hcg1; have H1 := Lib.hid h1; clear hre1 hcg1 h1 hq1) | fail)
  go_loopw [5, 6, 7] (fun v5 v6 v7 wr => v5 = .int .i64 0 ∧ v6 = .int .i64 0 ∧ v7 = .int .i64 100 ∧ SqL w tag p w.heap.size wr) (fun _ _ _ wr => 2 - lmOf wr p)
  case atStart =>
    refine ⟨rfl, rfl, rfl, 0, tag1, y1, s1, by omega, fun g hg => (HRE1.out g (by have := HSZ.out; omega)).trans (HR0.out g hg), HG0.out.trans_ HCG1.out HR0.out, H1.out, HQ1.out, ?_, Cg.blk16 HCG1.out HT0.out HK0.out⟩
    exact (HRE1.out _ HK0.out.lt).trans HT0.out
  case round =>
    clear H1 HQ1 HRE1 HCG1 HR0 HG0 HK0 HT0 CS HW0 c15 HSZ
    obtain ⟨e5, e6, e7, i, tag2, y2, s2, hi2, hre2, hcg2, h2, hq2, ht2, k2⟩ := hrel
    subst e5
    subst e6
    subst e7
    have hlm2 : lmOf wr p = i := by rw [lmOf_eq h2, hq2.lm]; simp; omega
    have CS := Lib.hid (spQ h2 hq2 hi2)
    have HRE2 := Lib.hid hre2
    have HCG2 := Lib.hid hcg2
    have HT2 := Lib.hid ht2
    have HK2 := Lib.hid k2
    have HLM := Lib.hid hlm2
    clear hre2 hcg2 h2 hq2 ht2 k2 hlm2
    go_wp2_with fail
    refine CS.out.mono ?_
    rintro e w3 ⟨rfl, tag3, y3, s3, hre3, hcg3, h3, hq3⟩
    have hre3' : Re w tag tag3 := fun g hg => (hre3 g (by have := HCG2.out.size; omega)).trans (HRE2.out g hg)
    have hcg3' := HCG2.out.trans_ hcg3 HRE2.out
    have ht3 : tag3 w.heap.size = (0, 0) := (hre3 _ HK2.out.lt).trans HT2.out
    have k3 := Cg.blk16 hcg3 HT2.out HK2.out
    by_cases hi : i < 2
    · have CD := Lib.hid (decQ h3 hq3 hi)
      have HRE3 := Lib.hid hre3'
      have HCG3 := Lib.hid hcg3'
      have HT3 := Lib.hid ht3
      have HK3 := Lib.hid k3
      have HI2 := Lib.hid hi
      clear hre3 hcg3 h3 hq3 hre3' hcg3' ht3 k3 hi
      go_wp2_with fail
      refine CD.out.mono ?_
      rintro e w4 ⟨rfl, tag4, y4, s4, hre4, hcg4, h4, hq4⟩
      have hlm4 : lmOf w4 p = i + 1 := by rw [lmOf_eq h4, hq4.lm]; have := HI2.out; simp; omega
      have HN := Lib.hid (show SqL w tag p w.heap.size w4 from ⟨i + 1, tag4, y4, s4, by have := HI2.out; omega, fun g hg => (hre4 g (by have := HCG3.out.size; omega)).trans (HRE3.out g hg), HCG3.out.trans_ hcg4 HRE3.out, h4, hq4, (hre4 _ HK3.out.lt).trans HT3.out, Cg.blk16 hcg4 HT3.out HK3.out⟩)
      have HN2 := Lib.hid (show 2 - lmOf w4 p < 2 - lmOf wr p by rw [hlm4, HLM.out]; have := HI2.out; omega)
      clear hre4 hcg4 h4 hq4 hlm4
      go_wp2_with fail
      go_roundw
      case rel => exact ⟨rfl, rfl, rfl, HN.out⟩
      case measure => exact HN2.out
    · obtain rfl : i = 2 := by omega
      have CD := Lib.hid (decide0 h3 hq3.hp)
      have HCG3 := Lib.hid hcg3'
      have H3 := Lib.hid h3
      have HVS := Lib.hid hq3.vs
      have HK3 := Lib.hid k3
      have HT3 := Lib.hid ht3
      have HRE3 := Lib.hid hre3'
      clear hre3 hcg3 h3 hq3 hre3' hcg3' ht3 k3 hi
      go_wp2_with fail
      refine CD.out.mono ?_
      rintro e w4 ⟨rfl, rfl⟩
      obtain ⟨W5, hW5⟩ : ∃ W5, W5 = w3.alloc (.cells #[.string ⟨#[121, 101, 115]⟩, .slice none 0 0, .slice none 0 0] 41) := ⟨_, rfl⟩
      have hs5 : SmL w3 (.int .i64 ((0 + 1 : Nat) : Int)) W5 := by
        rw [hW5]
        exact ⟨0, none, 0, [], by omega, rfl, (Below.refl _ _).alloc (Nat.le_refl _) _, Blk.new w3 _ _, World.ownsRow_nil _ _ _ _⟩
      have HS5 := Lib.hid hs5
      have HW5 := Lib.hid hW5
      clear hs5 hW5
      go_upto_region 12 with fail
      rw [← HW5.out]
      go_wp2_with fail
      go_loopw [10] (fun v10 wx => SmL w3 v10 wx) (fun v10 _ => 3 - (intOf v10).toNat)
      case atStart => exact HS5.out
      case round =>
        clear HS5 HW5
        obtain ⟨k, Am, cm, xs, hk2, e10, hb5, k5, ho5⟩ := hrel
        subst e10
        obtain ⟨vC, rows, gw, wrows, gv, gl, gr, vt, vL, gs, gp, vh, gP, vP, prows⟩ := y3
        have h5 := H3.out.new hb5
        have c0 : wr.cell? ⟨p, 0, none⟩ = some (.int .i64 2) := h5.blk.cell 0
        have c3 : wr.cell? ⟨p, 3, none⟩ = some (.slice (some ⟨gv, 0, none⟩) 3 3) := h5.blk.cell 3
        have cb1 : wr.cell? ⟨w3.heap.size, 1, none⟩ = some (.slice Am k cm) := k5.cell 1
        by_cases hk : k < 2
        · obtain ⟨x, hx⟩ : ∃ x, s3.vs[k + 1]? = some x := ⟨_, List.getElem?_eq_getElem (by rw [HVS.out]; simp; omega)⟩
          have cx : wr.cell? ⟨gv, k + 1, none⟩ = some (.int .i8 x) := h5.val.cell (i8_at hx)
          obtain ⟨b, hb⟩ : ∃ b, ((x : Int) == 1) = b := ⟨_, rfl⟩
          have hw1 : IntKind.i64.wrap ((k : Int) + 1 + 1) = (k : Int) + 1 + 1 := by rw [IntKind.wrap_i64]; omega
          have hkI : (k : Int) + 1 < 3 := by omega
          have hkI2 : (k : Int) + 1 ≤ 2 := by omega
          have hkI0 : (0 : Int) ≤ (k : Int) + 1 := by omega
          have hd1 : decide ((k : Int) + 1 ≤ 2) = true := decide_eq_true hkI2
          have H5 := Lib.hid h5
          have K5 := Lib.hid k5
          have HB5 := Lib.hid hb5
          have HO5 := Lib.hid (show (wr.drew.alloc (.cells #[.bool b] 4)).ownsRow w3.heap.size 4 1 (.slice Am k cm) k xs from (World.ownsRow.alloc (World.ownsRow.drew ho5) _))
          have HX := Lib.hid hx
          have HK := Lib.hid hk
          clear h5 k5 hb5 ho5 hx hk hk2
          go_upto_region 15 with fail
          refine wp_region_mv (S := fun w' => w'.cell? ⟨w3.heap.size, 1, none⟩ = some (.slice Am k cm) ∧ w'.cell? ⟨p, 3, none⟩ = some (.slice (some ⟨gv, 0, none⟩) 3 3) ∧ w'.cell? ⟨gv, k + 1, none⟩ = some (.int .i8 x)) 13 [.f 0, .f 1, .f 2, .f 3, .f 4, .f 5, .f 6, .f 7, .f 8, .f 9, .t 10, .t 11, .f 12, .t 13] (by kernel_rfl) (by kernel_rfl) (by kernel_rfl) (And.intro cb1 (And.intro c3 cx)) ?_
          iterate 10 (refine mv_take _ _ rfl (by kernel_rfl) (fun wv hv => by obtain ⟨hv1, hv2, hv3⟩ := hv; go_simp; try with_reducible rfl) ?_; simp only [Act.put, List.getElem_toArray, List.getElem_cons_zero, List.getElem_cons_succ, List.setIfInBounds_toArray, List.set_cons_zero, List.set_cons_succ])
          refine mv_act _ rfl (fun K hK => ?_)
          go_simp
          go_simp
          refine hK _ _ (.inr ((And.intro ((K5.out.drew.alloc _).cell 1) (And.intro ((H5.out.drew.alloc _).blk.cell 3) ((H5.out.drew.alloc _).val.cell (i8_at HX.out)))))) ?_
          clear hK K
          refine mv_act _ rfl (fun K hK => ?_)
          refine step_append_sl _ rfl (.tmp 50) (.tmp 59) _ rfl w3.heap.size 4 i0 _ 1 1 Tryd.underlying39 HI.out.1 HI.out.2.1 HI.out.2.2.1 HI.out.2.2.2 rfl (by omega) (.slice Am k cm) k xs rfl HO5.out (wr.heap.size + 1) (some ⟨wr.heap.size, 0, none⟩) 1 1 [.bool b] rfl (reads_new (by simp) (by simp) rfl) (by intro u hu; rw [List.mem_singleton.1 hu]; rfl) (le_maxLen (by have := HK.out; omega)) (le_bytes (by have := HK.out; omega) (by omega)) (by have := HB5.out.size; simp; omega) ?_
          intro A6 c6 w6 hown6 hg6
          have hb6 := ((HB5.out.trans (below_drewN (Below.refl _ _) 1)).alloc (by have := HB5.out.size; simp; omega) (.cells #[.bool b] 4)).grown hg6 (by have := HB5.out.size; simp; omega) (own_ge HO5.out)
          have k6 := (K5.out.drew.alloc (.cells #[.bool b] 4)).grown hg6 (own_blk_ne HO5.out (K5.out.drew.alloc (.cells #[.bool b] 4)) (by decide)).symm
          have h6 := H3.out.new hb6
          have c61 : w6.cell? ⟨w3.heap.size, 1, none⟩ = some (.slice Am k cm) := k6.cell 1
          have f61 : w6.frozen? ⟨w3.heap.size, 1, none⟩ = false := k6.frozen 1
          have l61 : w3.heap.size < w6.heap.size := k6.lt
          have S6 := And.intro c61 (And.intro (h6.blk.cell 3) (h6.val.cell (i8_at HX.out)))
          have HB6 := Lib.hid hb6
          have K6 := Lib.hid k6
          have HO6 := Lib.hid hown6
          clear hown6 hg6 hb6 k6 h6
          refine hK _ _ (.inr (S6)) ?_
          clear hK K
          try simp only [Act.put, List.getElem_toArray, List.getElem_cons_zero, List.getElem_cons_succ, List.setIfInBounds_toArray, List.set_cons_zero, List.set_cons_succ]
          clear S6
          iterate 1 (refine mv_take _ _ rfl (by kernel_rfl) (fun wv hv => by obtain ⟨hv1, hv2, hv3⟩ := hv; go_simp; try with_reducible rfl) ?_; simp only [Act.put, List.getElem_toArray, List.getElem_cons_zero, List.getElem_cons_succ, List.setIfInBounds_toArray, List.set_cons_zero, List.set_cons_succ])
          refine mv_act _ rfl (fun K hK => ?_)
          go_simp
          go_simp
          refine hK _ _ (.inl rfl) ?_
          clear hK K
          refine mv_nil ?_
          have HN := Lib.hid (show SmL w3 (.int .i64 ((k : Int) + 1 + 1)) (w6.setCell ⟨w3.heap.size, 1, none⟩ (.slice A6 (k + 1) c6)) from by
            refine ⟨k + 1, A6, c6, xs ++ [.bool b], by have := HK.out; omega, by go_num, HB6.out.setCell (Nat.le_refl _) _, K6.out.set_ 1 _, own_far HO6.out _ (own_blk_ne HO6.out K6.out (by decide))⟩)
          clear c61 f61 l61
          go_wp2_with fail
          go_roundw
          case rel => exact HN.out
          case measure => have := HK.out; simp [intOf]; omega
        · obtain rfl : k = 2 := by omega
          have HB5 := Lib.hid hb5
          have K5 := Lib.hid k5
          have c00 := k5.cell 0
          have c02 := k5.cell 2
          have kr := HK3.out.below hb5 HK3.out.lt
          have r0 := kr.cell 0
          have r1 := kr.cell 1
          have r2 := kr.cell 2
          have fr0 := kr.frozen 0
          have fr1 := kr.frozen 1
          have fr2 := kr.frozen 2
          obtain ⟨W9, hW9⟩ : ∃ W9, W9 = ((wr.setCell ⟨w.heap.size, 0, none⟩ (.string ⟨#[121, 101, 115]⟩)).setCell ⟨w.heap.size, 1, none⟩ (.slice Am 2 cm)).setCell ⟨w.heap.size, 2, none⟩ (.slice none 0 0) := ⟨_, rfl⟩
          have x9 : Blk W9 w.heap.size 41 #[.string ⟨#[121, 101, 115]⟩, .slice Am 2 cm, .slice none 0 0] := by rw [hW9]; exact ((kr.set_ 0 _).set_ 1 _).set_ 2 _
          have HG9 := Lib.hid (show Cg tag (Fr 16) w W9 by
            rw [hW9]
            exact (((HCG3.out.trans_ (cg_new (tag := tag3) (S := Fr 16) HB5.out) HRE3.out).setCell (p := ⟨w.heap.size, 0, none⟩) (.inl (Nat.le_refl _)) (.string ⟨#[121, 101, 115]⟩)).setCell (p := ⟨w.heap.size, 1, none⟩) (.inl (Nat.le_refl _)) (.slice Am 2 cm)).setCell (p := ⟨w.heap.size, 2, none⟩) (.inl (Nat.le_refl _)) (.slice none 0 0))
          have x90 := x9.cell 0
          have x91 := x9.cell 1
          have x92 := x9.cell 2
          have HW9 := Lib.hid hW9
          clear hW9 x9 kr
          go_wp2_with fail
          rw [← HW9.out]
          exact bodyPost_ret (v := .agg #[.string ⟨#[121, 101, 115]⟩, .slice Am 2 cm, .slice none 0 0]) (by simp [results, Tryd.results17, go_sem, x90, x91, x92]) rfl ⟨_, _, rfl, HG9.out⟩
end
end Go.Proofs.YtgchepkcjkhmmaaDoor.slv
