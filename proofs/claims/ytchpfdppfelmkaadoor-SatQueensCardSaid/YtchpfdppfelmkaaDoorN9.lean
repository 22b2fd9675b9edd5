/-
  PLAIN: what a search that is known to end has come to. No program in sight.
  WALK of sat.Count, of a formula whose counting is known.
-/
import Derived.Test.YtchpfdppfelmkaaDoorAj
import Derived.Test.YtchpfdppfelmkaaDoorN3
namespace Go.Proofs.YtchpfdppfelmkaaDoor.slv
section
variable {V : Nat} {F : List (List Int)}
/-- what a search has come to, whatever its bounds -/
def SeP (V : Nat) (F : List (List Int)) : Ans → SS → Prop
  | .yes m, s => m = modelOf V s.vs ∧ SI V F s ∧ Done s ∧ s.dead = false ∧ ∀ v, 1 ≤ v → v ≤ V → va s.vs v ≠ 0
  | .no pf, s => pf = s.pf ++ [[]] ∧ PfOk V F s.pf ∧ Ref (F ++ s.pf) []
  | .tired, _ => True
theorem searchL_part (hV : V ≤ 400000) {effort : Nat} : ∀ {f rd cf : Nat} {left : Int} {s s' : SS} {a : Ans}, SI V F s → s.dead = false → F.length + s.pf.length + f < 4000000 → searchL V effort f rd cf left s = some (a, s') → SeP V F a s' ∧ s'.pf.length ≤ s.pf.length + f ∧ (a = .tired → effort ≤ cf + f)
  | 0, _, _, _, _, _, _, _, _, _, hu => by cases hu
  | f + 1, rd, cf, left, s, s', a, h, hd, hsz, hu => by
    unfold searchL at hu
    obtain ⟨r, s1, e1, h1⟩ := spreadM_ok h.full (by have := h.len; omega)
    rw [e1] at hu
    cases r with
    | none =>
      dsimp only at hu
      obtain ⟨f1, d1, fr⟩ := h1
      have hS1 : SI V F s1 := h.of_fra f1 fr.pf fr.xs.1
      by_cases hl : left ≤ 0
      · rw [if_pos hl] at hu
        have hbk : ∃ s2, backM V s1 0 = some s2 ∧ SI V F s2 ∧ s2.dead = false ∧ s2.pf = s.pf := by
          by_cases hlm : s1.lm.length = 0
          · exact ⟨s1, backM_none (by omega), hS1, fr.dead.trans hd, fr.pf⟩
          · obtain ⟨m, hm⟩ := at_lt (l := s1.lm) (i := 0) (by omega)
            obtain ⟨s2, e2, hB⟩ := backM_ok hV f1.inv f1.wt hm
            exact ⟨s2, e2, h.of_fra hB.full (hB.pf.trans fr.pf) (by rw [hB.xs]; exact fr.xs.1), (hB.dead.trans fr.dead).trans hd, hB.pf.trans fr.pf⟩
        obtain ⟨s2, e2, g1, g2, g3⟩ := hbk
        split at hu
        · rw [e2] at hu
          obtain ⟨k1, k2, k3⟩ := searchL_part hV g1 g2 (by rw [g3]; omega) hu
          exact ⟨k1, by rw [g3] at k2; omega, fun e => by have := k3 e; omega⟩
        · cases hu
      · rw [if_neg hl] at hu
        obtain ⟨q, s2, e2, h2⟩ := decideM_ok f1 d1
        have hS2 : SI V F s2 := h.of_fra h2.full (h2.pf.trans fr.pf) (by rw [h2.xs]; exact fr.xs.1)
        have hpf2 : s2.pf = s.pf := h2.pf.trans fr.pf
        rw [e2] at hu
        cases q with
        | false =>
          obtain ⟨n1, n2, n3, n4, n5⟩ := h2.no rfl
          injection hu with hu
          injection hu with hu1 hu2
          subst hu1
          subst hu2
          exact ⟨⟨rfl, hS2, n3, (h2.dead.trans fr.dead).trans hd, by rw [n1]; exact n5⟩, by rw [hpf2]; omega, fun e => by cases e⟩
        | true =>
          obtain ⟨k1, k2, k3⟩ := searchL_part hV hS2 ((h2.dead.trans fr.dead).trans hd) (by rw [hpf2]; omega) hu
          exact ⟨k1, by rw [hpf2] at k2; omega, fun e => by have := k3 e; omega⟩
    | some k =>
      dsimp only at hu
      obtain ⟨c1, w1, fr⟩ := h1
      by_cases hlm : s1.lm.length = 0
      · rw [if_pos hlm] at hu
        injection hu with hu
        injection hu with hu1 hu2
        subst hu1
        subst hu2
        exact ⟨⟨rfl, by rw [fr.pf]; exact h.pf, by rw [fr.pf]; exact ref_end c1 (List.length_eq_zero_iff.1 hlm)⟩, by rw [fr.pf]; omega, fun e => by cases e⟩
      · rw [if_neg hlm] at hu
        by_cases hce : cf = effort
        · rw [if_pos hce] at hu
          injection hu with hu
          injection hu with hu1 hu2
          subst hu1
          subst hu2
          exact ⟨trivial, by rw [fr.pf]; omega, fun _ => by omega⟩
        · rw [if_neg hce] at hu
          obtain ⟨s2, c, e2, h2⟩ := conflictM_ok hV c1 w1 (fun e => hlm (by rw [e]; rfl)) (by rw [fr.xs.1]; have := h.len; omega) (by rw [fr.pf]; omega)
          have hpf2 : s2.pf = s.pf ++ [c] := by rw [h2.pf, fr.pf]
          have hP2 : PfOk V F s2.pf := by
            rw [hpf2]
            exact h.pf.snoc h2.ref ⟨h2.nd, h2.ne, h2.lit⟩ fun d hd' => h2.new (fr.dead.trans hd) d (List.mem_append_right _ hd')
          have hlen2 : s2.pf.length = s.pf.length + 1 := by rw [hpf2, List.length_append]; rfl
          have hS2 : SI V F s2 := ⟨by rw [hpf2, ← List.append_assoc]; exact h2.full, hP2, by rw [hlen2]; have := h2.xs; have := fr.xs.1; have := h.len; omega⟩
          rw [e2] at hu
          obtain ⟨k1, k2, k3⟩ := searchL_part hV hS2 ((h2.dead.trans fr.dead).trans hd) (by omega) hu
          exact ⟨k1, by omega, fun e => by have := k3 e; omega⟩
theorem searchM_part (hV : V ≤ 400000) {effort f : Nat} {s s' : SS} {a : Ans} (h : SI V F s) (hl : s.lm = []) (hsz : F.length + s.pf.length + f < 4000000) (hu : searchM V effort f s = some (a, s')) : SeP V F a s' ∧ s'.pf.length ≤ s.pf.length + f ∧ (a = .tired → effort ≤ f) := by
  unfold searchM at hu
  cases hd : s.dead with
  | true =>
    rw [hd, if_pos rfl] at hu
    injection hu with hu
    injection hu with hu1 hu2
    subst hu1
    subst hu2
    exact ⟨⟨rfl, h.pf, h.full.inv.ded hd⟩, by omega, fun e => by cases e⟩
  | false =>
    rw [hd, if_neg (by decide)] at hu
    obtain ⟨r, s1, e1, h1⟩ := spreadM_ok h.full (by have := h.len; omega)
    rw [e1] at hu
    cases r with
    | some k =>
      dsimp only at hu
      obtain ⟨c1, w1, fr⟩ := h1
      injection hu with hu
      injection hu with hu1 hu2
      subst hu1
      subst hu2
      exact ⟨⟨rfl, by rw [fr.pf]; exact h.pf, by rw [fr.pf]; exact ref_end c1 (by rw [fr.lm]; exact hl)⟩, by rw [fr.pf]; omega, fun e => by cases e⟩
    | none =>
      dsimp only at hu
      obtain ⟨f1, d1, fr⟩ := h1
      have hS1 : SI V F s1 := h.of_fra f1 fr.pf fr.xs.1
      obtain ⟨k1, k2, k3⟩ := searchL_part hV hS1 (fr.dead.trans hd) (by rw [fr.pf]; exact hsz) hu
      exact ⟨k1, by rw [fr.pf] at k2; exact k2, fun e => by have := k3 e; omega⟩
end
end Go.Proofs.YtchpfdppfelmkaaDoor.slv
namespace Go.Proofs.YtchpfdppfelmkaaDoor.slv
open Go.RowKit
section
variable {w : World} {p V : Nat}
def CtW (w : World) (p V n most fuel : Nat) (r : Option Nat) (nv : Value) (k : Nat) (wr : World) : Prop :=
  ∃ (nn : Nat) (s1 : SS) (tag1 : Nat → Tag) (y1 : SLay) (F' : List (List Int)), nv = .int .i64 (nn : Nat) ∧ countL V most fuel k nn s1 = some r ∧ Slv wr tag1 p V y1 s1 ∧ SI V F' s1 ∧ s1.lm = [] ∧ (∀ d ∈ F', ∀ z ∈ d, Lit V z) ∧ F'.length ≤ n + nn ∧ nn ≤ most ∧ (∀ g, g < w.heap.size → tag1 g = (0, 0)) ∧ Below w.heap.size w wr ∧ s1.pf.length ≤ nn * fuel
def CuP (w : World) (m : Nat) (e : Ending) (w' : World) : Prop := e = .returned (.tuple #[.int .i64 (m : Nat), .nilIface]) ∧ Below w.heap.size w w'
set_option maxRecDepth 100000 in
set_option maxHeartbeats 16000000 in
theorem count_run {ea : Nat → Addr} {n c most m fuel kk : Nat} {A : Option Addr} {F : List (List Int)} {s0 : SS} (hes : Sen w ea) (hV : V ≤ 60) (hF : F.length = n) (hr : CsO w A F) (hlit : ∀ d ∈ F, d.length ≤ 1000000 ∧ ∀ z ∈ d, Lit V z) (hn : n ≤ 500000) (hmost : most ≤ 1000) (hfu : fuel ≤ 2000) (e0 : newM V F = some s0) (hcl : countL V most fuel kk 0 s0 = some (some m)) :
    Calls Tryd.prog 11 #[.agg #[.int .i64 (V : Nat), .slice A n c], .int .i64 (most : Nat)] w (CuP w m) := by
  obtain ⟨i0, hi0, hz0, hz1, hz2⟩ := info_parts info_int
  have HI := Lib.hid (And.intro hi0 (And.intro hz0 (And.intro hz1 hz2)))
  clear hi0 hz0 hz1 hz2
  obtain ⟨W1, hW1⟩ : ∃ W1, W1 = w.alloc (.cells #[.int .i64 (V : Nat), .slice A n c] 29) := ⟨_, rfl⟩
  have hb1 : Below w.heap.size w W1 := by rw [hW1]; exact (Below.refl _ _).alloc (Nat.le_refl _) _
  have k1 : Blk W1 w.heap.size 29 #[.int .i64 (V : Nat), .slice A n c] := by rw [hW1]; exact Blk.new w _ _
  have hr1 := hr.below hb1
  have CC := Lib.hid (checkc_any (B := W1.heap.size) (v := (V : Int)) (c := c) hF (hes.below hb1) (fun x hx => (hlit x hx).1) hr1.cls (Nat.le_refl _))
  have c0 := k1.cell 0
  have c1 := k1.cell 1
  obtain ⟨s0', e0', hsi0, hl0, _, hp0⟩ := newM_ok (V := V) (F := F) (fun d hd => (hlit d hd).2) (by omega)
  obtain rfl : s0 = s0' := by rw [e0] at e0'; injection e0' with e
  have HP0 := Lib.hid hp0
  have HW1 := Lib.hid hW1
  have HB1 := Lib.hid hb1
  have K1 := Lib.hid k1
  have HR1 := Lib.hid hr1
  have HE0 := Lib.hid e0
  have HS0 := Lib.hid (And.intro hsi0 (And.intro hl0 hcl))
  have HLIT := Lib.hid hlit
  have HES := Lib.hid hes
  have HFL := Lib.hid hF
  clear hW1 hb1 k1 hr1 hr hes hlit e0 e0' hsi0 hl0 hp0 hcl hF
  go_enter Tryd.func11, Tryd.ntmps11
  go_upto_region 1 with fail
  rw [← HW1.out]
  go_wp2_with fail
  refine CC.out.mono ?_
  rintro e w2 ⟨ev, cd, pl, rfl, hb2, hfi, hev⟩
  have hev0 : ev = .nilIface := by
    rcases hev.nil_iff with ⟨_, h⟩ | ⟨h, _⟩
    · exact h
    · exfalso
      rcases hfi with ⟨h1, _⟩ | ⟨_, ⟨_, i, x, _, h1, h2, _⟩ | ⟨h1, _⟩⟩
      · unfold Off at h1; have := HFL.out; omega
      · have := okC_lit.2 (HLIT.out x (List.mem_of_getElem? h1)).2
        rw [h2] at this; cases this
      · omega
  subst hev0
  have k2 := K1.out.below hb2 K1.out.lt
  have c20 := k2.cell 0
  have c21 := k2.cell 1
  have hb2' : Below w.heap.size w w2 := HB1.out.trans (hb2.mono HB1.out.size)
  have CN := Lib.hid (newSolver_any (w := w2) (c := c) (by omega) HFL.out (HR1.out.below hb2) (fun x hx => ⟨(HLIT.out x hx).1, fun z hz => by have := ((HLIT.out x hx).2 z hz).2; omega⟩) (by omega) HE0.out)
  have HB2 := Lib.hid hb2'
  have t1 : decide ((most : Int) < 0) = false := decide_eq_false (by omega)
  have t2 : decide ((most : Int) > 100000) = false := decide_eq_false (by omega)
  clear hfi hev hb2 k2 c0 c1 hb2'
  go_wp2_with fail
  refine CN.out.mono ?_
  rintro e w3 ⟨p, tag3, y3, rfl, htag3, hb3, hs3⟩
  have HST := Lib.hid (show CtW w p V n most fuel (some m) (.int .i64 ((0 : Nat) : Int)) kk w3 from
    ⟨0, s0, tag3, y3, F, rfl, HS0.out.2.2, hs3, HS0.out.1, HS0.out.2.1, fun d hd => (HLIT.out d hd).2, by have := HFL.out; omega, Nat.zero_le _, fun g hg => htag3 g (by have := HB2.out.size; omega), HB2.out.trans (hb3.mono HB2.out.size), by rw [HP0.out]; simp⟩)
  clear htag3 hb3 hs3 c20 c21 HS0 HE0 HR1 K1
  go_wp2_with fail
  go_loopg [8] kk (fun k nv wr => CtW w p V n most fuel (some m) nv k wr)
  case atStart => exact HST.out
  case round =>
    clear HST
    obtain ⟨nn, s1, tag1, y1, F', e1, hcl, hs, hsi, hlm, hlt, hfl, hnn, htag, hb, hpfn⟩ := hrel
    subst e1
    cases gk with
    | zero => cases hcl
    | succ f =>
    have hmul : nn * fuel ≤ 1000 * 2000 := Nat.mul_le_mul (by omega) hfu
    have hms : (nn + 1) * fuel = nn * fuel + fuel := Nat.succ_mul _ _
    obtain ⟨pb, hpb⟩ : ∃ pb, nn * fuel = pb := ⟨_, rfl⟩
    obtain ⟨pb1, hpb1⟩ : ∃ pb1, (nn + 1) * fuel = pb1 := ⟨_, rfl⟩
    rw [hpb] at hmul hms hpfn
    rw [hpb1] at hms
    unfold countL at hcl
    cases hsr : searchM V 1099511627776 fuel s1 with
    | none => rw [hsr] at hcl; cases hcl
    | some q =>
    obtain ⟨a, s2⟩ := q
    obtain ⟨hE, hpf2, htd⟩ := searchM_part (by omega) hsi hlm (by omega) hsr
    rw [hsr] at hcl
    try dsimp only at hcl
    have CSR := Lib.hid (search_any hs hsi hsr (by omega) (Nat.le_refl _) (bud := fuel) (.inr (.inr (Nat.le_refl _))) (by omega))
    have HE := Lib.hid hE
    have HTAG := Lib.hid htag
    have HB := Lib.hid hb
    have HCL := Lib.hid hcl
    have HLT := Lib.hid hlt
    have HPB := Lib.hid (And.intro hmul (And.intro hms (And.intro hpfn (And.intro hpf2 hpb1))))
    clear hs hsi hlm hlt htag hb hE hsr hcl hmul hms hpb hpfn hpf2 hpb1
    cases a with
    | tired =>
      exfalso
      have h1 := htd rfl
      omega
    | no pf =>
      as_aux_lemma =>
      have hcl := HCL.out
      try dsimp only at hcl
      injection hcl with hcl
      injection hcl with hcl
      have HP := Lib.hid hcl
      clear hcl htd
      go_wp2_with fail
      refine CSR.out.mono ?_
      rintro e w4 ⟨pv, tag4, rfl, hre4, hcg4, rows4, a1, a2, a3⟩
      obtain ⟨Ap, cp, hpv⟩ := a1.form
      obtain ⟨np, hnp⟩ : ∃ np, rows4.length = np := ⟨_, rfl⟩
      rw [hnp] at hpv
      subst hpv
      have hb4 : Below w.heap.size w w4 := HB.out.trans (hcg4.below_ (fun g hg hS => by rw [HTAG.out g hg] at hS; exact absurd hS.1 (by decide)) HB.out.size)
      have HEN := Lib.hid (fun o => show CuP w m (.returned (.tuple #[.int .i64 (nn : Nat), .nilIface])) (w4.alloc o) from ⟨by rw [HP.out], hb4.alloc hb4.size o⟩)
      clear hre4 hcg4 a1 a2 a3 hnp hb4
      go_wp2_with fail
      exact bodyPost_ret (v := .tuple #[.int .i64 (nn : Nat), .nilIface]) (by simp [results, Tryd.results11, go_sem]) rfl (HEN.out _)
    | yes mo =>
      go_wp2_with fail
      refine CSR.out.mono ?_
      rintro e w4 ⟨Am, cm, tag4, y4, rfl, hre4, hcg4, hs4, ho4⟩
      have hb4 : Below w.heap.size w w4 := HB.out.trans (hcg4.below_ (fun g hg hS => by rw [HTAG.out g hg] at hS; exact absurd hS.1 (by decide)) HB.out.size)
      have htag4 : ∀ g, g < w.heap.size → tag4 g = (0, 0) := fun g hg => (hre4 g (by have := HB.out.size; omega)).trans (HTAG.out g hg)
      have wnn : IntKind.i64.wrap ((nn : Int) + 1) = ((nn + 1 : Nat) : Int) := by rw [IntKind.wrap_i64]; omega
      have hcl := HCL.out
      try dsimp only at hcl
      obtain ⟨W5, hW5⟩ : ∃ W5, W5 = w4.alloc (.cells #[.string ⟨#[121, 101, 115]⟩, .slice Am V cm, .slice none 0 0] 49) := ⟨_, rfl⟩
      have hb45 : Below w4.heap.size w4 W5 := by rw [hW5]; exact (Below.refl _ _).alloc (Nat.le_refl _) _
      have k5 : Blk W5 w4.heap.size 49 #[.string ⟨#[121, 101, 115]⟩, .slice Am V cm, .slice none 0 0] := by rw [hW5]; exact Blk.new w4 _ _
      have c50 := k5.cell 0
      have c51 := k5.cell 1
      have HW5 := Lib.hid hW5
      have HB5 := Lib.hid (show Below w.heap.size w W5 from hb4.trans (hb45.mono hb4.size))
      have HS5 := Lib.hid (hs4.new hb45)
      have HO5 := Lib.hid (own_chg (S := fun _ _ => False) ho4 (Chg.of_new hb45) (fun _ _ _ _ => id))
      have HT4 := Lib.hid htag4
      by_cases hmo : most < nn + 1
      · exfalso
        rw [if_pos hmo] at hcl
        cases hcl
      · rw [if_neg hmo] at hcl
        obtain ⟨h1, h2, h3, h4, h5⟩ := HE.out
        have hmol : mo.length = V := by rw [h1]; unfold modelOf; simp
        obtain ⟨k0, _, _, hkl, _⟩ := yes_model h2 h3 h4 h5 HLT.out
        rw [← h1] at hkl
        have htr : s2.tr.length ≤ 1000000 := by have := h2.full.inv.room.1; omega
        obtain ⟨s3, e3, g1, g2, g3⟩ := back0_ok (by omega) h2
        rw [e3] at hcl
        try dsimp only at hcl
        obtain ⟨s4, F2, e4, hM, hp4⟩ := moreM_ok g1 g2 hkl (by have := g1.len; rw [g3] at this; have := HPB.out; omega)
        rw [e4] at hcl
        try dsimp only at hcl
        have t3 : decide (((nn + 1 : Nat) : Int) > (most : Int)) = false := decide_eq_false (by omega)
        obtain ⟨n1, hn1⟩ : ∃ n1, nn + 1 = n1 := ⟨_, rfl⟩
        rw [hn1] at wnn t3 hcl
        have t3' : ¬ (most : Int) < (n1 : Int) := by omega
        have CB := Lib.hid (fun (W : World) (hW : Below W5.heap.size W5 W) => back_any (HS5.out.new hW) e3 (by omega) (Nat.zero_le _) htr)
        have HMO := Lib.hid (And.intro hmol (And.intro hkl (And.intro hM.si (And.intro hM.lm (And.intro (hM.lit HLT.out) e4)))))
        have HPN := Lib.hid (show s4.pf.length ≤ n1 * fuel by rw [hp4, g3, ← hn1]; have := HPB.out; omega)
        have HCL4 := Lib.hid hcl
        have HE3 := Lib.hid e3
        have HTR := Lib.hid htr
        have HN1 := Lib.hid (show n1 ≤ most ∧ F2.length ≤ n + n1 from ⟨by omega, by have := hM.len; omega⟩)
        have HST := Lib.hid (show CtM W5 mo (.int .i64 ((0 : Nat) : Int)) (.slice none 0 0) W5 from ⟨0, none, 0, rfl, Nat.zero_le _, rfl, Below.refl _ _, World.ownsRow_nil _ _ _ _⟩)
        clear hre4 hcg4 hs4 ho4 hb4 htag4 hb45 k5 hW5 hcl hmo h1 h2 h3 h4 h5 hkl htr e3 g1 g2 g3 hM hp4 hmol htd
        go_upto_region 9 with fail
        rw [← HW5.out]
        clear HCL HE CSR HTAG HB HLT
        go_wp2_with fail
        clear c50 c51 HW5
        go_loopw [42, 10] (fun iv cv wx => CtM W5 mo iv cv wx) (fun iv _ _ => V - (intOf iv).toNat)
        case atStart => exact HST.out
        case round =>
          clear HST
          obtain ⟨i, Ac, cc, e1, hi, e2, hb6, ho6⟩ := hrel
          subst e1
          subst e2
          rw [HMO.out.1] at hi
          by_cases him : i < V
          · as_aux_lemma =>
            obtain ⟨x, hx⟩ : ∃ x, mo[i]? = some x := ⟨_, List.getElem?_eq_getElem (by have := HMO.out.1; omega)⟩
            obtain ⟨ga, cm2, hva, _, hlta⟩ := HO5.out.form (by omega)
            injection hva with q1 _ q3
            subst q1
            subst q3
            have ho5 := own_chg (S := fun _ _ => False) HO5.out (Chg.of_new hb6) (fun _ _ _ _ => id)
            have cx : wr.cell? ⟨ga, i, none⟩ = some (.bool x) := by
              have hr9 : Row wr (fun _ => (18, 0)) (18, 0) _ 4 (.slice (some ⟨ga, 0, none⟩) (boolVals mo).length cm) (boolVals mo) := ⟨by rw [show (boolVals mo).length = V by unfold boolVals; rw [List.length_map]; exact HMO.out.1]; exact ho5, fun _ _ => rfl⟩
              exact hr9.cell (bool_at hx)
            have hiI : (i : Int) < (V : Int) := by omega
            have wi : IntKind.i64.wrap ((i : Int) + 1) = ((i + 1 : Nat) : Int) := by rw [IntKind.wrap_i64]; omega
            obtain ⟨i1, hi1⟩ : ∃ i1, i + 1 = i1 := ⟨_, rfl⟩
            rw [hi1] at wi
            have wn : IntKind.i64.wrap (-(i : Int)) = -(i : Int) := by rw [IntKind.wrap_i64]; omega
            have wn1 : IntKind.i64.wrap (-(i : Int) - 1) = -(i1 : Int) := by rw [IntKind.wrap_i64]; omega
            have htk : (blkL 0 mo).take (i + 1) = (blkL 0 mo).take i ++ [if x then -(i1 : Int) else (i1 : Int)] := by
              have h9 := blkL_at (s := 0) hx
              rw [Nat.zero_add] at h9
              rw [List.take_add_one, h9, show -((i : Nat) : Int) - 1 = -(i1 : Int) by omega, show ((i : Nat) : Int) + 1 = (i1 : Int) by omega]; rfl
            have HTK := Lib.hid htk
            have HB6 := Lib.hid hb6
            have HI1 := Lib.hid hi1
            have hsz6 : W5.heap.size ≤ wr.heap.size := hb6.size
            have HSZ6 := Lib.hid (fun (z : Int) => show W5.heap.size ≤ (wr.alloc (.cells #[.int .i64 z] 3)).heap.size by simp; omega)
            have HO6 := Lib.hid (fun (z : Int) => World.ownsRow.alloc ho6 (.cells #[.int .i64 z] 3))
            have hi9 : i ≤ 60 := by omega
            clear ho5 hx htk hb6 hi1 ho6 hlta
            cases x with
            | true =>
              go_wp2_with (first | (at_builtin; refine wpList_append_loc _ rfl (.tmp 48) (.tmp 52) _ rfl W5.heap.size 3 i0 _ 1 8 Tryd.underlying25 HI.out.1 HI.out.2.1 HI.out.2.2.1 HI.out.2.2.2 rfl (by omega) (.slice Ac i cc) i (litVals ((blkL 0 mo).take i)) rfl (HO6.out (-(i1 : Int))) (wr.heap.size + 1) (some ⟨wr.heap.size, 0, none⟩) 1 1 [.int .i64 (-(i1 : Int))] rfl (reads_new (by simp) (by simp) rfl) (by intro u hu; rw [List.mem_singleton.1 hu]; rfl) (le_maxLen4 (by omega)) (le_bytes4 (by omega) (by omega)) (HSZ6.out _) ?_; intro A8 c8 w8 hown8 hg8 hl8; have HO8 := Lib.hid hown8; have HG8 := Lib.hid hg8; clear hown8 hg8 hl8) | fail)
              have hown8 := HO8.out
              rw [lit_snoc] at hown8
              have hb8 : Below W5.heap.size W5 w8 := ((HB6.out.alloc HB6.out.size (.cells #[.int .i64 (-(i1 : Int))] 3)).grown HG8.out (HSZ6.out _) (own_geq (HO6.out (-(i1 : Int)))))
              have HN := Lib.hid (show CtM W5 mo (.int .i64 (i1 : Nat)) (.slice A8 (i + 1) c8) w8 from ⟨i + 1, A8, c8, by rw [HI1.out], by have := HMO.out.1; omega, rfl, hb8, by rw [HTK.out]; simpa using hown8⟩)
              clear hown8 hb8
              go_wp2_with fail
              go_roundw
              case rel => exact ⟨_, _, _, _, HN.out, rfl, rfl, rfl, rfl⟩
              case measure => have := HI1.out; simp [intOf]; omega
            | false =>
              go_wp2_with (first | (at_builtin; refine wpList_append_loc _ rfl (.tmp 54) (.tmp 57) _ rfl W5.heap.size 3 i0 _ 1 8 Tryd.underlying25 HI.out.1 HI.out.2.1 HI.out.2.2.1 HI.out.2.2.2 rfl (by omega) (.slice Ac i cc) i (litVals ((blkL 0 mo).take i)) rfl (HO6.out (i1 : Int)) (wr.heap.size + 1) (some ⟨wr.heap.size, 0, none⟩) 1 1 [.int .i64 (i1 : Int)] rfl (reads_new (by simp) (by simp) rfl) (by intro u hu; rw [List.mem_singleton.1 hu]; rfl) (le_maxLen4 (by omega)) (le_bytes4 (by omega) (by omega)) (HSZ6.out _) ?_; intro A8 c8 w8 hown8 hg8 hl8; have HO8 := Lib.hid hown8; have HG8 := Lib.hid hg8; clear hown8 hg8 hl8) | fail)
              have hown8 := HO8.out
              rw [lit_snoc] at hown8
              have hb8 : Below W5.heap.size W5 w8 := ((HB6.out.alloc HB6.out.size (.cells #[.int .i64 (i1 : Int)] 3)).grown HG8.out (HSZ6.out _) (own_geq (HO6.out (i1 : Int))))
              have HN := Lib.hid (show CtM W5 mo (.int .i64 (i1 : Nat)) (.slice A8 (i + 1) c8) w8 from ⟨i + 1, A8, c8, by rw [HI1.out], by have := HMO.out.1; omega, rfl, hb8, by rw [HTK.out]; simpa using hown8⟩)
              clear hown8 hb8
              go_wp2_with fail
              go_roundw
              case rel => exact ⟨_, _, _, _, HN.out, rfl, rfl, rfl, rfl⟩
              case measure => have := HI1.out; simp [intOf]; omega
          · obtain rfl : i = V := by omega
            have hbl : (blkL 0 mo).length = i := by rw [blkL_len]; exact HMO.out.1
            rw [List.take_of_length_le (by omega)] at ho6
            obtain ⟨tag5, hre5, hrow5⟩ : ∃ tag5, Re W5 tag4 tag5 ∧ Row wr tag5 (18, 0) W5.heap.size 3 (.slice Ac i cc) (litVals (blkL 0 mo)) := by
              cases hob : (Value.slice Ac i cc).ownBlock with
              | none => exact ⟨tag4, Re.refl _ _, by rw [litVals_len, hbl]; exact ho6, fun g hg => by rw [hob] at hg; cases hg⟩
              | some g => exact ⟨put tag4 g (18, 0), re_put (own_geq ho6 g hob), by rw [litVals_len, hbl]; exact ho6, fun g' hg => by rw [hob] at hg; injection hg with hg; subst hg; exact put_same _ _ _⟩
            have hs6 := (HS5.out.re hre5).new hb6
            have ht5 : ∀ g, g < w.heap.size → tag5 g = (0, 0) := fun g hg => (hre5 g (by have := HB5.out.size; omega)).trans (HT4.out g hg)
            have HB6 := Lib.hid (show Below w.heap.size w wr from HB5.out.trans (hb6.mono HB5.out.size))
            have HS6 := Lib.hid hs6
            have HR6 := Lib.hid hrow5
            have HT5 := Lib.hid ht5
            have HBL := Lib.hid hbl
            have CB2 := Lib.hid (back_any hs6 HE3.out (by omega) (Nat.zero_le _) HTR.out)
            clear hs6 hrow5 ht5 hbl hb6 ho6 hre5 CB him
            go_wp2_with fail
            refine CB2.out.mono ?_
            rintro e w7 ⟨rfl, tag7, y7, hre7, hcg7, h7⟩
            have hrow7 := (HR6.out.re hre7).chg (hcg7.re_ hre7) (fun e => absurd e.2 (by decide))
            have hown7 := hrow7.own
            rw [litVals_len, HBL.out] at hown7
            have ht7 : ∀ g, g < w.heap.size → tag7 g = (0, 0) := fun g hg => (hre7 g (by have := HB6.out.size; omega)).trans (HT5.out g hg)
            have hb7 : Below w.heap.size w w7 := HB6.out.trans (hcg7.below_ (fun g hg hS => by rw [HT5.out g hg] at hS; exact absurd hS.1 (by decide)) HB6.out.size)
            have CM := Lib.hid (more_any h7 HMO.out.2.2.2.2.2 (by omega) HBL.out (by omega) (fun x hx => by have := (HMO.out.2.1 x hx).2; omega) hown7)
            have HT7 := Lib.hid ht7
            have HB7 := Lib.hid hb7
            clear hre7 hcg7 h7 hrow7 hown7 ht7 hb7
            go_wp2_with fail
            refine CM.out.mono ?_
            rintro e w8 ⟨rfl, tag8, y8, hre8, hcg8, h8⟩
            have HN := Lib.hid (show CtW w p i n most fuel (some m) (.int .i64 (n1 : Nat)) f w8 from
              ⟨n1, s4, tag8, y8, F2, rfl, HCL4.out, h8, HMO.out.2.2.1, HMO.out.2.2.2.1, HMO.out.2.2.2.2.1, HN1.out.2, HN1.out.1, fun g hg => (hre8 g (by have := HB7.out.size; omega)).trans (HT7.out g hg), HB7.out.trans (hcg8.below_ (fun g hg hS => by rw [HT7.out g hg] at hS; exact absurd hS.1 (by decide)) HB7.out.size), HPN.out⟩)
            clear hre8 hcg8 h8
            go_wp2_with fail
            go_roundg f
            case measure => omega
            case rel => exact HN.out
end
end Go.Proofs.YtchpfdppfelmkaaDoor.slv
