/-
  WALK of sat.Count.
-/
import Derived.Test.YtaedbnbeelkkcaaDoorN4
import Derived.Test.YtaedbnbeelkkcaaDoorAj
import Derived.Test.YtaedbnbeelkkcaaDoorCx
namespace Go.Proofs.YtaedbnbeelkkcaaDoor.slv
open Go.RowKit
theorem blkL_at : ∀ {m : List Bool} {s i : Nat} {x : Bool}, m[i]? = some x → (blkL s m)[i]? = some (if x then -((s + i : Nat) : Int) - 1 else ((s + i : Nat) : Int) + 1)
  | [], _, _, _, h => by simp at h
  | y :: r, s, 0, x, h => by
    have e : y = x := by simpa using h
    subst e
    unfold blkL
    simp
  | y :: r, s, i + 1, x, h => by
    unfold blkL
    rw [List.getElem?_cons_succ, blkL_at (m := r) (s := s + 1) (i := i) (by simpa using h), show s + 1 + i = s + (i + 1) by omega]
theorem blkL_len : ∀ {m : List Bool} {s : Nat}, (blkL s m).length = m.length
  | [], _ => rfl
  | _ :: r, s => by unfold blkL; rw [List.length_cons, List.length_cons, blkL_len]
section
variable {w : World} {p V : Nat}
def CtR (w : World) (p V n most fuel : Nat) (r : Option Nat) (nv : Value) (k : Nat) (wr : World) : Prop :=
  ∃ (nn : Nat) (s1 : SS) (tag1 : Nat → Tag) (y1 : SLay) (F' : List (List Int)), nv = .int .i64 (nn : Nat) ∧ countL V most fuel k nn s1 = some r ∧ Slv wr tag1 p V y1 s1 ∧ SI V F' s1 ∧ s1.lm = [] ∧ (∀ d ∈ F', ∀ z ∈ d, Lit V z) ∧ F'.length ≤ n + nn ∧ nn ≤ most ∧ (∀ g, g < w.heap.size → tag1 g = (0, 0)) ∧ Below w.heap.size w wr
def CtM (w5 : World) (m : List Bool) (iv cv : Value) (wr : World) : Prop :=
  ∃ (i : Nat) (A : Option Addr) (c : Nat), iv = .int .i64 (i : Nat) ∧ i ≤ m.length ∧ cv = .slice A i c ∧ Below w5.heap.size w5 wr ∧ wr.ownsRow w5.heap.size 3 1 (.slice A i c) i (litVals ((blkL 0 m).take i))
def CtP (w : World) (ea : Nat → Addr) (m most : Nat) (e : Ending) (w' : World) : Prop :=
  e = .returned (.tuple #[.int .i64 ((if m ≤ most then m else 0 : Nat) : Int), if m ≤ most then .nilIface else erV ea 2]) ∧ Below w.heap.size w w'
set_option maxRecDepth 100000 in
set_option maxHeartbeats 16000000 in
theorem count_good {ea : Nat → Addr} {n c most m : Nat} {A : Option Addr} {F : List (List Int)} (hes : Sen w ea) (hV : V ≤ 9) (hF : F.length = n) (hr : CsO w A F) (hlit : ∀ d ∈ F, d.length ≤ 1000000 ∧ ∀ z ∈ d, Lit V z) (hn : n ≤ 500000) (hmost : most ≤ 100000) (hmod : cntM V F = m) :
    Calls Tryd.prog 8 #[.agg #[.int .i64 (V : Nat), .slice A n c], .int .i64 (most : Nat)] w (CtP w ea m most) := by
  obtain ⟨i0, hi0, hz0, hz1, hz2⟩ := info_parts info_int
  have HI := Lib.hid (And.intro hi0 (And.intro hz0 (And.intro hz1 hz2)))
  clear hi0 hz0 hz1 hz2
  obtain ⟨W1, hW1⟩ : ∃ W1, W1 = w.alloc (.cells #[.int .i64 (V : Nat), .slice A n c] 29) := ⟨_, rfl⟩
  have hb1 : Below w.heap.size w W1 := by rw [hW1]; exact (Below.refl _ _).alloc (Nat.le_refl _) _
  have k1 : Blk W1 w.heap.size 29 #[.int .i64 (V : Nat), .slice A n c] := by rw [hW1]; exact Blk.new w _ _
  have hr1 := hr.below hb1
  have CC := Lib.hid (checkc_any (B := W1.heap.size) (v := (V : Int)) (c := c) hF (hes.below hb1) (fun _ x hx => (hlit x hx).1) hr1.cls (Nat.le_refl _))
  have c0 := k1.cell 0
  have c1 := k1.cell 1
  have hmod2 : m ≤ 512 := by
    rw [← hmod]
    unfold cntM
    refine Nat.le_trans List.countP_le_length ?_
    rw [List.length_range]
    exact Nat.le_trans (Nat.pow_le_pow_right (n := 2) (by omega) hV) (by decide)
  obtain ⟨s0, e0, hsi0, hl0, _⟩ := newM_ok (V := V) (F := F) (fun d hd => (hlit d hd).2) (by omega)
  obtain ⟨kk, fuel, hcl⟩ := countL_ok hV (most := most) m (n := 0) hmod hsi0 hl0 (fun d hd => (hlit d hd).2) (by omega) (Nat.zero_le _)
  rw [Nat.zero_add] at hcl
  have HW1 := Lib.hid hW1
  have HB1 := Lib.hid hb1
  have K1 := Lib.hid k1
  have HR1 := Lib.hid hr1
  have HE0 := Lib.hid e0
  have HS0 := Lib.hid (And.intro hsi0 (And.intro hl0 hcl))
  have HLIT := Lib.hid hlit
  have HES := Lib.hid hes
  have HFL := Lib.hid hF
  clear hW1 hb1 k1 hr1 hr hes hlit e0 hsi0 hl0 hcl hmod hF
  go_enter Tryd.func8, Tryd.ntmps8
  go_upto_region 1 with fail
  rw [← HW1.out]
  go_wp2_with fail
  refine CC.out.mono ?_
  rintro e w2 ⟨ev, cd, pl, rfl, hb2, hfi, hev⟩
  have hev0 : ev = .nilIface := by
    rcases hev.nil_iff with ⟨_, h⟩ | ⟨h, _⟩
    · exact h
    · exfalso
      rcases hfi with ⟨h1, _⟩ | ⟨_, ⟨_, i, x, _, h1, h2, _⟩ | ⟨h1, _⟩⟩
      · unfold Off at h1; have := HFL.out; omega
      · have := okC_lit.2 (HLIT.out x (List.mem_of_getElem? h1)).2
        rw [h2] at this; cases this
      · omega
  subst hev0
  have k2 := K1.out.below hb2 K1.out.lt
  have c20 := k2.cell 0
  have c21 := k2.cell 1
  have hb2' : Below w.heap.size w w2 := HB1.out.trans (hb2.mono HB1.out.size)
  have CN := Lib.hid (newSolver_any (w := w2) (c := c) (by omega) HFL.out (HR1.out.below hb2) (fun x hx => ⟨(HLIT.out x hx).1, fun z hz => by have := ((HLIT.out x hx).2 z hz).2; omega⟩) (by omega) HE0.out)
  have HB2 := Lib.hid hb2'
  have t1 : decide ((most : Int) < 0) = false := decide_eq_false (by omega)
  have t2 : decide ((most : Int) > 100000) = false := decide_eq_false (by omega)
  clear hfi hev hb2 k2 c0 c1 hb2'
  go_wp2_with fail
  refine CN.out.mono ?_
  rintro e w3 ⟨p, tag3, y3, rfl, htag3, hb3, hs3⟩
  have HST := Lib.hid (show CtR w p V n most fuel (if m ≤ most then some m else none) (.int .i64 ((0 : Nat) : Int)) kk w3 from
    ⟨0, s0, tag3, y3, F, rfl, HS0.out.2.2, hs3, HS0.out.1, HS0.out.2.1, fun d hd => (HLIT.out d hd).2, by have := HFL.out; omega, Nat.zero_le _, fun g hg => htag3 g (by have := HB2.out.size; omega), HB2.out.trans (hb3.mono HB2.out.size)⟩)
  clear htag3 hb3 hs3 c20 c21 HS0 HE0 HR1 K1
  go_wp2_with fail
  go_loopg [8] kk (fun k nv wr => CtR w p V n most fuel (if m ≤ most then some m else none) nv k wr)
  case atStart => exact HST.out
  case round =>
    clear HST
    obtain ⟨nn, s1, tag1, y1, F', e1, hcl, hs, hsi, hlm, hlt, hfl, hnn, htag, hb⟩ := hrel
    subst e1
    cases gk with
    | zero => cases hcl
    | succ f =>
    have h3V : 3 ^ V ≤ 19683 := Nat.pow_le_pow_right (n := 3) (by omega) hV
    have hpfl := hsi.pf.le
    obtain ⟨fuel', a, s2, e', hE⟩ := searchM_ok (effort := 1099511627776) (b := 3 ^ V) (by omega) hsi hlm (.inr (by omega)) (by omega)
    unfold countL at hcl
    cases hsr : searchM V 1099511627776 fuel s1 with
    | none => rw [hsr] at hcl; cases hcl
    | some q =>
    have hq := searchM_one hsr e'
    subst hq
    rw [hsr] at hcl
    have CSR := Lib.hid (search_any hs hsi hsr (by omega) (Nat.le_refl _) (bud := 3 ^ V) (.inr (.inl (by omega))) (by omega))
    have HE := Lib.hid hE
    have HTAG := Lib.hid htag
    have HB := Lib.hid hb
    have HCL := Lib.hid hcl
    have HLT := Lib.hid hlt
    clear hs hsi hlm hlt htag hb e' hE hsr hcl hpfl h3V
    cases a with
    | tired =>
      exfalso
      have h1 := HE.out.2
      have h2 := HE.out.1.le
      have h3V : 3 ^ V ≤ 19683 := Nat.pow_le_pow_right (n := 3) (by omega) hV
      omega
    | no pf =>
      as_aux_lemma =>
      have hcl := HCL.out
      try dsimp only at hcl
      injection hcl with hcl
      have hmm : m ≤ most ∧ m = nn := by
        by_cases c : m ≤ most
        · rw [if_pos c] at hcl; injection hcl with hcl; exact ⟨c, hcl.symm⟩
        · rw [if_neg c] at hcl; cases hcl
      obtain ⟨hm1, hm2⟩ := hmm
      have HP := Lib.hid (show ((if m ≤ most then m else 0 : Nat) : Int) = (nn : Int) ∧ (if m ≤ most then Value.nilIface else erV ea 2) = .nilIface by rw [if_pos hm1, if_pos hm1, hm2]; exact ⟨rfl, rfl⟩)
      clear hm1 hm2 hcl
      go_wp2_with fail
      refine CSR.out.mono ?_
      rintro e w4 ⟨pv, tag4, rfl, hre4, hcg4, rows4, a1, a2, a3⟩
      obtain ⟨Ap, cp, hpv⟩ := a1.form
      obtain ⟨np, hnp⟩ : ∃ np, rows4.length = np := ⟨_, rfl⟩
      rw [hnp] at hpv
      subst hpv
      have hb4 : Below w.heap.size w w4 := HB.out.trans (hcg4.below_ (fun g hg hS => by rw [HTAG.out g hg] at hS; exact absurd hS.1 (by decide)) HB.out.size)
      have HEN := Lib.hid (fun o => show CtP w ea m most (.returned (.tuple #[.int .i64 (nn : Nat), .nilIface])) (w4.alloc o) from ⟨by rw [HP.out.1, HP.out.2], hb4.alloc hb4.size o⟩)
      clear hre4 hcg4 a1 a2 a3 hnp hb4
      go_wp2_with fail
      exact bodyPost_ret (v := .tuple #[.int .i64 (nn : Nat), .nilIface]) (by simp [results, Tryd.results8, go_sem]) rfl (HEN.out _)
    | yes mo =>
      go_wp2_with fail
      refine CSR.out.mono ?_
      rintro e w4 ⟨Am, cm, tag4, y4, rfl, hre4, hcg4, hs4, ho4⟩
      have hb4 : Below w.heap.size w w4 := HB.out.trans (hcg4.below_ (fun g hg hS => by rw [HTAG.out g hg] at hS; exact absurd hS.1 (by decide)) HB.out.size)
      have htag4 : ∀ g, g < w.heap.size → tag4 g = (0, 0) := fun g hg => (hre4 g (by have := HB.out.size; omega)).trans (HTAG.out g hg)
      have wnn : IntKind.i64.wrap ((nn : Int) + 1) = ((nn + 1 : Nat) : Int) := by rw [IntKind.wrap_i64]; omega
      have hcl := HCL.out
      try dsimp only at hcl
      obtain ⟨W5, hW5⟩ : ∃ W5, W5 = w4.alloc (.cells #[.string ⟨#[121, 101, 115]⟩, .slice Am V cm, .slice none 0 0] 45) := ⟨_, rfl⟩
      have hb45 : Below w4.heap.size w4 W5 := by rw [hW5]; exact (Below.refl _ _).alloc (Nat.le_refl _) _
      have k5 : Blk W5 w4.heap.size 45 #[.string ⟨#[121, 101, 115]⟩, .slice Am V cm, .slice none 0 0] := by rw [hW5]; exact Blk.new w4 _ _
      have c50 := k5.cell 0
      have c51 := k5.cell 1
      have HW5 := Lib.hid hW5
      have HB5 := Lib.hid (show Below w.heap.size w W5 from hb4.trans (hb45.mono hb4.size))
      have HS5 := Lib.hid (hs4.new hb45)
      have HO5 := Lib.hid (own_chg (S := fun _ _ => False) ho4 (Chg.of_new hb45) (fun _ _ _ _ => id))
      have HT4 := Lib.hid htag4
      by_cases hmo : most < nn + 1
      · as_aux_lemma =>
        rw [if_pos hmo] at hcl
        injection hcl with hcl
        have hmm : ¬ m ≤ most := fun c => by rw [if_pos c] at hcl; cases hcl
        have t3 : decide (((nn + 1 : Nat) : Int) > (most : Int)) = true := decide_eq_true (by omega)
        have t3' : (most : Int) < ((nn + 1 : Nat) : Int) := by omega
        have hes5 := (HES.out.below HB5.out).c2
        obtain ⟨n1, hn1⟩ : ∃ n1, nn + 1 = n1 := ⟨_, rfl⟩
        rw [hn1] at wnn t3 t3'
        have HEN := Lib.hid (fun q => show CtP w ea m most (.returned (.tuple #[.int .i64 0, erV ea 2])) (W5.drewN q) from ⟨by rw [if_neg hmm, if_neg hmm]; rfl, below_drewN HB5.out q⟩)
        clear hre4 hcg4 hs4 ho4 hb4 htag4 hb45 k5 hW5 hcl hmo hmm hn1
        go_upto_region 9 with fail
        rw [← HW5.out]
        go_upto_region 13 with fail
        go_quiet (fail)
        have HEQ := Lib.hid (HEN.out nq)
        clear HEN hes5 c50 c51
        go_wp2_with fail
        exact bodyPost_ret (v := .tuple #[.int .i64 0, erV ea 2]) (by simp [results, Tryd.results8, go_sem, erV]) rfl HEQ.out
      · rw [if_neg hmo] at hcl
        obtain ⟨h1, h2, h3, h4, h5⟩ := HE.out
        have hmol : mo.length = V := by rw [h1]; unfold modelOf; simp
        obtain ⟨k0, _, _, hkl, _⟩ := yes_model h2 h3 h4 h5 HLT.out
        rw [← h1] at hkl
        have htr : s2.tr.length ≤ 1000000 := by have := h2.full.inv.room.1; omega
        obtain ⟨s3, e3, g1, g2, g3⟩ := back0_ok (by omega) h2
        rw [e3] at hcl
        try dsimp only at hcl
        obtain ⟨s4, F2, e4, hM, hp4⟩ := moreM_ok g1 g2 hkl (by have := g1.len; have := g1.pf.le; have h3V : 3 ^ V ≤ 19683 := Nat.pow_le_pow_right (n := 3) (by omega) hV; omega)
        rw [e4] at hcl
        try dsimp only at hcl
        have t3 : decide (((nn + 1 : Nat) : Int) > (most : Int)) = false := decide_eq_false (by omega)
        obtain ⟨n1, hn1⟩ : ∃ n1, nn + 1 = n1 := ⟨_, rfl⟩
        rw [hn1] at wnn t3 hcl
        have t3' : ¬ (most : Int) < (n1 : Int) := by omega
        have CB := Lib.hid (fun (W : World) (hW : Below W5.heap.size W5 W) => back_any (HS5.out.new hW) e3 (by omega) (Nat.zero_le _) htr)
        have HMO := Lib.hid (And.intro hmol (And.intro hkl (And.intro hM.si (And.intro hM.lm (And.intro (hM.lit HLT.out) e4)))))
        have HCL4 := Lib.hid hcl
        have HE3 := Lib.hid e3
        have HTR := Lib.hid htr
        have HN1 := Lib.hid (show n1 ≤ most ∧ F2.length ≤ n + n1 from ⟨by omega, by have := hM.len; omega⟩)
        have HST := Lib.hid (show CtM W5 mo (.int .i64 ((0 : Nat) : Int)) (.slice none 0 0) W5 from ⟨0, none, 0, rfl, Nat.zero_le _, rfl, Below.refl _ _, World.ownsRow_nil _ _ _ _⟩)
        clear hre4 hcg4 hs4 ho4 hb4 htag4 hb45 k5 hW5 hcl hmo h1 h2 h3 h4 h5 hkl htr e3 g1 g2 g3 hM hp4 hmol
        go_upto_region 9 with fail
        rw [← HW5.out]
        clear HCL HE CSR HTAG HB HLT
        go_wp2_with fail
        clear c50 c51 HW5
        go_loopw [42, 10] (fun iv cv wx => CtM W5 mo iv cv wx) (fun iv _ _ => V - (intOf iv).toNat)
        case atStart => exact HST.out
        case round =>
          clear HST
          obtain ⟨i, Ac, cc, e1, hi, e2, hb6, ho6⟩ := hrel
          subst e1
          subst e2
          rw [HMO.out.1] at hi
          by_cases him : i < V
          · as_aux_lemma =>
            obtain ⟨x, hx⟩ : ∃ x, mo[i]? = some x := ⟨_, List.getElem?_eq_getElem (by have := HMO.out.1; omega)⟩
            obtain ⟨ga, cm2, hva, _, hlta⟩ := HO5.out.form (by omega)
            injection hva with q1 _ q3
            subst q1
            subst q3
            have ho5 := own_chg (S := fun _ _ => False) HO5.out (Chg.of_new hb6) (fun _ _ _ _ => id)
            have cx : wr.cell? ⟨ga, i, none⟩ = some (.bool x) := by
              have hr9 : Row wr (fun _ => (18, 0)) (18, 0) _ 4 (.slice (some ⟨ga, 0, none⟩) (boolVals mo).length cm) (boolVals mo) := ⟨by rw [show (boolVals mo).length = V by unfold boolVals; rw [List.length_map]; exact HMO.out.1]; exact ho5, fun _ _ => rfl⟩
              exact hr9.cell (bool_at hx)
            have hiI : (i : Int) < (V : Int) := by omega
            have wi : IntKind.i64.wrap ((i : Int) + 1) = ((i + 1 : Nat) : Int) := by rw [IntKind.wrap_i64]; omega
            obtain ⟨i1, hi1⟩ : ∃ i1, i + 1 = i1 := ⟨_, rfl⟩
            rw [hi1] at wi
            have wn : IntKind.i64.wrap (-(i : Int)) = -(i : Int) := by rw [IntKind.wrap_i64]; omega
            have wn1 : IntKind.i64.wrap (-(i : Int) - 1) = -(i1 : Int) := by rw [IntKind.wrap_i64]; omega
            have htk : (blkL 0 mo).take (i + 1) = (blkL 0 mo).take i ++ [if x then -(i1 : Int) else (i1 : Int)] := by
              have h9 := blkL_at (s := 0) hx
              rw [Nat.zero_add] at h9
              rw [List.take_add_one, h9, show -((i : Nat) : Int) - 1 = -(i1 : Int) by omega, show ((i : Nat) : Int) + 1 = (i1 : Int) by omega]; rfl
            have HTK := Lib.hid htk
            have HB6 := Lib.hid hb6
            have HI1 := Lib.hid hi1
            have hsz6 : W5.heap.size ≤ wr.heap.size := hb6.size
            have HSZ6 := Lib.hid (fun (z : Int) => show W5.heap.size ≤ (wr.alloc (.cells #[.int .i64 z] 3)).heap.size by simp; omega)
            have HO6 := Lib.hid (fun (z : Int) => World.ownsRow.alloc ho6 (.cells #[.int .i64 z] 3))
            have hi9 : i ≤ 9 := by omega
            clear ho5 hx htk hb6 hi1 ho6 hlta
            cases x with
            | true =>
              go_wp2_with (first | (at_builtin; refine wpList_append_loc _ rfl (.tmp 48) (.tmp 52) _ rfl W5.heap.size 3 i0 _ 1 8 Tryd.underlying25 HI.out.1 HI.out.2.1 HI.out.2.2.1 HI.out.2.2.2 rfl (by omega) (.slice Ac i cc) i (litVals ((blkL 0 mo).take i)) rfl (HO6.out (-(i1 : Int))) (wr.heap.size + 1) (some ⟨wr.heap.size, 0, none⟩) 1 1 [.int .i64 (-(i1 : Int))] rfl (reads_new (by simp) (by simp) rfl) (by intro u hu; rw [List.mem_singleton.1 hu]; rfl) (le_maxLen4 (by omega)) (le_bytes4 (by omega) (by omega)) (HSZ6.out _) ?_; intro A8 c8 w8 hown8 hg8 hl8; have HO8 := Lib.hid hown8; have HG8 := Lib.hid hg8; clear hown8 hg8 hl8) | fail)
              have hown8 := HO8.out
              rw [lit_snoc] at hown8
              have hb8 : Below W5.heap.size W5 w8 := ((HB6.out.alloc HB6.out.size (.cells #[.int .i64 (-(i1 : Int))] 3)).grown HG8.out (HSZ6.out _) (own_geq (HO6.out (-(i1 : Int)))))
              have HN := Lib.hid (show CtM W5 mo (.int .i64 (i1 : Nat)) (.slice A8 (i + 1) c8) w8 from ⟨i + 1, A8, c8, by rw [HI1.out], by have := HMO.out.1; omega, rfl, hb8, by rw [HTK.out]; simpa using hown8⟩)
              clear hown8 hb8
              go_wp2_with fail
              go_roundw
              case rel => exact ⟨_, _, _, _, HN.out, rfl, rfl, rfl, rfl⟩
              case measure => have := HI1.out; simp [intOf]; omega
            | false =>
              go_wp2_with (first | (at_builtin; refine wpList_append_loc _ rfl (.tmp 54) (.tmp 57) _ rfl W5.heap.size 3 i0 _ 1 8 Tryd.underlying25 HI.out.1 HI.out.2.1 HI.out.2.2.1 HI.out.2.2.2 rfl (by omega) (.slice Ac i cc) i (litVals ((blkL 0 mo).take i)) rfl (HO6.out (i1 : Int)) (wr.heap.size + 1) (some ⟨wr.heap.size, 0, none⟩) 1 1 [.int .i64 (i1 : Int)] rfl (reads_new (by simp) (by simp) rfl) (by intro u hu; rw [List.mem_singleton.1 hu]; rfl) (le_maxLen4 (by omega)) (le_bytes4 (by omega) (by omega)) (HSZ6.out _) ?_; intro A8 c8 w8 hown8 hg8 hl8; have HO8 := Lib.hid hown8; have HG8 := Lib.hid hg8; clear hown8 hg8 hl8) | fail)
              have hown8 := HO8.out
              rw [lit_snoc] at hown8
              have hb8 : Below W5.heap.size W5 w8 := ((HB6.out.alloc HB6.out.size (.cells #[.int .i64 (i1 : Int)] 3)).grown HG8.out (HSZ6.out _) (own_geq (HO6.out (i1 : Int))))
              have HN := Lib.hid (show CtM W5 mo (.int .i64 (i1 : Nat)) (.slice A8 (i + 1) c8) w8 from ⟨i + 1, A8, c8, by rw [HI1.out], by have := HMO.out.1; omega, rfl, hb8, by rw [HTK.out]; simpa using hown8⟩)
              clear hown8 hb8
              go_wp2_with fail
              go_roundw
              case rel => exact ⟨_, _, _, _, HN.out, rfl, rfl, rfl, rfl⟩
              case measure => have := HI1.out; simp [intOf]; omega
          · obtain rfl : i = V := by omega
            have hbl : (blkL 0 mo).length = i := by rw [blkL_len]; exact HMO.out.1
            rw [List.take_of_length_le (by omega)] at ho6
            obtain ⟨tag5, hre5, hrow5⟩ : ∃ tag5, Re W5 tag4 tag5 ∧ Row wr tag5 (18, 0) W5.heap.size 3 (.slice Ac i cc) (litVals (blkL 0 mo)) := by
              cases hob : (Value.slice Ac i cc).ownBlock with
              | none => exact ⟨tag4, Re.refl _ _, by rw [litVals_len, hbl]; exact ho6, fun g hg => by rw [hob] at hg; cases hg⟩
              | some g => exact ⟨put tag4 g (18, 0), re_put (own_geq ho6 g hob), by rw [litVals_len, hbl]; exact ho6, fun g' hg => by rw [hob] at hg; injection hg with hg; subst hg; exact put_same _ _ _⟩
            have hs6 := (HS5.out.re hre5).new hb6
            have ht5 : ∀ g, g < w.heap.size → tag5 g = (0, 0) := fun g hg => (hre5 g (by have := HB5.out.size; omega)).trans (HT4.out g hg)
            have HB6 := Lib.hid (show Below w.heap.size w wr from HB5.out.trans (hb6.mono HB5.out.size))
            have HS6 := Lib.hid hs6
            have HR6 := Lib.hid hrow5
            have HT5 := Lib.hid ht5
            have HBL := Lib.hid hbl
            have CB2 := Lib.hid (back_any hs6 HE3.out (by omega) (Nat.zero_le _) HTR.out)
            clear hs6 hrow5 ht5 hbl hb6 ho6 hre5 CB him
            go_wp2_with fail
            refine CB2.out.mono ?_
            rintro e w7 ⟨rfl, tag7, y7, hre7, hcg7, h7⟩
            have hrow7 := (HR6.out.re hre7).chg (hcg7.re_ hre7) (fun e => absurd e.2 (by decide))
            have hown7 := hrow7.own
            rw [litVals_len, HBL.out] at hown7
            have ht7 : ∀ g, g < w.heap.size → tag7 g = (0, 0) := fun g hg => (hre7 g (by have := HB6.out.size; omega)).trans (HT5.out g hg)
            have hb7 : Below w.heap.size w w7 := HB6.out.trans (hcg7.below_ (fun g hg hS => by rw [HT5.out g hg] at hS; exact absurd hS.1 (by decide)) HB6.out.size)
            have CM := Lib.hid (more_any h7 HMO.out.2.2.2.2.2 (by omega) HBL.out (by omega) (fun x hx => by have := (HMO.out.2.1 x hx).2; omega) hown7)
            have HT7 := Lib.hid ht7
            have HB7 := Lib.hid hb7
            clear hre7 hcg7 h7 hrow7 hown7 ht7 hb7
            go_wp2_with fail
            refine CM.out.mono ?_
            rintro e w8 ⟨rfl, tag8, y8, hre8, hcg8, h8⟩
            have HN := Lib.hid (show CtR w p i n most fuel (if m ≤ most then some m else none) (.int .i64 (n1 : Nat)) f w8 from
              ⟨n1, s4, tag8, y8, F2, rfl, HCL4.out, h8, HMO.out.2.2.1, HMO.out.2.2.2.1, HMO.out.2.2.2.2.1, HN1.out.2, HN1.out.1, fun g hg => (hre8 g (by have := HB7.out.size; omega)).trans (HT7.out g hg), HB7.out.trans (hcg8.below_ (fun g hg hS => by rw [HT7.out g hg] at hS; exact absurd hS.1 (by decide)) HB7.out.size)⟩)
            clear hre8 hcg8 h8
            go_wp2_with fail
            go_roundg f
            case measure => omega
            case rel => exact HN.out
end
end Go.Proofs.YtaedbnbeelkkcaaDoor.slv
