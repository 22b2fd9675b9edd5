/-
  WALK of sat.Solve of a right formula.
-/
import Derived.Test.YtaedbnbeelkkcaaDoorN2
import Derived.Test.YtaedbnbeelkkcaaDoorAj
import Derived.Test.YtaedbnbeelkkcaaDoorCx
namespace Go.Proofs.YtaedbnbeelkkcaaDoor.slv
open Go.RowKit
theorem CsO.cls {w : World} {A : Option Addr} {F : List (List Int)} (h : CsO w A F) : ClsR w w.heap.size A F := fun hn => by
  obtain ⟨l0, hl0⟩ : ∃ l, F[0]? = some l := ⟨_, List.getElem?_eq_getElem hn⟩
  obtain ⟨g, u, h1, h2, h3, h4⟩ := h 0 l0 hl0
  refine ⟨⟨g, 0, none⟩, h1, h2, fun i l hl => ?_⟩
  obtain ⟨g', u', h1', h2', h3', h4'⟩ := h i l hl
  rw [h1] at h1'
  injection h1' with h1'
  injection h1' with h1'
  subst h1'
  obtain ⟨A', c', rfl⟩ := own_form h4'
  refine ⟨A', c', ?_, Reads.of_own h4'⟩
  rw [Addr.add_lit, Nat.zero_add]
  exact h3'
theorem okC_lit {V : Nat} {d : List Int} : okC (V : Int) d = true ↔ ∀ z ∈ d, Lit V z := by
  unfold okC
  rw [Bool.not_eq_true', List.any_eq_false]
  constructor
  · intro h z hz
    have := h z hz
    unfold badN at this
    simp only [Bool.or_eq_true, beq_iff_eq, decide_eq_true_eq, not_or] at this
    exact ⟨this.1.1, by omega⟩
  · intro h z hz
    obtain ⟨h1, h2⟩ := h z hz
    unfold badN
    simp only [Bool.or_eq_true, beq_iff_eq, decide_eq_true_eq, not_or]
    exact ⟨⟨h1, by omega⟩, by omega⟩
/-- an answer in memory -/
def SvA (w : World) (V : Nat) : Ans → Value → Prop
  | .yes m, v => ∃ A c, v = .agg #[.string ⟨#[121, 101, 115]⟩, .slice A V c, .slice none 0 0] ∧ w.ownsRow 0 4 1 (.slice A V c) V (boolVals m)
  | .no pf, v => ∃ pv tag, v = .agg #[.string ⟨#[110, 111]⟩, .slice none 0 0, pv] ∧ PrA w tag pv pf
  | .tired, v => v = .agg #[.string ⟨#[116, 105, 114, 101, 100]⟩, .slice none 0 0, .slice none 0 0]
def SolP (w : World) (V : Nat) (F : List (List Int)) (effort : Nat) (e : Ending) (w' : World) : Prop :=
  ∃ a s' v, e = .returned (.tuple #[v, .nilIface]) ∧ Below w.heap.size w w' ∧ SeE V F [] effort 0 a s' ∧ SvA w' V a v
def SolR (w : World) (V : Nat) (a : Ans) (e : Ending) (w' : World) : Prop := ∃ v, e = .returned (.tuple #[v, .nilIface]) ∧ Below w.heap.size w w' ∧ SvA w' V a v
set_option maxRecDepth 100000 in
set_option maxHeartbeats 16000000 in
theorem solve_run {w : World} {V : Nat} {ea : Nat → Addr} {n c effort fuel : Nat} {A : Option Addr} {F : List (List Int)} {s0 s' : SS} {a : Ans} (e0 : newM V F = some s0) (hsr : searchM V effort fuel s0 = some (a, s')) (hes : Sen w ea) (hV : V ≤ 150000) (hF : F.length = n) (hr : CsO w A F) (hlit : ∀ d ∈ F, d.length ≤ 1000000 ∧ ∀ z ∈ d, Lit V z) (hn : n ≤ 500000) (heff : effort ≤ 1000000) :
    Calls Tryd.prog 13 #[.agg #[.int .i64 (V : Nat), .slice A n c], .int .i64 (effort : Nat)] w (SolR w V a) := by
  obtain ⟨b0, hb0⟩ : ∃ b0, w.heap.size + 1 = b0 := ⟨_, rfl⟩
  obtain ⟨W1, hW1⟩ : ∃ W1, W1 = (w.alloc (.cells #[.int .i64 (V : Nat), .slice A n c] 29)).alloc (.cells #[.string ⟨#[]⟩, .slice none 0 0, .slice none 0 0] 45) := ⟨_, rfl⟩
  have hb1 : Below w.heap.size w W1 := by rw [hW1]; exact ((Below.refl _ _).alloc (Nat.le_refl _) _).alloc (by simp) _
  have k1 : Blk W1 w.heap.size 29 #[.int .i64 (V : Nat), .slice A n c] := by rw [hW1]; exact (Blk.new w _ _).alloc _
  have kb : Blk W1 b0 45 #[.string ⟨#[]⟩, .slice none 0 0, .slice none 0 0] := by
    rw [hW1, ← hb0]
    have h := Blk.new (w.alloc (.cells #[.int .i64 (V : Nat), .slice A n c] 29)) 45 #[.string ⟨#[]⟩, .slice none 0 0, .slice none 0 0]
    simpa using h
  have hr1 := hr.below hb1
  have CC := Lib.hid (checkc_any (B := W1.heap.size) (v := (V : Int)) (c := c) hF (hes.below hb1) (fun _ x hx => (hlit x hx).1) hr1.cls (Nat.le_refl _))
  have c0 := k1.cell 0
  have c1 := k1.cell 1
  obtain ⟨s0', e0', hsi0, hl0, _, hp0⟩ := newM_ok (V := V) (F := F) (fun d hd => (hlit d hd).2) (by omega)
  obtain rfl : s0 = s0' := by rw [e0] at e0'; injection e0' with e
  have HW1 := Lib.hid hW1
  have HB1 := Lib.hid hb1
  have K1 := Lib.hid k1
  have KB := Lib.hid kb
  have HR1 := Lib.hid hr1
  have HE0 := Lib.hid e0
  have HS0 := Lib.hid (And.intro hsi0 (And.intro hsr hp0))
  have HLIT := Lib.hid hlit
  have HFL := Lib.hid hF
  clear hW1 hb1 k1 kb hr1 hr hes hlit e0 e0' hsi0 hl0 hsr hF hp0
  go_enter Tryd.func13, Tryd.ntmps13
  go_upto_region 1 with fail
  try rw [hb0]
  rw [← HW1.out]
  go_wp2_with fail
  refine CC.out.mono ?_
  rintro e w2 ⟨ev, cd, pl, rfl, hb2, hfi, hev⟩
  have hev0 : ev = .nilIface := by
    rcases hev.nil_iff with ⟨_, h⟩ | ⟨h, _⟩
    · exact h
    · exfalso
      rcases hfi with ⟨h1, _⟩ | ⟨_, ⟨_, i, x, _, h1, h2, _⟩ | ⟨h1, _⟩⟩
      · unfold Off at h1; have := HFL.out; omega
      · have := okC_lit.2 (HLIT.out x (List.mem_of_getElem? h1)).2
        rw [h2] at this; cases this
      · omega
  subst hev0
  have k2 := K1.out.below hb2 K1.out.lt
  have kb2 := KB.out.below hb2 KB.out.lt
  have c20 := k2.cell 0
  have c21 := k2.cell 1
  have hb2' : Below w.heap.size w w2 := HB1.out.trans (hb2.mono HB1.out.size)
  have CN := Lib.hid (newSolver_any (w := w2) (c := c) hV HFL.out (HR1.out.below hb2) (fun x hx => ⟨(HLIT.out x hx).1, fun z hz => by have := ((HLIT.out x hx).2 z hz).2; omega⟩) (by omega) HE0.out)
  have HB2 := Lib.hid hb2'
  have KB2 := Lib.hid kb2
  have t1 : decide ((effort : Int) < 0) = false := decide_eq_false (by omega)
  have t2 : decide ((effort : Int) > 1000000) = false := decide_eq_false (by omega)
  clear hfi hev hb2 k2 kb2 c0 c1 hb2'
  go_wp2_with fail
  refine CN.out.mono ?_
  rintro e w3 ⟨p, tag3, y3, rfl, htag3, hb3, hs3⟩
  have CS := Lib.hid (search_any hs3 HS0.out.1 HS0.out.2.1 (by omega) (by omega) (bud := effort) (.inl (Nat.le_refl _)) (by rw [HS0.out.2.2]; simp; have := HFL.out; omega))
  have HB3 := Lib.hid (HB2.out.trans (hb3.mono HB2.out.size))
  have KB3 := Lib.hid (KB2.out.below hb3 KB2.out.lt)
  have HT3 := Lib.hid (fun g (hg : g < w.heap.size) => htag3 g (by have := HB2.out.size; omega))
  have HTB := Lib.hid (htag3 b0 KB2.out.lt)
  have hbw : w.heap.size ≤ b0 := by omega
  have HBW := Lib.hid (show w.heap.size < b0 by omega)
  clear htag3 hb3 hs3 c20 c21 HS0 HE0 HR1 K1
  go_wp2_with fail
  refine CS.out.mono ?_
  cases a with
  | tired =>
    rintro e w4 ⟨rfl, hcg4⟩
    have hb4 : Below w.heap.size w w4 := HB3.out.trans (hcg4.below_ (fun g hg hS => by rw [HT3.out g hg] at hS; exact absurd hS.1 (by decide)) HB3.out.size)
    have kr := blk16 hcg4 HTB.out KB3.out
    obtain ⟨W9, hW9⟩ : ∃ W9, W9 = ((w4.setCell ⟨b0, 0, none⟩ (.string ⟨#[116, 105, 114, 101, 100]⟩)).setCell ⟨b0, 1, none⟩ (.slice none 0 0)).setCell ⟨b0, 2, none⟩ (.slice none 0 0) := ⟨_, rfl⟩
    have x9 : Blk W9 b0 45 #[.string ⟨#[116, 105, 114, 101, 100]⟩, .slice none 0 0, .slice none 0 0] := by rw [hW9]; exact ((kr.set_ 0 _).set_ 1 _).set_ 2 _
    have hb9 : Below w.heap.size w W9 := by
      rw [hW9]
      exact ((hb4.setCell (p := ⟨b0, 0, none⟩) (by show w.heap.size ≤ b0; omega) _).setCell (p := ⟨b0, 1, none⟩) (by show w.heap.size ≤ b0; omega) _).setCell (p := ⟨b0, 2, none⟩) (by show w.heap.size ≤ b0; omega) _
    have hc9 : ∀ tg : Nat → Tag, tg b0 = (0, 0) → Cg tg (fun t => t = (0, 0)) w4 W9 := fun tg ht => by
      rw [hW9]
      exact (((Chg.refl _ w4).setCell (p := ⟨b0, 0, none⟩) (.inr fun _ => ht) _).setCell (p := ⟨b0, 1, none⟩) (.inr fun _ => ht) _).setCell (p := ⟨b0, 2, none⟩) (.inr fun _ => ht) _
    have hcb : Chg (fun k _ => k = b0) w4 W9 := by
      rw [hW9]
      exact (((Chg.refl _ w4).setCell (p := ⟨b0, 0, none⟩) (.inr fun _ => rfl) _).setCell (p := ⟨b0, 1, none⟩) (.inr fun _ => rfl) _).setCell (p := ⟨b0, 2, none⟩) (.inr fun _ => rfl) _
    have x90 := x9.cell 0
    have x91 := x9.cell 1
    have x92 := x9.cell 2
    have r0 := kr.cell 0
    have r1 := kr.cell 1
    have r2 := kr.cell 2
    have fr0 := kr.frozen 0
    have fr1 := kr.frozen 1
    have fr2 := kr.frozen 2
    have HW9 := Lib.hid hW9
    have HE := Lib.hid (show SolR w V .tired (.returned (.tuple #[.agg #[.string ⟨#[116, 105, 114, 101, 100]⟩, .slice none 0 0, .slice none 0 0], .nilIface])) W9 from ⟨_, rfl, hb9, rfl⟩)
    clear hcg4 hb4 kr hb9 hc9 hcb hW9 x9
    go_wp2_with fail
    rw [← HW9.out]
    exact bodyPost_ret (v := .tuple #[.agg #[.string ⟨#[116, 105, 114, 101, 100]⟩, .slice none 0 0, .slice none 0 0], .nilIface]) (by simp [results, Tryd.results13, go_sem, x90, x91, x92]) rfl HE.out
  | no pf =>
    rintro e w4 ⟨pv, tag4, rfl, hre4, hcg4, rows4, a1, a2, a3⟩
    obtain ⟨Ap, cp, hpv⟩ := a1.form
    obtain ⟨np, hnp⟩ : ∃ np, rows4.length = np := ⟨_, rfl⟩
    rw [hnp] at hpv
    subst hpv
    have hpr4 : PrA w4 tag4 (.slice Ap np cp) pf := ⟨rows4, a1, a2, a3⟩
    have hb4 : Below w.heap.size w w4 := HB3.out.trans (hcg4.below_ (fun g hg hS => by rw [HT3.out g hg] at hS; exact absurd hS.1 (by decide)) HB3.out.size)
    have kr := blk16 hcg4 HTB.out KB3.out
    have ht4 : tag4 b0 = (0, 0) := (hre4 _ KB3.out.lt).trans HTB.out
    obtain ⟨W9, hW9⟩ : ∃ W9, W9 = ((w4.setCell ⟨b0, 0, none⟩ (.string ⟨#[110, 111]⟩)).setCell ⟨b0, 1, none⟩ (.slice none 0 0)).setCell ⟨b0, 2, none⟩ (.slice Ap np cp) := ⟨_, rfl⟩
    have x9 : Blk W9 b0 45 #[.string ⟨#[110, 111]⟩, .slice none 0 0, .slice Ap np cp] := by rw [hW9]; exact ((kr.set_ 0 _).set_ 1 _).set_ 2 _
    have hb9 : Below w.heap.size w W9 := by
      rw [hW9]
      exact ((hb4.setCell (p := ⟨b0, 0, none⟩) (by show w.heap.size ≤ b0; omega) _).setCell (p := ⟨b0, 1, none⟩) (by show w.heap.size ≤ b0; omega) _).setCell (p := ⟨b0, 2, none⟩) (by show w.heap.size ≤ b0; omega) _
    have hc9 : ∀ tg : Nat → Tag, tg b0 = (0, 0) → Cg tg (fun t => t = (0, 0)) w4 W9 := fun tg ht => by
      rw [hW9]
      exact (((Chg.refl _ w4).setCell (p := ⟨b0, 0, none⟩) (.inr fun _ => ht) _).setCell (p := ⟨b0, 1, none⟩) (.inr fun _ => ht) _).setCell (p := ⟨b0, 2, none⟩) (.inr fun _ => ht) _
    have hcb : Chg (fun k _ => k = b0) w4 W9 := by
      rw [hW9]
      exact (((Chg.refl _ w4).setCell (p := ⟨b0, 0, none⟩) (.inr fun _ => rfl) _).setCell (p := ⟨b0, 1, none⟩) (.inr fun _ => rfl) _).setCell (p := ⟨b0, 2, none⟩) (.inr fun _ => rfl) _
    have x90 := x9.cell 0
    have x91 := x9.cell 1
    have x92 := x9.cell 2
    have r0 := kr.cell 0
    have r1 := kr.cell 1
    have r2 := kr.cell 2
    have fr0 := kr.frozen 0
    have fr1 := kr.frozen 1
    have fr2 := kr.frozen 2
    have HW9 := Lib.hid hW9
    have HE := Lib.hid (show SolR w V (.no pf) (.returned (.tuple #[.agg #[.string ⟨#[110, 111]⟩, .slice none 0 0, .slice Ap np cp], .nilIface])) W9 from ⟨_, rfl, hb9, _, tag4, rfl, hpr4.chg (hc9 tag4 ht4) (by simp) (by simp)⟩)
    clear hre4 hcg4 a1 a2 a3 hnp hpr4 ht4 hb4 kr hb9 hc9 hcb hW9 x9
    go_wp2_with fail
    rw [← HW9.out]
    exact bodyPost_ret (v := .tuple #[.agg #[.string ⟨#[110, 111]⟩, .slice none 0 0, .slice Ap np cp], .nilIface]) (by simp [results, Tryd.results13, go_sem, x90, x91, x92]) rfl HE.out
  | yes m =>
    rintro e w4 ⟨Am, cm, tag4, y4, rfl, hre4, hcg4, hs4, ho4⟩
    have hb4 : Below w.heap.size w w4 := HB3.out.trans (hcg4.below_ (fun g hg hS => by rw [HT3.out g hg] at hS; exact absurd hS.1 (by decide)) HB3.out.size)
    have kr := blk16 hcg4 HTB.out KB3.out
    have h30 : b0 < w3.heap.size := KB3.out.lt
    obtain ⟨W9, hW9⟩ : ∃ W9, W9 = ((w4.setCell ⟨b0, 0, none⟩ (.string ⟨#[121, 101, 115]⟩)).setCell ⟨b0, 1, none⟩ (.slice Am V cm)).setCell ⟨b0, 2, none⟩ (.slice none 0 0) := ⟨_, rfl⟩
    have x9 : Blk W9 b0 45 #[.string ⟨#[121, 101, 115]⟩, .slice Am V cm, .slice none 0 0] := by rw [hW9]; exact ((kr.set_ 0 _).set_ 1 _).set_ 2 _
    have hb9 : Below w.heap.size w W9 := by
      rw [hW9]
      exact ((hb4.setCell (p := ⟨b0, 0, none⟩) (by show w.heap.size ≤ b0; omega) _).setCell (p := ⟨b0, 1, none⟩) (by show w.heap.size ≤ b0; omega) _).setCell (p := ⟨b0, 2, none⟩) (by show w.heap.size ≤ b0; omega) _
    have hc9 : ∀ tg : Nat → Tag, tg b0 = (0, 0) → Cg tg (fun t => t = (0, 0)) w4 W9 := fun tg ht => by
      rw [hW9]
      exact (((Chg.refl _ w4).setCell (p := ⟨b0, 0, none⟩) (.inr fun _ => ht) _).setCell (p := ⟨b0, 1, none⟩) (.inr fun _ => ht) _).setCell (p := ⟨b0, 2, none⟩) (.inr fun _ => ht) _
    have hcb : Chg (fun k _ => k = b0) w4 W9 := by
      rw [hW9]
      exact (((Chg.refl _ w4).setCell (p := ⟨b0, 0, none⟩) (.inr fun _ => rfl) _).setCell (p := ⟨b0, 1, none⟩) (.inr fun _ => rfl) _).setCell (p := ⟨b0, 2, none⟩) (.inr fun _ => rfl) _
    have x90 := x9.cell 0
    have x91 := x9.cell 1
    have x92 := x9.cell 2
    have r0 := kr.cell 0
    have r1 := kr.cell 1
    have r2 := kr.cell 2
    have fr0 := kr.frozen 0
    have fr1 := kr.frozen 1
    have fr2 := kr.frozen 2
    have HW9 := Lib.hid hW9
    have ho9 := own_chg ho4 hcb (fun g cur hg _ e => by omega)
    have HE := Lib.hid (show SolR w V (.yes m) (.returned (.tuple #[.agg #[.string ⟨#[121, 101, 115]⟩, .slice Am V cm, .slice none 0 0], .nilIface])) W9 from ⟨_, rfl, hb9, Am, cm, rfl, own_base ho9 (Nat.zero_le _)⟩)
    clear hre4 hcg4 hs4 ho4 ho9 hb4 kr hb9 hc9 hcb hW9 x9
    go_wp2_with fail
    rw [← HW9.out]
    exact bodyPost_ret (v := .tuple #[.agg #[.string ⟨#[121, 101, 115]⟩, .slice Am V cm, .slice none 0 0], .nilIface]) (by simp [results, Tryd.results13, go_sem, x90, x91, x92]) rfl HE.out
theorem solve_good {w : World} {V : Nat} {ea : Nat → Addr} {n c effort : Nat} {A : Option Addr} {F : List (List Int)} (hes : Sen w ea) (hV : V ≤ 150000) (hF : F.length = n) (hr : CsO w A F) (hlit : ∀ d ∈ F, d.length ≤ 1000000 ∧ ∀ z ∈ d, Lit V z) (hn : n ≤ 500000) (heff : effort ≤ 1000000) :
    Calls Tryd.prog 13 #[.agg #[.int .i64 (V : Nat), .slice A n c], .int .i64 (effort : Nat)] w (SolP w V F effort) := by
  obtain ⟨s0, e0, hsi0, hl0, _, hp0⟩ := newM_ok (V := V) (F := F) (fun d hd => (hlit d hd).2) (by omega)
  obtain ⟨fuel, a, s', hsr, hE⟩ := searchM_ok (effort := effort) (b := effort) (by omega) hsi0 hl0 (.inl (Nat.le_refl _)) (by rw [hp0]; simp; omega)
  rw [hp0] at hE
  refine (solve_run e0 hsr hes hV hF hr hlit hn heff).mono ?_
  rintro e w' ⟨v, rfl, hb, hv⟩
  exact ⟨a, s', v, rfl, hb, hE, hv⟩
theorem none_learned {V : Nat} {pf : List (List Int)} (h : PfOk V [] pf) : pf = [] := by
  cases hp : pf with
  | nil => rfl
  | cons c r =>
    exfalso
    rw [hp] at h
    have hr := h.ref 0 c rfl
    obtain ⟨_, _, hl⟩ := h.lit c List.mem_cons_self
    obtain ⟨n, hn, hne⟩ := hr (fun v => if (v : Int) ∈ c then -1 else 1) (fun v => by dsimp only; split <;> omega) (fun x hx => by simp at hx)
    refine hne ?_
    obtain ⟨h1, h2⟩ := hl n hn
    unfold lv
    dsimp only
    by_cases h0 : n < 0
    · rw [if_pos h0, if_neg (fun e => h2 (by rw [show -n = (n.natAbs : Int) by omega]; exact e))]
    · rw [if_neg h0, if_pos (by rw [show (n.natAbs : Int) = n by omega]; exact hn)]
theorem empty_yes {V effort : Nat} {a : Ans} {s : SS} (h : SeE V [] [] effort 0 a s) (he : 0 < effort) : ∃ m, a = .yes m := by
  cases a with
  | yes m => exact ⟨m, rfl⟩
  | no pf =>
    exfalso
    obtain ⟨_, h1, h2⟩ := h
    obtain ⟨z, hz, _⟩ := h2 (fun _ => 1) (fun _ => .inr (.inr rfl)) (h1.sat (A := fun _ => 1) (fun _ => .inl rfl) (fun d hd => by cases hd)).stable
    cases hz
  | tired =>
    exfalso
    obtain ⟨h1, h2⟩ := h
    rw [none_learned h1] at h2
    simp at h2
    omega
def HoP (w : World) (e : Ending) (w' : World) : Prop := e = .returned (.bool true) ∧ Below w.heap.size w w'
set_option maxRecDepth 100000 in
set_option maxHeartbeats 4000000 in
theorem holds_true {w : World} {ea : Nat → Addr} (hes : Sen w ea) : Calls Tryd.prog 5 #[] w (HoP w) := by
  have CS := solve_good (w := w) (V := 2) (n := 0) (c := 0) (effort := 5) (A := none) (F := []) hes (by omega) rfl (fun i l h => by simp at h) (fun d hd => by cases hd) (by omega) (by omega)
  have CS := Lib.hid CS
  clear hes
  go_enter Tryd.func5, Tryd.ntmps5
  go_wp2_with fail
  refine CS.out.mono ?_
  rintro e w1 ⟨a, s', v, rfl, hb1, hE, hA⟩
  obtain ⟨mo, rfl⟩ := empty_yes hE (by omega)
  obtain ⟨A, c, rfl, _⟩ := hA
  have HB := Lib.hid (hb1.alloc hb1.size (.cells #[.string ⟨#[121, 101, 115]⟩, .slice A 2 c, .slice none 0 0] 45))
  clear hb1 hE
  go_wp2_with fail
  go_ret
  exact ⟨rfl, HB.out⟩
theorem CsO.of_at {w : World} {base n : Nat} {A : Option Addr} {c : Nat} {F : List (List Int)} (h : CsAt w base (.slice A n c) F) : CsO w A F := fun i l hl => by
  obtain ⟨rows, h1, h2⟩ := h
  obtain ⟨u, h3, h4⟩ := h2 i l hl
  have hi : i < F.length := (List.getElem?_eq_some_iff.1 hl).1
  obtain ⟨g, c', hv, _, hlt⟩ := h1.form (by omega)
  injection hv with q1 q2 q3
  subst q1
  refine ⟨g, u, rfl, hlt, ?_, own_base h4 (Nat.zero_le _)⟩
  have hr9 : Row w (fun _ => (18, 0)) (18, 0) base 26 (.slice (some ⟨g, 0, none⟩) rows.length c) rows := by
    have hl2 : rows.length = F.length := by have := h1.1; omega
    refine ⟨?_, fun _ _ => rfl⟩
    rw [hl2]
    rw [q2] at h1
    exact h1
  exact hr9.cell h3
theorem blk_grown {w w1 : World} {base e n g t : Nat} {v : Value} {xs : List Value} {cells : Array Value} (k : Blk w g t cells) (ho : w.ownsRow base e 1 v n xs) (hne : e ≠ t) (hg : w.grownBy w1 v.ownBlock) : Blk w1 g t cells :=
  (hg.block g k.lt (fun h => own_blk_ne ho k hne h.symm)).trans k
def RtT (w : World) (e : Ending) (w' : World) : Prop := e = .returned (.bool true) ∧ Below w.heap.size w w'
end Go.Proofs.YtaedbnbeelkkcaaDoor.slv
