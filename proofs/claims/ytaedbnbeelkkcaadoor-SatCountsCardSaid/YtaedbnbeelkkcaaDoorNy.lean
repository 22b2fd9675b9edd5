/-
  WALK of (*solver).add.
-/
import Derived.Test.YtaedbnbeelkkcaaDoorNw
import Derived.Test.YtaedbnbeelkkcaaDoorUr
import Derived.Test.YtaedbnbeelkkcaaDoorUq
namespace Go.Proofs.YtaedbnbeelkkcaaDoor.slv
open Go.RowKit Go.Sort
section
variable {w : World} {tag : Nat → Tag} {p V : Nat} {y : SLay} {s : SS}
theorem neat_nil : neat [] = [] := by unfold neat; rw [show (([] : List Int).mergeSort fun x y => decide (x ≤ y)) = [] by simp]; rfl
theorem neat_le (c : List Int) : (neat c).length ≤ c.length := by
  unfold neat
  refine Nat.le_trans (Lib.compact_length_le _) ?_
  rw [sort_len]; exact Nat.le_refl _
attribute [local irreducible] wpSeq wpMv
set_option maxRecDepth 100000 in
set_option maxHeartbeats 8000000 in
theorem add_none {A : Option Addr} {cc : Nat} {s' : SS} (h : Slv w tag p V y s) (hu : addM V s [] = some s') :
    Calls Tryd.prog 26 #[.pointer (some ⟨p, 0, none⟩), .slice A 0 cc] w (StS w tag p V s') := by
  have hs : s' = { s with dead := true } := by
    unfold addM at hu
    rw [neat_nil] at hu
    dsimp only at hu
    rw [if_neg (by simp)] at hu
    injection hu with hu
    exact hu.symm
  subst hs
  have C1 := Lib.hid (Tryd.slices_Sort_int_none A cc w)
  have C2 := Lib.hid (Tryd.slices_Compact_int_empty A cc w)
  obtain ⟨h2, a2⟩ := h.setDead true
  have c15 : w.cell? ⟨p, 15, none⟩ = some (.bool s.dead) := h.blk.cell 15
  have f15 : w.frozen? ⟨p, 15, none⟩ = false := h.blk.frozen 15
  have l15 : p < w.heap.size := h.blk.lt
  have HE := Lib.hid (show StS w tag p V { s with dead := true } (.returned (.tuple #[])) (w.setCell ⟨p, 15, none⟩ (.bool true)) from ⟨rfl, tag, y, Re.refl _ _, a2, h2⟩)
  clear h hu h2 a2
  go_enter Tryd.func26, Tryd.ntmps26
  go_wp2_with fail
  refine C1.out.mono ?_
  rintro e w1 ⟨rfl, hw1⟩
  subst hw1
  go_wp2_with fail
  refine C2.out.mono ?_
  rintro e w2 ⟨rfl, hw2⟩
  subst hw2
  go_wp2_with fail
  go_loop [12] (fun iv => iv = .int .i64 0) (fun _ => 0)
  case atStart => rfl
  case round =>
    subst hrel
    go_wp2_with fail
    go_end0
    exact HE.out
def AdL (zs : List Int) (iv : Value) : Prop := ∃ i : Nat, iv = .int .i64 (i : Nat) ∧ i ≤ zs.length ∧ ∀ (j : Nat) n, j < i → zs[j]? = some n → (decide (0 < n) && zs.contains (-n)) = false
/-- behind add: the solver, and the clause's own row, may have turned -/
def AdP (w : World) (tag : Nat → Tag) (p V : Nat) (g : Option Nat) (s : SS) (e : Ending) (w' : World) : Prop :=
  e = .returned (.tuple #[]) ∧ ∃ tag' y', (∀ b, b < w.heap.size → some b ≠ g → tag' b = tag b) ∧ Cg tag (Fr 18) w w' ∧ Slv w' tag' p V y' s
theorem Cg.r18 {w' : World} (h : Cg tag (Fr 16) w w') : Cg tag (Fr 18) w w' := h.mono_ fun _ ht => ⟨ht.1, Nat.le_trans ht.2 (by decide)⟩
theorem add_none' {A : Option Addr} {cc : Nat} {s' : SS} (h : Slv w tag p V y s) (hu : addM V s [] = some s') :
    Calls Tryd.prog 26 #[.pointer (some ⟨p, 0, none⟩), .slice A 0 cc] w (AdP w tag p V none s') := by
  refine (add_none h hu).mono ?_
  rintro e w' ⟨rfl, tag', y', h1, h2, h3⟩
  exact ⟨rfl, tag', y', fun b hb _ => h1 b hb, Cg.r18 h2, h3⟩
set_option maxRecDepth 100000 in
set_option maxHeartbeats 8000000 in
theorem add_any {g n cc base : Nat} {c : List Int} {s' : SS} (h : Slv w tag p V y s) (hu : addM V s c = some s') (hV : V ≤ 400000) (hn : c.length = n) (hc0 : 0 < n) (hcl : n ≤ 1000000) (hlit : ∀ x ∈ c, x.natAbs ≤ 1000000)
    (hrow : Row w tag (18, 0) base 3 (.slice (some ⟨g, 0, none⟩) n cc) (litVals c)) :
    Calls Tryd.prog 26 #[.pointer (some ⟨p, 0, none⟩), .slice (some ⟨g, 0, none⟩) n cc] w (AdP w tag p V (some g) s') := by
  obtain ⟨z1, hz1⟩ : ∃ z1, (c.mergeSort fun x y => decide (x ≤ y)) = z1 := ⟨_, rfl⟩
  have hl1 : z1.length = n := by rw [← hz1, sort_len, hn]
  obtain ⟨z2, hz2⟩ : ∃ z2, Lib.compact z1 = z2 := ⟨_, rfl⟩
  have hne : neat c = z2 := by unfold neat; rw [hz1, hz2]
  have hl2 : z2.length ≤ n := by rw [← hz2, ← hl1]; exact Lib.compact_length_le z1
  have hmem : ∀ x, x ∈ z2 ↔ x ∈ c := fun x => by rw [← hz2, compact_mem, ← hz1, sort_mem]
  have hg : g < w.heap.size := (hrow.own.lt g rfl).2
  have hcc : n ≤ cc := by
    rcases hrow.own.2 with ⟨h0, h1⟩ | ⟨g', c', cur, hv', _, _, hle, _⟩
    · cases h0
    · rw [litVals_len, hn] at hle; injection hv' with _ _ e3; omega
  have hrow' : Row w tag (18, 0) base 3 (.slice (some ⟨g, 0, none⟩) c.length cc) (litVals c) := by rw [hn]; exact hrow
  have C1 := Tryd.slices_Sort_int g 0 cc c w (Row.holds hrow') hg (by omega)
  rw [hz1, hn] at C1
  have C1 := Lib.hid C1
  have HROW := Lib.hid hrow'
  have HZ := Lib.hid (And.intro hl1 (And.intro hz2 (And.intro hmem hz1)))
  have HS := Lib.hid h
  have HN := Lib.hid hn
  have HLIT := Lib.hid hlit
  unfold addM at hu
  rw [hne] at hu
  have HU := Lib.hid hu
  clear h hu hrow hrow' hz1 hl1 hz2 hne hmem hlit hn
  go_enter Tryd.func26, Tryd.ntmps26
  go_wp2_with fail
  refine C1.out.mono ?_
  rintro e w1 ⟨rfl, q1, os1, hw1⟩
  obtain ⟨hr1, hc1⟩ := HROW.out.anew (zs' := z1) (by rw [HZ.out.1, HN.out]) hw1
  have hr1' : Row w1 tag (18, 0) base 3 (.slice (some ⟨g, 0, none⟩) z1.length cc) (litVals z1) := by rw [HZ.out.1, ← HN.out]; exact hr1
  have C2 := Tryd.slices_Compact_int g 0 cc z1 w1 (Row.holds hr1') (by rw [HZ.out.1]; omega) (by rw [HZ.out.1]; exact hcc)
  rw [HZ.out.2.1, HZ.out.1] at C2
  have C2 := Lib.hid C2
  have HR1 := Lib.hid hr1'
  have HC1 := Lib.hid hc1
  clear hr1 hr1' hc1 hw1 C1
  go_wp2_with fail
  refine C2.out.mono ?_
  rintro e w2 ⟨rfl, q2, hw2⟩
  obtain ⟨hr2, hc2⟩ := HR1.out.anew (w' := w2) (m := q2) (os := #[]) (zs' := z2 ++ List.replicate (n - z2.length) 0) (by rw [List.length_append, List.length_replicate, HZ.out.1]; omega) (by rw [hw2, grow_empty])
  obtain ⟨m, hm⟩ : ∃ m, z2.length = m := ⟨_, rfl⟩
  rw [hm]
  have hr3 : Row w2 tag (18, 0) base 3 (.slice (some ⟨g, 0, none⟩) m cc) (litVals z2) := by
    have h1 : (litVals (z2 ++ List.replicate (n - z2.length) 0)).length = n := by rw [litVals_len, List.length_append, List.length_replicate]; omega
    have h2 : Row w2 tag (18, 0) base 3 (.slice (some ⟨g, 0, none⟩) (litVals (z2 ++ List.replicate (n - z2.length) 0)).length cc) (litVals (z2 ++ List.replicate (n - z2.length) 0)) := by have h9 := hr2; rw [HZ.out.1] at h9; rw [h1]; exact h9
    have h3 := h2.cut (n := m) (by rw [h1]; omega)
    have e : (litVals (z2 ++ List.replicate (n - z2.length) 0)).take m = litVals z2 := by
      unfold litVals
      rw [← List.map_take, ← hm, List.take_left]
    rw [e] at h3
    exact h3
  have hm0 : 0 < m := by
    rw [← hm]
    obtain ⟨x, hx⟩ : ∃ x, x ∈ c := by
      cases c with
      | nil => have := HN.out; simp at this; omega
      | cons x r => exact ⟨x, List.mem_cons_self⟩
    exact List.length_pos_of_mem ((HZ.out.2.2.1 x).2 hx)
  have hc12' : Cg tag (fun s => s = (18, 0)) w w2 := HC1.out.trans hc2
  have hc12 : Cg tag (Fr 18) w w2 := hc12'.mono_ fun t e => by subst e; exact ⟨by decide, by decide⟩
  have hs2 : Slv w2 tag p V y s := HS.out.keep hc12' fun t ht e => by subst e; exact absurd ht.2 (by decide)
  have hcell : ∀ (j : Nat) x, z2[j]? = some x → w2.cell? ⟨g, j, none⟩ = some (.int .i64 x) := fun j x hx => by
    have h1 : Row w2 tag (18, 0) base 3 (.slice (some ⟨g, 0, none⟩) (litVals z2).length cc) (litVals z2) := by rw [litVals_len, hm]; exact hr3
    exact h1.cell (lit_at hx)
  have CC := Lib.hid (fun x => Tryd.slices_Contains_int g 0 m cc z2 x w2 (by omega) (by omega) (fun j hj => by
    rw [Nat.zero_add, List.getD_eq_getElem?_getD, List.getElem?_eq_getElem hj]
    exact hcell j _ (List.getElem?_eq_getElem hj)))
  have HCELL := Lib.hid hcell
  have HR3 := Lib.hid hr3
  have HC12 := Lib.hid hc12
  have HS2 := Lib.hid hs2
  have HM := Lib.hid hm
  have hmn : m ≤ n := by omega
  have HLIT2 := Lib.hid (fun x hx => HLIT.out x ((HZ.out.2.2.1 x).1 hx))
  clear hr2 hc2 hw2 hr3 hc12 hc12' hs2 hcell hm C2 HR1 HC1 HZ HROW HS HLIT hl2
  go_wp2_with fail
  go_loop [12] (fun iv => AdL z2 iv) (fun iv => m - (intOf iv).toNat)
  case atStart => exact ⟨0, rfl, Nat.zero_le _, fun j n hj => absurd hj (Nat.not_lt_zero _)⟩
  case round =>
    obtain ⟨i, e1, hi, hall⟩ := hrel
    subst e1
    rw [HM.out] at hi
    by_cases him : i < m
    · as_aux_lemma =>
      obtain ⟨x, hx⟩ : ∃ x, z2[i]? = some x := ⟨_, List.getElem?_eq_getElem (by have := HM.out; omega)⟩
      have cx := HCELL.out i x hx
      have hiI : (i : Int) < (m : Int) := by omega
      have hxl := HLIT2.out x (List.mem_of_getElem? hx)
      obtain ⟨u, hu⟩ : ∃ u, -x = u := ⟨_, rfl⟩
      have wn : IntKind.i64.wrap (-x) = u := by rw [IntKind.wrap_i64]; omega
      have wi : IntKind.i64.wrap ((i : Int) + 1) = ((i + 1 : Nat) : Int) := by rw [IntKind.wrap_i64]; omega
      have hnext : (decide (0 < x) && z2.contains (-x)) = false → AdL z2 (.int .i64 ((i + 1 : Nat) : Int)) := fun hf =>
        ⟨i + 1, rfl, by have := HM.out; omega, fun j n hj hn => by
          by_cases e : j = i
          · subst e; rw [hx] at hn; injection hn with hn; subst hn; exact hf
          · exact hall j n (by omega) hn⟩
      by_cases hp : 0 < x
      · have t1 : decide (x > 0) = true := decide_eq_true hp
        have CX := CC.out u
        rw [show z2.take m = z2 by rw [← HM.out, List.take_length]] at CX
        have CX := Lib.hid CX
        cases hcon : z2.contains u with
        | true =>
          have hany : z2.any (fun n => decide (0 < n) && z2.contains (-n)) = true := List.any_eq_true.2 ⟨x, List.mem_of_getElem? hx, by rw [hu, hcon, decide_eq_true hp]; rfl⟩
          have hu2 := HU.out
          rw [if_pos hany] at hu2
          injection hu2 with hu2
          subst hu2
          rw [hcon] at CX
          have HE := Lib.hid (show AdP w tag p V (some g) s (.returned (.tuple #[])) w2 from ⟨rfl, tag, y, fun b _ _ => rfl, HC12.out, HS2.out⟩)
          clear hall hnext hany hx hxl hu hcon hp
          go_wp2_with fail
          refine CX.out.mono ?_
          rintro e w3 ⟨rfl, hw3⟩
          subst hw3
          go_wp2_with fail
          go_end0
          exact HE.out
        | false =>
          have HN1 := Lib.hid (hnext (by rw [hu, hcon]; simp))
          rw [hcon] at CX
          clear hall hnext hx hxl hu hcon hp
          go_wp2_with fail
          refine CX.out.mono ?_
          rintro e w3 ⟨rfl, hw3⟩
          subst hw3
          go_wp2_with fail
          go_round
          case rel => exact HN1.out
          case measure => simp [intOf]; omega
      · have t1 : decide (x > 0) = false := decide_eq_false hp
        have HN1 := Lib.hid (hnext (by rw [decide_eq_false hp]; rfl))
        clear hall hnext hx hxl hu hp
        go_wp2_with fail
        go_round
        case rel => exact HN1.out
        case measure => simp [intOf]; omega
    · obtain rfl : i = m := by omega
      have hany : ¬ z2.any (fun n => decide (0 < n) && z2.contains (-n)) = true := fun e => by
        obtain ⟨n, hn, h1⟩ := List.any_eq_true.1 e
        obtain ⟨j, hj, h2⟩ := List.getElem_of_mem hn
        have := hall j n (by have := HM.out; omega) (by rw [List.getElem?_eq_getElem hj, h2])
        rw [h1] at this
        cases this
      have hu2 := HU.out
      rw [if_neg hany] at hu2
      have HU2 := Lib.hid hu2
      clear hall hany hu2 hi him HU CC
      have hml := HM.out
      obtain ⟨x0, hx0⟩ : ∃ x, z2[0]? = some x := ⟨_, List.getElem?_eq_getElem (by omega)⟩
      have cx0 := HCELL.out 0 x0 hx0
      have hx0l := HLIT2.out x0 (List.mem_of_getElem? hx0)
      have tm0 : ((i : Int) == 0) = false := by simp; omega
      have hm0I : (0 : Int) < (i : Int) := by omega
      have hu2 := HU2.out
      match hzz : z2, hml, hx0, hu2 with
      | [], hml, hx0, hu2 => cases hx0
      | [a], hml, hx0, hu2 =>
        as_aux_lemma =>
        injection hx0 with hx0
        subst hx0
        have hi1 : i = 1 := by rw [← hml]; rfl
        have tm1 : ((i : Int) == 1) = true := by simp [hi1]
        dsimp only at hu2
        split at hu2
        · cases hu2
        rename_i xv hof
        have CO := Lib.hid (of_any HS2.out hof hV)
        clear hi1 hof hml hzz tm0
        by_cases hxm : xv = -1
        · rw [if_pos hxm] at hu2
          injection hu2 with hu2
          subst hu2
          have t7 : (xv == -1) = true := by simp [hxm]
          obtain ⟨h3, a3⟩ := HS2.out.setDead true
          have c15 : w2.cell? ⟨p, 15, none⟩ = some (.bool s.dead) := HS2.out.blk.cell 15
          have f15 : w2.frozen? ⟨p, 15, none⟩ = false := HS2.out.blk.frozen 15
          have l15 : p < w2.heap.size := HS2.out.blk.lt
          have HE := Lib.hid (show AdP w tag p V (some g) { s with dead := true } (.returned (.tuple #[])) (w2.setCell ⟨p, 15, none⟩ (.bool true)) from ⟨rfl, tag, y, fun b _ _ => rfl, HC12.out.trans (Cg.r18 a3), h3⟩)
          clear h3 a3 hxm
          go_wp2_with fail
          refine CO.out.mono ?_
          rintro e w3 ⟨rfl, rfl⟩
          go_wp2_with fail
          go_end0
          exact HE.out
        · rw [if_neg hxm] at hu2
          have t7 : (xv == -1) = false := by simp [hxm]
          by_cases hx0z : xv = 0
          · rw [if_pos hx0z] at hu2
            have t8 : (xv == 0) = true := by simp [hx0z]
            have CS := Lib.hid (setM_any HS2.out hu2 hV)
            clear hu2 hxm hx0z
            go_wp2_with fail
            refine CO.out.mono ?_
            rintro e w3 ⟨rfl, rfl⟩
            go_wp2_with fail
            refine CS.out.mono ?_
            rintro e w4 ⟨rfl, tag4, y4, hr4, hc4, h4⟩
            have HE := Lib.hid (show AdP w tag p V (some g) s' (.returned (.tuple #[])) w4 from ⟨rfl, tag4, y4, fun b hb _ => hr4 b (by have := HC12.out.size; omega), HC12.out.trans (Cg.r18 hc4), h4⟩)
            clear hr4 hc4 h4
            go_wp2_with fail
            go_end0
            exact HE.out
          · rw [if_neg hx0z] at hu2
            injection hu2 with hu2
            subst hu2
            have t8 : (xv == 0) = false := by simp [hx0z]
            have HE := Lib.hid (show AdP w tag p V (some g) s (.returned (.tuple #[])) w2 from ⟨rfl, tag, y, fun b _ _ => rfl, HC12.out, HS2.out⟩)
            clear hxm hx0z
            go_wp2_with fail
            refine CO.out.mono ?_
            rintro e w3 ⟨rfl, rfl⟩
            go_wp2_with fail
            go_end0
            exact HE.out
      | a :: b :: r, hml, hx0, hu2 =>
        as_aux_lemma =>
        have hi2 : 2 ≤ i := by rw [← hml]; simp
        have tm1 : ((i : Int) == 1) = false := by simp; omega
        dsimp only at hu2
        obtain ⟨h3, hr3, hne3, hbase3⟩ := retag (t2 := (3, (s.xs.length : Int))) HS2.out HR3.out (fun e => absurd e.2 (by decide))
        have CA := Lib.hid (attach_any h3 hu2 hV hml hr3)
        have HNE := Lib.hid hne3
        have htg : tag g = (18, 0) := HR3.out.tg g rfl
        have HTG := Lib.hid htg
        clear hi2 hml hzz tm0 h3 hr3 hne3 hbase3 hu2 hx0 htg
        go_wp2_with fail
        refine CA.out.mono ?_
        rintro e w4 ⟨rfl, tag4, y4, hr4, hc4, h4⟩
        have hc4' : Cg tag (Fr 18) w2 w4 := hc4.mono fun b o hb hS => by
          show Fr 18 (tag b)
          by_cases e : b = g
          · subst e; rw [HTG.out]; exact ⟨by decide, by decide⟩
          · have h9 : Fr 16 (put tag g (3, (s.xs.length : Int)) b) := hS
            rw [HNE.out b e] at h9
            exact ⟨h9.1, Nat.le_trans h9.2 (by decide)⟩
        have HE := Lib.hid (show AdP w tag p V (some g) s' (.returned (.tuple #[])) w4 from ⟨rfl, tag4, y4, fun b hb hbg => (hr4 b (by have := HC12.out.size; omega)).trans (HNE.out b fun e => hbg (by rw [e])), HC12.out.trans hc4', h4⟩)
        clear hr4 hc4 h4 hc4'
        go_wp2_with fail
        go_end0
        exact HE.out
end
end Go.Proofs.YtaedbnbeelkkcaaDoor.slv
