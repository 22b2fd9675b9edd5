/-
  WALKS of package graph (chapter 9): And where the gate is there already, and where it is new.
-/
import Derived.Test.YtmbjhpgemphmmaaDoorGs
namespace Go.Proofs.YtmbjhpgemphmmaaDoor
open Go.RowKit

theorem zero_of_find {w : World} {base b : Nat} {gs : List Gm.Gate} (hg : GraphAt w base b none gs) {lo hi k : Nat} (h : Gm.find lo hi gs = some k) : False := by
  have := hg.hm lo hi; rw [h] at this; cases this
set_option maxHeartbeats 400000 in
theorem and_found_a {w : World} {base b m : Nat} {gs : List Gm.Gate} (hg : GraphAt w base b (some m) gs) {lo hi k : Nat} (hlo : Gm.has gs lo) (hhi : Gm.has gs hi) (hlt : lo < hi) (h0 : 1 < lo) (h1 : lo ≠ Gm.notL hi) (hf : Gm.find lo hi gs = some k) :
    Calls Tryd.prog 56 #[.pointer (some ⟨b, 0, none⟩), .int .i64 lo, .int .i64 hi] w (GPost w base b (some m) (gs, 2 * k + 2)) := by
  have hl := hg.len
  have hbl : (lo : Int) ≤ 1000000 ∧ (hi : Int) ≤ 1000000 := by unfold Gm.has at hlo hhi; omega
  obtain ⟨nh, hnh⟩ : ∃ nh, nh = Gm.notL hi := ⟨_, rfl⟩
  have hkey := keyOf_two lo hi (wf_small (by omega)) (wf_small (by omega))
  have hkl := Gm.find_lt hf
  obtain ⟨sv, hblk, hrow⟩ := hg.ex
  have c2 : w.cell? ⟨b, 2, none⟩ = some (.map (some m)) := hblk.cell 2
  obtain ⟨_, D, hD, hh⟩ := hg.hm
  obtain ⟨hD1, hD2⟩ := (hh lo hi (by omega) (by omega)).2 k hf
  have HD := Lib.hid hD
  have H2 := Lib.hid hD2
  have hW : wrap64 (2 * ((k : Int) + 1)) = ((2 * k + 2 : Nat) : Int) := (wrap64_id (by omega) (by omega)).trans (by omega)
  have HW := Lib.hid hW
  have HG := Lib.hid hg
  have HK := Lib.hid hkey
  have C1 := Lib.hid (has_yes hg hlo)
  have C2 := Lib.hid (has_yes hg hhi)
  have C3 := Lib.hid (not_any hi w (by omega))
  rw [← hnh] at C3 h1
  have e0 : ((lo : Int) == 0) = false := by simp; omega
  have e1 : ((lo : Int) == (nh : Int)) = false := by simp; omega
  have e2 : ((lo : Int) == 1) = false := by simp; omega
  have e3 : ((lo : Int) == (hi : Int)) = false := by simp; omega
  clear hg hlo hhi h1 hnh hl h0 hkey hbl hblk hrow hD hh hD2 hf hkl hW
  go_enter Tryd.func56, Tryd.ntmps56
  go_wp2_with fail
  refine C1.out.mono ?_
  rintro e w' ⟨rfl, rfl⟩
  go_wp2_with fail
  refine C2.out.mono ?_
  rintro e w' ⟨rfl, rfl⟩
  go_wp2_with fail
  refine C3.out.mono ?_
  rintro e w' ⟨rfl, rfl⟩
  go_wp2_with (at_lookup; refine wpList_lookup_own_ok_int _ rfl _ _ 25 rfl 164 3 .i64 lawKey Tryd.underlying25 Tryd.underlying3 (zeroInt _) m _ D rfl HD.out _ _ rfl HK.out ?_; intro c hat hwc)
  go_ret2
  have hc : c = (k : Int) + 1 := by
    have h := H2.out.symm.trans hat
    simp only [DataW.lit.injEq, Lit.int.injEq, true_and] at h
    exact h.symm
  refine post_same HG.out ?_
  rw [hc]; exact HW.out
set_option maxHeartbeats 400000 in
theorem and_found_b {w : World} {base b m : Nat} {gs : List Gm.Gate} (hg : GraphAt w base b (some m) gs) {lo hi k : Nat} (hlo : Gm.has gs lo) (hhi : Gm.has gs hi) (hlt : lo < hi) (h0 : 1 < lo) (h1 : lo ≠ Gm.notL hi) (hf : Gm.find lo hi gs = some k) :
    Calls Tryd.prog 56 #[.pointer (some ⟨b, 0, none⟩), .int .i64 hi, .int .i64 lo] w (GPost w base b (some m) (gs, 2 * k + 2)) := by
  have hl := hg.len
  have hbl : (lo : Int) ≤ 1000000 ∧ (hi : Int) ≤ 1000000 := by unfold Gm.has at hlo hhi; omega
  obtain ⟨nh, hnh⟩ : ∃ nh, nh = Gm.notL hi := ⟨_, rfl⟩
  have hkey := keyOf_two lo hi (wf_small (by omega)) (wf_small (by omega))
  have hkl := Gm.find_lt hf
  obtain ⟨sv, hblk, hrow⟩ := hg.ex
  have c2 : w.cell? ⟨b, 2, none⟩ = some (.map (some m)) := hblk.cell 2
  obtain ⟨_, D, hD, hh⟩ := hg.hm
  obtain ⟨hD1, hD2⟩ := (hh lo hi (by omega) (by omega)).2 k hf
  have HD := Lib.hid hD
  have H2 := Lib.hid hD2
  have hW : wrap64 (2 * ((k : Int) + 1)) = ((2 * k + 2 : Nat) : Int) := (wrap64_id (by omega) (by omega)).trans (by omega)
  have HW := Lib.hid hW
  have HG := Lib.hid hg
  have HK := Lib.hid hkey
  have C1 := Lib.hid (has_yes hg hlo)
  have C2 := Lib.hid (has_yes hg hhi)
  have C3 := Lib.hid (not_any hi w (by omega))
  rw [← hnh] at C3 h1
  have e0 : ((lo : Int) == 0) = false := by simp; omega
  have e1 : ((lo : Int) == (nh : Int)) = false := by simp; omega
  have e2 : ((lo : Int) == 1) = false := by simp; omega
  have e3 : ((lo : Int) == (hi : Int)) = false := by simp; omega
  clear hg hlo hhi h1 hnh hl h0 hkey hbl hblk hrow hD hh hD2 hf hkl hW
  go_enter Tryd.func56, Tryd.ntmps56
  go_wp2_with fail
  refine C2.out.mono ?_
  rintro e w' ⟨rfl, rfl⟩
  go_wp2_with fail
  refine C1.out.mono ?_
  rintro e w' ⟨rfl, rfl⟩
  go_wp2_with fail
  refine C3.out.mono ?_
  rintro e w' ⟨rfl, rfl⟩
  go_wp2_with (at_lookup; refine wpList_lookup_own_ok_int _ rfl _ _ 25 rfl 164 3 .i64 lawKey Tryd.underlying25 Tryd.underlying3 (zeroInt _) m _ D rfl HD.out _ _ rfl HK.out ?_; intro c hat hwc)
  go_ret2
  have hc : c = (k : Int) + 1 := by
    have h := H2.out.symm.trans hat
    simp only [DataW.lit.injEq, Lit.int.injEq, true_and] at h
    exact h.symm
  refine post_same HG.out ?_
  rw [hc]; exact HW.out

/-- a map's datum tells which gates there are -/
def Tells (D : DataW Unit) (gs : List Gm.Gate) : Prop := ∀ a b : Nat, a ≤ 1000000 → b ≤ 1000000 →
  (Gm.find a b gs = none → Maps.has D (kl a b) = false) ∧ (∀ k, Gm.find a b gs = some k → Maps.has D (kl a b) = true ∧ D.atKey (kl a b) (.lit (.int .i64 0)) = .lit (.int .i64 ((k : Int) + 1)))
theorem Tells.none {gs : List Gm.Gate} (h : ∀ a b, Gm.find a b gs = none) : Tells (.map []) gs := fun a b _ _ => ⟨fun _ => rfl, fun k hk => by rw [h] at hk; cases hk⟩
theorem isKey_kl {a b : Nat} (ha : a ≤ 1000000) (hb : b ≤ 1000000) : WideAt.IsKeyLit (kl a b) := lawKey.key (keyOf_two a b (wf_small ha) (wf_small hb))
theorem Tells.put {D : DataW Unit} {gs : List Gm.Gate} (h : Tells D gs) (hD : Maps.IsMap D) {lo hi : Nat} (hlo : lo ≤ 1000000) (hhi : hi ≤ 1000000) (hf : Gm.find lo hi gs = .none) :
    Tells (D.put (kl lo hi) (.lit (.int .i64 ((gs.length : Int) + 1)))) (gs ++ [⟨lo, hi, false⟩]) := by
  intro a b ha hb
  have hk := isKey_kl hlo hhi
  by_cases hab : a = lo ∧ b = hi
  · obtain ⟨rfl, rfl⟩ := hab
    have hfn : Gm.find a b (gs ++ [⟨a, b, false⟩]) = some gs.length := by rw [Gm.find_append, hf]; simp [Gm.find]
    rw [hfn]
    refine ⟨(fun h => by cases h), fun k hk' => ?_⟩
    simp only [Option.some.injEq] at hk'
    subst hk'
    exact ⟨Maps.has_put_same hD hk _, Maps.atKey_put_same hD hk _ _⟩
  · have hne : kl a b ≠ kl lo hi := fun e => hab (by
      have := kl_inj (wf_small ha) (wf_small hb) (wf_small hlo) (wf_small hhi) e
      omega)
    have hfn : Gm.find a b (gs ++ [⟨lo, hi, false⟩]) = Gm.find a b gs := by
      rw [Gm.find_append]
      cases Gm.find a b gs with
      | some k => rfl
      | none =>
        have : ¬ (lo = a ∧ hi = b) := fun e => hab ⟨e.1.symm, e.2.symm⟩
        simp [Gm.find, this]
    rw [hfn, Maps.has_put_other hne, Maps.atKey_put_other hne]
    exact h a b ha hb

theorem new_end {w w3 : World} {base b m : Nat} {mb : Option Nat} {gs : List Gm.Gate} {sv1 : Value} {D : DataW Unit} {n : Nat} {lo hi : Nat} (hg : GraphAt w base b mb gs) (hn : gs.length < 99999)
    (hlo : Gm.has gs lo) (hhi : Gm.has gs hi) (hlt : lo < hi) (h0 : 1 < lo) (h1 : lo ≠ Gm.notL hi) (hf : Gm.find lo hi gs = none)
    (hB : Blk w3 b 27 #[sv1, .int .i64 (Gm.ins gs : Int), .map (some m)]) (hR : w3.ownsRow base 89 3 sv1 (gs.length + 1) (gateCells 0 gs ++ [.int .i64 lo, .int .i64 hi, .int .i64 0]))
    (hM : w3.ownsMap Tryd.prog 164 (plainElem Tryd.prog 3) m n (D.put (kl lo hi) (.lit (.int .i64 ((gs.length : Int) + 1))))) (hnn : n ≤ gs.length + 1) (hT : Tells D gs) (hD : Maps.IsMap D) (hbm : base ≤ m)
    (hC : Chg (GS base b mb) w w3) (hmb : some m = mb ∨ ∃ m', some m = some m' ∧ w.heap.size ≤ m') :
    GPost w base b mb (gs ++ [⟨lo, hi, false⟩], 2 * gs.length + 2) (.returned (.tuple #[.int .i64 (2 * (gs.length + 1 : Nat)), .nilIface])) w3 := by
  have hl := hg.len
  have he : Gm.andG gs lo hi = (gs ++ [⟨lo, hi, false⟩], 2 * gs.length + 2) := by
    have e1 : min lo hi = lo := Nat.min_eq_left (by omega)
    have e2 : max lo hi = hi := Nat.max_eq_right (by omega)
    have h2 : ¬ (hi = lo + 1 ∧ lo % 2 = 0) := fun e => h1 ((notL_eq (Nat.le_of_lt hlt)).2 e)
    rw [andG_none (by rw [e1, e2]; omega) (by rw [e1, e2]; omega) (by rw [e1, e2]; exact hf), e1, e2]
  have hwf := Gm.andG_wf hg.wf hlo hhi
  have hins := Gm.ins_and gs lo hi
  rw [he] at hwf hins
  unfold Gm.has at hlo hhi
  refine ⟨by simp; omega, some m, ⟨hwf, by simp; omega, hg.hb, ⟨sv1, ?_, ?_⟩, hbm, _, hM.mono (by simpa using hnn), ?_⟩, hC, hmb⟩
  · rw [hins]; exact hB
  · simpa [gateCells_append, gateCells] using hR
  · exact hT.put hD (by omega) (by omega) hf

theorem run_eql_map (w : World) (m : Nat) : (binOp .eql 25 (.map (some m)) (.map none)).run Tryd.prog w = .ok (.bool false) w := by
  simpa using run_eql_map_nil (P := Tryd.prog) w _ _ _ (some m) Tryd.underlying25
theorem run_eql_map_none (w : World) : (binOp .eql 25 (.map none) (.map none)).run Tryd.prog w = .ok (.bool true) w := by
  simpa using run_eql_map_nil (P := Tryd.prog) w _ _ _ none Tryd.underlying25

theorem none_row {w1 w2 : World} {base b n : Nat} {sv1 y z u : Value} {v : Obj} {xs : List Value} (h1 : Blk w1 b 27 #[sv1, y, z]) (h2 : w1.ownsRow base 89 3 sv1 n xs)
    (hg : ((w1.setCell ⟨b, 2, none⟩ u).alloc v).grownBy w2 (some w1.heap.size)) : w2.ownsRow base 89 3 sv1 n xs := by
  have hne := own_blk_ne h2 h1 (by decide)
  have h3 : (w1.setCell ⟨b, 2, none⟩ u).ownsRow base 89 3 sv1 n xs :=
    h2.kept (row := some b) ⟨rfl, rfl, rfl, by simp [World.setCell], fun k hk hn => Below.heap_setCell _ _ _ _ (fun e => hn (by rw [e]))⟩ (.inr hne)
  refine (h3.alloc v).kept hg (.inr fun e => ?_)
  have := (h2.lt _ e).2
  omega
set_option maxHeartbeats 400000 in
theorem and_some_a {w : World} {base b m : Nat} {gs : List Gm.Gate} (hg : GraphAt w base b (some m) gs) (hn : gs.length < 99999) {lo hi : Nat} (hlo : Gm.has gs lo) (hhi : Gm.has gs hi) (hlt : lo < hi) (h0 : 1 < lo) (h1 : lo ≠ Gm.notL hi) (hf : Gm.find lo hi gs = none) :
    Calls Tryd.prog 56 #[.pointer (some ⟨b, 0, none⟩), .int .i64 lo, .int .i64 hi] w (GPost w base b (some m) (gs ++ [⟨lo, hi, false⟩], 2 * gs.length + 2)) := by
  have hl := hg.len
  have hbl : (lo : Int) ≤ 1000000 ∧ (hi : Int) ≤ 1000000 := by unfold Gm.has at hlo hhi; omega
  obtain ⟨nh, hnh⟩ : ∃ nh, nh = Gm.notL hi := ⟨_, rfl⟩
  have hkey := keyOf_two lo hi (wf_small (by omega)) (wf_small (by omega))
  obtain ⟨sv, hblk, hrow⟩ := hg.ex
  have c2 : w.cell? ⟨b, 2, none⟩ = some (.map (some m)) := hblk.cell 2
  obtain ⟨hbm, D, hD, hh⟩ := hg.hm
  have hD1 := (hh lo hi (by omega) (by omega)).1 hf
  have HH := Lib.hid (show Tells D gs from hh)
  have HD := Lib.hid hD
  have HB := Lib.hid hblk
  have HR := Lib.hid hrow
  have HN := Lib.hid hn
  have HE := Lib.hid (fun w3 sv1 n (a1 : Blk w3 b 27 #[sv1, .int .i64 (Gm.ins gs : Int), .map (some m)]) a2 a3 a4 a5 => new_end (w3 := w3) (sv1 := sv1) (n := n) hg hn hlo hhi hlt h0 h1 hf a1 a2 (D := D) a3 a4 hh hD.isMap hbm a5 (.inl rfl))
  have em := run_eql_map
  have HX := Lib.hid (wrap64_id (x := (gs.length : Int) + 1) (by omega) (by omega))
  have HG := Lib.hid hg
  have HK := Lib.hid hkey
  have C1 := Lib.hid (has_yes hg hlo)
  have C2 := Lib.hid (has_yes hg hhi)
  have C3 := Lib.hid (not_any hi w (by omega))
  rw [← hnh] at C3 h1
  have e0 : ((lo : Int) == 0) = false := by simp; omega
  have e1 : ((lo : Int) == (nh : Int)) = false := by simp; omega
  have e2 : ((lo : Int) == 1) = false := by simp; omega
  have e3 : ((lo : Int) == (hi : Int)) = false := by simp; omega
  clear hg hlo hhi h1 hnh hl h0 hkey hbl hblk hrow hD hh hf hn
  go_enter Tryd.func56, Tryd.ntmps56
  go_wp2_with fail
  refine C1.out.mono ?_
  rintro e w' ⟨rfl, rfl⟩
  go_wp2_with fail
  refine C2.out.mono ?_
  rintro e w' ⟨rfl, rfl⟩
  go_wp2_with fail
  refine C3.out.mono ?_
  rintro e w' ⟨rfl, rfl⟩
  go_wp2_with (first | (at_lookup; refine wpList_lookup_own_ok_int _ rfl _ _ 25 rfl 164 3 .i64 lawKey Tryd.underlying25 Tryd.underlying3 (zeroInt _) m _ D rfl HD.out _ _ rfl HK.out ?_; intro c hat hwc) | fail)
  refine (add_room lo hi 0 HG.out.hb HB.out HR.out HN.out).mono ?_
  rintro e w1 ⟨rfl, sv1, h1, h2, h3⟩
  have k2 : w1.cell? ⟨b, 2, none⟩ = some (.map (some m)) := h1.cell 2
  have H1 := Lib.hid h1
  have H2 := Lib.hid h2
  have H3 := Lib.hid h3
  have hD' := ownsMap_chg HD.out h3 (fun es c hs => by
    rcases hs with hs | hs | hs
    · exact map_ne_blk HD.out HB.out hs
    · cases hs
    · cases hs.2)
  have HD1 := Lib.hid hD'
  clear h1 h2 h3 hD'
  have Hm : Hid (gs.length < maxLen) := Nat.lt_trans HN.out (by unfold maxLen; omega)
  go_wp2_with (at_mapUpdate; refine wpList_mapUpdate_own _ rfl _ _ _ 25 rfl 164 3 lawKey Tryd.underlying25 _ m _ D rfl HD1.out Hm.out _ _ _ rfl rfl HK.out _ [] (plainElem_int Tryd.underlying3 (wrap64_wf _)) ?_; intro w2 hown2 hgrow2)
  go_ret2
  rw [HX.out] at hown2
  have hne := map_ne_blk HD1.out H1.out
  refine HE.out w2 sv1 _ (H1.out.grown hgrow2 (fun e => hne (Option.some.inj e).symm)) (H2.out.kept hgrow2 (.inr (map_ne_own HD1.out H2.out))) hown2 (Nat.le_refl _) ?_
  refine Chg.grown (H3.out.mono fun k o _ hs => ?_) hgrow2 (fun k o hk _ => .inr (.inl hk.symm))
  rcases hs with hs | hs | hs
  · exact .inl hs
  · cases hs
  · exact .inr (.inr hs)
set_option maxHeartbeats 400000 in
theorem and_some_b {w : World} {base b m : Nat} {gs : List Gm.Gate} (hg : GraphAt w base b (some m) gs) (hn : gs.length < 99999) {lo hi : Nat} (hlo : Gm.has gs lo) (hhi : Gm.has gs hi) (hlt : lo < hi) (h0 : 1 < lo) (h1 : lo ≠ Gm.notL hi) (hf : Gm.find lo hi gs = none) :
    Calls Tryd.prog 56 #[.pointer (some ⟨b, 0, none⟩), .int .i64 hi, .int .i64 lo] w (GPost w base b (some m) (gs ++ [⟨lo, hi, false⟩], 2 * gs.length + 2)) := by
  have hl := hg.len
  have hbl : (lo : Int) ≤ 1000000 ∧ (hi : Int) ≤ 1000000 := by unfold Gm.has at hlo hhi; omega
  obtain ⟨nh, hnh⟩ : ∃ nh, nh = Gm.notL hi := ⟨_, rfl⟩
  have hkey := keyOf_two lo hi (wf_small (by omega)) (wf_small (by omega))
  obtain ⟨sv, hblk, hrow⟩ := hg.ex
  have c2 : w.cell? ⟨b, 2, none⟩ = some (.map (some m)) := hblk.cell 2
  obtain ⟨hbm, D, hD, hh⟩ := hg.hm
  have hD1 := (hh lo hi (by omega) (by omega)).1 hf
  have HH := Lib.hid (show Tells D gs from hh)
  have HD := Lib.hid hD
  have HB := Lib.hid hblk
  have HR := Lib.hid hrow
  have HN := Lib.hid hn
  have HE := Lib.hid (fun w3 sv1 n (a1 : Blk w3 b 27 #[sv1, .int .i64 (Gm.ins gs : Int), .map (some m)]) a2 a3 a4 a5 => new_end (w3 := w3) (sv1 := sv1) (n := n) hg hn hlo hhi hlt h0 h1 hf a1 a2 (D := D) a3 a4 hh hD.isMap hbm a5 (.inl rfl))
  have em := run_eql_map
  have HX := Lib.hid (wrap64_id (x := (gs.length : Int) + 1) (by omega) (by omega))
  have HG := Lib.hid hg
  have HK := Lib.hid hkey
  have C1 := Lib.hid (has_yes hg hlo)
  have C2 := Lib.hid (has_yes hg hhi)
  have C3 := Lib.hid (not_any hi w (by omega))
  rw [← hnh] at C3 h1
  have e0 : ((lo : Int) == 0) = false := by simp; omega
  have e1 : ((lo : Int) == (nh : Int)) = false := by simp; omega
  have e2 : ((lo : Int) == 1) = false := by simp; omega
  have e3 : ((lo : Int) == (hi : Int)) = false := by simp; omega
  clear hg hlo hhi h1 hnh hl h0 hkey hbl hblk hrow hD hh hf hn
  go_enter Tryd.func56, Tryd.ntmps56
  go_wp2_with fail
  refine C2.out.mono ?_
  rintro e w' ⟨rfl, rfl⟩
  go_wp2_with fail
  refine C1.out.mono ?_
  rintro e w' ⟨rfl, rfl⟩
  go_wp2_with fail
  refine C3.out.mono ?_
  rintro e w' ⟨rfl, rfl⟩
  go_wp2_with (first | (at_lookup; refine wpList_lookup_own_ok_int _ rfl _ _ 25 rfl 164 3 .i64 lawKey Tryd.underlying25 Tryd.underlying3 (zeroInt _) m _ D rfl HD.out _ _ rfl HK.out ?_; intro c hat hwc) | fail)
  refine (add_room lo hi 0 HG.out.hb HB.out HR.out HN.out).mono ?_
  rintro e w1 ⟨rfl, sv1, h1, h2, h3⟩
  have k2 : w1.cell? ⟨b, 2, none⟩ = some (.map (some m)) := h1.cell 2
  have H1 := Lib.hid h1
  have H2 := Lib.hid h2
  have H3 := Lib.hid h3
  have hD' := ownsMap_chg HD.out h3 (fun es c hs => by
    rcases hs with hs | hs | hs
    · exact map_ne_blk HD.out HB.out hs
    · cases hs
    · cases hs.2)
  have HD1 := Lib.hid hD'
  clear h1 h2 h3 hD'
  have Hm : Hid (gs.length < maxLen) := Nat.lt_trans HN.out (by unfold maxLen; omega)
  go_wp2_with (at_mapUpdate; refine wpList_mapUpdate_own _ rfl _ _ _ 25 rfl 164 3 lawKey Tryd.underlying25 _ m _ D rfl HD1.out Hm.out _ _ _ rfl rfl HK.out _ [] (plainElem_int Tryd.underlying3 (wrap64_wf _)) ?_; intro w2 hown2 hgrow2)
  go_ret2
  rw [HX.out] at hown2
  have hne := map_ne_blk HD1.out H1.out
  refine HE.out w2 sv1 _ (H1.out.grown hgrow2 (fun e => hne (Option.some.inj e).symm)) (H2.out.kept hgrow2 (.inr (map_ne_own HD1.out H2.out))) hown2 (Nat.le_refl _) ?_
  refine Chg.grown (H3.out.mono fun k o _ hs => ?_) hgrow2 (fun k o hk _ => .inr (.inl hk.symm))
  rcases hs with hs | hs | hs
  · exact .inl hs
  · cases hs
  · exact .inr (.inr hs)
set_option maxHeartbeats 400000 in
theorem and_none_a {w : World} {base b : Nat} {gs : List Gm.Gate} (hg : GraphAt w base b none gs) (hbase : base ≤ w.heap.size) (hn : gs.length < 99999) {lo hi : Nat} (hlo : Gm.has gs lo) (hhi : Gm.has gs hi) (hlt : lo < hi) (h0 : 1 < lo) (h1 : lo ≠ Gm.notL hi) :
    Calls Tryd.prog 56 #[.pointer (some ⟨b, 0, none⟩), .int .i64 lo, .int .i64 hi] w (GPost w base b none (gs ++ [⟨lo, hi, false⟩], 2 * gs.length + 2)) := by
  have hl := hg.len
  have hbl : (lo : Int) ≤ 1000000 ∧ (hi : Int) ≤ 1000000 := by unfold Gm.has at hlo hhi; omega
  obtain ⟨nh, hnh⟩ : ∃ nh, nh = Gm.notL hi := ⟨_, rfl⟩
  have hkey := keyOf_two lo hi (wf_small (by omega)) (wf_small (by omega))
  obtain ⟨sv, hblk, hrow⟩ := hg.ex
  have c2 : w.cell? ⟨b, 2, none⟩ = some (.map none) := hblk.cell 2
  have hf := hg.hm lo hi
  have HT := Lib.hid (Tells.none hg.hm)
  have HB := Lib.hid hblk
  have HR := Lib.hid hrow
  have HN := Lib.hid hn
  have HBS := Lib.hid hbase
  have HE := Lib.hid (fun w3 m sv1 n (a1 : Blk w3 b 27 #[sv1, .int .i64 (Gm.ins gs : Int), .map (some m)]) a2 a3 a4 a5 a6 a7 => new_end (w3 := w3) (m := m) (sv1 := sv1) (n := n) hg hn hlo hhi hlt h0 h1 hf a1 a2 (D := .map []) a3 a4 (Tells.none hg.hm) Maps.isMap_empty a7 a5 a6)
  have em := run_eql_map_none
  have hmm := @run_makeMap Tryd.prog
  have look := fun W : World => Maps.look_nil (w := W) true lawKey Tryd.underlying25 (zeroInt W) hkey
  simp only [if_true] at look
  have HX := Lib.hid (wrap64_id (x := (gs.length : Int) + 1) (by omega) (by omega))
  have HG := Lib.hid hg
  have HK := Lib.hid hkey
  have C1 := Lib.hid (has_yes hg hlo)
  have C2 := Lib.hid (has_yes hg hhi)
  have C3 := Lib.hid (not_any hi w (by omega))
  rw [← hnh] at C3 h1
  have e0 : ((lo : Int) == 0) = false := by simp; omega
  have e1 : ((lo : Int) == (nh : Int)) = false := by simp; omega
  have e2 : ((lo : Int) == 1) = false := by simp; omega
  have e3 : ((lo : Int) == (hi : Int)) = false := by simp; omega
  clear hg hlo hhi h1 hnh hl h0 hkey hbl hblk hrow hf hn hbase
  go_enter Tryd.func56, Tryd.ntmps56
  go_wp2_with fail
  refine C1.out.mono ?_
  rintro e w' ⟨rfl, rfl⟩
  go_wp2_with fail
  refine C2.out.mono ?_
  rintro e w' ⟨rfl, rfl⟩
  go_wp2_with fail
  refine C3.out.mono ?_
  rintro e w' ⟨rfl, rfl⟩
  go_wp2_with fail
  refine (add_room lo hi 0 HG.out.hb HB.out HR.out HN.out).mono ?_
  rintro e w1 ⟨rfl, sv1, h1, h2, h3⟩
  have k2 : w1.cell? ⟨b, 2, none⟩ = some (.map none) := h1.cell 2
  have k3 : w1.frozen? ⟨b, 2, none⟩ = false := h1.frozen 2
  have hbl := h1.lt
  have H1 := Lib.hid h1
  have H2 := Lib.hid h2
  have H3 := Lib.hid h3
  clear h1 h2 h3
  have HD1 := Lib.hid (show ((w1.setCell ⟨b, 2, none⟩ (.map (some w1.heap.size))).alloc (.map #[] 0)).ownsMap Tryd.prog 164 (plainElem (H := Unit) Tryd.prog 3) w1.heap.size 0 (.map []) by
    have h := World.ownsMap_made (w1.setCell ⟨b, 2, none⟩ (.map (some w1.heap.size))) Tryd.prog 164 (plainElem (H := Unit) Tryd.prog 3)
    rwa [show (w1.setCell ⟨b, 2, none⟩ (.map (some w1.heap.size))).heap.size = w1.heap.size from by simp [World.setCell]] at h)
  have Hm : Hid (0 < maxLen) := by unfold maxLen; exact Nat.zero_lt_succ _
  go_wp2_with (at_mapUpdate; refine wpList_mapUpdate_own _ rfl _ _ _ 25 rfl 164 3 lawKey Tryd.underlying25 _ w1.heap.size _ (.map []) rfl HD1.out Hm.out _ _ _ rfl rfl HK.out _ [] (plainElem_int Tryd.underlying3 (wrap64_wf _)) ?_; intro w2 hown2 hgrow2)
  go_ret2
  rw [HX.out] at hown2
  have hsz := H3.out.size
  have hbs := HBS.out
  refine HE.out w2 w1.heap.size sv1 _ (((H1.out.set_ 2 (.map (some w1.heap.size))).alloc (.map #[] 0)).grown hgrow2 (fun e => Nat.ne_of_lt hbl (Option.some.inj e))) (none_row H1.out H2.out hgrow2) hown2 (Nat.le_add_left _ _) ?_ (.inr ⟨_, rfl, hsz⟩) (Nat.le_trans hbs hsz)
  refine Chg.grown ((H3.out.setCell (.inr fun o => .inl rfl) _).alloc (.map #[] 0)) hgrow2 (fun k o hk ho => ?_)
  have := lt_of_heap ho
  have := Option.some.inj hk
  omega
set_option maxHeartbeats 400000 in
theorem and_none_b {w : World} {base b : Nat} {gs : List Gm.Gate} (hg : GraphAt w base b none gs) (hbase : base ≤ w.heap.size) (hn : gs.length < 99999) {lo hi : Nat} (hlo : Gm.has gs lo) (hhi : Gm.has gs hi) (hlt : lo < hi) (h0 : 1 < lo) (h1 : lo ≠ Gm.notL hi) :
    Calls Tryd.prog 56 #[.pointer (some ⟨b, 0, none⟩), .int .i64 hi, .int .i64 lo] w (GPost w base b none (gs ++ [⟨lo, hi, false⟩], 2 * gs.length + 2)) := by
  have hl := hg.len
  have hbl : (lo : Int) ≤ 1000000 ∧ (hi : Int) ≤ 1000000 := by unfold Gm.has at hlo hhi; omega
  obtain ⟨nh, hnh⟩ : ∃ nh, nh = Gm.notL hi := ⟨_, rfl⟩
  have hkey := keyOf_two lo hi (wf_small (by omega)) (wf_small (by omega))
  obtain ⟨sv, hblk, hrow⟩ := hg.ex
  have c2 : w.cell? ⟨b, 2, none⟩ = some (.map none) := hblk.cell 2
  have hf := hg.hm lo hi
  have HT := Lib.hid (Tells.none hg.hm)
  have HB := Lib.hid hblk
  have HR := Lib.hid hrow
  have HN := Lib.hid hn
  have HBS := Lib.hid hbase
  have HE := Lib.hid (fun w3 m sv1 n (a1 : Blk w3 b 27 #[sv1, .int .i64 (Gm.ins gs : Int), .map (some m)]) a2 a3 a4 a5 a6 a7 => new_end (w3 := w3) (m := m) (sv1 := sv1) (n := n) hg hn hlo hhi hlt h0 h1 hf a1 a2 (D := .map []) a3 a4 (Tells.none hg.hm) Maps.isMap_empty a7 a5 a6)
  have em := run_eql_map_none
  have hmm := @run_makeMap Tryd.prog
  have look := fun W : World => Maps.look_nil (w := W) true lawKey Tryd.underlying25 (zeroInt W) hkey
  simp only [if_true] at look
  have HX := Lib.hid (wrap64_id (x := (gs.length : Int) + 1) (by omega) (by omega))
  have HG := Lib.hid hg
  have HK := Lib.hid hkey
  have C1 := Lib.hid (has_yes hg hlo)
  have C2 := Lib.hid (has_yes hg hhi)
  have C3 := Lib.hid (not_any hi w (by omega))
  rw [← hnh] at C3 h1
  have e0 : ((lo : Int) == 0) = false := by simp; omega
  have e1 : ((lo : Int) == (nh : Int)) = false := by simp; omega
  have e2 : ((lo : Int) == 1) = false := by simp; omega
  have e3 : ((lo : Int) == (hi : Int)) = false := by simp; omega
  clear hg hlo hhi h1 hnh hl h0 hkey hbl hblk hrow hf hn hbase
  go_enter Tryd.func56, Tryd.ntmps56
  go_wp2_with fail
  refine C2.out.mono ?_
  rintro e w' ⟨rfl, rfl⟩
  go_wp2_with fail
  refine C1.out.mono ?_
  rintro e w' ⟨rfl, rfl⟩
  go_wp2_with fail
  refine C3.out.mono ?_
  rintro e w' ⟨rfl, rfl⟩
  go_wp2_with fail
  refine (add_room lo hi 0 HG.out.hb HB.out HR.out HN.out).mono ?_
  rintro e w1 ⟨rfl, sv1, h1, h2, h3⟩
  have k2 : w1.cell? ⟨b, 2, none⟩ = some (.map none) := h1.cell 2
  have k3 : w1.frozen? ⟨b, 2, none⟩ = false := h1.frozen 2
  have hbl := h1.lt
  have H1 := Lib.hid h1
  have H2 := Lib.hid h2
  have H3 := Lib.hid h3
  clear h1 h2 h3
  have HD1 := Lib.hid (show ((w1.setCell ⟨b, 2, none⟩ (.map (some w1.heap.size))).alloc (.map #[] 0)).ownsMap Tryd.prog 164 (plainElem (H := Unit) Tryd.prog 3) w1.heap.size 0 (.map []) by
    have h := World.ownsMap_made (w1.setCell ⟨b, 2, none⟩ (.map (some w1.heap.size))) Tryd.prog 164 (plainElem (H := Unit) Tryd.prog 3)
    rwa [show (w1.setCell ⟨b, 2, none⟩ (.map (some w1.heap.size))).heap.size = w1.heap.size from by simp [World.setCell]] at h)
  have Hm : Hid (0 < maxLen) := by unfold maxLen; exact Nat.zero_lt_succ _
  go_wp2_with (at_mapUpdate; refine wpList_mapUpdate_own _ rfl _ _ _ 25 rfl 164 3 lawKey Tryd.underlying25 _ w1.heap.size _ (.map []) rfl HD1.out Hm.out _ _ _ rfl rfl HK.out _ [] (plainElem_int Tryd.underlying3 (wrap64_wf _)) ?_; intro w2 hown2 hgrow2)
  go_ret2
  rw [HX.out] at hown2
  have hsz := H3.out.size
  have hbs := HBS.out
  refine HE.out w2 w1.heap.size sv1 _ (((H1.out.set_ 2 (.map (some w1.heap.size))).alloc (.map #[] 0)).grown hgrow2 (fun e => Nat.ne_of_lt hbl (Option.some.inj e))) (none_row H1.out H2.out hgrow2) hown2 (Nat.le_add_left _ _) ?_ (.inr ⟨_, rfl, hsz⟩) (Nat.le_trans hbs hsz)
  refine Chg.grown ((H3.out.setCell (.inr fun o => .inl rfl) _).alloc (.map #[] 0)) hgrow2 (fun k o hk ho => ?_)
  have := lt_of_heap ho
  have := Option.some.inj hk
  omega
end Go.Proofs.YtmbjhpgemphmmaaDoor
