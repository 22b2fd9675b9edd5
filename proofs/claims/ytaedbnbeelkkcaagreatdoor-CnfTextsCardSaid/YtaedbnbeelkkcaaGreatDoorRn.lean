
/-
  WALKS: cnf.number, cnf.clause.
-/
import Derived.Test.YtaedbnbeelkkcaaGreatDoorRt
import Derived.Test.YtaedbnbeelkkcaaGreatDoorRo
namespace Go.Proofs.YtaedbnbeelkkcaaGreatDoor
open Go.RowKit
/-- strconv's two errors are there -/
def AtE (w : World) : Prop := (∃ t p, w.cell? ⟨12, 0, none⟩ = some (.iface t p)) ∧ (∃ t p, w.cell? ⟨13, 0, none⟩ = some (.iface t p))
theorem AtE.below {w w' : World} (h : AtE w) (hb : Below w.heap.size w w') : AtE w' := by
  obtain ⟨⟨t, p, h1⟩, ⟨t2, p2, h2⟩⟩ := h
  exact ⟨⟨t, p, (hb.cell (World.block_lt_of_cell? _ _ h1)).trans h1⟩, ⟨t2, p2, (hb.cell (World.block_lt_of_cell? _ _ h2)).trans h2⟩⟩
def AtP (w : World) (s : ByteArray) (e : Ending) (w' : World) : Prop :=
  ∃ n er, e = .returned (.tuple #[.int .i64 n, er]) ∧ Below w.heap.size w w' ∧ ((er = .nilIface ∧ Lib.atoiAll s.data.toList = .ok n) ∨ ((∃ t p, er = .iface t (.pointer (some p))) ∧ ∀ v, Lib.atoiAll s.data.toList ≠ .ok v))
theorem atoi_any {w : World} {s : ByteArray} (hs : s.size ≤ 1000000) (h : AtE w) : Calls Tryz.prog 39 #[.string s] w (AtP w s) := by
  obtain ⟨⟨t, p, h1⟩, ⟨t2, p2, h2⟩⟩ := h
  cases hA : Lib.atoiAll s.data.toList with
  | ok v =>
    refine (Tryz.strconv_Atoi_ok s (by omega) v hA w).mono ?_
    rintro e w' ⟨rfl, hw⟩
    refine ⟨v, _, rfl, ?_, .inl ⟨rfl, hA⟩⟩
    rcases hw with rfl | ⟨t, rfl⟩
    · exact Below.refl _ _
    · exact Lib.bytesWorld_below _ _ _
  | «syntax» =>
    refine (Tryz.strconv_Atoi_syntax s (by omega) hA _ w h1 (.inr ⟨_, _, rfl⟩)).mono ?_
    rintro e w' ⟨N, rfl, _, _, hb⟩
    exact ⟨_, _, rfl, hb, .inr ⟨⟨_, _, rfl⟩, fun v hv => by rw [hA] at hv; cases hv⟩⟩
  | range =>
    refine (Tryz.strconv_Atoi_range s (by omega) hA _ w h2 (.inr ⟨_, _, rfl⟩)).mono ?_
    rintro e w' ⟨N, rfl, _, _, hb⟩
    exact ⟨_, _, rfl, hb, .inr ⟨⟨_, _, rfl⟩, fun v hv => by rw [hA] at hv; cases hv⟩⟩
/-- a number as it is written -/
def NumIs (l : List UInt8) (n : Int) : Prop := Lib.atoiAll l = .ok n ∧ Lib.itoa n = l
def NumP (w : World) (s : ByteArray) (e : Ending) (w' : World) : Prop :=
  ∃ n b, e = .returned (.tuple #[.int .i64 n, .bool b]) ∧ Below w.heap.size w w' ∧ ((b = true ∧ NumIs s.data.toList n) ∨ (b = false ∧ ∀ v, ¬ NumIs s.data.toList v))
set_option maxHeartbeats 1000000 in
theorem number_any {w : World} {s : ByteArray} (hs : s.size ≤ 1000000) (ht : Tens w) (ha : AtE w) : Calls Tryz.prog 27 #[.string s] w (NumP w s) := by
  have CA := Lib.hid (atoi_any hs ha)
  have HT := Lib.hid ht
  clear hs ht ha
  go_enter Tryz.func27, Tryz.ntmps27
  go_wp2_with fail
  refine CA.out.mono ?_
  rintro e w2 ⟨n, er, rfl, hb, hres⟩
  have HB := Lib.hid hb
  rcases hres with ⟨rfl, hA⟩ | ⟨⟨t, p, rfl⟩, hno⟩
  · obtain ⟨v0, v1⟩ := Lib.atoiAll_bounds hA
    have CI := Lib.hid (itoa_any (n := n) (HT.out.below hb) v0 v1)
    have HA := Lib.hid hA
    clear hA v0 v1 hb
    go_wp2_with fail
    refine CI.out.mono ?_
    rintro e w3 ⟨rfl, hb3⟩
    have HB3 := Lib.hid (HB.out.trans (hb3.mono HB.out.size))
    clear hb3
    go_wp2_with fail
    go_ret2
    refine ⟨_, _, rfl, HB3.out, ?_⟩
    rw [ByteArray.toList_eq]
    cases hq : (Lib.itoa n == s.data.toList) with
    | true => exact .inl ⟨rfl, HA.out, by simpa using hq⟩
    | false =>
      refine .inr ⟨rfl, fun v hv => ?_⟩
      have h1 := hv.1
      rw [HA.out] at h1
      injection h1 with h1
      subst h1
      rw [hv.2] at hq
      simp at hq
  · have HNO := Lib.hid hno
    clear hno hb
    go_wp2_with fail
    go_ret2
    exact ⟨_, _, rfl, HB.out, .inr ⟨rfl, fun v hv => HNO.out v hv.1⟩⟩
/-- the bound of Go's own search is there -/
def MaxL (w : World) : Prop := ∃ m : Int, w.cell? ⟨11, 0, none⟩ = some (.int .i64 m)
theorem MaxL.below {w w' : World} (h : MaxL w) (hb : Below w.heap.size w w') : MaxL w' := by
  obtain ⟨m, h⟩ := h
  exact ⟨m, (hb.cell (World.block_lt_of_cell? _ _ h)).trans h⟩
theorem split_any {w : World} {s : ByteArray} {c : UInt8} (hs : s.size ≤ 1000000) (hm : MaxL w) : Calls Tryz.prog 24 #[.string s, .string ⟨#[c]⟩] w fun e w' =>
    e = .returned (.slice (some ⟨w.heap.size, 0, none⟩) (Rd.pieces c s).length (Rd.pieces c s).length) ∧ w' = w.alloc (.cells ((Rd.pieces c s).map Value.string).toArray 9) := by
  obtain ⟨m, hm⟩ := hm
  have h := Tryz.strings_Split s ⟨#[c]⟩ m w (by omega) hm (by simp [ByteArray.size])
  rw [Rd.pieces_len]
  exact h
/-- the words of a clause's line so far -/
def ClR (W2 : World) (ws : List ByteArray) (cv iv : Value) (wr : World) : Prop :=
  ∃ (k : Nat) (xs : List Int), k ≤ ws.length ∧ iv = .int .i64 (k : Nat) ∧ (∃ A c, cv = .slice A xs.length c) ∧ xs.length ≤ k ∧ wr.ownsRow W2.heap.size 3 1 cv xs.length (litVals xs) ∧ Below W2.heap.size W2 wr ∧ (∀ n ∈ xs, n ≠ 0) ∧
    ((k < ws.length ∧ (ws.take k).map (·.data.toList) = xs.map Lib.itoa) ∨ (k = ws.length ∧ ws.map (·.data.toList) = xs.map Lib.itoa ++ [[48]]))
/-- clause's answer -/
def ClP (w : World) (s : ByteArray) (e : Ending) (w' : World) : Prop :=
  ∃ cv b, e = .returned (.tuple #[cv, .bool b]) ∧ Below w.heap.size w w' ∧ ((b = false ∧ cv = .slice none 0 0) ∨
    (b = true ∧ ∃ (xs : List Int) (A : Option Addr) (c : Nat), cv = .slice A xs.length c ∧ w'.ownsRow w.heap.size 3 1 cv xs.length (litVals xs) ∧ s.data.toList = Rd.txC xs ∧ xs.length ≤ s.size ∧ ∀ n ∈ xs, n ≠ 0))
set_option maxRecDepth 100000 in
set_option maxHeartbeats 4000000 in
theorem clause_any {w : World} {s : ByteArray} (hs : s.size ≤ 100000) (ht : Tens w) (ha : AtE w) (hm : MaxL w) : Calls Tryz.prog 28 #[.string s] w (ClP w s) := by
  obtain ⟨i0, hi0, hz0, hz1, hz2⟩ := info_parts infoIntR_
  have HIN := Lib.hid (show _ ∧ _ ∧ _ ∧ _ from ⟨hi0, hz0, hz1, hz2⟩)
  have CS := split_any (c := 32) (by omega : s.size ≤ 1000000) hm
  obtain ⟨ws, hws⟩ : ∃ ws, Rd.pieces 32 s = ws := ⟨_, rfl⟩
  have hwl : ws.length ≤ s.size + 1 ∧ 1 ≤ ws.length := by rw [← hws]; exact ⟨Rd.pieces_le 32 s, by rw [Rd.pieces_len]; omega⟩
  have hwz : ∀ x ∈ ws, x.size ≤ 1000000 := fun x hx => by rw [← hws] at hx; have := Rd.piece_size hx; omega
  have hwj : Lib.join (ws.map (·.data.toList)) [32] = s.data.toList := by rw [← hws]; exact Rd.pieces_join 32 s
  rw [hws] at CS
  obtain ⟨wl, hwl'⟩ : ∃ wl, ws.length = wl := ⟨_, rfl⟩
  rw [hwl'] at CS hwl
  have CS := Lib.hid CS
  obtain ⟨W2, hW2⟩ : ∃ W2, W2 = w.alloc (.cells (ws.map Value.string).toArray 9) := ⟨_, rfl⟩
  have hb2 : Below w.heap.size w W2 := by rw [hW2]; exact (Below.refl _ _).alloc (Nat.le_refl _) _
  have k2 : Blk W2 w.heap.size 9 (ws.map Value.string).toArray := by rw [hW2]; exact Blk.new w _ _
  have HW2 := Lib.hid hW2
  have HB2 := Lib.hid hb2
  have HK2 := Lib.hid k2
  have HT := Lib.hid (ht.below hb2)
  have HA := Lib.hid (ha.below hb2)
  have HWZ := Lib.hid hwz
  have HWJ := Lib.hid hwj
  have HWL := Lib.hid hwl'
  obtain ⟨hwl, hwl1⟩ := hwl
  clear hi0 hz0 hz1 hz2 hws hwz hwj hwl' hW2 hb2 k2 ht ha hm
  go_enter Tryz.func28, Tryz.ntmps28
  go_wp2_with fail
  refine CS.out.mono ?_
  rintro e w2 ⟨rfl, rfl⟩
  rw [← HW2.out]
  go_wp2_with fail
  go_loopw [5, 15] (fun cv iv wr => ClR W2 ws cv iv wr) (fun _ iv _ => ws.length - (intOf iv).toNat)
  case atStart => exact ⟨0, [], Nat.zero_le _, rfl, ⟨_, _, rfl⟩, Nat.le_refl _, own_full0 (xs := []) (Nat.le_refl _) rfl (by omega), (Below.refl _ _).alloc (Nat.le_refl _) _, by simp, .inl ⟨by have := HWL.out; omega, by simp⟩⟩
  case round =>
    obtain ⟨k, xs, hk, rfl, ⟨Ac, cc, rfl⟩, hxk, hown, hb, hnz, hal⟩ := hrel
    rw [HWL.out] at hk hal
    obtain ⟨m, hm⟩ : ∃ m, xs.length = m := ⟨_, rfl⟩
    rw [hm] at hxk hown
    rw [hm]
    have HO := Lib.hid hown
    have HBW := Lib.hid hb
    have HB := Lib.hid (HB2.out.trans (hb.mono HB2.out.size))
    have HNZ := Lib.hid hnz
    have HAL := Lib.hid hal
    have HM := Lib.hid hm
    have hsw : W2.heap.size ≤ wr.heap.size := hb.size
    clear hown hb hnz hal hm
    by_cases hk2 : k < wl
    · obtain ⟨x, hx⟩ : ∃ x, ws[k]? = some x := ⟨_, List.getElem?_eq_getElem (by have := HWL.out; omega)⟩
      have ck : wr.cell? ⟨w.heap.size, k, none⟩ = some (.string x) := by
        rw [(HK2.out.below HBW.out HK2.out.lt).cell k]; simp [hx]
      have CN := Lib.hid (number_any (s := x) (HWZ.out x (List.mem_of_getElem? hx)) (HT.out.below HBW.out) (HA.out.below HBW.out))
      have HX := Lib.hid hx
      clear hx
      go_wp2_with fail
      refine CN.out.mono ?_
      rintro e w3 ⟨n, b, rfl, hb3, hres⟩
      have HB3 := Lib.hid (HB.out.trans (hb3.mono HB.out.size))
      have HBW3 := Lib.hid (HBW.out.trans (hb3.mono HBW.out.size))
      have HO3 := Lib.hid (own_chg HO.out (S := fun _ _ => False) (.of_new hb3) (by simp))
      have hs3 : wr.heap.size ≤ w3.heap.size := hb3.size
      clear hb3 ck
      rcases hres with ⟨rfl, hnum⟩ | ⟨rfl, _⟩
      · have HNUM := Lib.hid hnum
        clear hnum
        by_cases hlast : k + 1 = wl
        · have e1 : ((k : Int) == (wl : Int) - 1) = true := by simp; omega
          by_cases h0 : n = 0
          · subst h0
            go_wp2_with fail
            go_roundw
            case rel =>
              refine ⟨k + 1, xs, by have := HWL.out; omega, by go_num, by rw [HM.out]; exact ⟨_, _, rfl⟩, by rw [HM.out]; omega, by rw [HM.out]; exact HO3.out, HBW3.out, HNZ.out, .inr ⟨by have := HWL.out; omega, ?_⟩⟩
              have hw : ws = ws.take k ++ [x] := by
                rw [← Gm.take_one HX.out, List.take_of_length_le (by have := HWL.out; omega)]
              obtain ⟨_, ht⟩ | ⟨h, _⟩ := HAL.out
              · rw [hw, List.map_append, ht]
                have := HNUM.out.2
                rw [Rd.itoa_0] at this
                simp [this]
              · omega
            case measure => have := HWL.out; simp [intOf]; omega
          · have e0 : (n == 0) = false := by simpa using h0
            go_wp2_with fail
            go_ret2
            exact ⟨_, _, rfl, HB3.out, .inl ⟨rfl, rfl⟩⟩
        · have e1 : ((k : Int) == (wl : Int) - 1) = false := by simp; omega
          by_cases h0 : n = 0
          · subst h0
            go_wp2_with fail
            go_ret2
            exact ⟨_, _, rfl, HB3.out, .inl ⟨rfl, rfl⟩⟩
          · have e0 : (n == 0) = false := by simpa using h0
            have HN0 := Lib.hid h0
            clear h0
            go_wp2_with (at_builtin; refine wpList_append_sl _ rfl (.tmp 39) (.tmp 41) _ rfl W2.heap.size 3 i0 _ 1 8 Tryz.underlying43 HIN.out.1 HIN.out.2.1 HIN.out.2.2.1 HIN.out.2.2.2 rfl (by omega) _ m _ rfl (HO3.out.alloc _) (w3.heap.size + 1) (some ⟨w3.heap.size, 0, none⟩) 1 1 [.int .i64 n] rfl (reads_new rfl (by omega) rfl) (ints_one (by simp)) (le_maxLen (by omega)) (le_bytes (by omega) (by omega)) (by simp; omega) ?_; intro A5 c5 w5 hown5 hg5)
            have hg6 : (w3.alloc (.cells #[.int .i64 n] 3)).grownBy w5 (Value.slice Ac m cc).ownBlock := hg5
            have HB5 := Lib.hid (own_grown_below0 HBW3.out HO3.out (Nat.le_refl _) hg6)
            have HO5 := Lib.hid (show w5.ownsRow W2.heap.size 3 1 (.slice A5 (m + 1) c5) (m + 1) (litVals (xs ++ [n])) by unfold litVals at hown5 ⊢; rw [List.map_append]; exact hown5)
            clear hown5 hg5 hg6
            go_wp2_with fail
            go_roundw
            case rel =>
              have hl : (xs ++ [n]).length = m + 1 := by rw [List.length_append, HM.out]; rfl
              refine ⟨k + 1, xs ++ [n], by have := HWL.out; omega, by go_num, by rw [hl]; exact ⟨_, _, rfl⟩, by rw [hl]; omega, by rw [hl]; exact HO5.out, HB5.out, fun y hy => ?_, .inl ⟨by have := HWL.out; omega, ?_⟩⟩
              · rcases List.mem_append.1 hy with hy | hy
                · exact HNZ.out y hy
                · rw [List.mem_singleton.1 hy]; exact HN0.out
              · obtain ⟨_, ht⟩ | ⟨h, _⟩ := HAL.out
                · rw [Gm.take_one HX.out, List.map_append, ht, List.map_append]
                  have := HNUM.out.2
                  simp [this]
                · omega
            case measure => have := HWL.out; simp [intOf]; omega
      · go_wp2_with fail
        go_ret2
        exact ⟨_, _, rfl, HB3.out, .inl ⟨rfl, rfl⟩⟩
    · obtain rfl : wl = k := by omega
      obtain ⟨h, _⟩ | ⟨_, ht⟩ := HAL.out
      · omega
      have hl := congrArg List.length ht
      simp only [List.length_map, List.length_append, List.length_singleton, HWL.out, HM.out] at hl
      have hj := HWJ.out
      rw [ht, Rd.words_join] at hj
      have HJ := Lib.hid hj
      clear ht hj
      go_wp2_with fail
      go_ret2
      exact ⟨_, _, rfl, HB.out, .inr ⟨rfl, xs, Ac, cc, by rw [HM.out]; rfl, by rw [HM.out]; exact own_base HO.out HB2.out.size, HJ.out.symm, by rw [HM.out]; omega, HNZ.out⟩⟩
end Go.Proofs.YtaedbnbeelkkcaaGreatDoor
