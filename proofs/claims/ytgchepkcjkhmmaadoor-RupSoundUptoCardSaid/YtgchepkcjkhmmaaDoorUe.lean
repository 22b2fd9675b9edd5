/-
  WALKS of slices.SortStableFunc's family at int: symMerge.
-/
import Derived.Test.YtgchepkcjkhmmaaDoorUd
import Derived.RowKitTokens
import Derived.Deep.DeepCutAuto
namespace Go.Proofs.YtgchepkcjkhmmaaDoor.srt
open Go.RowKit Go.Sort
def SeL (f : Int → Int) (w : World) (g md b : Nat) (d : List Int) (x : Int) (iv jv : Value) (wr : World) : Prop := ∃ (i j m' : Nat), md ≤ i ∧ i ≤ j ∧ j ≤ b ∧ iv = .int .i64 (i : Nat) ∧ jv = .int .i64 (j : Nat) ∧ wr = rowW w g d m' ∧ (∀ (k : Nat) y, md ≤ k → k < i → d[k]? = some y → f y < f x) ∧ ∀ (k : Nat) y, j ≤ k → k < b → d[k]? = some y → f x ≤ f y
def SwL (f : Int → Int) (w : World) (g a b i : Nat) (d : List Int) (x : Int) (kv : Value) (wr : World) : Prop := ∃ (k m' : Nat) (d' : List Int), a ≤ k ∧ k + 1 ≤ i ∧ kv = .int .i64 (k : Nat) ∧ wr = rowW w g d' m' ∧ d'[k]? = some x ∧ ExS f d' a b k ∧ (∀ (p : Nat) y, a ≤ p → p < i → d'[p]? = some y → f y ≤ f x) ∧ (∀ (q : Nat) y, i ≤ q → q < b → d'[q]? = some y → f x ≤ f y) ∧ Pm a b d d'
set_option maxRecDepth 100000 in
set_option maxHeartbeats 4000000 in
theorem sym_left {w : World} {g N cap m a b gf : Nat} {cb : Array Value} {f : Int → Int} {D : Int → Prop} {d d0 : List Int} (hH : Holds (Value.int .i64) w g 0 d0.toArray) (hl0 : d0.length = N) (hl : d.length = N) (hN : N ≤ 1000000) (hD : ∀ x ∈ d, D x) (hf : ∀ x, D x → -1 ≤ f x ∧ f x ≤ 1)
    (eg : ∀ args w, (callFunc gf args).run Tryd.prog w = .ok (.enter gf args) w) (hc : CmpOk gf cb f D w g N) (hab : a + 1 < b) (hb : b ≤ N) (hs : Srt f d (a + 1) b) :
    Calls Tryd.prog 68 #[.slice (some ⟨g, 0, none⟩) N cap, .int .i64 (a : Nat), .int .i64 ((a + 1 : Nat) : Int), .int .i64 (b : Nat), .func (.func gf) #[] cb] (rowW w g d m) fun e w' => e = .returned (.tuple #[]) ∧ ∃ m' d', w' = rowW w g d' m' ∧ Srt f d' a b ∧ Pm a b d d' := by
  obtain ⟨md, hmd⟩ : ∃ md, a + 1 = md := ⟨_, rfl⟩
  obtain ⟨x, hx⟩ : ∃ x, d[a]? = some x := ⟨_, List.getElem?_eq_getElem (by omega)⟩
  have w1 : IntKind.i64.wrap ((md : Int) - (a : Int)) = 1 := by rw [IntKind.wrap_i64]; omega
  rw [hmd] at hs ⊢
  have hma : a < md := by omega
  have hma2 : md ≤ a + 1 := by omega
  have HM := Lib.hid hmd
  have HX := Lib.hid hx
  have HS := Lib.hid hs
  have HH := Lib.hid hH
  have HL := Lib.hid hl
  have HL0 := Lib.hid hl0
  have HC := Lib.hid hc
  have HD := Lib.hid hD
  have HF := Lib.hid hf
  clear hH hl hl0 hc hD hf hs hmd hx
  go_enter Tryd.func68, Tryd.ntmps68
  go_wp2_with fail
  go_loopw [10, 11] (fun iv jv wr => SeL f w g md b d x iv jv wr) (fun iv jv _ => (intOf jv).toNat - (intOf iv).toNat)
  case atStart => exact ⟨md, b, m, Nat.le_refl _, by have := HM.out; omega, Nat.le_refl _, rfl, rfl, rfl, fun k y h1 h2 _ => by omega, fun k y h1 h2 _ => by omega⟩
  case round =>
    obtain ⟨i, j, m1, hi, hij, hj, rfl, rfl, hwr, h1, h2⟩ := hrel
    by_cases hlt : i < j
    · obtain ⟨s, hs⟩ : ∃ s, i + j = s := ⟨_, rfl⟩
      obtain ⟨h, hh⟩ : ∃ h, s / 2 = h := ⟨_, rfl⟩
      have ws : IntKind.i64.wrap ((i : Int) + (j : Int)) = (s : Int) := by rw [IntKind.wrap_i64]; omega
      have hsh : (s : Int) / 2 = (h : Int) := by omega
      obtain ⟨y, hy⟩ : ∃ y, d[h]? = some y := ⟨_, List.getElem?_eq_getElem (by have := HL.out; omega)⟩
      have hll : d.length = d0.length := by rw [HL.out, HL0.out]
      have cx : wr.cell? ⟨g, a, none⟩ = some (.int .i64 x) := by rw [hwr]; exact rowW_cell HH.out hll HX.out
      have cy : wr.cell? ⟨g, h, none⟩ = some (.int .i64 y) := by rw [hwr]; exact rowW_cell HH.out hll hy
      have hDx : D x := HD.out x (List.mem_of_getElem? HX.out)
      have hDy : D y := HD.out y (List.mem_of_getElem? hy)
      have hc := HC.out.at_ (m := m1) HL.out hDy hDx
      rw [← hwr] at hc
      have hfx := HF.out x hDx
      have hfy := HF.out y hDy
      have haN : (a : Int) < (N : Int) := by omega
      have hhN : (h : Int) < (N : Int) := by omega
      have hih : i ≤ h ∧ h < j := by omega
      have HWR := Lib.hid hwr
      have HY := Lib.hid hy
      have H1 := Lib.hid h1
      have H2 := Lib.hid h2
      have HSS := Lib.hid hs
      have HHH := Lib.hid hh
      clear hwr hy hDx hDy h1 h2 hs hh hll
      by_cases hlv : f y < f x
      · have hlv' : f y - f x < 0 := by omega
        have H1' := Lib.hid (show ∀ (k : Nat) z, md ≤ k → k < h + 1 → d[k]? = some z → f z < f x from fun k z k1 k2 hz => by
          have := HS.out k h z y (by omega) (by omega) (by omega) hz HY.out
          omega)
        go_wp2_with fail
        go_quiet ((go_at_fn gf; refine Calls.quiet_of (hc _)))
        go_wp2_with fail
        go_roundw
        case rel => exact ⟨h + 1, j, m1 + nq, by omega, by omega, hj, by go_num, rfl, by rw [HWR.out, rowW_drewN], H1'.out, H2.out⟩
        case measure => simp [intOf]; omega
      · have hlv' : ¬ (f y - f x < 0) := by omega
        have H2' := Lib.hid (show ∀ (k : Nat) z, h ≤ k → k < b → d[k]? = some z → f x ≤ f z from fun k z k1 k2 hz => by
          have := HS.out h k y z (by omega) k1 k2 HY.out hz
          omega)
        go_wp2_with fail
        go_quiet ((go_at_fn gf; refine Calls.quiet_of (hc _)))
        go_wp2_with fail
        go_roundw
        case rel => exact ⟨i, h, m1 + nq, by omega, by omega, by omega, rfl, rfl, by rw [HWR.out, rowW_drewN], H1.out, H2'.out⟩
        case measure => simp [intOf]; omega
    · obtain rfl : j = i := by omega
      obtain ⟨t, ht⟩ : ∃ t, j - 1 = t := ⟨_, rfl⟩
      have wt : IntKind.i64.wrap ((j : Int) - 1) = (t : Int) := by rw [IntKind.wrap_i64]; omega
      have HST := Lib.hid (show SwL f w g a b j d x (.int .i64 (a : Nat)) wr from ⟨a, m1, d, Nat.le_refl _, by have := HM.out; omega, rfl, hwr, HX.out, ExS.bottom (by rw [HM.out]; exact HS.out), fun p y p1 p2 hy => by
        by_cases e : p = a
        · subst e; rw [HX.out] at hy; injection hy with hy; subst hy; exact Int.le_refl _
        · exact Int.le_of_lt (h1 p y (by have := HM.out; omega) p2 hy), h2, Pm.refl _ _ _⟩)
      have htj : t < j := by omega
      have htj2 : j ≤ t + 1 := by omega
      clear hwr h1 h2 ht
      go_wp2_with fail
      go_loopw [13] (fun kv wr => SwL f w g a b j d x kv wr) (fun kv _ => j - (intOf kv).toNat)
      case atStart => exact HST.out
      case round =>
        obtain ⟨k, m2, d2, hak, hki, rfl, hwr, hx, hex, hlo, hhi, hpm⟩ := hrel
        by_cases hkt : k < t
        · have hl2 : d2.length = d0.length := by rw [hpm.len, HL.out, HL0.out]
          obtain ⟨y, hy⟩ : ∃ y, d2[k + 1]? = some y := ⟨_, List.getElem?_eq_getElem (by rw [hl2, HL0.out]; omega)⟩
          obtain ⟨k1, hk1⟩ : ∃ k1, k + 1 = k1 := ⟨_, rfl⟩
          rw [hk1] at hy
          have cx : wr.cell? ⟨g, k, none⟩ = some (.int .i64 x) := by rw [hwr]; exact rowW_cell HH.out hl2 hx
          have cy : wr.cell? ⟨g, k1, none⟩ = some (.int .i64 y) := by rw [hwr]; exact rowW_cell HH.out hl2 hy
          have fx : wr.frozen? ⟨g, k, none⟩ = false := by rw [hwr]; exact rowW_frozen HH.out hl2 hx
          have fy : wr.frozen? ⟨g, k1, none⟩ = false := by rw [hwr]; exact rowW_frozen HH.out hl2 hy
          have wk : IntKind.i64.wrap ((k : Int) + 1) = (k1 : Int) := by rw [IntKind.wrap_i64]; omega
          have kz : (k1 : Int) < (N : Int) := by omega
          have kz1 : (k : Int) < (N : Int) := by omega
          have hne : k ≠ k1 := by omega
          have E1 := Lib.hid (rowW_swap (w := w) (g := g) (m := m2) hx hy)
          have E2 := Lib.hid (rowW_swap' (w := w) (g := g) (m := m2) hx hy hne)
          have HEX := Lib.hid (show ExS f ((d2.set k y).set k1 x) a b k1 by rw [← hk1] at hy ⊢; exact hex.up hx hy (by omega))
          have HLO := Lib.hid (show ∀ (p : Nat) z, a ≤ p → p < j → ((d2.set k y).set k1 x)[p]? = some z → f z ≤ f x from fun p z p1 p2 hz => by
            rw [swap_at hx hy] at hz
            split at hz
            · injection hz with hz; subst hz; exact Int.le_refl _
            · split at hz
              · injection hz with hz; subst hz; exact hlo k1 y (by omega) (by omega) hy
              · exact hlo p z p1 p2 hz)
          have HHI := Lib.hid (show ∀ (q : Nat) z, j ≤ q → q < b → ((d2.set k y).set k1 x)[q]? = some z → f x ≤ f z from fun q z p1 p2 hz => by
            rw [swap_at hx hy, if_neg (by omega), if_neg (by omega)] at hz
            exact hhi q z p1 p2 hz)
          have HPM2 := Lib.hid (hpm.trans (Pm.swap hx hy (a := a) (b := b) (by omega) (by omega) (by omega) (by omega)))
          have HXX := Lib.hid (show ((d2.set k y).set k1 x)[k1]? = some x by rw [swap_at hx hy, if_pos rfl])
          have HWR := Lib.hid hwr
          have hka : k < k1 := by omega
          have hkb : k1 ≤ k + 1 := by omega
          clear hwr hx hy hex hlo hhi hpm hl2 hk1
          go_wp2_with fail
          go_region
          all_goals go_wp2
          all_goals go_roundw
          all_goals first
            | exact ⟨k1, m2 + 1, _, by omega, by omega, by go_num, by rw [HWR.out]; first | exact E1.out | exact E2.out, HXX.out, HEX.out, HLO.out, HHI.out, HPM2.out⟩
            | (simp [intOf]; omega)
        · have HE := Lib.hid (show Srt f d2 a b from hex.srt hx (fun p z p1 p2 hz => hlo p z p1 (by omega) hz) (fun q z p1 p2 hz => hhi q z (by omega) p2 hz))
          have HWR := Lib.hid hwr
          have HPM := Lib.hid hpm
          clear hwr hx hex hlo hhi hpm
          go_wp2_with fail
          exact bodyPost_ret (v := .tuple #[]) (results_none rfl _ _ _) rfl ⟨rfl, m2, d2, HWR.out, HE.out, HPM.out⟩
def SeM (f : Int → Int) (w : World) (g a md : Nat) (d : List Int) (x : Int) (iv jv : Value) (wr : World) : Prop := ∃ (i j m' : Nat), a ≤ i ∧ i ≤ j ∧ j ≤ md ∧ iv = .int .i64 (i : Nat) ∧ jv = .int .i64 (j : Nat) ∧ wr = rowW w g d m' ∧ (∀ (k : Nat) y, a ≤ k → k < i → d[k]? = some y → f y ≤ f x) ∧ ∀ (k : Nat) y, j ≤ k → k < md → d[k]? = some y → f x < f y
def SwM (f : Int → Int) (w : World) (g a b i md : Nat) (d : List Int) (x : Int) (kv : Value) (wr : World) : Prop := ∃ (k m' : Nat) (d' : List Int), i ≤ k ∧ k ≤ md ∧ kv = .int .i64 (k : Nat) ∧ wr = rowW w g d' m' ∧ d'[k]? = some x ∧ ExS f d' a b k ∧ (∀ (p : Nat) y, a ≤ p → p < i → d'[p]? = some y → f y ≤ f x) ∧ (∀ (q : Nat) y, i ≤ q → q < b → d'[q]? = some y → f x ≤ f y) ∧ Pm a b d d'
set_option maxRecDepth 100000 in
set_option maxHeartbeats 4000000 in
theorem sym_right {w : World} {g N cap m a md gf : Nat} {cb : Array Value} {f : Int → Int} {D : Int → Prop} {d d0 : List Int} (hH : Holds (Value.int .i64) w g 0 d0.toArray) (hl0 : d0.length = N) (hl : d.length = N) (hN : N ≤ 1000000) (hD : ∀ x ∈ d, D x) (hf : ∀ x, D x → -1 ≤ f x ∧ f x ≤ 1)
    (eg : ∀ args w, (callFunc gf args).run Tryd.prog w = .ok (.enter gf args) w) (hc : CmpOk gf cb f D w g N) (ham : a + 1 < md) (hb : md + 1 ≤ N) (hs : Srt f d a md) :
    Calls Tryd.prog 68 #[.slice (some ⟨g, 0, none⟩) N cap, .int .i64 (a : Nat), .int .i64 (md : Nat), .int .i64 ((md + 1 : Nat) : Int), .func (.func gf) #[] cb] (rowW w g d m) fun e w' => e = .returned (.tuple #[]) ∧ ∃ m' d', w' = rowW w g d' m' ∧ Srt f d' a (md + 1) ∧ Pm a (md + 1) d d' := by
  obtain ⟨b, hbb⟩ : ∃ b, md + 1 = b := ⟨_, rfl⟩
  obtain ⟨x, hx⟩ : ∃ x, d[md]? = some x := ⟨_, List.getElem?_eq_getElem (by omega)⟩
  obtain ⟨t0, ht0⟩ : ∃ t0, md - a = t0 := ⟨_, rfl⟩
  have w1 : IntKind.i64.wrap ((md : Int) - (a : Int)) = (t0 : Int) := by rw [IntKind.wrap_i64]; omega
  have w1n : ((t0 : Int) == 1) = false := by rw [beq_eq_false_iff_ne]; omega
  have w2 : IntKind.i64.wrap ((b : Int) - (md : Int)) = 1 := by rw [IntKind.wrap_i64]; omega
  have HE0 := Lib.hid (show ExS f d a (md + 1) md from ExS.top hs)
  rw [hbb] at HE0 ⊢
  have hba : md < b := by omega
  have hbc : b ≤ md + 1 := by omega
  have HX := Lib.hid hx
  have HS := Lib.hid hs
  have HH := Lib.hid hH
  have HL := Lib.hid hl
  have HL0 := Lib.hid hl0
  have HC := Lib.hid hc
  have HD := Lib.hid hD
  have HF := Lib.hid hf
  clear hH hl hl0 hc hD hf hs hx ht0 hbb
  go_enter Tryd.func68, Tryd.ntmps68
  go_wp2_with fail
  go_loopw [14, 15] (fun iv jv wr => SeM f w g a md d x iv jv wr) (fun iv jv _ => (intOf jv).toNat - (intOf iv).toNat)
  case atStart => exact ⟨a, md, m, Nat.le_refl _, by omega, Nat.le_refl _, rfl, rfl, rfl, fun k y h1 h2 _ => by omega, fun k y h1 h2 _ => by omega⟩
  case round =>
    obtain ⟨i, j, m1, hi, hij, hj, rfl, rfl, hwr, h1, h2⟩ := hrel
    by_cases hlt : i < j
    · obtain ⟨s, hs⟩ : ∃ s, i + j = s := ⟨_, rfl⟩
      obtain ⟨h, hh⟩ : ∃ h, s / 2 = h := ⟨_, rfl⟩
      have ws : IntKind.i64.wrap ((i : Int) + (j : Int)) = (s : Int) := by rw [IntKind.wrap_i64]; omega
      have hsh : (s : Int) / 2 = (h : Int) := by omega
      obtain ⟨y, hy⟩ : ∃ y, d[h]? = some y := ⟨_, List.getElem?_eq_getElem (by have := HL.out; omega)⟩
      have hll : d.length = d0.length := by rw [HL.out, HL0.out]
      have cx : wr.cell? ⟨g, md, none⟩ = some (.int .i64 x) := by rw [hwr]; exact rowW_cell HH.out hll HX.out
      have cy : wr.cell? ⟨g, h, none⟩ = some (.int .i64 y) := by rw [hwr]; exact rowW_cell HH.out hll hy
      have hDx : D x := HD.out x (List.mem_of_getElem? HX.out)
      have hDy : D y := HD.out y (List.mem_of_getElem? hy)
      have hc := HC.out.at_ (m := m1) HL.out hDx hDy
      rw [← hwr] at hc
      have hfx := HF.out x hDx
      have hfy := HF.out y hDy
      have haN : (md : Int) < (N : Int) := by omega
      have hhN : (h : Int) < (N : Int) := by omega
      have hih : i ≤ h ∧ h < j := by omega
      have HWR := Lib.hid hwr
      have HY := Lib.hid hy
      have H1 := Lib.hid h1
      have H2 := Lib.hid h2
      clear hwr hy hDx hDy h1 h2 hs hh hll
      by_cases hlv : f x < f y
      · have hlv' : decide (f x - f y < 0) = true := decide_eq_true (by omega)
        have H2' := Lib.hid (show ∀ (k : Nat) z, h ≤ k → k < md → d[k]? = some z → f x < f z from fun k z k1 k2 hz => by
          have := HS.out h k y z (by omega) k1 k2 HY.out hz
          omega)
        go_wp2_with fail
        go_quiet ((go_at_fn gf; refine Calls.quiet_of (hc _)))
        go_wp2_with fail
        go_roundw
        case rel => exact ⟨i, h, m1 + nq, by omega, by omega, by omega, rfl, rfl, by rw [HWR.out, rowW_drewN], H1.out, H2'.out⟩
        case measure => simp [intOf]; omega
      · have hlv' : decide (f x - f y < 0) = false := decide_eq_false (by omega)
        have H1' := Lib.hid (show ∀ (k : Nat) z, a ≤ k → k < h + 1 → d[k]? = some z → f z ≤ f x from fun k z k1 k2 hz => by
          have := HS.out k h z y (by omega) (by omega) (by omega) hz HY.out
          omega)
        go_wp2_with fail
        go_quiet ((go_at_fn gf; refine Calls.quiet_of (hc _)))
        go_wp2_with fail
        go_roundw
        case rel => exact ⟨h + 1, j, m1 + nq, by omega, by omega, hj, by go_num, rfl, by rw [HWR.out, rowW_drewN], H1'.out, H2.out⟩
        case measure => simp [intOf]; omega
    · obtain rfl : j = i := by omega
      have HST := Lib.hid (show SwM f w g a b j md d x (.int .i64 (md : Nat)) wr from ⟨md, m1, d, hj, Nat.le_refl _, rfl, hwr, HX.out, HE0.out, h1, fun q y q1 q2 hy => by
        by_cases e : q = md
        · subst e; rw [HX.out] at hy; injection hy with hy; subst hy; exact Int.le_refl _
        · exact Int.le_of_lt (h2 q y q1 (by omega) hy), Pm.refl _ _ _⟩)
      clear hwr h1 h2
      go_wp2_with fail
      go_loopw [17] (fun kv wr => SwM f w g a b j md d x kv wr) (fun kv _ => (intOf kv).toNat)
      case atStart => exact HST.out
      case round =>
        obtain ⟨k1, m2, d2, hjk, hki, rfl, hwr, hx, hex, hlo, hhi, hpm⟩ := hrel
        by_cases hkt : j < k1
        · have hl2 : d2.length = d0.length := by rw [hpm.len, HL.out, HL0.out]
          obtain ⟨k, hk1⟩ : ∃ k, k + 1 = k1 := ⟨k1 - 1, by omega⟩
          obtain ⟨y, hy⟩ : ∃ y, d2[k]? = some y := ⟨_, List.getElem?_eq_getElem (by rw [hl2, HL0.out]; omega)⟩
          have cx : wr.cell? ⟨g, k1, none⟩ = some (.int .i64 x) := by rw [hwr]; exact rowW_cell HH.out hl2 hx
          have cy : wr.cell? ⟨g, k, none⟩ = some (.int .i64 y) := by rw [hwr]; exact rowW_cell HH.out hl2 hy
          have fx : wr.frozen? ⟨g, k1, none⟩ = false := by rw [hwr]; exact rowW_frozen HH.out hl2 hx
          have fy : wr.frozen? ⟨g, k, none⟩ = false := by rw [hwr]; exact rowW_frozen HH.out hl2 hy
          have wk : IntKind.i64.wrap ((k1 : Int) - 1) = (k : Int) := by rw [IntKind.wrap_i64]; omega
          have kz : (k1 : Int) < (N : Int) := by omega
          have kz1 : (k : Int) < (N : Int) := by omega
          have hne : k1 ≠ k := by omega
          have E1 := Lib.hid (rowW_swap (w := w) (g := g) (m := m2) hx hy)
          have E2 := Lib.hid (rowW_swap' (w := w) (g := g) (m := m2) hx hy hne)
          have HEX := Lib.hid (show ExS f ((d2.set k1 y).set k x) a b k by rw [← hk1] at hx hex ⊢; exact hex.down hx hy (by omega))
          have HLO := Lib.hid (show ∀ (p : Nat) z, a ≤ p → p < j → ((d2.set k1 y).set k x)[p]? = some z → f z ≤ f x from fun p z p1 p2 hz => by
            rw [swap_at hx hy, if_neg (by omega), if_neg (by omega)] at hz
            exact hlo p z p1 p2 hz)
          have HHI := Lib.hid (show ∀ (q : Nat) z, j ≤ q → q < b → ((d2.set k1 y).set k x)[q]? = some z → f x ≤ f z from fun q z p1 p2 hz => by
            rw [swap_at hx hy] at hz
            split at hz
            · injection hz with hz; subst hz; exact Int.le_refl _
            · split at hz
              · injection hz with hz; subst hz; exact hhi k y (by omega) (by omega) hy
              · exact hhi q z p1 p2 hz)
          have HPM2 := Lib.hid (hpm.trans (Pm.swap hx hy (a := a) (b := b) (by omega) (by omega) (by omega) (by omega)))
          have HXX := Lib.hid (show ((d2.set k1 y).set k x)[k]? = some x by rw [swap_at hx hy, if_pos rfl])
          have HWR := Lib.hid hwr
          have hka : k < k1 := by omega
          have hkb : k1 ≤ k + 1 := by omega
          clear hwr hx hy hex hlo hhi hpm hl2 hk1
          go_wp2_with fail
          go_region
          all_goals go_wp2
          all_goals go_roundw
          all_goals first
            | exact ⟨k, m2 + 1, _, by omega, by omega, by go_num, by rw [HWR.out]; first | exact E1.out | exact E2.out, HXX.out, HEX.out, HLO.out, HHI.out, HPM2.out⟩
            | (simp [intOf]; done)
            | (simp [intOf]; omega)
        · obtain rfl : k1 = j := by omega
          have HE := Lib.hid (show Srt f d2 a b from hex.srt hx hlo (fun q z p1 p2 hz => hhi q z (by omega) p2 hz))
          have HWR := Lib.hid hwr
          have HPM := Lib.hid hpm
          clear hwr hx hex hlo hhi hpm
          go_wp2_with fail
          exact bodyPost_ret (v := .tuple #[]) (results_none rfl _ _ _) rfl ⟨rfl, m2, d2, HWR.out, HE.out, HPM.out⟩
end Go.Proofs.YtgchepkcjkhmmaaDoor.srt
