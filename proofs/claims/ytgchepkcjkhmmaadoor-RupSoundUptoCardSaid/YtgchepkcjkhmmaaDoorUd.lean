/-
  WALKS of slices.SortStableFunc's family at int: swapRange, rotate, insertionSort, symMerge, stable.
-/
import Derived.Test.YtgchepkcjkhmmaaDoorProg
import Derived.Test.YtgchepkcjkhmmaaDoorUb
import Derived.Test.YtgchepkcjkhmmaaDoorHs
import Derived.Sort.WalkC
import Derived.BigQuiet
import Derived.BigRegion
import Derived.Deep.QuietTactic
import Derived.Shelf.Abstract
namespace Go.Proofs.YtgchepkcjkhmmaaDoor.srt
open Go.RowKit Go.Sort
/-- the world with the row's cells holding d, some draws on -/
def rowW (w : World) (g : Nat) (d : List Int) (m : Nat) : World := (putRow (Value.int .i64) w g 0 d.toArray).drewN m
section
variable {w : World} {g m : Nat} {d d0 : List Int}
theorem rowW_cell {i : Nat} {x : Int} (hH : Holds (Value.int .i64) w g 0 d0.toArray) (hl : d.length = d0.length) (hx : d[i]? = some x) : (rowW w g d m).cell? ⟨g, i, none⟩ = some (.int .i64 x) := by
  obtain ⟨h1, h2⟩ := List.getElem?_eq_some_iff.1 hx
  have := (holds_putRow (Value.int .i64) w g 0 d0.toArray d.toArray hH (by simpa using hl) i (by simpa using h1)).1
  rw [Nat.zero_add] at this
  have e : (d.toArray)[i]! = x := by simp [h1, h2]
  rw [e] at this
  exact this
theorem rowW_frozen {i : Nat} {x : Int} (hH : Holds (Value.int .i64) w g 0 d0.toArray) (hl : d.length = d0.length) (hx : d[i]? = some x) : (rowW w g d m).frozen? ⟨g, i, none⟩ = false := by
  obtain ⟨h1, h2⟩ := List.getElem?_eq_some_iff.1 hx
  have := (holds_putRow (Value.int .i64) w g 0 d0.toArray d.toArray hH (by simpa using hl) i (by simpa using h1)).2
  rw [Nat.zero_add] at this
  exact this
theorem rowW_swap {i j : Nat} {x y : Int} (hi : d[i]? = some x) (hj : d[j]? = some y) :
    (((rowW w g d m).setCell ⟨g, i, none⟩ (.int .i64 y)).setCell ⟨g, j, none⟩ (.int .i64 x)).drew = rowW w g ((d.set i y).set j x) (m + 1) := by
  obtain ⟨h1, h2⟩ := List.getElem?_eq_some_iff.1 hi
  obtain ⟨h3, h4⟩ := List.getElem?_eq_some_iff.1 hj
  have := swap_worldC (Value.int .i64) w g 0 d.toArray m i j (by simpa using h1) (by simpa using h3)
  have e1 : (d.toArray)[i]! = x := by simp [h1, h2]
  have e2 : (d.toArray)[j]! = y := by simp [h3, h4]
  have e3 : swp d.toArray i j = ((d.set i y).set j x).toArray := by unfold swp; rw [e1, e2]; simp
  rw [e1, e2, Nat.zero_add, Nat.zero_add, e3] at this
  exact this
theorem rowW_swap' {i j : Nat} {x y : Int} (hi : d[i]? = some x) (hj : d[j]? = some y) (hne : i ≠ j) :
    (((rowW w g d m).setCell ⟨g, j, none⟩ (.int .i64 x)).setCell ⟨g, i, none⟩ (.int .i64 y)).drew = rowW w g ((d.set i y).set j x) (m + 1) := by
  rw [rowW_swap hj hi, List.set_comm _ _ hne]
end
def SwR (w : World) (g _m : Nat) (d : List Int) (a b n : Nat) (iv : Value) (wr : World) : Prop := ∃ (k m' : Nat) (d' : List Int), k ≤ n ∧ iv = .int .i64 (k : Nat) ∧ wr = rowW w g d' m' ∧ Swd d d' a b k ∧ Pm a (b + n) d d'
set_option maxRecDepth 100000 in
set_option maxHeartbeats 4000000 in
theorem swapRange_w {w : World} {g N cap m a b n : Nat} {d d0 : List Int} {fv : Value} (hH : Holds (Value.int .i64) w g 0 d0.toArray) (hl0 : d0.length = N) (hl : d.length = N) (hN : N ≤ 1000000) (hab : a + n ≤ b) (hb : b + n ≤ N) :
    Calls Tryd.prog 77 #[.slice (some ⟨g, 0, none⟩) N cap, .int .i64 (a : Nat), .int .i64 (b : Nat), .int .i64 (n : Nat), fv] (rowW w g d m) fun e w' => e = .returned (.tuple #[]) ∧ ∃ m' d', w' = rowW w g d' m' ∧ Swd d d' a b n ∧ Pm a (b + n) d d' := by
  have HH := Lib.hid hH
  have HL := Lib.hid hl
  have HL0 := Lib.hid hl0
  clear hH hl hl0
  go_enter Tryd.func77, Tryd.ntmps77
  go_wp2_with fail
  go_loopw [10] (fun iv wr => SwR w g m d a b n iv wr) (fun iv _ => n - (intOf iv).toNat)
  case atStart => exact ⟨0, m, d, Nat.zero_le _, rfl, rfl, Swd.refl d a b, Pm.refl _ _ _⟩
  case round =>
    obtain ⟨k, m', d', hk, rfl, hwr, hs, hp0⟩ := hrel
    by_cases hkn : k < n
    · obtain ⟨p, hp⟩ : ∃ p, a + k = p := ⟨_, rfl⟩
      obtain ⟨q, hq⟩ : ∃ q, b + k = q := ⟨_, rfl⟩
      obtain ⟨x, hx⟩ : ∃ x, d[p]? = some x := ⟨_, List.getElem?_eq_getElem (by have := HL.out; omega)⟩
      obtain ⟨y, hy⟩ : ∃ y, d[q]? = some y := ⟨_, List.getElem?_eq_getElem (by have := HL.out; omega)⟩
      have hx' : d'[p]? = some x := by rw [hs.2, if_neg (by omega), if_neg (by omega), hx]
      have hy' : d'[q]? = some y := by rw [hs.2, if_neg (by omega), if_neg (by omega), hy]
      have hl' : d'.length = d0.length := by rw [hs.1, HL.out, HL0.out]
      have cx : wr.cell? ⟨g, p, none⟩ = some (.int .i64 x) := by rw [hwr]; exact rowW_cell HH.out hl' hx'
      have cy : wr.cell? ⟨g, q, none⟩ = some (.int .i64 y) := by rw [hwr]; exact rowW_cell HH.out hl' hy'
      have fx : wr.frozen? ⟨g, p, none⟩ = false := by rw [hwr]; exact rowW_frozen HH.out hl' hx'
      have fy : wr.frozen? ⟨g, q, none⟩ = false := by rw [hwr]; exact rowW_frozen HH.out hl' hy'
      have wp : IntKind.i64.wrap ((a : Int) + (k : Int)) = (p : Int) := by rw [IntKind.wrap_i64]; omega
      have wq : IntKind.i64.wrap ((b : Int) + (k : Int)) = (q : Int) := by rw [IntKind.wrap_i64]; omega
      have hpN : (p : Int) < (N : Int) := by omega
      have hqN : (q : Int) < (N : Int) := by omega
      have hpq : p ≠ q := by omega
      have E1 := Lib.hid (rowW_swap (w := w) (g := g) (m := m') hx' hy')
      have E2 := Lib.hid (rowW_swap' (w := w) (g := g) (m := m') hx' hy' hpq)
      have HS := Lib.hid (hs.step (by omega) (by rw [hp]; exact hx) (by rw [hq]; exact hy))
      have HP := Lib.hid hp
      have HPM := Lib.hid (hp0.trans (Pm.swap hx' hy' (by omega) (by omega) (by omega) (by omega)))
      have HQ := Lib.hid hq
      have HWR := Lib.hid hwr
      clear hwr hs hx hy hx' hy' hp hq hl' hp0
      go_wp2_with fail
      go_region
      all_goals go_wp2
      all_goals go_roundw
      all_goals first
        | exact ⟨k + 1, m' + 1, _, by omega, by go_num, by rw [HWR.out]; first | exact E1.out | exact E2.out, by rw [← HP.out, ← HQ.out]; exact HS.out, HPM.out⟩
        | (simp [intOf]; omega)
    · obtain rfl : n = k := by omega
      have HS := Lib.hid hs
      have HWR := Lib.hid hwr
      have HPM := Lib.hid hp0
      clear hs hwr hp0
      go_wp2_with fail
      go_end0
      exact ⟨rfl, m', d', HWR.out, HS.out, HPM.out⟩
def RoR (w : World) (g N a md b : Nat) (d : List Int) (iv jv : Value) (wr : World) : Prop := ∃ (i j m' : Nat) (d' : List Int), 0 < i ∧ 0 < j ∧ a + i ≤ md ∧ md + j ≤ b ∧ iv = .int .i64 (i : Nat) ∧ jv = .int .i64 (j : Nat) ∧ wr = rowW w g d' m' ∧ d'.length = N ∧ Pm a b d d' ∧ ∀ dT, Rot d' dT (md - i) md (md + j) → Rot d dT a md b
set_option maxRecDepth 100000 in
set_option maxHeartbeats 4000000 in
theorem rotate_w {w : World} {g N cap m a md b : Nat} {d d0 : List Int} {fv : Value} (hH : Holds (Value.int .i64) w g 0 d0.toArray) (hl0 : d0.length = N) (hl : d.length = N) (hN : N ≤ 1000000) (ham : a < md) (hmb : md < b) (hb : b ≤ N) :
    Calls Tryd.prog 75 #[.slice (some ⟨g, 0, none⟩) N cap, .int .i64 (a : Nat), .int .i64 (md : Nat), .int .i64 (b : Nat), fv] (rowW w g d m) fun e w' => e = .returned (.tuple #[]) ∧ ∃ m' d', w' = rowW w g d' m' ∧ Rot d d' a md b ∧ Pm a b d d' := by
  have CS := Lib.hid (fun (d' : List Int) (m' a' b' n : Nat) (h1 : d'.length = N) (h2 : a' + n ≤ b') (h3 : b' + n ≤ N) => swapRange_w (m := m') (cap := cap) (fv := fv) hH hl0 h1 hN h2 h3)
  have HL := Lib.hid hl
  clear hH hl hl0
  go_enter Tryd.func75, Tryd.ntmps75
  go_wp2_with fail
  go_loopw [10, 11] (fun iv jv wr => RoR w g N a md b d iv jv wr) (fun iv jv _ => (intOf iv).toNat + (intOf jv).toNat)
  case atStart => exact ⟨md - a, b - md, m, d, by omega, by omega, by omega, by omega, by go_num, by go_num, rfl, HL.out, Pm.refl _ _ _, fun dT h => by rw [show md - (md - a) = a by omega, show md + (b - md) = b by omega] at h; exact h⟩
  case round =>
    obtain ⟨i, j, m', d', hi, hj, hai, hjb, rfl, rfl, rfl, hl, hpm, hrot⟩ := hrel
    have HL2 := Lib.hid hl
    have HPM := Lib.hid hpm
    have HR := Lib.hid hrot
    clear hl hpm hrot
    have w1 : IntKind.i64.wrap ((md : Int) - (i : Int)) = ((md - i : Nat) : Int) := by rw [IntKind.wrap_i64]; omega
    by_cases hij : i = j
    · subst hij
      go_wp2_with fail
      refine (CS.out d' m' (md - i) md i HL2.out (by omega) (by omega)).mono ?_
      rintro e w3 ⟨rfl, m3, d3, rfl, hs, hp⟩
      have HS := Lib.hid hs
      have HP := Lib.hid hp
      clear hs hp
      go_wp2_with fail
      go_end0
      exact ⟨rfl, m3, d3, rfl, HR.out _ (Rot.last HS.out (by omega)), HPM.out.trans (HP.out.mono (by omega) (by omega))⟩
    · have hne : ¬ ((i : Int) = (j : Int)) := by omega
      by_cases hlt : j < i
      · go_wp2_with fail
        refine (CS.out d' m' (md - i) md j HL2.out (by omega) (by omega)).mono ?_
        rintro e w3 ⟨rfl, m3, d3, rfl, hs, hp⟩
        have HS := Lib.hid hs
        have HP := Lib.hid hp
        clear hs hp
        go_wp2_with fail
        go_roundw
        case rel => exact ⟨i - j, j, m3, d3, by omega, by omega, by omega, by omega, by go_num, rfl, rfl, by rw [HS.out.1]; exact HL2.out, HPM.out.trans (HP.out.mono (by omega) (by omega)), fun dT h => HR.out dT (Rot.more_left HS.out h hlt (by omega))⟩
        case measure => simp [intOf]; omega
      · obtain ⟨t, ht⟩ : ∃ t, md + j = t := ⟨_, rfl⟩
        obtain ⟨q, hq⟩ : ∃ q, t - i = q := ⟨_, rfl⟩
        obtain ⟨p, hp⟩ : ∃ p, md - i = p := ⟨_, rfl⟩
        have w2 : IntKind.i64.wrap ((md : Int) + (j : Int)) = (t : Int) := by rw [IntKind.wrap_i64]; omega
        have w3 : IntKind.i64.wrap ((t : Int) - (i : Int)) = (q : Int) := by rw [IntKind.wrap_i64]; omega
        rw [hp] at w1
        have HT := Lib.hid ht
        have HQ := Lib.hid hq
        have HPP := Lib.hid hp
        have C := Lib.hid (CS.out d' m' p q i HL2.out (by omega) (by omega))
        clear ht hq hp
        go_wp2_with fail
        refine C.out.mono ?_
        rintro e w3 ⟨rfl, m3, d3, rfl, hs, hp⟩
        have HS := Lib.hid hs
        have HP := Lib.hid hp
        clear hs hp
        go_wp2_with fail
        go_roundw
        case rel =>
          have hs' := HS.out
          rw [← HPP.out, ← HQ.out, ← HT.out] at hs'
          exact ⟨i, j - i, m3, d3, by omega, by omega, by omega, by omega, rfl, by go_num, rfl, by rw [HS.out.1]; exact HL2.out, HPM.out.trans (HP.out.mono (by have := HPP.out; omega) (by have := HQ.out; have := HT.out; omega)), fun dT h => HR.out dT (Rot.more_right hs' h (by omega) (by omega))⟩
        case measure => simp [intOf]; omega
/-- WHAT IS ASKED OF THE COMPARISON -/
def CmpOk (gf : Nat) (cb : Array Value) (f : Int → Int) (D : Int → Prop) (w : World) (g N : Nat) : Prop :=
  ∀ (X : List Int) (m : Nat) (x y : Int), X.length = N → D x → D y → Calls Tryd.prog gf (#[.int .i64 x, .int .i64 y] ++ cb) (rowW w g X m) fun e w' => e = .returned (.int .i64 (f x - f y)) ∧ ∃ q, w' = (rowW w g X m).drewN q
theorem CmpOk.at_ {gf : Nat} {cb : Array Value} {f : Int → Int} {D : Int → Prop} {w : World} {g N : Nat} (h : CmpOk gf cb f D w g N) {X : List Int} {m : Nat} {x y : Int} (hX : X.length = N) (hx : D x) (hy : D y) (n : Nat) :
    Calls Tryd.prog gf (#[.int .i64 x, .int .i64 y] ++ cb) ((rowW w g X m).drewN n) fun e w' => e = .returned (.int .i64 (f x - f y)) ∧ ∃ q, w' = ((rowW w g X m).drewN n).drewN q := by
  have e : ∀ k, (rowW w g X m).drewN k = rowW w g X (m + k) := fun k => by unfold rowW; rw [World.drewN_drewN]
  rw [e n]
  refine (h X (m + n) x y hX hx hy).mono ?_
  rintro e' w' ⟨h1, q, h2⟩
  exact ⟨h1, q, h2⟩
theorem rowW_drewN (w : World) (g : Nat) (X : List Int) (m k : Nat) : (rowW w g X m).drewN k = rowW w g X (m + k) := by unfold rowW; rw [World.drewN_drewN]
def InR (f : Int → Int) (w : World) (g a b : Nat) (d : List Int) (iv : Value) (wr : World) : Prop := ∃ (i m' : Nat) (d' : List Int), a < i ∧ (i ≤ b ∨ i = a + 1) ∧ iv = .int .i64 (i : Nat) ∧ wr = rowW w g d' m' ∧ Srt f d' a i ∧ Pm a b d d'
def InJ (f : Int → Int) (w : World) (g a b i : Nat) (d : List Int) (jv : Value) (wr : World) : Prop := ∃ (j m' : Nat) (d' : List Int) (x : Int), a ≤ j ∧ j ≤ i ∧ jv = .int .i64 (j : Nat) ∧ wr = rowW w g d' m' ∧ d'[j]? = some x ∧ ExS f d' a (i + 1) j ∧ (∀ (q : Nat) y, j < q → q < i + 1 → d'[q]? = some y → f x ≤ f y) ∧ Pm a b d d'
set_option maxRecDepth 100000 in
set_option maxHeartbeats 4000000 in
theorem insertion_w {w : World} {g N cap m a b gf : Nat} {cb : Array Value} {f : Int → Int} {D : Int → Prop} {d d0 : List Int} (hH : Holds (Value.int .i64) w g 0 d0.toArray) (hl0 : d0.length = N) (hl : d.length = N) (hN : N ≤ 1000000) (hD : ∀ x ∈ d, D x) (hf : ∀ x, D x → -1 ≤ f x ∧ f x ≤ 1)
    (eg : ∀ args w, (callFunc gf args).run Tryd.prog w = .ok (.enter gf args) w) (hc : CmpOk gf cb f D w g N) (hab : a ≤ b) (hb : b ≤ N) :
    Calls Tryd.prog 67 #[.slice (some ⟨g, 0, none⟩) N cap, .int .i64 (a : Nat), .int .i64 (b : Nat), .func (.func gf) #[] cb] (rowW w g d m) fun e w' => e = .returned (.tuple #[]) ∧ ∃ m' d', w' = rowW w g d' m' ∧ Srt f d' a b ∧ Pm a b d d' := by
  have HH := Lib.hid hH
  have HL := Lib.hid hl
  have HL0 := Lib.hid hl0
  have HC := Lib.hid hc
  have HD := Lib.hid hD
  have HF := Lib.hid hf
  clear hH hl hl0 hc hD hf
  go_enter Tryd.func67, Tryd.ntmps67
  go_wp2_with fail
  go_loopw [8] (fun iv wr => InR f w g a b d iv wr) (fun iv _ => b + 1 - (intOf iv).toNat)
  case atStart => exact ⟨a + 1, m, d, by omega, .inr rfl, by go_num, rfl, Srt.one (Nat.le_refl _), Pm.refl _ _ _⟩
  case round =>
    obtain ⟨i, m1, d1, hai, hib, rfl, rfl, hs, hpm⟩ := hrel
    have HS := Lib.hid hs
    have HPM := Lib.hid hpm
    clear hs hpm
    by_cases hlt : i < b
    · go_wp2_with fail
      go_loopw [9] (fun jv wr => InJ f w g a b i d jv wr) (fun jv _ => (intOf jv).toNat)
      case atStart => exact ⟨i, m1, d1, d1[i]'(by rw [HPM.out.len, HL.out]; omega), by omega, Nat.le_refl _, rfl, rfl, List.getElem?_eq_getElem _, ExS.top HS.out, fun q y h1 h2 _ => by omega, HPM.out⟩
      case round =>
        obtain ⟨j, m2, d2, x, haj, hji, rfl, hwr, hx, hex, hrt, hpm2⟩ := hrel
        have hl2 : d2.length = d0.length := by rw [hpm2.len, HL.out, HL0.out]
        by_cases hja : a < j
        · obtain ⟨k, rfl⟩ : ∃ k, j = k + 1 := ⟨j - 1, by omega⟩
          obtain ⟨y, hy⟩ : ∃ y, d2[k]? = some y := ⟨_, List.getElem?_eq_getElem (by rw [hl2, HL0.out]; omega)⟩
          have cx : wr.cell? ⟨g, k + 1, none⟩ = some (.int .i64 x) := by rw [hwr]; exact rowW_cell HH.out hl2 hx
          have cy : wr.cell? ⟨g, k, none⟩ = some (.int .i64 y) := by rw [hwr]; exact rowW_cell HH.out hl2 hy
          have fx : wr.frozen? ⟨g, k + 1, none⟩ = false := by rw [hwr]; exact rowW_frozen HH.out hl2 hx
          have fy : wr.frozen? ⟨g, k, none⟩ = false := by rw [hwr]; exact rowW_frozen HH.out hl2 hy
          have wk : IntKind.i64.wrap (k : Int) = (k : Int) := by rw [IntKind.wrap_i64]; omega
          have kz : (k : Int) + 1 < (N : Int) := by omega
          have kz1 : (k : Int) < (N : Int) := by omega
          have hjaz' : (a : Int) < (k : Int) + 1 := by omega
          have p0 : (0 : Int) ≤ (k : Int) + 1 := by omega
          have e0 : ((k : Int) + 1).toNat = k + 1 := by omega
          have hDx : D x := HD.out x (hpm2.perm.mem_iff.1 (List.mem_of_getElem? hx))
          have hDy : D y := HD.out y (hpm2.perm.mem_iff.1 (List.mem_of_getElem? hy))
          have hc := HC.out.at_ (m := m2) (by rw [hl2, HL0.out]) hDx hDy
          rw [← hwr] at hc
          have hfx := HF.out x hDx
          have hfy := HF.out y hDy
          have HWR := Lib.hid hwr
          have HX := Lib.hid hx
          have HY := Lib.hid hy
          have HEX := Lib.hid hex
          have HRT := Lib.hid hrt
          have HPM2 := Lib.hid hpm2
          clear hwr hx hy hex hrt hpm2 hDx hDy hl2
          by_cases hlv : f x < f y
          · have hlv' : f x - f y < 0 := by omega
            go_wp2_with fail
            go_quiet ((go_at_fn gf; refine Calls.quiet_of (hc _)))
            have HW2 := Lib.hid (show wr.drewN nq = rowW w g d2 (m2 + nq) by rw [HWR.out, rowW_drewN])
            have cx2 : (wr.drewN nq).cell? ⟨g, k + 1, none⟩ = some (.int .i64 x) := cx
            have cy2 : (wr.drewN nq).cell? ⟨g, k, none⟩ = some (.int .i64 y) := cy
            have fx2 : (wr.drewN nq).frozen? ⟨g, k + 1, none⟩ = false := fx
            have fy2 : (wr.drewN nq).frozen? ⟨g, k, none⟩ = false := fy
            clear cx cy fx fy hc
            generalize wr.drewN nq = wq at HW2 cx2 cy2 fx2 fy2 ⊢
            have E1 := Lib.hid (rowW_swap (w := w) (g := g) (m := m2 + nq) HX.out HY.out)
            have E2 := Lib.hid (rowW_swap' (w := w) (g := g) (m := m2 + nq) HX.out HY.out (by omega))
            obtain ⟨j1, hj1⟩ : ∃ j1, k + 1 = j1 := ⟨_, rfl⟩
            rw [hj1] at cx2 fx2 e0
            have J1 := Lib.hid hj1
            have hj1k : j1 ≠ k := by omega
            clear hj1
            go_wp2_with fail
            go_region
            all_goals go_wp2
            all_goals go_roundw
            all_goals first
              | exact ⟨k, m2 + nq + 1, _, x, by omega, by omega, by go_num, by rw [HW2.out, ← J1.out]; first | exact E1.out | exact E2.out, by rw [swap_at HX.out HY.out, if_pos rfl], HEX.out.down HX.out HY.out (by omega), fun q z h1 h2 hz => by
                  rw [swap_at HX.out HY.out, if_neg (by omega)] at hz
                  split at hz
                  · injection hz with hz; subst hz; omega
                  · exact HRT.out q z (by omega) h2 hz, HPM2.out.trans (Pm.swap HX.out HY.out (by omega) (by omega) (by omega) (by omega))⟩
              | (simp [intOf]; done)
          · have hlv' : ¬ (f x - f y < 0) := by omega
            have HSI := Lib.hid (show Srt f d2 a (i + 1) from HEX.out.srt HX.out (fun p z h1 h2 hz => by
              have := HEX.out p k z y h1 (by omega) (by omega) (by omega) (by omega) hz HY.out
              omega) HRT.out)
            go_wp2_with fail
            go_quiet ((go_at_fn gf; refine Calls.quiet_of (hc _)))
            go_wp2
            go_roundw
            case rel => exact ⟨i + 1, m2 + nq, d2, by omega, .inl (by omega), by go_num, by rw [HWR.out, rowW_drewN], HSI.out, HPM2.out⟩
            case measure => simp [intOf]; omega
        · obtain rfl : j = a := by omega
          have HSI := Lib.hid (show Srt f d2 j (i + 1) from hex.srt hx (fun p z h1 h2 hz => by omega) hrt)
          have HWR := Lib.hid hwr
          have HPM2 := Lib.hid hpm2
          clear hwr hx hex hrt hpm2 hl2
          go_wp2_with fail
          go_quiet (fail)
          go_wp2
          go_roundw
          case rel => exact ⟨i + 1, m2 + nq, d2, by omega, .inl (by omega), by go_num, by rw [HWR.out, rowW_drewN], HSI.out, HPM2.out⟩
          case measure => simp [intOf]; omega
    · have HE := Lib.hid (show Srt f d1 a b from by
        rcases hib with h | h
        · obtain rfl : i = b := by omega
          exact HS.out
        · exact Srt.one (by omega))
      go_wp2_with fail
      go_end0
      exact ⟨rfl, m1, d1, rfl, HE.out, HPM.out⟩
end Go.Proofs.YtgchepkcjkhmmaaDoor.srt
