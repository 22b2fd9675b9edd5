/-
  WALKS of slices.SortStableFunc's family at int: symMerge (whole), stable, SortStableFunc.
-/
import Derived.Test.YtgchepkcjkhmmaaDoorUe
namespace Go.Proofs.YtgchepkcjkhmmaaDoor.srt
open Go.RowKit Go.Sort
/-- the search's relation -/
def SeG (f : Int → Int) (w : World) (g s0 r0 p : Nat) (d : List Int) (iv jv : Value) (wr : World) : Prop := ∃ (i j m' : Nat), s0 ≤ i ∧ i ≤ j ∧ j ≤ r0 ∧ iv = .int .i64 (i : Nat) ∧ jv = .int .i64 (j : Nat) ∧ wr = rowW w g d m' ∧ (∀ c, s0 ≤ c → c < i → ∀ x y, d[c]? = some x → d[p - c]? = some y → f x ≤ f y) ∧ ∀ c, j ≤ c → c < r0 → ∀ x y, d[c]? = some x → d[p - c]? = some y → f y ≤ f x
/-- what the merge has behind the rotation -/
structure Mid (f : Int → Int) (d d' : List Int) (a b s mid e : Nat) : Prop where
  s1 : Srt f d' a s
  s2 : Srt f d' s mid
  s3 : Srt f d' mid e
  s4 : Srt f d' e b
  cross : ∀ (i j : Nat) x y, a ≤ i → i < mid → mid ≤ j → j < b → d'[i]? = some x → d'[j]? = some y → f x ≤ f y
  pm : Pm a b d d'
set_option maxRecDepth 100000 in
set_option maxHeartbeats 8000000 in
theorem sym_gen {w : World} {g N cap gf : Nat} {cb : Array Value} {f : Int → Int} {D : Int → Prop} {d0 : List Int} (hH : Holds (Value.int .i64) w g 0 d0.toArray) (hl0 : d0.length = N) (hN : N ≤ 1000000) (hf : ∀ x, D x → -1 ≤ f x ∧ f x ≤ 1)
    (eg : ∀ args w, (callFunc gf args).run Tryd.prog w = .ok (.enter gf args) w) (hc : CmpOk gf cb f D w g N) (sz : Nat)
    (IH : ∀ (a md b m : Nat) (d : List Int), b - a < sz → a < md → md < b → b ≤ N → d.length = N → (∀ x ∈ d, D x) → Srt f d a md → Srt f d md b → Calls Tryd.prog 68 #[.slice (some ⟨g, 0, none⟩) N cap, .int .i64 (a : Nat), .int .i64 (md : Nat), .int .i64 (b : Nat), .func (.func gf) #[] cb] (rowW w g d m) fun e w' => e = .returned (.tuple #[]) ∧ ∃ m' d', w' = rowW w g d' m' ∧ Srt f d' a b ∧ Pm a b d d')
    (a md b m : Nat) (d : List Int) (hsz : b - a = sz) (ham : a + 1 < md) (hmb : md + 1 < b) (hb : b ≤ N) (hl : d.length = N) (hD : ∀ x ∈ d, D x) (h1 : Srt f d a md) (h2 : Srt f d md b) :
    Calls Tryd.prog 68 #[.slice (some ⟨g, 0, none⟩) N cap, .int .i64 (a : Nat), .int .i64 (md : Nat), .int .i64 (b : Nat), .func (.func gf) #[] cb] (rowW w g d m) fun e w' => e = .returned (.tuple #[]) ∧ ∃ m' d', w' = rowW w g d' m' ∧ Srt f d' a b ∧ Pm a b d d' := by
  have CR := Lib.hid (fun (d' : List Int) (m' a' md' b' : Nat) (k1 : d'.length = N) (k2 : a' < md') (k3 : md' < b') (k4 : b' ≤ N) => rotate_w (m := m') (cap := cap) (fv := .func (.func gf) #[] cb) hH hl0 k1 hN k2 k3 k4)
  obtain ⟨t0, ht0⟩ : ∃ t0, md - a = t0 := ⟨_, rfl⟩
  obtain ⟨t1, ht1⟩ : ∃ t1, b - md = t1 := ⟨_, rfl⟩
  obtain ⟨ab, hab⟩ : ∃ ab, a + b = ab := ⟨_, rfl⟩
  obtain ⟨mid, hmid⟩ : ∃ mid, ab / 2 = mid := ⟨_, rfl⟩
  obtain ⟨n, hn⟩ : ∃ n, mid + md = n := ⟨_, rfl⟩
  obtain ⟨p, hp⟩ : ∃ p, n - 1 = p := ⟨_, rfl⟩
  have w1 : IntKind.i64.wrap ((md : Int) - (a : Int)) = (t0 : Int) := by rw [IntKind.wrap_i64]; omega
  have w1n : ((t0 : Int) == 1) = false := by rw [beq_eq_false_iff_ne]; omega
  have w2 : IntKind.i64.wrap ((b : Int) - (md : Int)) = (t1 : Int) := by rw [IntKind.wrap_i64]; omega
  have w2n : ((t1 : Int) == 1) = false := by rw [beq_eq_false_iff_ne]; omega
  have w3 : IntKind.i64.wrap ((a : Int) + (b : Int)) = (ab : Int) := by rw [IntKind.wrap_i64]; omega
  have w4 : (ab : Int) / 2 = (mid : Int) := by omega
  have w5 : IntKind.i64.wrap ((mid : Int) + (md : Int)) = (n : Int) := by rw [IntKind.wrap_i64]; omega
  have w6 : IntKind.i64.wrap ((n : Int) - 1) = (p : Int) := by rw [IntKind.wrap_i64]; omega
  have hmid0 : a < mid ∧ mid < b ∧ 2 * mid ≤ a + b ∧ a + b ≤ 2 * mid + 1 := by omega
  have hn0 : n ≤ mid + md ∧ mid + md ≤ n := by omega
  have hp0 : p + 1 ≤ n ∧ n ≤ p + 1 := by omega
  have H1 := Lib.hid h1
  have H2 := Lib.hid h2
  have HH := Lib.hid hH
  have HL := Lib.hid hl
  have HL0 := Lib.hid hl0
  have HC := Lib.hid hc
  have HD := Lib.hid hD
  have HF := Lib.hid hf
  have HIH := Lib.hid IH
  have hszl : b - a ≤ sz ∧ sz ≤ b - a := by omega
  clear hH hl hl0 hc hD hf h1 h2 IH ht0 ht1 hab hmid hn hp hsz
  by_cases hmm : mid < md
  · obtain ⟨s0, hs0⟩ : ∃ s0, n - b = s0 := ⟨_, rfl⟩
    have w7 : IntKind.i64.wrap ((n : Int) - (b : Int)) = (s0 : Int) := by rw [IntKind.wrap_i64]; omega
    obtain ⟨r0, hr0⟩ : ∃ r0, mid = r0 := ⟨_, rfl⟩
    have hsr : a ≤ s0 ∧ s0 ≤ r0 ∧ r0 ≤ md ∧ n ≤ b + s0 ∧ r0 ≤ mid ∧ (s0 = a ∨ n = b + s0) ∧ (r0 = md ∨ mid = r0) := by omega
    clear hs0
    have HST := Lib.hid (show SeG f w g s0 r0 p d (.int .i64 (s0 : Nat)) (.int .i64 (mid : Nat)) (rowW w g d m) from ⟨s0, r0, m, Nat.le_refl _, hsr.2.1, Nat.le_refl _, rfl, by rw [hr0], rfl, fun c h1 h2 => by omega, fun c h1 h2 => by omega⟩)
    clear hr0
    go_enter Tryd.func68, Tryd.ntmps68
    go_wp2_with fail
    go_loopw [20, 21] (fun iv jv wr => SeG f w g s0 r0 p d iv jv wr) (fun iv jv _ => (intOf jv).toNat - (intOf iv).toNat)
    case atStart => exact HST.out
    case round =>
      obtain ⟨i, j, m1, hi, hij, hj, rfl, rfl, hwr, h1, h2⟩ := hrel
      by_cases hlt : i < j
      · as_aux_lemma =>
        obtain ⟨s, hs⟩ : ∃ s, i + j = s := ⟨_, rfl⟩
        obtain ⟨h, hh⟩ : ∃ h, s / 2 = h := ⟨_, rfl⟩
        have ws : IntKind.i64.wrap ((i : Int) + (j : Int)) = (s : Int) := by rw [IntKind.wrap_i64]; omega
        have hsh : (s : Int) / 2 = (h : Int) := by omega
        have hih : i ≤ h ∧ h < j := by omega
        obtain ⟨q, hq⟩ : ∃ q, p - h = q := ⟨_, rfl⟩
        have wq : IntKind.i64.wrap ((p : Int) - (h : Int)) = (q : Int) := by rw [IntKind.wrap_i64]; omega
        have hqr : md ≤ q ∧ q < b := by omega
        obtain ⟨x, hx⟩ : ∃ x, d[h]? = some x := ⟨_, List.getElem?_eq_getElem (by have := HL.out; omega)⟩
        obtain ⟨y, hy⟩ : ∃ y, d[q]? = some y := ⟨_, List.getElem?_eq_getElem (by have := HL.out; omega)⟩
        have hll : d.length = d0.length := by rw [HL.out, HL0.out]
        have cx : wr.cell? ⟨g, h, none⟩ = some (.int .i64 x) := by rw [hwr]; exact rowW_cell HH.out hll hx
        have cy : wr.cell? ⟨g, q, none⟩ = some (.int .i64 y) := by rw [hwr]; exact rowW_cell HH.out hll hy
        have hDx : D x := HD.out x (List.mem_of_getElem? hx)
        have hDy : D y := HD.out y (List.mem_of_getElem? hy)
        have hc := HC.out.at_ (m := m1) HL.out hDy hDx
        rw [← hwr] at hc
        have hfx := HF.out x hDx
        have hfy := HF.out y hDy
        have hqN : (q : Int) < (N : Int) := by omega
        have hhN : (h : Int) < (N : Int) := by omega
        have hy2 : d[p - h]? = some y := by rw [hq]; exact hy
        have HX := Lib.hid hx
        have HY := Lib.hid hy2
        have HWR := Lib.hid hwr
        have HI1 := Lib.hid h1
        have HI2 := Lib.hid h2
        clear hwr hy hy2 hx hDx hDy h1 h2 hs hh hll hq
        by_cases hlv : f y < f x
        · have hlv' : decide (f y - f x < 0) = true := decide_eq_true (by omega)
          have HN := Lib.hid (search_hi (r0 := r0) H1.out H2.out (by omega) hsr.2.2.1 (by omega) (by omega) HX.out HY.out (by omega))
          go_wp2_with fail
          go_quiet ((go_at_fn gf; refine Calls.quiet_of (hc _)))
          go_wp2_with fail
          go_roundw
          case rel => exact ⟨i, h, m1 + nq, by omega, by omega, by omega, rfl, rfl, by rw [HWR.out, rowW_drewN], HI1.out, HN.out⟩
          case measure => simp [intOf]; omega
        · have hlv' : decide (f y - f x < 0) = false := decide_eq_false (by omega)
          have HN := Lib.hid (search_lo (s0 := s0) H1.out H2.out hsr.1 (by omega) (by omega) (by omega) (by omega) HX.out HY.out (by omega))
          go_wp2_with fail
          go_quiet ((go_at_fn gf; refine Calls.quiet_of (hc _)))
          go_wp2_with fail
          go_roundw
          case rel => exact ⟨h + 1, j, m1 + nq, by omega, by omega, hj, by go_num, rfl, by rw [HWR.out, rowW_drewN], HN.out, HI2.out⟩
          case measure => simp [intOf]; omega
      · as_aux_lemma =>
        obtain rfl : j = i := by omega
        obtain ⟨e, he⟩ : ∃ e, n - j = e := ⟨_, rfl⟩
        have we : IntKind.i64.wrap ((n : Int) - (j : Int)) = (e : Int) := by rw [IntKind.wrap_i64]; omega
        have hcut : Cut f d a md b j (mid + md - j) := cut_of_search (r0 := r0) (s0 := s0) H1.out H2.out (by omega) (by rw [HL.out]; omega) hi hj hsr.1 hsr.2.2.1 (by omega) (by omega) (fun c c1 c2 x y => by rw [show mid + md - 1 - c = p - c by omega]; exact h1 c c1 c2 x y) (fun c c1 c2 x y => by rw [show mid + md - 1 - c = p - c by omega]; exact h2 c c1 c2 x y) (fun h => by omega) (fun h => by omega)
        rw [show mid + md - j = e by omega] at hcut
        have hje : j ≤ md ∧ md ≤ e ∧ e ≤ b ∧ j + (e - md) = mid ∧ a ≤ j := by omega
        have HMID := Lib.hid (show ∀ d', Rot d d' j md e → Pm j e d d' → Mid f d d' a b j mid e from fun d' hr hpm => by
          obtain ⟨k1, k2, k3, k4, k5⟩ := sym_cross H1.out H2.out hcut hje.2.2.2.2 hje.1 hje.2.1 hje.2.2.1 hje.2.2.2.1 hr
          exact ⟨k1, k2, k3, k4, k5, hpm.mono (by omega) (by omega)⟩)
        -- the two halves
        have HALF := Lib.hid (show ∀ (d1 d2 d3 : List Int), Mid f d d1 a b j mid e → Pm a mid d1 d2 → Srt f d2 a mid → Pm mid b d2 d3 → Srt f d3 mid b → Srt f d3 a b ∧ Pm a b d d3 from fun d1 d2 d3 hm p1 q1 p2 q2 => by
          refine ⟨sym_join (q1.out (fun i _ h2 => p2.out i (by omega)) (Nat.le_refl _) (Nat.le_refl _)) q2 (cross_keep hm.cross p1 p2), (hm.pm.trans (p1.mono (Nat.le_refl _) (by omega))).trans (p2.mono (by omega) (Nat.le_refl _))⟩)
        have HWR := Lib.hid hwr
        clear hcut hwr h1 h2 he
        obtain ⟨bb0, hbb0⟩ : ∃ bb0, decide (j < md ∧ md < e) = bb0 := ⟨_, rfl⟩
        have HBB0 := Lib.hid hbb0
        clear hbb0
        go_upto_region 39 with fail
        go_cut [185] (fun s wx => s = .bool bb0 ∧ wr = wx)
        case first =>
          as_aux_lemma =>
          by_cases c1 : j < md
          · have e1 : decide (j < md) = true := decide_eq_true (by omega)
            by_cases c2 : md < e
            · have e2 : decide (md < e) = true := decide_eq_true (by omega)
              have HE := Lib.hid (show decide (j < md ∧ md < e) = true from decide_eq_true ⟨c1, c2⟩)
              clear c1 c2
              go_wp2_with fail
              go_meet
              exact ⟨by rw [← HBB0.out, HE.out], rfl⟩
            · have e2 : decide (md < e) = false := decide_eq_false (by omega)
              have HE := Lib.hid (show decide (j < md ∧ md < e) = false from decide_eq_false (by omega))
              clear c1 c2
              go_wp2_with fail
              go_meet
              exact ⟨by rw [← HBB0.out, HE.out], rfl⟩
          · have e1 : decide (j < md) = false := decide_eq_false (by omega)
            have HE := Lib.hid (show decide (j < md ∧ md < e) = false from decide_eq_false (by omega))
            clear c1
            go_wp2_with fail
            go_meet
            exact ⟨by rw [← HBB0.out, HE.out], rfl⟩
        case rest =>
        obtain ⟨rfl, rfl⟩ := hcut
        go_upto_if 185 with fail
        go_cut [] (fun wx => ∃ (d1 : List Int) (m2 : Nat), wx = rowW w g d1 m2 ∧ Mid f d d1 a b j mid e)
        case first =>
          as_aux_lemma =>
          by_cases c : j < md ∧ md < e
          · obtain rfl : bb0 = true := by rw [← HBB0.out]; exact decide_eq_true c
            have C := Lib.hid (CR.out d m1 j md e HL.out c.1 c.2 (by omega))
            rw [← HWR.out] at C
            clear c
            go_wp2_with fail
            refine C.out.mono ?_
            rintro _ w3 ⟨rfl, m3, d3, hw3, hr, hp⟩
            have HW3 := Lib.hid hw3
            have HM3 := Lib.hid (HMID.out d3 hr hp)
            clear hw3 hr hp
            go_wp2_with fail
            go_meet
            exact ⟨d3, m3, HW3.out, HM3.out⟩
          · obtain rfl : bb0 = false := by rw [← HBB0.out]; exact decide_eq_false c
            have HM3 := Lib.hid (show Mid f d d a b j mid e from by
              by_cases c1 : j < md
              · exact HMID.out d (by rw [show e = md by omega]; exact rot_id_right d j md) (Pm.refl _ _ _)
              · exact HMID.out d (by rw [show j = md by omega]; exact rot_id_left d md e) (Pm.refl _ _ _))
            clear c
            go_wp2_with fail
            go_meet
            exact ⟨d, m1, HWR.out, HM3.out⟩
        case rest =>
        obtain ⟨d1, m2, hw1, hM⟩ := hcut
        clear HWR
        subst hw1
        have HM := Lib.hid hM
        have hl1 : d1.length = N := by rw [hM.pm.len, HL.out]
        have HL1 := Lib.hid hl1
        have HD1 := Lib.hid (show ∀ x ∈ d1, D x from hM.pm.mem HD.out)
        clear hM hl1
        obtain ⟨w5, hw5⟩ : ∃ w5, w5 = rowW w g d1 m2 := ⟨_, rfl⟩
        have HW5 := Lib.hid hw5
        rw [← hw5]
        clear hw5
        obtain ⟨bb1, hbb1⟩ : ∃ bb1, decide (a < j ∧ j < mid) = bb1 := ⟨_, rfl⟩
        have HBB1 := Lib.hid hbb1
        clear hbb1
        go_upto_region 41 with fail
        go_cut [199] (fun s wx => s = .bool bb1 ∧ w5 = wx)
        case first =>
          as_aux_lemma =>
          by_cases c1 : a < j
          · have e1 : decide (a < j) = true := decide_eq_true (by omega)
            by_cases c2 : j < mid
            · have e2 : decide (j < mid) = true := decide_eq_true (by omega)
              have HE := Lib.hid (show decide (a < j ∧ j < mid) = true from decide_eq_true ⟨c1, c2⟩)
              clear c1 c2
              go_wp2_with fail
              go_meet
              exact ⟨by rw [← HBB1.out, HE.out], rfl⟩
            · have e2 : decide (j < mid) = false := decide_eq_false (by omega)
              have HE := Lib.hid (show decide (a < j ∧ j < mid) = false from decide_eq_false (by omega))
              clear c1 c2
              go_wp2_with fail
              go_meet
              exact ⟨by rw [← HBB1.out, HE.out], rfl⟩
          · have e1 : decide (a < j) = false := decide_eq_false (by omega)
            have HE := Lib.hid (show decide (a < j ∧ j < mid) = false from decide_eq_false (by omega))
            clear c1
            go_wp2_with fail
            go_meet
            exact ⟨by rw [← HBB1.out, HE.out], rfl⟩
        case rest =>
        obtain ⟨rfl, rfl⟩ := hcut
        go_upto_if 199 with fail
        go_cut [] (fun wx => ∃ (d2 : List Int) (m3 : Nat), wx = rowW w g d2 m3 ∧ Pm a mid d1 d2 ∧ Srt f d2 a mid)
        case first =>
          as_aux_lemma =>
          by_cases c : a < j ∧ j < mid
          · obtain rfl : bb1 = true := by rw [← HBB1.out]; exact decide_eq_true c
            have C := Lib.hid (HIH.out a j mid m2 d1 (by omega) c.1 c.2 (by omega) HL1.out HD1.out HM.out.s1 HM.out.s2)
            rw [← HW5.out] at C
            clear c
            go_wp2_with fail
            refine C.out.mono ?_
            rintro _ w3 ⟨rfl, m3, d3, hw3, hr, hp⟩
            have HW3 := Lib.hid hw3
            have HM3 := Lib.hid hr
            have HP3 := Lib.hid hp
            clear hw3 hr hp
            go_wp2_with fail
            go_meet
            exact ⟨d3, m3, HW3.out, HP3.out, HM3.out⟩
          · obtain rfl : bb1 = false := by rw [← HBB1.out]; exact decide_eq_false c
            have HM3 := Lib.hid (show Srt f d1 a mid from by
              by_cases c1 : a < j
              · rw [show mid = j by omega]; exact HM.out.s1
              · have h := HM.out.s2
                rw [show j = a by omega] at h
                exact h)
            clear c
            go_wp2_with fail
            go_meet
            exact ⟨d1, m2, HW5.out, Pm.refl _ _ _, HM3.out⟩
        case rest =>
        obtain ⟨d2, m3, hw2, hp2, hs2⟩ := hcut
        clear HW5
        subst hw2
        have HL2 := Lib.hid (show d2.length = N by rw [hp2.len, HL1.out])
        have HD2 := Lib.hid (show ∀ x ∈ d2, D x from hp2.mem HD1.out)
        have HS3 := Lib.hid (show Srt f d2 mid e from HM.out.s3.out (fun i k1 k2 => hp2.out i (by omega)) (Nat.le_refl _) (Nat.le_refl _))
        have HS4 := Lib.hid (show Srt f d2 e b from HM.out.s4.out (fun i k1 k2 => hp2.out i (by omega)) (Nat.le_refl _) (Nat.le_refl _))
        have HP2 := Lib.hid hp2
        have HS2 := Lib.hid hs2
        clear hp2 hs2
        obtain ⟨w6, hw6⟩ : ∃ w6, w6 = rowW w g d2 m3 := ⟨_, rfl⟩
        have HW6 := Lib.hid hw6
        rw [← hw6]
        clear hw6
        obtain ⟨bb2, hbb2⟩ : ∃ bb2, decide (mid < e ∧ e < b) = bb2 := ⟨_, rfl⟩
        have HBB2 := Lib.hid hbb2
        clear hbb2
        go_upto_region 43 with fail
        go_cut [213] (fun s wx => s = .bool bb2 ∧ w6 = wx)
        case first =>
          as_aux_lemma =>
          by_cases c1 : mid < e
          · have e1 : decide (mid < e) = true := decide_eq_true (by omega)
            by_cases c2 : e < b
            · have e2 : decide (e < b) = true := decide_eq_true (by omega)
              have HE := Lib.hid (show decide (mid < e ∧ e < b) = true from decide_eq_true ⟨c1, c2⟩)
              clear c1 c2
              go_wp2_with fail
              go_meet
              exact ⟨by rw [← HBB2.out, HE.out], rfl⟩
            · have e2 : decide (e < b) = false := decide_eq_false (by omega)
              have HE := Lib.hid (show decide (mid < e ∧ e < b) = false from decide_eq_false (by omega))
              clear c1 c2
              go_wp2_with fail
              go_meet
              exact ⟨by rw [← HBB2.out, HE.out], rfl⟩
          · have e1 : decide (mid < e) = false := decide_eq_false (by omega)
            have HE := Lib.hid (show decide (mid < e ∧ e < b) = false from decide_eq_false (by omega))
            clear c1
            go_wp2_with fail
            go_meet
            exact ⟨by rw [← HBB2.out, HE.out], rfl⟩
        case rest =>
        obtain ⟨rfl, rfl⟩ := hcut
        by_cases c : mid < e ∧ e < b
        · obtain rfl : bb2 = true := by rw [← HBB2.out]; exact decide_eq_true c
          have C := Lib.hid (HIH.out mid e b m3 d2 (by omega) c.1 c.2 (by omega) HL2.out HD2.out HS3.out HS4.out)
          rw [← HW6.out] at C
          clear c
          go_wp2_with fail
          refine C.out.mono ?_
          rintro _ w3 ⟨rfl, m4, d3, hw3, hr, hp⟩
          have HW3 := Lib.hid hw3
          have HM3 := Lib.hid (HALF.out d1 d2 d3 HM.out HP2.out HS2.out hp hr)
          clear hw3 hr hp
          go_wp2_with fail
          go_end0
          exact ⟨rfl, m4, d3, HW3.out, HM3.out⟩
        · obtain rfl : bb2 = false := by rw [← HBB2.out]; exact decide_eq_false c
          have HM3 := Lib.hid (HALF.out d1 d2 d2 HM.out HP2.out HS2.out (Pm.refl _ _ _) (by
            by_cases c1 : mid < e
            · rw [show b = e by omega]; exact HS3.out
            · have h := HS4.out
              rw [show e = mid by omega] at h
              exact h))
          clear c
          go_wp2_with fail
          go_end0
          exact ⟨rfl, m3, d2, HW6.out, HM3.out⟩

  · obtain ⟨s0, hs0⟩ : ∃ s0, a = s0 := ⟨_, rfl⟩
    obtain ⟨r0, hr0⟩ : ∃ r0, md = r0 := ⟨_, rfl⟩
    have hsr : a ≤ s0 ∧ s0 ≤ r0 ∧ r0 ≤ md ∧ n ≤ b + s0 ∧ r0 ≤ mid ∧ (s0 = a ∨ n = b + s0) ∧ (r0 = md ∨ mid = r0) := by omega
    have HST := Lib.hid (show SeG f w g s0 r0 p d (.int .i64 (a : Nat)) (.int .i64 (md : Nat)) (rowW w g d m) from ⟨s0, r0, m, Nat.le_refl _, hsr.2.1, Nat.le_refl _, by rw [hs0], by rw [hr0], rfl, fun c h1 h2 => by omega, fun c h1 h2 => by omega⟩)
    clear hr0 hs0
    go_enter Tryd.func68, Tryd.ntmps68
    go_wp2_with fail
    go_loopw [20, 21] (fun iv jv wr => SeG f w g s0 r0 p d iv jv wr) (fun iv jv _ => (intOf jv).toNat - (intOf iv).toNat)
    case atStart => exact HST.out
    case round =>
      obtain ⟨i, j, m1, hi, hij, hj, rfl, rfl, hwr, h1, h2⟩ := hrel
      by_cases hlt : i < j
      · as_aux_lemma =>
        obtain ⟨s, hs⟩ : ∃ s, i + j = s := ⟨_, rfl⟩
        obtain ⟨h, hh⟩ : ∃ h, s / 2 = h := ⟨_, rfl⟩
        have ws : IntKind.i64.wrap ((i : Int) + (j : Int)) = (s : Int) := by rw [IntKind.wrap_i64]; omega
        have hsh : (s : Int) / 2 = (h : Int) := by omega
        have hih : i ≤ h ∧ h < j := by omega
        obtain ⟨q, hq⟩ : ∃ q, p - h = q := ⟨_, rfl⟩
        have wq : IntKind.i64.wrap ((p : Int) - (h : Int)) = (q : Int) := by rw [IntKind.wrap_i64]; omega
        have hqr : md ≤ q ∧ q < b := by omega
        obtain ⟨x, hx⟩ : ∃ x, d[h]? = some x := ⟨_, List.getElem?_eq_getElem (by have := HL.out; omega)⟩
        obtain ⟨y, hy⟩ : ∃ y, d[q]? = some y := ⟨_, List.getElem?_eq_getElem (by have := HL.out; omega)⟩
        have hll : d.length = d0.length := by rw [HL.out, HL0.out]
        have cx : wr.cell? ⟨g, h, none⟩ = some (.int .i64 x) := by rw [hwr]; exact rowW_cell HH.out hll hx
        have cy : wr.cell? ⟨g, q, none⟩ = some (.int .i64 y) := by rw [hwr]; exact rowW_cell HH.out hll hy
        have hDx : D x := HD.out x (List.mem_of_getElem? hx)
        have hDy : D y := HD.out y (List.mem_of_getElem? hy)
        have hc := HC.out.at_ (m := m1) HL.out hDy hDx
        rw [← hwr] at hc
        have hfx := HF.out x hDx
        have hfy := HF.out y hDy
        have hqN : (q : Int) < (N : Int) := by omega
        have hhN : (h : Int) < (N : Int) := by omega
        have hy2 : d[p - h]? = some y := by rw [hq]; exact hy
        have HX := Lib.hid hx
        have HY := Lib.hid hy2
        have HWR := Lib.hid hwr
        have HI1 := Lib.hid h1
        have HI2 := Lib.hid h2
        clear hwr hy hy2 hx hDx hDy h1 h2 hs hh hll hq
        by_cases hlv : f y < f x
        · have hlv' : decide (f y - f x < 0) = true := decide_eq_true (by omega)
          have HN := Lib.hid (search_hi (r0 := r0) H1.out H2.out (by omega) hsr.2.2.1 (by omega) (by omega) HX.out HY.out (by omega))
          go_wp2_with fail
          go_quiet ((go_at_fn gf; refine Calls.quiet_of (hc _)))
          go_wp2_with fail
          go_roundw
          case rel => exact ⟨i, h, m1 + nq, by omega, by omega, by omega, rfl, rfl, by rw [HWR.out, rowW_drewN], HI1.out, HN.out⟩
          case measure => simp [intOf]; omega
        · have hlv' : decide (f y - f x < 0) = false := decide_eq_false (by omega)
          have HN := Lib.hid (search_lo (s0 := s0) H1.out H2.out hsr.1 (by omega) (by omega) (by omega) (by omega) HX.out HY.out (by omega))
          go_wp2_with fail
          go_quiet ((go_at_fn gf; refine Calls.quiet_of (hc _)))
          go_wp2_with fail
          go_roundw
          case rel => exact ⟨h + 1, j, m1 + nq, by omega, by omega, hj, by go_num, rfl, by rw [HWR.out, rowW_drewN], HN.out, HI2.out⟩
          case measure => simp [intOf]; omega
      · as_aux_lemma =>
        obtain rfl : j = i := by omega
        obtain ⟨e, he⟩ : ∃ e, n - j = e := ⟨_, rfl⟩
        have we : IntKind.i64.wrap ((n : Int) - (j : Int)) = (e : Int) := by rw [IntKind.wrap_i64]; omega
        have hcut : Cut f d a md b j (mid + md - j) := cut_of_search (r0 := r0) (s0 := s0) H1.out H2.out (by omega) (by rw [HL.out]; omega) hi hj hsr.1 hsr.2.2.1 (by omega) (by omega) (fun c c1 c2 x y => by rw [show mid + md - 1 - c = p - c by omega]; exact h1 c c1 c2 x y) (fun c c1 c2 x y => by rw [show mid + md - 1 - c = p - c by omega]; exact h2 c c1 c2 x y) (fun h => by omega) (fun h => by omega)
        rw [show mid + md - j = e by omega] at hcut
        have hje : j ≤ md ∧ md ≤ e ∧ e ≤ b ∧ j + (e - md) = mid ∧ a ≤ j := by omega
        have HMID := Lib.hid (show ∀ d', Rot d d' j md e → Pm j e d d' → Mid f d d' a b j mid e from fun d' hr hpm => by
          obtain ⟨k1, k2, k3, k4, k5⟩ := sym_cross H1.out H2.out hcut hje.2.2.2.2 hje.1 hje.2.1 hje.2.2.1 hje.2.2.2.1 hr
          exact ⟨k1, k2, k3, k4, k5, hpm.mono (by omega) (by omega)⟩)
        -- the two halves
        have HALF := Lib.hid (show ∀ (d1 d2 d3 : List Int), Mid f d d1 a b j mid e → Pm a mid d1 d2 → Srt f d2 a mid → Pm mid b d2 d3 → Srt f d3 mid b → Srt f d3 a b ∧ Pm a b d d3 from fun d1 d2 d3 hm p1 q1 p2 q2 => by
          refine ⟨sym_join (q1.out (fun i _ h2 => p2.out i (by omega)) (Nat.le_refl _) (Nat.le_refl _)) q2 (cross_keep hm.cross p1 p2), (hm.pm.trans (p1.mono (Nat.le_refl _) (by omega))).trans (p2.mono (by omega) (Nat.le_refl _))⟩)
        have HWR := Lib.hid hwr
        clear hcut hwr h1 h2 he
        obtain ⟨bb0, hbb0⟩ : ∃ bb0, decide (j < md ∧ md < e) = bb0 := ⟨_, rfl⟩
        have HBB0 := Lib.hid hbb0
        clear hbb0
        go_upto_region 39 with fail
        go_cut [185] (fun s wx => s = .bool bb0 ∧ wr = wx)
        case first =>
          as_aux_lemma =>
          by_cases c1 : j < md
          · have e1 : decide (j < md) = true := decide_eq_true (by omega)
            by_cases c2 : md < e
            · have e2 : decide (md < e) = true := decide_eq_true (by omega)
              have HE := Lib.hid (show decide (j < md ∧ md < e) = true from decide_eq_true ⟨c1, c2⟩)
              clear c1 c2
              go_wp2_with fail
              go_meet
              exact ⟨by rw [← HBB0.out, HE.out], rfl⟩
            · have e2 : decide (md < e) = false := decide_eq_false (by omega)
              have HE := Lib.hid (show decide (j < md ∧ md < e) = false from decide_eq_false (by omega))
              clear c1 c2
              go_wp2_with fail
              go_meet
              exact ⟨by rw [← HBB0.out, HE.out], rfl⟩
          · have e1 : decide (j < md) = false := decide_eq_false (by omega)
            have HE := Lib.hid (show decide (j < md ∧ md < e) = false from decide_eq_false (by omega))
            clear c1
            go_wp2_with fail
            go_meet
            exact ⟨by rw [← HBB0.out, HE.out], rfl⟩
        case rest =>
        obtain ⟨rfl, rfl⟩ := hcut
        go_upto_if 185 with fail
        go_cut [] (fun wx => ∃ (d1 : List Int) (m2 : Nat), wx = rowW w g d1 m2 ∧ Mid f d d1 a b j mid e)
        case first =>
          as_aux_lemma =>
          by_cases c : j < md ∧ md < e
          · obtain rfl : bb0 = true := by rw [← HBB0.out]; exact decide_eq_true c
            have C := Lib.hid (CR.out d m1 j md e HL.out c.1 c.2 (by omega))
            rw [← HWR.out] at C
            clear c
            go_wp2_with fail
            refine C.out.mono ?_
            rintro _ w3 ⟨rfl, m3, d3, hw3, hr, hp⟩
            have HW3 := Lib.hid hw3
            have HM3 := Lib.hid (HMID.out d3 hr hp)
            clear hw3 hr hp
            go_wp2_with fail
            go_meet
            exact ⟨d3, m3, HW3.out, HM3.out⟩
          · obtain rfl : bb0 = false := by rw [← HBB0.out]; exact decide_eq_false c
            have HM3 := Lib.hid (show Mid f d d a b j mid e from by
              by_cases c1 : j < md
              · exact HMID.out d (by rw [show e = md by omega]; exact rot_id_right d j md) (Pm.refl _ _ _)
              · exact HMID.out d (by rw [show j = md by omega]; exact rot_id_left d md e) (Pm.refl _ _ _))
            clear c
            go_wp2_with fail
            go_meet
            exact ⟨d, m1, HWR.out, HM3.out⟩
        case rest =>
        obtain ⟨d1, m2, hw1, hM⟩ := hcut
        clear HWR
        subst hw1
        have HM := Lib.hid hM
        have hl1 : d1.length = N := by rw [hM.pm.len, HL.out]
        have HL1 := Lib.hid hl1
        have HD1 := Lib.hid (show ∀ x ∈ d1, D x from hM.pm.mem HD.out)
        clear hM hl1
        obtain ⟨w5, hw5⟩ : ∃ w5, w5 = rowW w g d1 m2 := ⟨_, rfl⟩
        have HW5 := Lib.hid hw5
        rw [← hw5]
        clear hw5
        obtain ⟨bb1, hbb1⟩ : ∃ bb1, decide (a < j ∧ j < mid) = bb1 := ⟨_, rfl⟩
        have HBB1 := Lib.hid hbb1
        clear hbb1
        go_upto_region 41 with fail
        go_cut [199] (fun s wx => s = .bool bb1 ∧ w5 = wx)
        case first =>
          as_aux_lemma =>
          by_cases c1 : a < j
          · have e1 : decide (a < j) = true := decide_eq_true (by omega)
            by_cases c2 : j < mid
            · have e2 : decide (j < mid) = true := decide_eq_true (by omega)
              have HE := Lib.hid (show decide (a < j ∧ j < mid) = true from decide_eq_true ⟨c1, c2⟩)
              clear c1 c2
              go_wp2_with fail
              go_meet
              exact ⟨by rw [← HBB1.out, HE.out], rfl⟩
            · have e2 : decide (j < mid) = false := decide_eq_false (by omega)
              have HE := Lib.hid (show decide (a < j ∧ j < mid) = false from decide_eq_false (by omega))
              clear c1 c2
              go_wp2_with fail
              go_meet
              exact ⟨by rw [← HBB1.out, HE.out], rfl⟩
          · have e1 : decide (a < j) = false := decide_eq_false (by omega)
            have HE := Lib.hid (show decide (a < j ∧ j < mid) = false from decide_eq_false (by omega))
            clear c1
            go_wp2_with fail
            go_meet
            exact ⟨by rw [← HBB1.out, HE.out], rfl⟩
        case rest =>
        obtain ⟨rfl, rfl⟩ := hcut
        go_upto_if 199 with fail
        go_cut [] (fun wx => ∃ (d2 : List Int) (m3 : Nat), wx = rowW w g d2 m3 ∧ Pm a mid d1 d2 ∧ Srt f d2 a mid)
        case first =>
          as_aux_lemma =>
          by_cases c : a < j ∧ j < mid
          · obtain rfl : bb1 = true := by rw [← HBB1.out]; exact decide_eq_true c
            have C := Lib.hid (HIH.out a j mid m2 d1 (by omega) c.1 c.2 (by omega) HL1.out HD1.out HM.out.s1 HM.out.s2)
            rw [← HW5.out] at C
            clear c
            go_wp2_with fail
            refine C.out.mono ?_
            rintro _ w3 ⟨rfl, m3, d3, hw3, hr, hp⟩
            have HW3 := Lib.hid hw3
            have HM3 := Lib.hid hr
            have HP3 := Lib.hid hp
            clear hw3 hr hp
            go_wp2_with fail
            go_meet
            exact ⟨d3, m3, HW3.out, HP3.out, HM3.out⟩
          · obtain rfl : bb1 = false := by rw [← HBB1.out]; exact decide_eq_false c
            have HM3 := Lib.hid (show Srt f d1 a mid from by
              by_cases c1 : a < j
              · rw [show mid = j by omega]; exact HM.out.s1
              · have h := HM.out.s2
                rw [show j = a by omega] at h
                exact h)
            clear c
            go_wp2_with fail
            go_meet
            exact ⟨d1, m2, HW5.out, Pm.refl _ _ _, HM3.out⟩
        case rest =>
        obtain ⟨d2, m3, hw2, hp2, hs2⟩ := hcut
        clear HW5
        subst hw2
        have HL2 := Lib.hid (show d2.length = N by rw [hp2.len, HL1.out])
        have HD2 := Lib.hid (show ∀ x ∈ d2, D x from hp2.mem HD1.out)
        have HS3 := Lib.hid (show Srt f d2 mid e from HM.out.s3.out (fun i k1 k2 => hp2.out i (by omega)) (Nat.le_refl _) (Nat.le_refl _))
        have HS4 := Lib.hid (show Srt f d2 e b from HM.out.s4.out (fun i k1 k2 => hp2.out i (by omega)) (Nat.le_refl _) (Nat.le_refl _))
        have HP2 := Lib.hid hp2
        have HS2 := Lib.hid hs2
        clear hp2 hs2
        obtain ⟨w6, hw6⟩ : ∃ w6, w6 = rowW w g d2 m3 := ⟨_, rfl⟩
        have HW6 := Lib.hid hw6
        rw [← hw6]
        clear hw6
        obtain ⟨bb2, hbb2⟩ : ∃ bb2, decide (mid < e ∧ e < b) = bb2 := ⟨_, rfl⟩
        have HBB2 := Lib.hid hbb2
        clear hbb2
        go_upto_region 43 with fail
        go_cut [213] (fun s wx => s = .bool bb2 ∧ w6 = wx)
        case first =>
          as_aux_lemma =>
          by_cases c1 : mid < e
          · have e1 : decide (mid < e) = true := decide_eq_true (by omega)
            by_cases c2 : e < b
            · have e2 : decide (e < b) = true := decide_eq_true (by omega)
              have HE := Lib.hid (show decide (mid < e ∧ e < b) = true from decide_eq_true ⟨c1, c2⟩)
              clear c1 c2
              go_wp2_with fail
              go_meet
              exact ⟨by rw [← HBB2.out, HE.out], rfl⟩
            · have e2 : decide (e < b) = false := decide_eq_false (by omega)
              have HE := Lib.hid (show decide (mid < e ∧ e < b) = false from decide_eq_false (by omega))
              clear c1 c2
              go_wp2_with fail
              go_meet
              exact ⟨by rw [← HBB2.out, HE.out], rfl⟩
          · have e1 : decide (mid < e) = false := decide_eq_false (by omega)
            have HE := Lib.hid (show decide (mid < e ∧ e < b) = false from decide_eq_false (by omega))
            clear c1
            go_wp2_with fail
            go_meet
            exact ⟨by rw [← HBB2.out, HE.out], rfl⟩
        case rest =>
        obtain ⟨rfl, rfl⟩ := hcut
        by_cases c : mid < e ∧ e < b
        · obtain rfl : bb2 = true := by rw [← HBB2.out]; exact decide_eq_true c
          have C := Lib.hid (HIH.out mid e b m3 d2 (by omega) c.1 c.2 (by omega) HL2.out HD2.out HS3.out HS4.out)
          rw [← HW6.out] at C
          clear c
          go_wp2_with fail
          refine C.out.mono ?_
          rintro _ w3 ⟨rfl, m4, d3, hw3, hr, hp⟩
          have HW3 := Lib.hid hw3
          have HM3 := Lib.hid (HALF.out d1 d2 d3 HM.out HP2.out HS2.out hp hr)
          clear hw3 hr hp
          go_wp2_with fail
          go_end0
          exact ⟨rfl, m4, d3, HW3.out, HM3.out⟩
        · obtain rfl : bb2 = false := by rw [← HBB2.out]; exact decide_eq_false c
          have HM3 := Lib.hid (HALF.out d1 d2 d2 HM.out HP2.out HS2.out (Pm.refl _ _ _) (by
            by_cases c1 : mid < e
            · rw [show b = e by omega]; exact HS3.out
            · have h := HS4.out
              rw [show e = mid by omega] at h
              exact h))
          clear c
          go_wp2_with fail
          go_end0
          exact ⟨rfl, m3, d2, HW6.out, HM3.out⟩

end Go.Proofs.YtgchepkcjkhmmaaDoor.srt
