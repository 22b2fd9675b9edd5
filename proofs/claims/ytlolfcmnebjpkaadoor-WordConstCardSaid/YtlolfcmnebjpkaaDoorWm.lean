/-
  THE WALK of the law WordConst, the whole of it.
-/
import Derived.Test.YtlolfcmnebjpkaaDoorWk
namespace Go.Proofs.YtlolfcmnebjpkaaDoor
open Go.RowKit

theorem gvar5 : gvar 5 = 1 := rfl
/-- what half of n is, as often as k -/
theorem bits_get (n : Int) (k : Nat) (hk : k < 8) : (litVals (bitsTo n 8))[k]? = some (.int .i64 (n / 2 ^ k % 2)) := by
  simp [litVals, bitsTo, List.getElem?_map, List.getElem?_range hk]
def kOf (n : Int) : Int := if n < 0 then n + 256 else n
theorem bools_oneCell (l : List Bool) : ∀ u ∈ boolVals l, u.oneCell' = true := fun u hu => by
  obtain ⟨b, _, rfl⟩ := List.mem_map.1 hu; rfl
def KRel (n : Int) (kv iv : Value) : Prop := ∃ (k : Nat) (x : Int), k ≤ 8 ∧ iv = .int .i64 k ∧ kv = .int .i64 x ∧ x = kOf n / 2 ^ k
theorem kOf_bounds {n : Int} (h1 : -128 ≤ n) (h2 : n ≤ 127) (k : Nat) : 0 ≤ kOf n / 2 ^ k ∧ kOf n / 2 ^ k ≤ 255 := by
  have h : 0 ≤ kOf n ∧ kOf n ≤ 255 := by unfold kOf; split <;> omega
  have hp : (0 : Int) < 2 ^ k := Int.pow_pos (by omega)
  refine ⟨Int.ediv_nonneg h.1 (Int.le_of_lt hp), Int.le_trans (Int.ediv_le_self _ h.1) h.2⟩
theorem kOf_bit {n : Int} (k : Nat) (hk : k < 8) : kOf n / 2 ^ k % 2 = n / 2 ^ k % 2 := by
  unfold kOf
  match k, hk with
  | 0, _ => split <;> omega
  | 1, _ => split <;> omega
  | 2, _ => split <;> omega
  | 3, _ => split <;> omega
  | 4, _ => split <;> omega
  | 5, _ => split <;> omega
  | 6, _ => split <;> omega
  | 7, _ => split <;> omega
theorem kOf_half {n x : Int} {k : Nat} (h : x = kOf n / 2 ^ k) : x / 2 = kOf n / 2 ^ (k + 1) := by
  rw [h, Int.pow_succ, Int.ediv_ediv_of_nonneg (Int.le_of_lt (Int.pow_pos (by omega)))]
set_option maxRecDepth 100000 in
set_option maxHeartbeats 2000000 in
theorem wc_short {w : World} {ea : Nat → Addr} {B : Nat} (h : Errs w ea B) (hB : B ≤ w.heap.size) {n a b : Int} {A : Option Addr} {c : Nat} {l : List Bool} (hl : l.length ≤ 50) (hr : Reads w w.heap.size 1 A l.length (boolVals l)) :
    Calls Tryd.prog 3 #[.int .i64 n, .agg #[.int .i64 a, .int .i64 b], .slice A l.length c] w (LPost w) := by
  have e0 : decide ((50 : Int) < (l.length : Int)) = false := decide_eq_false (by omega)
  have H := Lib.hid h
  have HBB := Lib.hid hB
  have HL := Lib.hid hl
  have HR := Lib.hid hr
  clear h hB hl hr
  go_enter Tryd.func3, Tryd.ntmps3
  go_wp2_with fail
  refine (five_any _).mono ?_
  rintro e w1 ⟨rfl, hb⟩
  obtain ⟨W0, hW0⟩ : ∃ W0, W0 = w.alloc (.cells #[.int .i64 a, .int .i64 b] 23) := ⟨_, rfl⟩
  rw [← hW0] at hb
  have hb0 : Below w.heap.size w W0 := by rw [hW0]; exact (Below.refl _ _).alloc (Nat.le_refl _) _
  have hs0 : W0.heap.size = w.heap.size + 1 := by rw [hW0]; simp
  have hx0 : W0.cell? ⟨w.heap.size, 0, none⟩ = some (.int .i64 a) := by rw [hW0, (Blk.new w _ _).cell 0]; rfl
  have hx1 : W0.cell? ⟨w.heap.size, 1, none⟩ = some (.int .i64 b) := by rw [hW0, (Blk.new w _ _).cell 1]; rfl
  have HW0 := Lib.hid hb0
  have HS0 := Lib.hid hs0
  have HX0 := Lib.hid hx0
  have HX1 := Lib.hid hx1
  have H1 := Lib.hid hb
  clear hb hb0 hs0 hx0 hx1 hW0
  go_wp2_with fail
  refine (const_post (H.out.below ((HW0.out.trans (H1.out.mono (by have := HS0.out; omega))).mono HBB.out)) n).mono ?_
  rintro e w2 ⟨v, er, rfl, hcp⟩
  have HCP := Lib.hid hcp
  clear hcp
  go_upto_region 5 with fail
  go_cut [39] (fun s wx => s = .bool (decide (n < -128 ∨ 127 < n)) ∧ w2 = wx)
  case first =>
    by_cases h1 : n < -128
    · have e1 : decide (n < -128) = true := decide_eq_true h1
      have HD : Hid (decide (n < -128 ∨ 127 < n) = true) := decide_eq_true (.inl h1)
      clear h1
      go_wp2_with fail
      go_meet
      exact ⟨by rw [HD.out], rfl⟩
    · by_cases h2 : 127 < n
      · have e1 : decide (n < -128) = false := decide_eq_false h1
        have e2 : decide (127 < n) = true := decide_eq_true h2
        have HD : Hid (decide (n < -128 ∨ 127 < n) = true) := decide_eq_true (.inr h2)
        clear h1 h2
        go_wp2_with fail
        go_meet
        exact ⟨by rw [HD.out], rfl⟩
      · have e1 : decide (n < -128) = false := decide_eq_false h1
        have e2 : decide (127 < n) = false := decide_eq_false h2
        have HD : Hid (decide (n < -128 ∨ 127 < n) = false) := decide_eq_false (by omega)
        clear h1 h2
        go_wp2_with fail
        go_meet
        exact ⟨by rw [HD.out], rfl⟩
  case rest =>
  obtain ⟨rfl, rfl⟩ := hcut
  go_upto_if 39 with fail
  go_cut [] (fun wx => Below W0.heap.size W0 wx)
  case first =>
    rcases HCP.out with ⟨h1, h2, rfl, har⟩ | ⟨h1, rfl, rfl, hb2⟩
    · obtain ⟨A2, c2, rfl, _, hb2⟩ := id har
      obtain ⟨g2, rfl, hg2, hc2⟩ := arel_cells har (by omega)
      have HC2 := Lib.hid hc2
      have HB2 := Lib.hid (H1.out.trans (hb2.mono H1.out.size))
      have e1 : decide (n < -128) = false := decide_eq_false (by omega)
      have e2 : decide (127 < n) = false := decide_eq_false (by omega)
      have HAR := Lib.hid (around_in (w := w2) h1 h2)
      have HN := Lib.hid (And.intro h1 h2)
      clear e1 e2 har hb2 hg2 hc2
      go_wp2_with fail
      refine HAR.out.mono ?_
      rintro e w' ⟨rfl, rfl⟩
      by_cases hn : n < 0
      · have e4 : decide (n < 0) = true := decide_eq_true hn
        have HK : Hid (n + 256 = kOf n) := by show n + 256 = kOf n; unfold kOf; rw [if_pos hn]
        have hn1 : -128 ≤ n := HN.out.1
        go_wp2_with fail
        go_loop [10, 11] (fun kv iv => KRel n kv iv) (fun _ iv => 8 - (intOf iv).toNat)
        case atStart => exact ⟨0, _, by omega, rfl, rfl, by simpa using HK.out⟩
        case round =>
          obtain ⟨k, x, hk, rfl, rfl, hx⟩ := hrel
          have hx0 : 0 ≤ x := by rw [hx]; exact (kOf_bounds HN.out.1 HN.out.2 k).1
          have hx1 : x ≤ 255 := by rw [hx]; exact (kOf_bounds HN.out.1 HN.out.2 k).2
          have HX := Lib.hid hx
          clear hx
          by_cases hlt : k < 8
          · have hc := HC2.out k _ (bits_get n k hlt)
            have hb := kOf_bit (n := n) k hlt
            rw [← HX.out] at hb
            rw [← hb] at hc
            have e6 : (x % 2 != x % 2) = false := by simp
            clear hb
            go_wp2
            go_round
            case rel => exact ⟨k + 1, _, by omega, by go_num, rfl, kOf_half HX.out⟩
            case measure => simp [intOf]; omega
          · go_wp2_with fail
            go_meet
            exact HB2.out
      · have e4 : decide (n < 0) = false := decide_eq_false hn
        have HK : Hid (n = kOf n) := by show n = kOf n; unfold kOf; rw [if_neg hn]
        have hn1 : n ≤ 127 := HN.out.2
        go_wp2_with fail
        go_loop [10, 11] (fun kv iv => KRel n kv iv) (fun _ iv => 8 - (intOf iv).toNat)
        case atStart => exact ⟨0, _, by omega, rfl, rfl, by simpa using HK.out⟩
        case round =>
          obtain ⟨k, x, hk, rfl, rfl, hx⟩ := hrel
          have hx0 : 0 ≤ x := by rw [hx]; exact (kOf_bounds HN.out.1 HN.out.2 k).1
          have hx1 : x ≤ 255 := by rw [hx]; exact (kOf_bounds HN.out.1 HN.out.2 k).2
          have HX := Lib.hid hx
          clear hx
          by_cases hlt : k < 8
          · have hc := HC2.out k _ (bits_get n k hlt)
            have hb := kOf_bit (n := n) k hlt
            rw [← HX.out] at hb
            rw [← hb] at hc
            have e6 : (x % 2 != x % 2) = false := by simp
            clear hb
            go_wp2
            go_round
            case rel => exact ⟨k + 1, _, by omega, by go_num, rfl, kOf_half HX.out⟩
            case measure => simp [intOf]; omega
          · go_wp2_with fail
            go_meet
            exact HB2.out
    · have HB2 := Lib.hid (H1.out.trans (hb2.mono H1.out.size))
      have HC := Lib.hid (coded_sent (H.out.below ((HW0.out.trans (HB2.out.mono (by have := HS0.out; omega))).mono HBB.out)) (Nat.le_trans HBB.out (Nat.le_trans HW0.out.size HB2.out.size)) (k := 2) (by decide) (by decide))
      clear hb2
      go_wp2_with fail
      refine HC.out.mono ?_
      rintro e w3 ⟨rfl, hb3⟩
      have HB3 := Lib.hid (HB2.out.trans (hb3.mono HB2.out.size))
      clear hb3
      go_wp2_with fail
      go_meet
      exact HB3.out
  case rest =>
  obtain ⟨w4, h4, he4⟩ : ∃ w4, Below W0.heap.size W0 w4 ∧ w4 = _ := ⟨_, hcut, rfl⟩
  subst he4
  have hsz := HS0.out
  have x0 : w4.cell? ⟨w.heap.size, 0, none⟩ = some (.int .i64 a) := by rw [h4.cell (by simp; omega)]; exact HX0.out
  have x1 : w4.cell? ⟨w.heap.size, 1, none⟩ = some (.int .i64 b) := by rw [h4.cell (by simp; omega)]; exact HX1.out
  have H4 := Lib.hid h4
  have HE4 := Lib.hid (H.out.below ((HW0.out.trans (h4.mono (by omega))).mono HBB.out))
  clear hcut h4 hsz
  go_wp2_with fail
  refine (bits_post HE4.out a b).mono ?_
  rintro e w5 ⟨vb, eb, rfl, hbp⟩
  obtain ⟨h5, hbp⟩ : Below w4.heap.size w4 w5 ∧ BP ea a b w4 vb eb w5 := by
    refine ⟨?_, hbp⟩
    rcases hbp with ⟨_, _, _, _, _, _, _, _, h⟩ | ⟨_, _, _, h⟩
    · exact h
    · exact h
  have y0 : w5.cell? ⟨w.heap.size, 0, none⟩ = some (.int .i64 a) := by rw [h5.cell (World.block_lt_of_cell? _ _ x0)]; exact x0
  have y1 : w5.cell? ⟨w.heap.size, 1, none⟩ = some (.int .i64 b) := by rw [h5.cell (World.block_lt_of_cell? _ _ x1)]; exact x1
  have HBP := Lib.hid hbp
  have H5 := Lib.hid (H4.out.trans (h5.mono H4.out.size))
  clear hbp h5
  go_wp2_with fail
  refine (right_any w5 a b).mono ?_
  rintro e w6 ⟨rfl, h6⟩
  have z0 : w6.cell? ⟨w.heap.size, 0, none⟩ = some (.int .i64 a) := by rw [h6.cell (World.block_lt_of_cell? _ _ y0)]; exact y0
  have z1 : w6.cell? ⟨w.heap.size, 1, none⟩ = some (.int .i64 b) := by rw [h6.cell (World.block_lt_of_cell? _ _ y1)]; exact y1
  have H6 := Lib.hid (H5.out.trans (h6.mono H5.out.size))
  have H56 := Lib.hid h6
  clear h6 x0 x1 y0 y1
  go_upto_if 84 with fail
  go_cut [13, 14, 15] (fun _ _ _ wx => Below W0.heap.size W0 wx)
  case first =>
    rcases HBP.out with ⟨h1, rfl, A5, c5, m, rfl, hm, hown, hb5⟩ | ⟨h1, rfl, rfl, hb5⟩
    · have HV := Lib.hid (valOf_bits h1 hm)
      have hl : (bitsB b m).length = m := bitsB_len b m
      have h8 : m = 1 ∨ m = 8 := by rw [hm]; split <;> simp
      have hrd : Reads w6 w6.heap.size 1 A5 (bitsB b m).length (boolVals (bitsB b m)) := by
        rw [hl]
        exact ((Reads.of_own hown).below H56.out).more H56.out.size
      have HE := Lib.hid (HE4.out.below (hb5.mono (Nat.le_trans HBB.out (Nat.le_trans HW0.out.size H4.out.size)))) 
      have C := Lib.hid (value_any (c := c5) ((HE.out.below (H56.out.mono (Nat.le_trans (Nat.le_trans HBB.out (Nat.le_trans HW0.out.size H4.out.size)) hb5.size))).var 3 (by decide) (by decide)) (by rw [hl]; omega) hrd)
      rw [hl, if_pos h8, HV.out] at C
      rw [h1]
      clear hm hown hb5 h1 hl h8 hrd
      go_wp2_with fail
      refine C.out.mono ?_
      rintro e w7 ⟨rfl, h7⟩
      have HB7 := Lib.hid (H6.out.trans (h7.mono H6.out.size))
      have q0 : w7.cell? ⟨w.heap.size, 0, none⟩ = some (.int .i64 a) := by rw [h7.cell (World.block_lt_of_cell? _ _ z0)]; exact z0
      have q1 : w7.cell? ⟨w.heap.size, 1, none⟩ = some (.int .i64 b) := by rw [h7.cell (World.block_lt_of_cell? _ _ z1)]; exact z1
      clear h7
      go_upto_region 25 with fail
      obtain ⟨W8, hW8⟩ : ∃ W8, W8 = w7.alloc (.cells #[.int .i64 a, .int .i64 b] 23) := ⟨_, rfl⟩
      have r0 : W8.cell? ⟨w.heap.size, 0, none⟩ = some (.int .i64 a) := by rw [hW8, World.cell?_alloc_lt _ _ _ (World.block_lt_of_cell? _ _ q0)]; exact q0
      have r1 : W8.cell? ⟨w.heap.size, 1, none⟩ = some (.int .i64 b) := by rw [hW8, World.cell?_alloc_lt _ _ _ (World.block_lt_of_cell? _ _ q1)]; exact q1
      have s0 : W8.cell? ⟨w7.heap.size, 0, none⟩ = some (.int .i64 a) := by rw [hW8, (Blk.new w7 _ _).cell 0]; rfl
      have s1 : W8.cell? ⟨w7.heap.size, 1, none⟩ = some (.int .i64 b) := by rw [hW8, (Blk.new w7 _ _).cell 1]; rfl
      have HB8 : Hid (Below W0.heap.size W0 W8) := by rw [hW8]; exact HB7.out.alloc HB7.out.size _
      rw [← hW8]
      clear hW8 q0 q1 z0 z1
      go_wp2_with fail
      go_meet
      exact HB8.out
    · have HC := Lib.hid (coded_sent (HE4.out.below ((hb5.trans (H56.out.mono hb5.size)).mono (Nat.le_trans HBB.out (Nat.le_trans HW0.out.size H4.out.size)))) (Nat.le_trans HBB.out (Nat.le_trans HW0.out.size H6.out.size)) (k := 5) (by decide) (by decide))
      rw [h1]
      clear hb5 h1
      go_wp2_with fail
      refine HC.out.mono ?_
      rintro e w7 ⟨rfl, hb7⟩
      have HB7 := Lib.hid (H6.out.trans (hb7.mono H6.out.size))
      clear hb7
      go_wp2_with fail
      go_meet
      exact HB7.out
  case rest =>
    obtain ⟨w7, h7, he7⟩ : ∃ w7, Below W0.heap.size W0 w7 ∧ w7 = _ := ⟨_, hcut, rfl⟩
    subst he7
    have HB7 : Hid (Below w.heap.size w w7) := HW0.out.trans (h7.mono HW0.out.size)
    have HR7 := Lib.hid ((HR.out.below HB7.out).more HB7.out.size)
    have hl50 := HL.out
    clear hcut h7 z0 z1
    obtain ⟨i0, hi⟩ := info_parts infoBool
    have HI := Lib.hid hi
    clear hi
    go_wp2_with (at_builtin; refine wpList_append_sl _ rfl (.tmp 110) (.tmp 111) _ rfl w7.heap.size 4 i0 _ 1 1 Tryd.underlying24 HI.out.1 HI.out.2.1 HI.out.2.2.1 HI.out.2.2.2 rfl (by omega) _ 0 [] rfl (World.ownsRow_nil _ _ _ _) w7.heap.size A l.length c (boolVals l) rfl HR7.out (bools_oneCell l) (le_maxLen (by omega)) (le_bytes (by omega) (by omega)) (Nat.le_refl _) ?_; rw [Nat.zero_add]; intro A8 c8 w8 hown8 hg8)
    have HB8 : Hid (Below w.heap.size w w8) := HB7.out.trans (((Below.refl _ _).grown hg8 (Nat.le_refl _) (fun j hj => by cases hj)).mono HB7.out.size)
    have HE8 := Lib.hid (H.out.below (HB8.out.mono HBB.out))
    have HR8 := Lib.hid (Reads.of_own hown8)
    clear hown8 hg8
    have CV := Lib.hid (value_any (c := c8) (HE8.out.var 3 (by decide) (by decide)) (Nat.le_trans hl50 (by omega)) HR8.out)
    by_cases h18 : l.length = 1 ∨ l.length = 8
    · rw [if_pos h18] at CV
      have HRT := Lib.hid (right_of h18)
      have HBO := Lib.hid (bits_of h18)
      have HKO := Lib.hid (kind_of h18)
      obtain ⟨⟨x1, x2⟩, hx⟩ : ∃ x, x = valOf l := ⟨_, rfl⟩
      rw [← hx] at CV HRT HBO HKO
      clear hx
      go_wp2_with fail
      refine CV.out.mono ?_
      rintro e w9 ⟨rfl, h9⟩
      have HB9 := Lib.hid (HB8.out.trans (h9.mono HB8.out.size))
      clear h9
      have e18 : ((l.length : Int) != 1 && (l.length : Int) != 8) = false := by rcases h18 with h | h <;> simp [h]
      go_upto_region 29 with fail
      obtain ⟨W9, hW9⟩ : ∃ W9, W9 = w9.alloc (.cells #[.int .i64 x1, .int .i64 x2] 23) := ⟨_, rfl⟩
      have s0 : W9.cell? ⟨w9.heap.size, 0, none⟩ = some (.int .i64 x1) := by rw [hW9, (Blk.new w9 _ _).cell 0]; rfl
      have s1 : W9.cell? ⟨w9.heap.size, 1, none⟩ = some (.int .i64 x2) := by rw [hW9, (Blk.new w9 _ _).cell 1]; rfl
      have HBW : Hid (Below w.heap.size w W9) := by rw [hW9]; exact HB9.out.alloc HB9.out.size _
      rw [← hW9]
      clear hW9
      go_cut [123] (fun s wx => s = .bool false ∧ W9 = wx)
      case first =>
        rcases h18 with h18 | h18
        · have f1 : ((l.length : Int) != 1) = false := by simp [h18]
          clear h18 e18
          go_wp2_with fail
          go_meet
          exact ⟨rfl, rfl⟩
        · have f1 : ((l.length : Int) != 1) = true := by simp [h18]
          have f2 : ((l.length : Int) != 8) = false := by simp [h18]
          clear h18 e18
          go_wp2_with fail
          go_meet
          exact ⟨rfl, rfl⟩
      case rest =>
      obtain ⟨rfl, rfl⟩ := hcut
      clear e18
      go_wp2_with fail
      refine (right_any _ x1 x2).mono ?_
      rintro e wa ⟨rfl, ha⟩
      rw [HRT.out]
      have t0 : wa.cell? ⟨w9.heap.size, 0, none⟩ = some (.int .i64 x1) := by rw [ha.cell (World.block_lt_of_cell? _ _ s0)]; exact s0
      have t1 : wa.cell? ⟨w9.heap.size, 1, none⟩ = some (.int .i64 x2) := by rw [ha.cell (World.block_lt_of_cell? _ _ s1)]; exact s1
      have HBa := Lib.hid (HBW.out.trans (ha.mono HBW.out.size))
      clear ha s0 s1 h18
      go_wp2_with fail
      refine (bits_post (H.out.below (HBa.out.mono HBB.out)) x1 x2).mono ?_
      rintro e wb ⟨vb, eb, rfl, hbp⟩
      rcases hbp with ⟨_, rfl, Ab, cb, m, rfl, hm, hown, hbb⟩ | ⟨hf, _⟩
      · rw [← HKO.out] at hm
        subst hm
        rw [HBO.out] at hown
        have hrb := Reads.of_own hown
        have HBb := Lib.hid (HBa.out.trans (hbb.mono HBa.out.size))
        have HRb := Lib.hid hrb
        have HRo := Lib.hid (HR.out.below HBb.out)
        have f3 : ((l.length : Int) != l.length) = false := by simp
        clear hown hrb hbb
        go_wp2_with fail
        go_loopw [19] (fun i wr => ∃ k : Nat, k ≤ l.length ∧ i = .int .i64 k ∧ Below wb.heap.size wb wr) (fun i _ => l.length - (intOf i).toNat)
        case atStart => exact ⟨0, by omega, rfl, Below.refl _ _⟩
        case round =>
          obtain ⟨k, hk, rfl, hwr⟩ := hrel
          have HWR := Lib.hid hwr
          clear hwr
          by_cases hlt : k < l.length
          · obtain ⟨ad, u, rfl, _, hx, hc⟩ := ((HRo.out.more HBb.out.size).below HWR.out).at_ hlt
            obtain ⟨ad2, u2, rfl, _, hx2, hc2⟩ := (HRb.out.below HWR.out).at_ hlt
            obtain ⟨hj, hu⟩ := boolVals_get hx
            obtain ⟨_, hu2⟩ := boolVals_get hx2
            obtain ⟨y, hy⟩ : ∃ y, y = l[k]'hj := ⟨_, rfl⟩
            rw [← hy] at hu hu2
            subst hu
            subst hu2
            have f4 : (y != y) = false := by simp
            clear hx hx2 hy
            go_wp2_with fail
            go_quiet (fail)
            go_wp2
            go_roundw
            case rel => exact ⟨k + 1, by omega, by go_num, below_drewN HWR.out _⟩
            case measure => simp [intOf]; omega
          · obtain rfl : k = l.length := by omega
            go_wp2
            go_ret
            exact ⟨rfl, HBb.out.trans (HWR.out.mono HBb.out.size)⟩
      · have := HRT.out
        rw [hf] at this
        cases this
    · rw [if_neg h18] at CV
      have hv : valOf l = (0, 0) := by
        unfold valOf; rw [if_neg (fun h => h18 (.inl h)), if_neg (fun h => h18 (.inr h))]
      rw [hv] at CV
      have e1 : ((l.length : Int) != 1) = true := by simp; omega
      have e8 : ((l.length : Int) != 8) = true := by simp; omega
      clear h18 hv
      go_wp2_with fail
      refine CV.out.mono ?_
      rintro e w9 ⟨rfl, h9⟩
      have HB9 := Lib.hid (HB8.out.trans (h9.mono HB8.out.size))
      clear h9
      go_upto_region 29 with fail
      obtain ⟨W9, hW9⟩ : ∃ W9, W9 = w9.alloc (.cells #[.int .i64 0, .int .i64 0] 23) := ⟨_, rfl⟩
      have s0 : W9.cell? ⟨w9.heap.size, 0, none⟩ = some (.int .i64 0) := by rw [hW9, (Blk.new w9 _ _).cell 0]; rfl
      have s1 : W9.cell? ⟨w9.heap.size, 1, none⟩ = some (.int .i64 0) := by rw [hW9, (Blk.new w9 _ _).cell 1]; rfl
      have HBW : Hid (Below w.heap.size w W9) := by rw [hW9]; exact HB9.out.alloc HB9.out.size _
      rw [← hW9]
      clear hW9
      have HC := Lib.hid (coded_sent (H.out.below (HBW.out.mono HBB.out)) (Nat.le_trans HBB.out HBW.out.size) (k := 3) (by decide) (by decide))
      go_wp2_with fail
      refine HC.out.mono ?_
      rintro e wa ⟨rfl, ha⟩
      have t0 : wa.cell? ⟨w9.heap.size, 0, none⟩ = some (.int .i64 0) := by rw [ha.cell (World.block_lt_of_cell? _ _ s0)]; exact s0
      have t1 : wa.cell? ⟨w9.heap.size, 1, none⟩ = some (.int .i64 0) := by rw [ha.cell (World.block_lt_of_cell? _ _ s1)]; exact s1
      have HBa := Lib.hid (HBW.out.trans (ha.mono HBW.out.size))
      clear ha s0 s1
      go_wp2_with fail
      go_ret
      exact ⟨rfl, HBa.out⟩
end Go.Proofs.YtlolfcmnebjpkaaDoor
