/-
  CLOSED RUNS: how many ways queens stand. No program in sight.
  THE WALK of the law SatQueens.
-/
import Derived.Test.YtchpfdppfelmkaaDoorI6
import Derived.Test.YtchpfdppfelmkaaDoorM0
import Derived.Test.YtchpfdppfelmkaaDoorN9
namespace Go.Proofs.YtchpfdppfelmkaaDoor.slv
open cr
def rowQ (n y : Nat) : List Int := (List.range n).map fun x => ((y * n + x + 1 : Nat) : Int)
def attQ (n i k : Nat) : Bool :=
  (((i % n : Nat) : Int) - ((k % n : Nat) : Int) == 0) || (((i / n : Nat) : Int) - ((k / n : Nat) : Int) == 0) || (((i % n : Nat) : Int) - ((k % n : Nat) : Int) == ((i / n : Nat) : Int) - ((k / n : Nat) : Int)) || (((i % n : Nat) : Int) - ((k % n : Nat) : Int) == -(((i / n : Nat) : Int) - ((k / n : Nat) : Int)))
def pairQ (n i k : Nat) : List (List Int) := ((List.range k).filter (attQ n i)).map fun (k : Nat) => [-(i : Int) - 1, -(k : Int) - 1]
def pairsQ (n i : Nat) : List (List Int) := (List.range i).flatMap fun i => pairQ n i i
def rowsQ (n y : Nat) : List (List Int) := (List.range y).map (rowQ n)
def queensF (n : Nat) : List (List Int) := rowsQ n n ++ pairsQ n (n * n)
def wantQ (n : Nat) : Nat := [0, 1, 0, 0, 2, 10, 4].getD n 0
set_option maxRecDepth 1000000
theorem queens1 : cntQ 1 100 2000 200 some (queensF 1) = some 1 := by decide +kernel
theorem queens2 : cntQ 4 100 2000 200 some (queensF 2) = some 0 := by decide +kernel
theorem queens3 : cntQ 9 100 2000 200 some (queensF 3) = some 0 := by decide +kernel
theorem queens4 : cntQ 16 100 2000 200 some (queensF 4) = some 2 := by decide +kernel
theorem queens5 : cntQ 25 100 2000 200 some (queensF 5) = some 10 := by decide +kernel
theorem queens6 : cntQ 36 100 2000 200 some (queensF 6) = some 4 := by decide +kernel
theorem queens_run {n : Nat} (h1 : 1 ≤ n) (h2 : n ≤ 6) : ∃ s0, newM (n * n) (queensF n) = some s0 ∧ countL (n * n) 100 2000 200 0 s0 = some (some (wantQ n)) := by
  have h : cntQ (n * n) 100 2000 200 some (queensF n) = some (wantQ n) := by
    have : n = 1 ∨ n = 2 ∨ n = 3 ∨ n = 4 ∨ n = 5 ∨ n = 6 := by omega
    rcases this with rfl | rfl | rfl | rfl | rfl | rfl
    · exact queens1
    · exact queens2
    · exact queens3
    · exact queens4
    · exact queens5
    · exact queens6
  have hV : n * n ≤ 60 := Nat.le_trans (Nat.mul_le_mul h2 h2) (by omega)
  obtain ⟨s0, m, e1, e2, e3⟩ := cntQ_ok hV h
  injection e3 with e3
  subst e3
  exact ⟨s0, e1, e2⟩
/-! ### what is built, step by step -/
theorem rowsQ_succ (n y : Nat) : rowsQ n (y + 1) = rowsQ n y ++ [rowQ n y] := by unfold rowsQ; rw [List.range_succ, List.map_append]; rfl
theorem pairsQ_succ (n i : Nat) : pairsQ n (i + 1) = pairsQ n i ++ pairQ n i i := by unfold pairsQ; rw [List.range_succ, List.flatMap_append]; simp
theorem pairQ_succ (n i k : Nat) : pairQ n i (k + 1) = pairQ n i k ++ if attQ n i k = true then [[-(i : Int) - 1, -(k : Int) - 1]] else [] := by
  unfold pairQ
  rw [List.range_succ, List.filter_append, List.map_append]
  congr 1
  by_cases h : attQ n i k = true
  · rw [if_pos h, List.filter_cons_of_pos h]; rfl
  · rw [if_neg h, List.filter_cons_of_neg h]; rfl
theorem pairQ_zero (n i : Nat) : pairQ n i 0 = [] := rfl
theorem rowQ_at {n y x : Nat} (h : x < n) : (rowQ n y).take (x + 1) = (rowQ n y).take x ++ [((y * n + x + 1 : Nat) : Int)] := by
  rw [List.take_add_one]
  congr 1
  unfold rowQ
  rw [List.getElem?_map, List.getElem?_range h]; rfl
theorem rowQ_len (n y : Nat) : (rowQ n y).length = n := by unfold rowQ; simp
theorem rowsQ_len (n y : Nat) : (rowsQ n y).length = y := by unfold rowsQ; simp
theorem pairQ_len (n i k : Nat) : (pairQ n i k).length ≤ k := by
  unfold pairQ
  rw [List.length_map]
  exact Nat.le_trans (List.length_filter_le _ _) (by simp)
theorem pairsQ_len (n : Nat) : ∀ i, (pairsQ n i).length ≤ i * i
  | 0 => by simp [pairsQ]
  | i + 1 => by
    rw [pairsQ_succ, List.length_append]
    have h1 := pairsQ_len n i
    have h2 := pairQ_len n i i
    have e : (i + 1) * (i + 1) = i * i + 2 * i + 1 := by rw [Nat.add_mul, Nat.mul_add]; omega
    omega
theorem queens_lit {n : Nat} (h2 : n ≤ 6) : ∀ d ∈ queensF n, d.length ≤ 1000000 ∧ ∀ z ∈ d, Lit (n * n) z := by
  intro d hd
  unfold queensF at hd
  rcases List.mem_append.1 hd with hd | hd
  · unfold rowsQ at hd
    obtain ⟨y, hy, rfl⟩ := List.mem_map.1 hd
    have hy := List.mem_range.1 hy
    refine ⟨by rw [rowQ_len]; omega, fun z hz => ?_⟩
    unfold rowQ at hz
    obtain ⟨x, hx, rfl⟩ := List.mem_map.1 hz
    have hx := List.mem_range.1 hx
    have h : y * n + n ≤ n * n := by
      have : (y + 1) * n ≤ n * n := Nat.mul_le_mul_right _ (by omega)
      rw [Nat.succ_mul] at this
      exact this
    refine ⟨by omega, ?_⟩
    show ((y * n + x + 1 : Nat) : Int).natAbs ≤ n * n
    rw [Int.natAbs_natCast]; omega
  · unfold pairsQ at hd
    obtain ⟨i, hi, hd⟩ := List.mem_flatMap.1 hd
    have hi := List.mem_range.1 hi
    unfold pairQ at hd
    obtain ⟨k, hk, rfl⟩ := List.mem_map.1 hd
    have hk := List.mem_range.1 (List.mem_filter.1 hk).1
    refine ⟨by simp, fun z hz => ?_⟩
    generalize n * n = N at hi ⊢
    rcases List.mem_cons.1 hz with e | e
    · exact ⟨by omega, by omega⟩
    · obtain rfl : z = -(k : Int) - 1 := by simpa using e
      exact ⟨by omega, by omega⟩
theorem queens_len {n : Nat} (h2 : n ≤ 6) : (queensF n).length ≤ 2000 := by
  unfold queensF
  rw [List.length_append, rowsQ_len]
  have h := pairsQ_len n (n * n)
  have h3 : n * n ≤ 36 := Nat.mul_le_mul h2 h2
  have h4 : n * n * (n * n) ≤ 36 * 36 := Nat.mul_le_mul h3 h3
  omega
end Go.Proofs.YtchpfdppfelmkaaDoor.slv
namespace Go.Proofs.YtchpfdppfelmkaaDoor.slv
open Go.RowKit
set_option maxRecDepth 100000 in
theorem board_any {w : World} {n y x : Nat} (hn : n ≤ 6) (hy : y ≤ 6) (hx : x ≤ 6) : Calls Tryd.prog 12 #[.agg #[.int .i64 (n : Nat)], .int .i64 (x : Nat), .int .i64 (y : Nat)] w (fun e w' => e = .returned (.int .i64 ((y * n + x + 1 : Nat) : Int)) ∧ Below w.heap.size w w') := by
  have hm : y * n ≤ 36 := Nat.mul_le_mul hy hn
  have w1 : IntKind.i64.wrap ((y : Int) * (n : Int)) = ((y * n : Nat) : Int) := by
    rw [show ((y : Int) * (n : Int)) = ((y * n : Nat) : Int) by simp, IntKind.wrap_i64]; omega
  have w2 : IntKind.i64.wrap (((y * n : Nat) : Int) + (x : Int)) = ((y * n + x : Nat) : Int) := by rw [IntKind.wrap_i64]; omega
  have w3 : IntKind.i64.wrap (((y * n + x : Nat) : Int) + 1) = ((y * n + x + 1 : Nat) : Int) := by rw [IntKind.wrap_i64]; omega
  obtain ⟨W1, hW1⟩ : ∃ W1, W1 = w.alloc (.cells #[.int .i64 (n : Nat)] 37) := ⟨_, rfl⟩
  have hb1 : Below w.heap.size w W1 := by rw [hW1]; exact (Below.refl _ _).alloc (Nat.le_refl _) _
  have k1 : Blk W1 w.heap.size 37 #[.int .i64 (n : Nat)] := by rw [hW1]; exact Blk.new w _ _
  have c0 := k1.cell 0
  have HW1 := Lib.hid hW1
  have HB1 := Lib.hid hb1
  clear hW1 hb1 k1
  go_enter Tryd.func12, Tryd.ntmps12
  go_upto_region 1 with fail
  rw [← HW1.out]
  go_wp2_with fail
  go_ret
  exact ⟨rfl, HB1.out⟩
/-- the row under way -/
def RwA (W : World) (n y : Nat) (xv rv : Value) (wr : World) : Prop :=
  ∃ (x : Nat) (A : Option Addr) (c : Nat), x ≤ n ∧ xv = .int .i64 (x : Nat) ∧ rv = .slice A x c ∧ Below W.heap.size W wr ∧ wr.ownsRow W.heap.size 3 1 (.slice A x c) x (litVals ((rowQ n y).take x))
attribute [local irreducible] wpSeq
set_option maxRecDepth 100000 in
set_option maxHeartbeats 16000000 in
theorem queens_any {w : World} {ea : Nat → Addr} {z : Int} (hes : Sen w ea) : Calls Tryd.prog 4 #[.int .i64 z] w (RtT w) := by
  obtain ⟨i0, hi0, hz0, hz1, hz2⟩ := info_parts infoIntR_
  have HIN := Lib.hid (show _ ∧ _ ∧ _ ∧ _ from ⟨hi0, hz0, hz1, hz2⟩)
  clear hi0 hz0 hz1 hz2
  obtain ⟨ic, hi0', hz0', hz1', hz2'⟩ := info_parts infoClause_
  have HIC := Lib.hid (show _ ∧ _ ∧ _ ∧ _ from ⟨hi0', hz0', hz1', hz2'⟩)
  clear hi0' hz0' hz1' hz2'
  have C0 := Lib.hid (holds_true hes)
  have HES := Lib.hid hes
  clear hes
  go_enter Tryd.func4, Tryd.ntmps4
  go_wp2_with fail
  refine C0.out.mono ?_
  rintro e w1 ⟨rfl, hb1⟩
  have HB1 := Lib.hid hb1
  clear hb1
  by_cases h1 : z < 1
  · have e1 : decide (z < 1) = true := decide_eq_true h1
    go_wp2_with fail
    go_ret
    exact ⟨rfl, HB1.out⟩
  have e1 : decide (z < 1) = false := decide_eq_false h1
  by_cases h2 : 6 < z
  · have e2 : decide (6 < z) = true := decide_eq_true h2
    go_wp2_with fail
    go_ret
    exact ⟨rfl, HB1.out⟩
  have e2 : decide (6 < z) = false := decide_eq_false h2
  obtain ⟨n, hn⟩ : ∃ n : Nat, z = (n : Int) := ⟨z.toNat, by omega⟩
  subst hn
  have e3 : decide (n < 1) = false := decide_eq_false (by omega)
  have e4 : decide (6 < n) = false := decide_eq_false (by omega)
  have HN := Lib.hid (show 1 ≤ n ∧ n ≤ 6 by omega)
  obtain ⟨V, hV⟩ : ∃ V, n * n = V := ⟨_, rfl⟩
  have hV6 : V ≤ 36 := by rw [← hV]; exact Nat.mul_le_mul HN.out.2 HN.out.2
  have wV : IntKind.i64.wrap ((n : Int) * (n : Int)) = (V : Int) := by
    rw [show ((n : Int) * (n : Int)) = ((n * n : Nat) : Int) by simp, hV, IntKind.wrap_i64]; omega
  have HV := Lib.hid (And.intro hV hV6)
  clear h1 h2 hV hV6
  obtain ⟨g, hg⟩ : ∃ g, w1.heap.size = g := ⟨_, rfl⟩
  obtain ⟨W2, hW2⟩ : ∃ W2, W2 = w1.alloc (.cells #[.int .i64 (V : Nat), .slice none 0 0] 29) := ⟨_, rfl⟩
  have hf2 : FmA w1 g V (g + 1) [] W2 := by rw [hW2, ← hg]; exact FmA.new w1 V
  obtain ⟨b5, hb5⟩ : ∃ b5, W2.heap.size = b5 := ⟨_, rfl⟩
  obtain ⟨W3, hW3⟩ : ∃ W3, W3 = W2.alloc (.cells #[.int .i64 (n : Nat)] 37) := ⟨_, rfl⟩
  have hb3 : Below W2.heap.size W2 W3 := by rw [hW3]; exact (Below.refl _ _).alloc (Nat.le_refl _) _
  have k3 : Blk W3 b5 37 #[.int .i64 (n : Nat)] := by rw [hW3, ← hb5]; exact Blk.new W2 _ _
  have HF3 := Lib.hid (hf2.chg hb3)
  have HK3 := Lib.hid k3
  have HW2 := Lib.hid hW2
  have HW3 := Lib.hid hW3
  have HG := Lib.hid (show w1.heap.size = g ∧ b5 ≠ g from ⟨hg, by rw [← hb5, ← hg, hW2]; simp⟩)
  clear hf2 hb3 k3 hW2 hW3
  go_upto_region 5 with fail
  try rw [hg]
  rw [← HW2.out]
  go_upto_region 6 with fail
  try rw [hb5]
  rw [← HW3.out]
  clear hg hb5 e1 e2 e3 e4
  have HST := Lib.hid (show FmA w1 g V (g + 1) (rowsQ n 0) W3 ∧ Blk W3 b5 37 #[.int .i64 (n : Nat)] from ⟨HF3.out, HK3.out⟩)
  go_wp2_with fail
  go_loopw [6] (fun yv wr => ∃ y : Nat, y ≤ n ∧ yv = .int .i64 (y : Nat) ∧ FmA w1 g V (g + 1) (rowsQ n y) wr ∧ Blk wr b5 37 #[.int .i64 (n : Nat)]) (fun yv _ => n - (intOf yv).toNat)
  case atStart => exact ⟨0, Nat.zero_le _, rfl, HST.out.1, HST.out.2⟩
  case round =>
    obtain ⟨y, hy, ey, hf, hk⟩ := hrel
    subst ey
    have HF := Lib.hid hf
    have HK := Lib.hid hk
    clear hf hk HST HF3 HK3
    by_cases hyn : y < n
    · have hyI : (y : Int) < (n : Int) := by omega
      obtain ⟨wo, rfl⟩ : ∃ wo, wo = wr := ⟨_, rfl⟩
      have HS := Lib.hid (show RwA wo n y (.int .i64 ((0 : Nat) : Int)) (.slice none 0 0) wo from ⟨0, none, 0, Nat.zero_le _, rfl, rfl, Below.refl _ _, World.ownsRow_nil _ _ _ _⟩)
      have HYN := Lib.hid hyn
      go_wp2_with fail
      go_loopw [8, 7] (fun xv rv wx => RwA wo n y xv rv wx) (fun xv _ _ => n - (intOf xv).toNat)
      case atStart => exact HS.out
      case round =>
        clear HS
        obtain ⟨x, A, c, hx, e1, e2, hb, ho⟩ := hrel
        subst e1
        subst e2
        have HB := Lib.hid hb
        have HO := Lib.hid ho
        clear hb ho hyI hyn
        by_cases hxn : x < n
        · have hxI : (x : Int) < (n : Int) := by omega
          have kb := HK.out.below HB.out HK.out.lt
          have c0 := kb.cell 0
          have CB := Lib.hid (board_any (w := wr) (n := n) (y := y) (x := x) HN.out.2 (by have := HN.out; have := HYN.out; omega) (by have := HN.out; omega))
          have HXN := Lib.hid hxn
          clear kb hxn
          go_wp2_with fail
          refine CB.out.mono ?_
          rintro e w5 ⟨rfl, hb5⟩
          obtain ⟨v, hv⟩ : ∃ v, y * n + x + 1 = v := ⟨_, rfl⟩
          rw [hv]
          have HB5 := Lib.hid (HB.out.trans (hb5.mono HB.out.size))
          have ho5 := own_chg (S := fun _ _ => False) HO.out (Chg.of_new hb5) (fun _ _ _ _ => id)
          have HO5 := Lib.hid (World.ownsRow.alloc ho5 (.cells #[.int .i64 (v : Nat)] 3))
          have HSZ := Lib.hid (show wo.heap.size ≤ (w5.alloc (.cells #[.int .i64 (v : Nat)] 3)).heap.size by have := HB5.out.size; simp; omega)
          have HV1 := Lib.hid hv
          have hx6 : x ≤ 6 := by have := HN.out; omega
          have w1' : IntKind.i64.wrap ((x : Int) + 1) = ((x + 1 : Nat) : Int) := by rw [IntKind.wrap_i64]; omega
          obtain ⟨x1, hx1⟩ : ∃ x1, x + 1 = x1 := ⟨_, rfl⟩
          rw [hx1] at w1'
          have HX1 := Lib.hid hx1
          clear hb5 ho5 hv c0 CB hx1
          go_wp2_with (first | (at_builtin; refine wpList_append_sl _ rfl (.tmp 44) (.tmp 49) _ rfl wo.heap.size 3 i0 _ 1 8 Tryd.underlying26 HIN.out.1 HIN.out.2.1 HIN.out.2.2.1 HIN.out.2.2.2 rfl (by omega) (.slice A x c) x (litVals ((rowQ n y).take x)) rfl HO5.out (w5.heap.size + 1) (some ⟨w5.heap.size, 0, none⟩) 1 1 [.int .i64 (v : Nat)] rfl (reads_new (by simp) (by simp) rfl) (by intro u hu; rw [List.mem_singleton.1 hu]; rfl) (le_maxLen (by omega)) (le_bytes (by omega) (by omega)) HSZ.out ?_; intro A8 c8 w8 hown8 hg8; have HO8 := Lib.hid hown8; have HG8 := Lib.hid hg8; clear hown8 hg8) | fail)
          have hown8 := HO8.out
          rw [lit_snoc] at hown8
          have hb8 : Below wo.heap.size wo w8 := ((HB5.out.alloc HB5.out.size (.cells #[.int .i64 (v : Nat)] 3)).grown HG8.out HSZ.out (own_geq HO5.out))
          have htk : (rowQ n y).take x ++ [((v : Nat) : Int)] = (rowQ n y).take x1 := by rw [← HX1.out, rowQ_at HXN.out, HV1.out]
          rw [htk, HX1.out] at hown8
          have HN8 := Lib.hid (show RwA wo n y (.int .i64 (x1 : Nat)) (.slice A8 (x + 1) c8) w8 from ⟨x1, A8, c8, by have := HXN.out; have := HX1.out; omega, rfl, by rw [HX1.out], hb8, hown8⟩)
          clear hown8 hb8 htk
          go_wp2_with fail
          go_roundw
          case rel => exact HN8.out
          case measure => have := HX1.out; have := HXN.out; simp [intOf]; omega
        · obtain rfl : x = n := by omega
          have hf' := HF.out.chg HB.out
          obtain ⟨Af, cf, hb1, hk1, ⟨rows, hrow, hcl⟩, hsz, hbase⟩ := hf'
          rw [rowsQ_len] at hk1 hrow
          have ho2 := HO.out
          rw [List.take_of_length_le (by rw [rowQ_len]; exact Nat.le_refl _)] at ho2
          have hu : wr.ownsRow (g + 1) 3 1 (.slice A x c) (rowQ x y).length (litVals (rowQ x y)) := by
            rw [rowQ_len]
            exact own_base ho2 (by obtain ⟨_, _, _, _, _, q1, _⟩ := HF.out; exact q1)
          have hk5 := HK.out.below HB.out HK.out.lt
          have d1 := hk1.cell 1
          have HKF := Lib.hid hk1
          have HROW := Lib.hid hrow
          have HCL := Lib.hid hcl
          have HU := Lib.hid hu
          have HK5 := Lib.hid hk5
          have HSB := Lib.hid (And.intro hb1 (And.intro hsz hbase))
          have HRD := Lib.hid (show Reads (wr.alloc (.cells #[.slice A x c] 26)) (wr.heap.size + 1) 1 (some ⟨wr.heap.size, 0, none⟩) 1 [.slice A x c] from reads_new (by simp) (by simp) rfl)
          have hy6 : y ≤ 6 := by have := HN.out; omega
          have w1' : IntKind.i64.wrap ((y : Int) + 1) = (y : Int) + 1 := by rw [IntKind.wrap_i64]; omega
          clear hb1 hk1 hrow hcl hu hk5 ho2 hsz hbase hxn hx
          go_wp2_with (first | (at_builtin; refine wpList_append_sl _ rfl (.tmp 52) (.tmp 54) _ rfl (g + 1) 26 ic _ 1 24 Tryd.underlying22 HIC.out.1 HIC.out.2.1 HIC.out.2.2.1 HIC.out.2.2.2 rfl (by omega) _ y _ rfl (HROW.out.alloc _) (wr.heap.size + 1) (some ⟨wr.heap.size, 0, none⟩) 1 1 [.slice A x c] rfl HRD.out (fun u hu => by rw [List.mem_singleton.1 hu]; rfl) (le_maxLen (by omega)) (le_bytes (by omega) (by omega)) (by have := HSB.out.2.1; simp; omega) ?_; intro A9 c9 w9 hown9 hg9; have k9 := blk_grown (HKF.out.alloc _) (HROW.out.alloc _) (by decide) hg9; have e1 := k9.cell 1; have f1 := k9.frozen 1; have HK9 := Lib.hid (blk_grown (HK5.out.alloc _) (HROW.out.alloc _) (by decide) hg9); have HP9 := Lib.hid (FmA.push (rowsQ_len x y) HSB.out.1 HKF.out HROW.out HCL.out HU.out HSB.out.2.1 (by have := HG.out.1; omega) (by have := HG.out.1; omega) hg9 hown9); clear hown9 hg9 k9) | fail)
          have HK10 := Lib.hid (HK9.out.far (p := ⟨g, 1, none⟩) HG.out.2 (.slice A9 (y + 1) c9))
          clear d1 e1 f1
          go_wp2_with fail
          go_roundw
          case rel => exact ⟨y + 1, HYN.out, by go_num, by rw [rowsQ_succ]; exact HP9.out, HK10.out⟩
          case measure => have := HYN.out; simp [intOf]; omega
    · obtain rfl : y = n := by omega
      have HS3 := Lib.hid (show FmA w1 g V (g + 1) (rowsQ y y ++ pairsQ y 0) wr from by rw [show pairsQ y 0 = [] from rfl, List.append_nil]; exact HF.out)
      have hn1 : 1 ≤ y := HN.out.1
      have hn6 : y ≤ 6 := HN.out.2
      have z1 : ((y : Int) == 0) = false := by simp; omega
      clear hyn hy HF HK HW2 HW3
      go_wp2_with fail
      go_loopw [9] (fun iv wx => ∃ i : Nat, i ≤ V ∧ iv = .int .i64 (i : Nat) ∧ FmA w1 g V (g + 1) (rowsQ y y ++ pairsQ y i) wx) (fun iv _ => V - (intOf iv).toNat)
      case atStart => exact ⟨0, Nat.zero_le _, rfl, HS3.out⟩
      case round =>
        clear HS3
        obtain ⟨i, hi, ei, hf⟩ := hrel
        subst ei
        have HF := Lib.hid hf
        have HI := Lib.hid hi
        clear hf hi
        by_cases hiV : i < V
        · have hiI : (i : Int) < (V : Int) := by omega
          have HIV := Lib.hid hiV
          have HS4 := Lib.hid (show FmA w1 g V (g + 1) (rowsQ y y ++ pairsQ y i ++ pairQ y i 0) wr from by rw [pairQ_zero, List.append_nil]; exact HF.out)
          clear hiV HF
          go_wp2_with fail
          go_loopw [10, 11, 12] (fun kv _ _ wx => ∃ k : Nat, k ≤ i ∧ kv = .int .i64 (k : Nat) ∧ FmA w1 g V (g + 1) (rowsQ y y ++ pairsQ y i ++ pairQ y i k) wx) (fun kv _ _ _ => i - (intOf kv).toNat)
          case atStart => exact ⟨0, Nat.zero_le _, rfl, HS4.out⟩
          case round =>
            clear HS4
            obtain ⟨k, hk, ek, hf⟩ := hrel
            subst ek
            have HF := Lib.hid hf
            have HKI := Lib.hid hk
            clear hf hk
            by_cases hki : k < i
            · have hkI : (k : Int) < (i : Int) := by omega
              obtain ⟨X, hX⟩ : ∃ X : Int, ((i % y : Nat) : Int) - ((k % y : Nat) : Int) = X := ⟨_, rfl⟩
              obtain ⟨Y, hY⟩ : ∃ Y : Int, ((i / y : Nat) : Int) - ((k / y : Nat) : Int) = Y := ⟨_, rfl⟩
              have hi36 : i < 36 := by have := HIV.out; have := HV.out.2; omega
              have m1 : i % y < y := Nat.mod_lt _ (by omega)
              have m2 : k % y < y := Nat.mod_lt _ (by omega)
              have m3 : i / y ≤ i := Nat.div_le_self _ _
              have m4 : k / y ≤ k := Nat.div_le_self _ _
              have bX : -6 ≤ X ∧ X ≤ 6 := by rw [← hX]; generalize i % y = a1 at m1; generalize k % y = a2 at m2; omega
              have bY : -36 ≤ Y ∧ Y ≤ 36 := by rw [← hY]; clear hX; generalize i / y = a1 at m3; generalize k / y = a2 at m4; omega
              have wX : IntKind.i64.wrap ((i : Int) % (y : Int) - (k : Int) % (y : Int)) = X := by
                have e : (i : Int) % (y : Int) - (k : Int) % (y : Int) = X := by rw [← hX]; simp
                rw [e, IntKind.wrap_i64]; omega
              have wY : IntKind.i64.wrap ((i : Int) / (y : Int) - (k : Int) / (y : Int)) = Y := by
                have e : (i : Int) / (y : Int) - (k : Int) / (y : Int) = Y := by rw [← hY]; simp
                rw [e, IntKind.wrap_i64]; omega
              have wd1 : IntKind.i64.wrap ((i : Int) / (y : Int)) = (i : Int) / (y : Int) := by
                have e : (i : Int) / (y : Int) = ((i / y : Nat) : Int) := by simp
                rw [e, IntKind.wrap_i64]; generalize i / y = a1 at m3; omega
              have wd2 : IntKind.i64.wrap ((k : Int) / (y : Int)) = (k : Int) / (y : Int) := by
                have e : (k : Int) / (y : Int) = ((k / y : Nat) : Int) := by simp
                rw [e, IntKind.wrap_i64]; generalize k / y = a1 at m4; omega
              have wNY : IntKind.i64.wrap (-Y) = -Y := by rw [IntKind.wrap_i64]; omega
              have hatt : attQ y i k = (X == 0 || Y == 0 || X == Y || X == -Y) := by unfold attQ; rw [hX, hY]
              obtain ⟨q1, hq1⟩ : ∃ q1, (X == 0) = q1 := ⟨_, rfl⟩
              obtain ⟨q2, hq2⟩ : ∃ q2, (Y == 0) = q2 := ⟨_, rfl⟩
              obtain ⟨q3, hq3⟩ : ∃ q3, (X == Y) = q3 := ⟨_, rfl⟩
              obtain ⟨q4, hq4⟩ : ∃ q4, (X == -Y) = q4 := ⟨_, rfl⟩
              rw [hq1, hq2, hq3, hq4] at hatt
              have HATT := Lib.hid hatt
              have wi : IntKind.i64.wrap (-(i : Int)) = -(i : Int) := by rw [IntKind.wrap_i64]; omega
              have wi1 : IntKind.i64.wrap (-(i : Int) - 1) = -(i : Int) - 1 := by rw [IntKind.wrap_i64]; omega
              have wk : IntKind.i64.wrap (-(k : Int)) = -(k : Int) := by rw [IntKind.wrap_i64]; omega
              have wk1 : IntKind.i64.wrap (-(k : Int) - 1) = -(k : Int) - 1 := by rw [IntKind.wrap_i64]; omega
              have wk2 : IntKind.i64.wrap ((k : Int) + 1) = (k : Int) + 1 := by rw [IntKind.wrap_i64]; omega
              have HKI2 := Lib.hid hki
              have HI36 := Lib.hid hi36
              clear hiI hX hY m1 m2 m3 m4 bX bY hatt hki hi36
              go_upto_region 21 with fail
              go_quiet (fail)
              have HF2 := Lib.hid (HF.out.drewN nq)
              obtain ⟨wz, hwz⟩ : ∃ wz, wr.drewN nq = wz := ⟨_, rfl⟩
              rw [hwz] at HF2
              rw [hwz]
              clear hwz HF
              go_upto_region 22 with fail
              go_quiet (fail)
              have HF3 := Lib.hid (HF2.out.drewN nq)
              obtain ⟨wy, hwy⟩ : ∃ wy, wz.drewN nq = wy := ⟨_, rfl⟩
              rw [hwy] at HF3
              rw [hwy]
              clear hwy HF2
              have hcase : (q1 = true ∧ attQ y i k = true) ∨ (q1 = false ∧ q2 = true ∧ attQ y i k = true) ∨ (q1 = false ∧ q2 = false ∧ q3 = true ∧ attQ y i k = true) ∨ (q1 = false ∧ q2 = false ∧ q3 = false ∧ q4 = true ∧ attQ y i k = true) ∨ (q1 = false ∧ q2 = false ∧ q3 = false ∧ q4 = false ∧ attQ y i k = false) := by
                have h := HATT.out
                cases q1 <;> cases q2 <;> cases q3 <;> cases q4 <;> simp at h <;> simp [h]
              obtain ⟨L, hL⟩ : ∃ L, rowsQ y y ++ pairsQ y i ++ pairQ y i k = L := ⟨_, rfl⟩
              obtain ⟨m, hm⟩ : ∃ m, L.length = m := ⟨_, rfl⟩
              have hm2 : m ≤ 2000 := by
                rw [← hm, ← hL, List.length_append, List.length_append, rowsQ_len]
                have h1 := pairsQ_len y i
                have h2 := pairQ_len y i k
                have h3 := HI36.out
                have h4 : i * i ≤ 36 * 36 := Nat.mul_le_mul (by omega) (by omega)
                have h5 := HKI2.out
                omega
              have hf3 := HF3.out
              rw [hL] at hf3
              have HF4 := Lib.hid hf3
              obtain ⟨Af, cf, hb1, hk1, ⟨rows, hrow, hcl⟩, hsz, hbase⟩ := hf3
              rw [hm] at hk1 hrow
              have HKF := Lib.hid hk1
              have HROW := Lib.hid hrow
              have HCL := Lib.hid hcl
              have HSB := Lib.hid (And.intro hb1 (And.intro hsz hbase))
              have HL := Lib.hid (And.intro hL hm)
              have d1 := hk1.cell 1
              clear hb1 hk1 hrow hcl hsz hbase hL hm HF3 HATT
              rcases hcase with ⟨rfl, ha⟩ | ⟨rfl, rfl, ha⟩ | ⟨rfl, rfl, rfl, ha⟩ | ⟨rfl, rfl, rfl, rfl, ha⟩ | ⟨rfl, rfl, rfl, rfl, ha⟩
              rotate_right
              · have HN4 := Lib.hid (show FmA w1 g V (g + 1) (rowsQ y y ++ pairsQ y i ++ pairQ y i (k + 1)) wy from by rw [pairQ_succ, ha, if_neg (by decide), List.append_nil, HL.out.1]; exact HF4.out)
                clear ha d1
                go_wp2_with fail
                go_roundw
                case rel => exact ⟨k + 1, HKI2.out, by go_num, HN4.out⟩
                case measure => have := HKI2.out; simp [intOf]; omega
              all_goals
                have HA := Lib.hid ha
                have HRD := Lib.hid (show ∀ a b : Int, Reads ((wy.alloc (.cells #[.int .i64 a, .int .i64 b] 3)).alloc (.cells #[.slice (some ⟨wy.heap.size, 0, none⟩) 2 2] 26)) (wy.heap.size + 2) 1 (some ⟨wy.heap.size + 1, 0, none⟩) 1 [.slice (some ⟨wy.heap.size, 0, none⟩) 2 2] from fun a b =>
                  reads_new (w := wy.alloc (.cells #[.int .i64 a, .int .i64 b] 3)) (xs := [.slice (some ⟨wy.heap.size, 0, none⟩) 2 2]) (g := wy.heap.size + 1) (by simp) (by omega) rfl)
                clear ha
                go_wp2_with (first | (at_builtin; go_loud (refine wpList_append_sl _ rfl (.tmp 101) (.tmp 109) _ rfl (g + 1) 26 ic _ 1 24 Tryd.underlying22 HIC.out.1 HIC.out.2.1 HIC.out.2.2.1 HIC.out.2.2.2 rfl (by omega) _ m _ rfl ((HROW.out.alloc _).alloc _) (wy.heap.size + 2) (some ⟨wy.heap.size + 1, 0, none⟩) 1 1 [.slice (some ⟨wy.heap.size, 0, none⟩) 2 2] rfl (HRD.out _ _) (fun u hu => by rw [List.mem_singleton.1 hu]; rfl) (le_maxLen (by omega)) (le_bytes (by omega) (by omega)) (by have := HSB.out.2.1; simp; omega) ?_; intro A9 c9 w9 hown9 hg9; have k9 := blk_grown ((HKF.out.alloc _).alloc _) ((HROW.out.alloc _).alloc _) (by decide) hg9; have e1 := k9.cell 1; have f1 := k9.frozen 1; have HP9 := Lib.hid (FmA.push (l := [-(i : Int) - 1, -(k : Int) - 1]) HL.out.2 (HSB.out.1.alloc HSB.out.1.size _) (HKF.out.alloc _) (HROW.out.alloc _) (fun j l hl => by obtain ⟨u, u1, u2⟩ := HCL.out j l hl; exact ⟨u, u1, u2.alloc _⟩) (own_full0 (xs := [.int .i64 (-(i : Int) - 1), .int .i64 (-(k : Int) - 1)]) HSB.out.2.1 rfl (by simp)) (by have := HSB.out.2.1; simp; omega) (by have := HG.out.1; omega) (by have := HG.out.1; omega) hg9 hown9); clear hown9 hg9 k9)) | fail)
                have HN4 := Lib.hid (show FmA w1 g V (g + 1) (rowsQ y y ++ pairsQ y i ++ pairQ y i (k + 1)) (w9.setCell ⟨g, 1, none⟩ (.slice A9 (m + 1) c9)) from by rw [pairQ_succ, HA.out, if_pos rfl, ← List.append_assoc, HL.out.1]; exact HP9.out)
                clear d1 e1 f1
                go_wp2_with fail
                go_roundw
                case rel => exact ⟨k + 1, HKI2.out, by go_num, HN4.out⟩
                case measure => have := HKI2.out; simp [intOf]; omega
            · obtain rfl : k = i := by have := HKI.out; omega
              have HN5 := Lib.hid (show FmA w1 g V (g + 1) (rowsQ y y ++ pairsQ y (k + 1)) wr from by rw [pairsQ_succ, ← List.append_assoc]; exact HF.out)
              have hk36 : k ≤ 36 := by have := HIV.out; have := HV.out.2; omega
              have wk2 : IntKind.i64.wrap ((k : Int) + 1) = (k : Int) + 1 := by rw [IntKind.wrap_i64]; omega
              clear hki HF hiI
              go_wp2_with fail
              go_roundw
              case rel => exact ⟨k + 1, HIV.out, by go_num, HN5.out⟩
              case measure => have := HIV.out; simp [intOf]; omega
        · obtain rfl : i = V := by have := HI.out; omega
          obtain ⟨s0, e0, hcl⟩ := queens_run HN.out.1 HN.out.2
          have hlen := queens_len HN.out.2
          have hlit := queens_lit HN.out.2
          have hf := HF.out
          have hq : rowsQ y y ++ pairsQ y i = queensF y := by unfold queensF; rw [HV.out.1]
          rw [hq] at hf
          rw [HV.out.1] at e0 hcl hlit
          obtain ⟨Af, cf, hb1, hk1, hcs, _, _⟩ := hf
          have CC := Lib.hid (count_run (w := wr) (c := cf) (most := 100) (HES.out.below (HB1.out.trans (hb1.mono HB1.out.size))) (by have := HV.out.2; omega) rfl (CsO.of_at hcs) hlit (by omega) (by omega) (by omega) e0 hcl)
          have d0 := hk1.cell 0
          have d1 := hk1.cell 1
          have HBW := Lib.hid (HB1.out.trans (hb1.mono HB1.out.size))
          clear hb1 hk1 hcs e0 hcl hlen hlit hq HF hiV
          go_wp2_with fail
          refine CC.out.mono ?_
          rintro e w5 ⟨rfl, hb5⟩
          have HB5 := Lib.hid (HBW.out.trans (hb5.mono HBW.out.size))
          clear hb5 d0 d1 CC
          have hyy : y = 1 ∨ y = 2 ∨ y = 3 ∨ y = 4 ∨ y = 5 ∨ y = 6 := by omega
          rcases hyy with rfl | rfl | rfl | rfl | rfl | rfl
          all_goals
            try dsimp only [wantQ, List.getD_eq_getElem?_getD, List.getElem?_cons_zero, List.getElem?_cons_succ, Option.getD]
            go_wp2_with fail
            go_ret
            exact ⟨rfl, HB5.out.alloc HB5.out.size _⟩
end Go.Proofs.YtchpfdppfelmkaaDoor.slv
