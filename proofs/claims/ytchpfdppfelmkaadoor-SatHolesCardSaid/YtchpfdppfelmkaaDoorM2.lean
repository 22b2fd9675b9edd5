/-
  THE WALK of the law SatHoles.
-/
import Derived.Test.YtchpfdppfelmkaaDoorI6
import Derived.Test.YtchpfdppfelmkaaDoorMq
namespace Go.Proofs.YtchpfdppfelmkaaDoor.slv
open cr
def rowH (n i : Nat) : List Int := (List.range n).map fun k => ((i * n + k + 1 : Nat) : Int)
def rowsH (n i : Nat) : List (List Int) := (List.range i).map (rowH n)
def inH (n k i j : Nat) : List (List Int) := (List.range j).map fun j => [-((i * n + k + 1 : Nat) : Int), -((j * n + k + 1 : Nat) : Int)]
def midH (n k i : Nat) : List (List Int) := (List.range i).flatMap fun i => inH n k i i
def outH (n k : Nat) : List (List Int) := (List.range k).flatMap fun k => midH n k (n + 1)
def holesF (n : Nat) : List (List Int) := rowsH n (n + 1) ++ outH n n
set_option maxRecDepth 1000000
theorem holes1 : solveQ 2 100000 2000 (fun _ => none) (fun _ => some ()) (holesF 1) = some () := by decide +kernel
theorem holes2 : solveQ 6 100000 2000 (fun _ => none) (fun _ => some ()) (holesF 2) = some () := by decide +kernel
theorem holes3 : solveQ 12 100000 2000 (fun _ => none) (fun _ => some ()) (holesF 3) = some () := by decide +kernel
theorem holes4 : solveQ 20 100000 2000 (fun _ => none) (fun _ => some ()) (holesF 4) = some () := by decide +kernel
theorem holes5 : solveQ 30 100000 2000 (fun _ => none) (fun _ => some ()) (holesF 5) = some () := by decide +kernel
theorem holes_run {n : Nat} (h1 : 1 ≤ n) (h2 : n ≤ 5) : ∃ s0 pf s1, newM (n * (n + 1)) (holesF n) = some s0 ∧ searchM (n * (n + 1)) 100000 2000 s0 = some (.no pf, s1) := by
  have h : solveQ (n * (n + 1)) 100000 2000 (fun _ => none) (fun _ => some ()) (holesF n) = some () := by
    have : n = 1 ∨ n = 2 ∨ n = 3 ∨ n = 4 ∨ n = 5 := by omega
    rcases this with rfl | rfl | rfl | rfl | rfl
    · exact holes1
    · exact holes2
    · exact holes3
    · exact holes4
    · exact holes5
  have hV : n * (n + 1) ≤ 60 := Nat.le_trans (Nat.mul_le_mul h2 (Nat.succ_le_succ h2)) (by omega)
  obtain ⟨s0, e1, ⟨s1, _, _, e⟩ | ⟨pf, s1, e2, _⟩⟩ := solveQ_ok hV h
  · cases e
  · exact ⟨s0, pf, _, e1, e2⟩
theorem rowsH_succ (n i : Nat) : rowsH n (i + 1) = rowsH n i ++ [rowH n i] := by unfold rowsH; rw [List.range_succ, List.map_append]; rfl
theorem inH_succ (n k i j : Nat) : inH n k i (j + 1) = inH n k i j ++ [[-((i * n + k + 1 : Nat) : Int), -((j * n + k + 1 : Nat) : Int)]] := by unfold inH; rw [List.range_succ, List.map_append]; rfl
theorem midH_succ (n k i : Nat) : midH n k (i + 1) = midH n k i ++ inH n k i i := by unfold midH; rw [List.range_succ, List.flatMap_append]; simp
theorem outH_succ (n k : Nat) : outH n (k + 1) = outH n k ++ midH n k (n + 1) := by unfold outH; rw [List.range_succ, List.flatMap_append]; simp
theorem rowH_len (n i : Nat) : (rowH n i).length = n := by unfold rowH; simp
theorem rowsH_len (n i : Nat) : (rowsH n i).length = i := by unfold rowsH; simp
theorem inH_len (n k i j : Nat) : (inH n k i j).length = j := by unfold inH; simp
theorem midH_len (n k : Nat) : ∀ i, (midH n k i).length ≤ i * i
  | 0 => by simp [midH]
  | i + 1 => by
    rw [midH_succ, List.length_append, inH_len]
    have h1 := midH_len n k i
    have e : (i + 1) * (i + 1) = i * i + 2 * i + 1 := by rw [Nat.add_mul, Nat.mul_add]; omega
    omega
theorem outH_len (n : Nat) : ∀ k, (outH n k).length ≤ k * ((n + 1) * (n + 1))
  | 0 => by simp [outH]
  | k + 1 => by
    rw [outH_succ, List.length_append, Nat.succ_mul]
    have h1 := outH_len n k
    have h2 := midH_len n k (n + 1)
    omega
theorem rowH_at {n i k : Nat} (h : k < n) : (rowH n i).take (k + 1) = (rowH n i).take k ++ [((i * n + k + 1 : Nat) : Int)] := by
  rw [List.take_add_one]
  congr 1
  unfold rowH
  rw [List.getElem?_map, List.getElem?_range h]; rfl
theorem holes_cell {n i k : Nat} (hi : i ≤ n) (hk : k < n) : i * n + k + 1 ≤ n * (n + 1) := by
  have h1 : i * n ≤ n * n := Nat.mul_le_mul_right _ hi
  have h2 : n * (n + 1) = n * n + n := Nat.mul_succ _ _
  omega
theorem holes_lit {n : Nat} (h2 : n ≤ 5) : ∀ d ∈ holesF n, d.length ≤ 100000 ∧ ∀ z ∈ d, Lit (n * (n + 1)) z := by
  intro d hd
  unfold holesF at hd
  rcases List.mem_append.1 hd with hd | hd
  · unfold rowsH at hd
    obtain ⟨i, hi, rfl⟩ := List.mem_map.1 hd
    have hi := List.mem_range.1 hi
    refine ⟨by rw [rowH_len]; omega, fun z hz => ?_⟩
    unfold rowH at hz
    obtain ⟨k, hk, rfl⟩ := List.mem_map.1 hz
    have hk := List.mem_range.1 hk
    have h := holes_cell (show i ≤ n by omega) hk
    refine ⟨by omega, ?_⟩
    show ((i * n + k + 1 : Nat) : Int).natAbs ≤ n * (n + 1)
    rw [Int.natAbs_natCast]; exact h
  · unfold outH at hd
    obtain ⟨k, hk, hd⟩ := List.mem_flatMap.1 hd
    have hk := List.mem_range.1 hk
    unfold midH at hd
    obtain ⟨i, hi, hd⟩ := List.mem_flatMap.1 hd
    have hi := List.mem_range.1 hi
    unfold inH at hd
    obtain ⟨j, hj, rfl⟩ := List.mem_map.1 hd
    have hj := List.mem_range.1 hj
    have h3 := holes_cell (show i ≤ n by omega) hk
    have h4 := holes_cell (show j ≤ n by omega) hk
    refine ⟨by simp, fun z hz => ?_⟩
    generalize n * (n + 1) = N at h3 h4 ⊢
    generalize i * n = a at h3 hz
    generalize j * n = b at h4 hz
    rcases List.mem_cons.1 hz with e | e
    · exact ⟨by omega, by omega⟩
    · obtain rfl : z = -((b + k + 1 : Nat) : Int) := by simpa using e
      exact ⟨by omega, by omega⟩
theorem holes_len {n : Nat} (h2 : n ≤ 5) : (holesF n).length ≤ 1000 := by
  unfold holesF
  rw [List.length_append, rowsH_len]
  have h := outH_len n n
  have h3 : (n + 1) * (n + 1) ≤ 6 * 6 := Nat.mul_le_mul (Nat.succ_le_succ h2) (Nat.succ_le_succ h2)
  have h4 : n * ((n + 1) * (n + 1)) ≤ 5 * (6 * 6) := Nat.mul_le_mul h2 h3
  omega
end Go.Proofs.YtchpfdppfelmkaaDoor.slv
namespace Go.Proofs.YtchpfdppfelmkaaDoor.slv
open Go.RowKit
/-- the row under way; its counter begins at 1 -/
def RwH (W : World) (n i : Nat) (kv rv : Value) (wr : World) : Prop :=
  ∃ (k : Nat) (A : Option Addr) (c : Nat), k ≤ n ∧ kv = .int .i64 ((k + 1 : Nat) : Int) ∧ rv = .slice A k c ∧ Below W.heap.size W wr ∧ wr.ownsRow W.heap.size 3 1 (.slice A k c) k (litVals ((rowH n i).take k))
attribute [local irreducible] wpSeq
set_option maxRecDepth 100000 in
set_option maxHeartbeats 16000000 in
theorem holesLaw_any {w : World} {ea : Nat → Addr} {z : Int} (hes : Sen3 w ea) : Calls Tryd.prog 6 #[.int .i64 z] w (RtT w) := by
  obtain ⟨i0, hi0, hz0, hz1, hz2⟩ := info_parts infoIntR_
  have HIN := Lib.hid (show _ ∧ _ ∧ _ ∧ _ from ⟨hi0, hz0, hz1, hz2⟩)
  clear hi0 hz0 hz1 hz2
  obtain ⟨ic, hi0', hz0', hz1', hz2'⟩ := info_parts infoClause_
  have HIC := Lib.hid (show _ ∧ _ ∧ _ ∧ _ from ⟨hi0', hz0', hz1', hz2'⟩)
  clear hi0' hz0' hz1' hz2'
  have C0 := Lib.hid (holds_true hes.s)
  have HES := Lib.hid hes
  clear hes
  go_enter Tryd.func6, Tryd.ntmps6
  go_wp2_with fail
  refine C0.out.mono ?_
  rintro e w1 ⟨rfl, hb1⟩
  have HB1 := Lib.hid hb1
  clear hb1
  by_cases h1 : z < 1
  · have e1 : decide (z < 1) = true := decide_eq_true h1
    go_wp2_with fail
    go_ret
    exact ⟨rfl, HB1.out⟩
  have e1 : decide (z < 1) = false := decide_eq_false h1
  by_cases h2 : 5 < z
  · have e2 : decide (5 < z) = true := decide_eq_true h2
    go_wp2_with fail
    go_ret
    exact ⟨rfl, HB1.out⟩
  have e2 : decide (5 < z) = false := decide_eq_false h2
  obtain ⟨n, hn⟩ : ∃ n : Nat, z = (n : Int) := ⟨z.toNat, by omega⟩
  subst hn
  have e3 : decide (n < 1) = false := decide_eq_false (by omega)
  have e4 : decide (5 < n) = false := decide_eq_false (by omega)
  have HN := Lib.hid (show 1 ≤ n ∧ n ≤ 5 by omega)
  obtain ⟨V, hV⟩ : ∃ V, n * (n + 1) = V := ⟨_, rfl⟩
  have hV6 : V ≤ 5 * 6 := by rw [← hV]; exact Nat.mul_le_mul HN.out.2 (Nat.succ_le_succ HN.out.2)
  have wn1 : IntKind.i64.wrap ((n : Int) + 1) = ((n + 1 : Nat) : Int) := by rw [IntKind.wrap_i64]; omega
  obtain ⟨n1, hn1⟩ : ∃ n1, n + 1 = n1 := ⟨_, rfl⟩
  rw [hn1] at wn1 hV
  have wV : IntKind.i64.wrap ((n : Int) * (n1 : Int)) = (V : Int) := by
    rw [show ((n : Int) * (n1 : Int)) = ((n * n1 : Nat) : Int) by simp, hV, IntKind.wrap_i64]; omega
  have HV := Lib.hid (show n * (n + 1) = V ∧ V ≤ 30 by rw [hn1]; exact ⟨hV, by omega⟩)
  have HN1 := Lib.hid hn1
  clear h1 h2 hV hV6 hn1
  obtain ⟨g, hg⟩ : ∃ g, w1.heap.size = g := ⟨_, rfl⟩
  obtain ⟨W2, hW2⟩ : ∃ W2, W2 = w1.alloc (.cells #[.int .i64 (V : Nat), .slice none 0 0] 29) := ⟨_, rfl⟩
  have hf2 : FmA w1 g V (g + 1) [] W2 := by rw [hW2, ← hg]; exact FmA.new w1 V
  have HF2 := Lib.hid hf2
  have HW2 := Lib.hid hW2
  have HG := Lib.hid hg
  clear hf2 hW2
  go_upto_region 5 with fail
  try rw [hg]
  rw [← HW2.out]
  clear hg e1 e2 e3 e4 wn1 wV
  have HST := Lib.hid (show FmA w1 g V (g + 1) (rowsH n 0) W2 from HF2.out)
  go_wp2_with fail
  go_loopw [5] (fun yv wr => ∃ i : Nat, i ≤ n + 1 ∧ yv = .int .i64 (i : Nat) ∧ FmA w1 g V (g + 1) (rowsH n i) wr) (fun yv _ => n + 1 - (intOf yv).toNat)
  case atStart => exact ⟨0, Nat.zero_le _, rfl, HST.out⟩
  case round =>
    obtain ⟨i, hi, ei, hf⟩ := hrel
    subst ei
    have HF := Lib.hid hf
    clear hf HST HF2
    by_cases hin : i ≤ n
    · have hiI : (i : Int) ≤ (n : Int) := by omega
      obtain ⟨wo, rfl⟩ : ∃ wo, wo = wr := ⟨_, rfl⟩
      have HS := Lib.hid (show RwH wo n i (.int .i64 ((0 + 1 : Nat) : Int)) (.slice none 0 0) wo from ⟨0, none, 0, Nat.zero_le _, rfl, rfl, Below.refl _ _, World.ownsRow_nil _ _ _ _⟩)
      have HYN := Lib.hid hin
      go_wp2_with fail
      go_loopw [7, 6] (fun kv rv wx => RwH wo n i kv rv wx) (fun kv _ _ => n + 1 - (intOf kv).toNat)
      case atStart => exact HS.out
      case round =>
        clear HS
        obtain ⟨k, A, c, hk, e1, e2, hb, ho⟩ := hrel
        subst e1
        subst e2
        have HB := Lib.hid hb
        have HO := Lib.hid ho
        clear hb ho hiI hin
        obtain ⟨k1, hk1⟩ : ∃ k1, k + 1 = k1 := ⟨_, rfl⟩
        rw [hk1]
        have HK1 := Lib.hid hk1
        by_cases hkn : k < n
        · have hkI : (k1 : Int) ≤ (n : Int) := by omega
          have HKN := Lib.hid hkn
          have hin5 : i * n ≤ 25 := Nat.mul_le_mul (show i ≤ 5 by have := HYN.out; have := HN.out; omega) HN.out.2
          have hk6 : k1 ≤ 6 := by have := HN.out; omega
          have wm : IntKind.i64.wrap ((i : Int) * (n : Int)) = ((i * n : Nat) : Int) := by
            rw [show ((i : Int) * (n : Int)) = ((i * n : Nat) : Int) by simp, IntKind.wrap_i64]; omega
          obtain ⟨p, hp⟩ : ∃ p, i * n = p := ⟨_, rfl⟩
          rw [hp] at wm hin5
          have wp : IntKind.i64.wrap ((p : Int) + (k1 : Int)) = ((p + k1 : Nat) : Int) := by rw [IntKind.wrap_i64]; omega
          obtain ⟨v, hv⟩ : ∃ v, p + k1 = v := ⟨_, rfl⟩
          rw [hv] at wp
          have HO5 := Lib.hid (World.ownsRow.alloc HO.out (.cells #[.int .i64 (v : Nat)] 3))
          have HSZ := Lib.hid (show wo.heap.size ≤ (wr.alloc (.cells #[.int .i64 (v : Nat)] 3)).heap.size by have := HB.out.size; simp; omega)
          have HV1 := Lib.hid (show i * n + k + 1 = v by omega)
          have w1' : IntKind.i64.wrap ((k1 : Int) + 1) = ((k1 + 1 : Nat) : Int) := by rw [IntKind.wrap_i64]; omega
          obtain ⟨k2, hk2⟩ : ∃ k2, k1 + 1 = k2 := ⟨_, rfl⟩
          rw [hk2] at w1'
          have HK2 := Lib.hid hk2
          have hk5 : k ≤ 5 := by omega
          clear hp hv hk2 hk1 hkn hin5 hk6 hk
          go_wp2_with (first | (at_builtin; go_loud (refine wpList_append_sl _ rfl (.tmp 40) (.tmp 46) _ rfl wo.heap.size 3 i0 _ 1 8 Tryd.underlying26 HIN.out.1 HIN.out.2.1 HIN.out.2.2.1 HIN.out.2.2.2 rfl (by omega) (.slice A k c) k (litVals ((rowH n i).take k)) rfl HO5.out (wr.heap.size + 1) (some ⟨wr.heap.size, 0, none⟩) 1 1 [.int .i64 (v : Nat)] rfl (reads_new (by simp) (by simp) rfl) (by intro u hu; rw [List.mem_singleton.1 hu]; rfl) (le_maxLen (by omega)) (le_bytes (by omega) (by omega)) HSZ.out ?_; intro A8 c8 w8 hown8 hg8; have HO8 := Lib.hid hown8; have HG8 := Lib.hid hg8; clear hown8 hg8)) | fail)
          have hown8 := HO8.out
          rw [lit_snoc] at hown8
          have hb8 : Below wo.heap.size wo w8 := ((HB.out.alloc HB.out.size (.cells #[.int .i64 (v : Nat)] 3)).grown HG8.out HSZ.out (own_geq HO5.out))
          have htk : (rowH n i).take k ++ [((v : Nat) : Int)] = (rowH n i).take (k + 1) := by rw [rowH_at HKN.out, HV1.out]
          rw [htk] at hown8
          have HN8 := Lib.hid (show RwH wo n i (.int .i64 (k2 : Nat)) (.slice A8 (k + 1) c8) w8 from ⟨k + 1, A8, c8, by have := HKN.out; omega, by have h1 := HK1.out; have h2 := HK2.out; rw [← h2, ← h1], rfl, hb8, hown8⟩)
          clear hown8 hb8 htk
          go_wp2_with fail
          go_roundw
          case rel => exact HN8.out
          case measure => have := HK2.out; have := HK1.out; have := HKN.out; simp [intOf]; omega
        · obtain rfl : k = n := by omega
          have hkI : ¬ (k1 : Int) ≤ (k : Int) := by omega
          have hf' := HF.out.chg HB.out
          obtain ⟨Af, cf, hb1, hkk, ⟨rows, hrow, hcl⟩, hsz, hbase⟩ := hf'
          rw [rowsH_len] at hkk hrow
          have ho2 := HO.out
          rw [List.take_of_length_le (by rw [rowH_len]; exact Nat.le_refl _)] at ho2
          have hu : wr.ownsRow (g + 1) 3 1 (.slice A k c) (rowH k i).length (litVals (rowH k i)) := by
            rw [rowH_len]
            exact own_base ho2 (by obtain ⟨_, _, _, _, _, q1, _⟩ := HF.out; exact q1)
          have d1 := hkk.cell 1
          have HKF := Lib.hid hkk
          have HROW := Lib.hid hrow
          have HCL := Lib.hid hcl
          have HU := Lib.hid hu
          have HSB := Lib.hid (And.intro hb1 (And.intro hsz hbase))
          have HRD := Lib.hid (show Reads (wr.alloc (.cells #[.slice A k c] 26)) (wr.heap.size + 1) 1 (some ⟨wr.heap.size, 0, none⟩) 1 [.slice A k c] from reads_new (by simp) (by simp) rfl)
          have hi5 : i ≤ 5 := by have := HN.out; have := HYN.out; omega
          have w1' : IntKind.i64.wrap ((i : Int) + 1) = (i : Int) + 1 := by rw [IntKind.wrap_i64]; omega
          clear hb1 hkk hrow hcl hu ho2 hsz hbase hkn hk hk1
          go_wp2_with (first | (at_builtin; go_loud (refine wpList_append_sl _ rfl (.tmp 49) (.tmp 51) _ rfl (g + 1) 26 ic _ 1 24 Tryd.underlying22 HIC.out.1 HIC.out.2.1 HIC.out.2.2.1 HIC.out.2.2.2 rfl (by omega) _ i _ rfl (HROW.out.alloc _) (wr.heap.size + 1) (some ⟨wr.heap.size, 0, none⟩) 1 1 [.slice A k c] rfl HRD.out (fun u hu => by rw [List.mem_singleton.1 hu]; rfl) (le_maxLen (by omega)) (le_bytes (by omega) (by omega)) (by have := HSB.out.2.1; simp; omega) ?_; intro A9 c9 w9 hown9 hg9; have k9 := blk_grown (HKF.out.alloc _) (HROW.out.alloc _) (by decide) hg9; have e1 := k9.cell 1; have f1 := k9.frozen 1; have HP9 := Lib.hid (FmA.push (rowsH_len k i) HSB.out.1 HKF.out HROW.out HCL.out HU.out HSB.out.2.1 (by have := HG.out; omega) (by have := HG.out; omega) hg9 hown9); clear hown9 hg9 k9)) | fail)
          clear d1 e1 f1
          go_wp2_with fail
          go_roundw
          case rel => exact ⟨i + 1, by have := HYN.out; omega, by go_num, by rw [rowsH_succ]; exact HP9.out⟩
          case measure => have := HYN.out; simp [intOf]; omega
    · obtain rfl : i = n + 1 := by omega
      have hniI : ¬ ((n + 1 : Nat) : Int) ≤ (n : Int) := by omega
      have HS3 := Lib.hid (show FmA w1 g V (g + 1) (rowsH n (n + 1) ++ outH n 0) wr from by rw [show outH n 0 = [] from rfl, List.append_nil]; exact HF.out)
      obtain ⟨m1, hm1⟩ : ∃ m1, n + 1 = m1 := ⟨_, rfl⟩
      obtain ⟨R, hR⟩ : ∃ R, rowsH n (n + 1) = R := ⟨_, rfl⟩
      rw [hR] at HS3
      have HR := Lib.hid (show rowsH n (n + 1) = R ∧ R.length = n + 1 from ⟨hR, by rw [← hR, rowsH_len]⟩)
      clear hin hi HF HW2 hR hm1
      go_wp2_with fail
      go_loopw [8] (fun kv wx => ∃ k : Nat, k ≤ n ∧ kv = .int .i64 ((k + 1 : Nat) : Int) ∧ FmA w1 g V (g + 1) (R ++ outH n k) wx) (fun kv _ => n + 1 - (intOf kv).toNat)
      case atStart => exact ⟨0, Nat.zero_le _, rfl, HS3.out⟩
      case round =>
        clear HS3
        obtain ⟨k, hk, ek, hf⟩ := hrel
        subst ek
        have HF := Lib.hid hf
        have HK := Lib.hid hk
        clear hf hk
        obtain ⟨k1, hk1⟩ : ∃ k1, k + 1 = k1 := ⟨_, rfl⟩
        rw [hk1]
        have HK1 := Lib.hid hk1
        by_cases hkn : k < n
        · have hkI : (k1 : Int) ≤ (n : Int) := by omega
          have HKN := Lib.hid hkn
          have HS4 := Lib.hid (show FmA w1 g V (g + 1) (R ++ outH n k ++ midH n k 0) wr from by rw [show midH n k 0 = [] from rfl, List.append_nil]; exact HF.out)
          clear hkn HF hk1
          go_wp2_with fail
          go_loopw [9] (fun iv wx => ∃ i : Nat, i ≤ n + 1 ∧ iv = .int .i64 (i : Nat) ∧ FmA w1 g V (g + 1) (R ++ outH n k ++ midH n k i) wx) (fun iv _ => n + 1 - (intOf iv).toNat)
          case atStart => exact ⟨0, Nat.zero_le _, rfl, HS4.out⟩
          case round =>
            clear HS4
            obtain ⟨i, hi, ei, hf⟩ := hrel
            subst ei
            have HF := Lib.hid hf
            have HI := Lib.hid hi
            clear hf hi hkI
            by_cases hin : i ≤ n
            · have hiI : (i : Int) ≤ (n : Int) := by omega
              have HIN2 := Lib.hid hin
              have HS5 := Lib.hid (show FmA w1 g V (g + 1) (R ++ outH n k ++ midH n k i ++ inH n k i 0) wr from by rw [show inH n k i 0 = [] from rfl, List.append_nil]; exact HF.out)
              clear hin HF
              go_wp2_with fail
              go_loopw [10] (fun jv wx => ∃ j : Nat, j ≤ i ∧ jv = .int .i64 (j : Nat) ∧ FmA w1 g V (g + 1) (R ++ outH n k ++ midH n k i ++ inH n k i j) wx) (fun jv _ => i - (intOf jv).toNat)
              case atStart => exact ⟨0, Nat.zero_le _, rfl, HS5.out⟩
              case round =>
                clear HS5 hiI
                obtain ⟨j, hj, ej, hf⟩ := hrel
                subst ej
                have HF := Lib.hid hf
                have HJ := Lib.hid hj
                clear hf hj
                by_cases hji : j < i
                · have hjI : (j : Int) < (i : Int) := by omega
                  have HJI := Lib.hid hji
                  have hn5 : n ≤ 5 := HN.out.2
                  have hi5 : i ≤ 5 := by have := HIN2.out; omega
                  have hj5 : j ≤ 5 := by omega
                  have hk6 : k1 ≤ 6 := by have := HK1.out; have := HKN.out; omega
                  have b1 : i * n ≤ 25 := Nat.mul_le_mul hi5 hn5
                  have b2 : j * n ≤ 25 := Nat.mul_le_mul hj5 hn5
                  have wm1 : IntKind.i64.wrap ((i : Int) * (n : Int)) = ((i * n : Nat) : Int) := by
                    rw [show ((i : Int) * (n : Int)) = ((i * n : Nat) : Int) by simp, IntKind.wrap_i64]; omega
                  have wm2 : IntKind.i64.wrap ((j : Int) * (n : Int)) = ((j * n : Nat) : Int) := by
                    rw [show ((j : Int) * (n : Int)) = ((j * n : Nat) : Int) by simp, IntKind.wrap_i64]; omega
                  obtain ⟨p1, hp1⟩ : ∃ p1, i * n = p1 := ⟨_, rfl⟩
                  obtain ⟨p2, hp2⟩ : ∃ p2, j * n = p2 := ⟨_, rfl⟩
                  rw [hp1] at wm1 b1
                  rw [hp2] at wm2 b2
                  have wa1 : IntKind.i64.wrap ((p1 : Int) + (k1 : Int)) = ((p1 + k1 : Nat) : Int) := by rw [IntKind.wrap_i64]; omega
                  have wa2 : IntKind.i64.wrap ((p2 : Int) + (k1 : Int)) = ((p2 + k1 : Nat) : Int) := by rw [IntKind.wrap_i64]; omega
                  obtain ⟨u1, hu1⟩ : ∃ u1, p1 + k1 = u1 := ⟨_, rfl⟩
                  obtain ⟨u2, hu2⟩ : ∃ u2, p2 + k1 = u2 := ⟨_, rfl⟩
                  rw [hu1] at wa1
                  rw [hu2] at wa2
                  have wb1 : IntKind.i64.wrap (-(u1 : Int)) = -(u1 : Int) := by rw [IntKind.wrap_i64]; omega
                  have wb2 : IntKind.i64.wrap (-(u2 : Int)) = -(u2 : Int) := by rw [IntKind.wrap_i64]; omega
                  have wj : IntKind.i64.wrap ((j : Int) + 1) = (j : Int) + 1 := by rw [IntKind.wrap_i64]; omega
                  have HU := Lib.hid (show i * n + k + 1 = u1 ∧ j * n + k + 1 = u2 by have := HK1.out; omega)
                  obtain ⟨L, hL⟩ : ∃ L, R ++ outH n k ++ midH n k i ++ inH n k i j = L := ⟨_, rfl⟩
                  obtain ⟨m, hm⟩ : ∃ m, L.length = m := ⟨_, rfl⟩
                  have hm2 : m ≤ 2000 := by
                    rw [← hm, ← hL, List.length_append, List.length_append, List.length_append, HR.out.2, inH_len]
                    have h1 := outH_len n k
                    have h2 := midH_len n k i
                    have h3 : (n + 1) * (n + 1) ≤ 6 * 6 := Nat.mul_le_mul (Nat.succ_le_succ hn5) (Nat.succ_le_succ hn5)
                    have h4 : k * ((n + 1) * (n + 1)) ≤ 5 * (6 * 6) := Nat.mul_le_mul (by have := HKN.out; omega) h3
                    have h5 : i * i ≤ 5 * 5 := Nat.mul_le_mul hi5 hi5
                    omega
                  have hf3 := HF.out
                  rw [hL] at hf3
                  obtain ⟨Af, cf, hb1, hkk, ⟨rows, hrow, hcl⟩, hsz, hbase⟩ := hf3
                  rw [hm] at hkk hrow
                  have HKF := Lib.hid hkk
                  have HROW := Lib.hid hrow
                  have HCL := Lib.hid hcl
                  have HSB := Lib.hid (And.intro hb1 (And.intro hsz hbase))
                  have HL := Lib.hid (And.intro hL hm)
                  have d1 := hkk.cell 1
                  have HRD := Lib.hid (show ∀ a b : Int, Reads ((wr.alloc (.cells #[.int .i64 a, .int .i64 b] 3)).alloc (.cells #[.slice (some ⟨wr.heap.size, 0, none⟩) 2 2] 26)) (wr.heap.size + 2) 1 (some ⟨wr.heap.size + 1, 0, none⟩) 1 [.slice (some ⟨wr.heap.size, 0, none⟩) 2 2] from fun a b =>
                    reads_new (w := wr.alloc (.cells #[.int .i64 a, .int .i64 b] 3)) (xs := [.slice (some ⟨wr.heap.size, 0, none⟩) 2 2]) (g := wr.heap.size + 1) (by simp) (by omega) rfl)
                  clear hb1 hkk hrow hcl hsz hbase hL hm HF hp1 hp2 hu1 hu2 b1 b2 hji hk6 hi5 hj5 hn5
                  go_wp2_with (first | (at_builtin; go_loud (refine wpList_append_sl _ rfl (.tmp 70) (.tmp 84) _ rfl (g + 1) 26 ic _ 1 24 Tryd.underlying22 HIC.out.1 HIC.out.2.1 HIC.out.2.2.1 HIC.out.2.2.2 rfl (by omega) _ m _ rfl ((HROW.out.alloc _).alloc _) (wr.heap.size + 2) (some ⟨wr.heap.size + 1, 0, none⟩) 1 1 [.slice (some ⟨wr.heap.size, 0, none⟩) 2 2] rfl (HRD.out _ _) (fun u hu => by rw [List.mem_singleton.1 hu]; rfl) (le_maxLen (by omega)) (le_bytes (by omega) (by omega)) (by have := HSB.out.2.1; simp; omega) ?_; intro A9 c9 w9 hown9 hg9; have k9 := blk_grown ((HKF.out.alloc _).alloc _) ((HROW.out.alloc _).alloc _) (by decide) hg9; have e1 := k9.cell 1; have f1 := k9.frozen 1; have HP9 := Lib.hid (FmA.push (l := [-(u1 : Int), -(u2 : Int)]) HL.out.2 (HSB.out.1.alloc HSB.out.1.size _) (HKF.out.alloc _) (HROW.out.alloc _) (fun j l hl => by obtain ⟨u, u1, u2⟩ := HCL.out j l hl; exact ⟨u, u1, u2.alloc _⟩) (own_full0 (xs := [.int .i64 (-(u1 : Int)), .int .i64 (-(u2 : Int))]) HSB.out.2.1 rfl (by simp)) (by have := HSB.out.2.1; simp; omega) (by have := HG.out; omega) (by have := HG.out; omega) hg9 hown9); clear hown9 hg9 k9)) | fail)
                  have HN4 := Lib.hid (show FmA w1 g V (g + 1) (R ++ outH n k ++ midH n k i ++ inH n k i (j + 1)) (w9.setCell ⟨g, 1, none⟩ (.slice A9 (m + 1) c9)) from by rw [inH_succ, HU.out.1, HU.out.2, ← List.append_assoc, HL.out.1]; exact HP9.out)
                  clear d1 e1 f1
                  go_wp2_with fail
                  go_roundw
                  case rel => exact ⟨j + 1, HJI.out, by go_num, HN4.out⟩
                  case measure => have := HJI.out; simp [intOf]; omega
                · obtain rfl : j = i := by have := HJ.out; omega
                  have HN5 := Lib.hid (show FmA w1 g V (g + 1) (R ++ outH n k ++ midH n k (j + 1)) wr from by rw [midH_succ, ← List.append_assoc]; exact HF.out)
                  have hj6 : j ≤ 6 := by have := HIN2.out; have := HN.out; omega
                  have wj : IntKind.i64.wrap ((j : Int) + 1) = (j : Int) + 1 := by rw [IntKind.wrap_i64]; omega
                  clear hji HF
                  go_wp2_with fail
                  go_roundw
                  case rel => exact ⟨j + 1, by have := HIN2.out; omega, by go_num, HN5.out⟩
                  case measure => have := HIN2.out; simp [intOf]; omega
            · obtain rfl : i = n + 1 := by have := HI.out; omega
              have hnI : ¬ ((n + 1 : Nat) : Int) ≤ (n : Int) := by omega
              have HN6 := Lib.hid (show FmA w1 g V (g + 1) (R ++ outH n (k + 1)) wr from by rw [outH_succ, ← List.append_assoc]; exact HF.out)
              have hk6 : k1 ≤ 6 := by have := HK1.out; have := HKN.out; have := HN.out; omega
              have wk : IntKind.i64.wrap ((k1 : Int) + 1) = ((k1 + 1 : Nat) : Int) := by rw [IntKind.wrap_i64]; omega
              clear hin HF
              go_wp2_with fail
              go_roundw
              case rel => exact ⟨k + 1, HKN.out, by rw [HK1.out]; go_num, HN6.out⟩
              case measure => have := HK1.out; have := HKN.out; simp [intOf]; omega
        · obtain rfl : k = n := by have := HK.out; omega
          have hkI : ¬ (k1 : Int) ≤ (k : Int) := by omega
          obtain ⟨s0, pf, s1, e0, hsr⟩ := holes_run HN.out.1 HN.out.2
          have hlen := holes_len HN.out.2
          have hlit := holes_lit HN.out.2
          have hf := HF.out
          rw [show R ++ outH k k = holesF k by unfold holesF; rw [HR.out.1]] at hf
          rw [HV.out.1] at e0 hsr hlit
          obtain ⟨F, hF⟩ : ∃ F, holesF k = F := ⟨_, rfl⟩
          rw [hF] at hf e0 hlen hlit
          obtain ⟨m, hm⟩ : ∃ m, F.length = m := ⟨_, rfl⟩
          rw [hm] at hlen
          obtain ⟨Af, cf, hb1, hkk, hcs, _, _⟩ := hf
          rw [hm] at hkk hcs
          have hes := HES.out.below (HB1.out.trans (hb1.mono HB1.out.size))
          have CC := Lib.hid (solve_run (w := wr) (c := cf) (effort := 100000) e0 hsr hes.s (by have := HV.out.2; omega) hm (CsO.of_at hcs) (fun d hd => ⟨by have := (hlit d hd).1; omega, (hlit d hd).2⟩) (by omega) (by omega))
          have d0 := hkk.cell 0
          have d1 := hkk.cell 1
          have HBW := Lib.hid (HB1.out.trans (hb1.mono HB1.out.size))
          have HKF := Lib.hid hkk
          have HCS := Lib.hid hcs
          have HRUN := Lib.hid (And.intro e0 (And.intro hsr (And.intro hlit hm)))
          have HML := Lib.hid hlen
          clear hb1 hkk hcs e0 hsr hlen hlit HF hkn hes hF hm hk1
          go_wp2_with fail
          refine CC.out.mono ?_
          rintro e w5 ⟨v, rfl, hb5, hv⟩
          obtain ⟨pv, tag, rfl, hpr⟩ := hv
          have hform : ∃ A2 c2, pv = .slice A2 pf.length c2 := by
            obtain ⟨rows, q1, q2, _⟩ := hpr
            obtain ⟨A2, c2, e⟩ := q1.form
            exact ⟨A2, c2, by rw [e, q2]⟩
          obtain ⟨A2, c2, rfl⟩ := hform
          obtain ⟨n2, hn2⟩ : ∃ n2, pf.length = n2 := ⟨_, rfl⟩
          rw [hn2] at hpr ⊢
          have HB5 := Lib.hid (HBW.out.trans (hb5.mono HBW.out.size))
          have HK5 := Lib.hid (HKF.out.below hb5 HKF.out.lt)
          have HC5 := Lib.hid (HCS.out.chg hb5)
          have HP5 := Lib.hid (And.intro hpr hn2)
          clear hb5 d0 d1 CC hpr hn2
          obtain ⟨W6, hW6⟩ : ∃ W6, W6 = w5.alloc (.cells #[.string ⟨#[110, 111]⟩, .slice none 0 0, .slice A2 n2 c2] 49) := ⟨_, rfl⟩
          have hb6 : Below w5.heap.size w5 W6 := by rw [hW6]; exact (Below.refl _ _).alloc (Nat.le_refl _) _
          have k6 : Blk W6 w5.heap.size 49 #[.string ⟨#[110, 111]⟩, .slice none 0 0, .slice A2 n2 c2] := by rw [hW6]; exact Blk.new w5 _ _
          have HB6 := Lib.hid (HB5.out.trans (hb6.mono HB5.out.size))
          have k7 := HK5.out.below hb6 HK5.out.lt
          obtain ⟨r1, r2, r3, r4⟩ := HRUN.out
          have CK := Lib.hid (check_no (w := W6) (c := cf) (c2 := c2) (HES.out.below HB6.out) (by have := HV.out.2; omega) (HC5.out.chg hb6) r4 (by have := HML.out; omega) r3 r1 (by omega) r2 (HP5.out.1.new hb6) HP5.out.2)
          have d0 := k7.cell 0
          have d1 := k7.cell 1
          have x0 := k6.cell 0
          have x1 := k6.cell 1
          have x2 := k6.cell 2
          have HW6 := Lib.hid hW6
          clear hb6 k6 k7 r1 r2 r3 r4 hW6
          go_upto_region 25 with fail
          rw [← HW6.out]
          go_wp2_with fail
          refine CK.out.mono ?_
          rintro e w7 ⟨rfl, hb7⟩
          have HB7 := Lib.hid (HB6.out.trans (hb7.mono HB6.out.size))
          clear hb7 d0 d1 x0 x1 x2 CK
          go_wp2_with fail
          go_ret
          exact ⟨rfl, HB7.out⟩
end Go.Proofs.YtchpfdppfelmkaaDoor.slv
