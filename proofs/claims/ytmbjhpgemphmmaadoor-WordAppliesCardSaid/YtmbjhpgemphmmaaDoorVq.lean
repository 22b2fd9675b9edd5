/-
  PLAIN: what an operator's gates tell is what the document's ApplyOf tells.
-/
import Derived.Test.YtmbjhpgemphmmaaDoorSe
import Derived.Test.YtmbjhpgemphmmaaDoorSg
import Derived.Test.YtmbjhpgemphmmaaDoorVp
namespace Go.Proofs.YtmbjhpgemphmmaaDoor
open Go.RowKit
/-- what the document tells of an operator and values; does it trap? -/
def applyP : Nat → List (Int × Int) → (Int × Int) × Bool
  | 0, [a] => ((1, truthN (a.2 == 0)), false)
  | 1, [a] => ((2, i8 (256 - a.2)), false)
  | 2, [a, b, c] => (if a.2 == 1 then b else c, false)
  | 3, [a, b] => ((1, truthN (a.2 + b.2 == 2)), false)
  | 4, [a, b] => ((1, truthN (decide (0 < a.2 + b.2))), false)
  | 5, [a, b] => ((1, truthN (a.2 + b.2 == 1)), false)
  | 6, [a, b] => ((1, truthN (decide (a.2 ≤ b.2))), false)
  | 7, [a, b] => ((1, truthN (a.2 == b.2)), false)
  | 8, [a, b] => ((1, truthN (!(a.2 == b.2))), false)
  | 9, [a, b] => ((1, truthN (decide (a.2 < b.2))), false)
  | 10, [a, b] => ((1, truthN (decide (a.2 ≤ b.2))), false)
  | 11, [a, b] => ((1, truthN (decide (b.2 < a.2))), false)
  | 12, [a, b] => ((1, truthN (decide (b.2 ≤ a.2))), false)
  | 13, [a, b] => ((2, i8 (a.2 + b.2)), false)
  | 14, [a, b] => ((2, i8 (a.2 - b.2)), false)
  | 15, [a, b] => ((2, i8 (a.2 * b.2)), false)
  | 16, [a, b] => if b.2 == 0 then ((0, 0), true) else ((2, i8 (a.2.tdiv b.2)), false)
  | 17, [a, b] => if b.2 == 0 then ((0, 0), true) else ((2, i8 (a.2 - a.2.tdiv b.2 * b.2)), false)
  | _, _ => ((0, 0), false)
/-- a value's bits -/
def vb (p : Int × Int) : List Bool := bitsB p.2 (lenK p.1)
theorem right_cases {p : Int × Int} (h : right p.1 p.2 = true) : (lenK p.1 = 1 → p = (1, 0) ∨ p = (1, 1)) ∧ (lenK p.1 = 8 → ∃ n, p = (2, n) ∧ small8 n) := by
  obtain ⟨k, n⟩ := p
  unfold right at h
  simp only [Bool.or_eq_true, Bool.and_eq_true, beq_iff_eq, decide_eq_true_eq] at h
  unfold lenK
  rcases h with ⟨rfl, h⟩ | ⟨rfl, h⟩
  · refine ⟨fun _ => ?_, fun e => by simp at e⟩
    rcases h with rfl | rfl
    · exact .inl rfl
    · exact .inr rfl
  · exact ⟨fun e => by simp at e, fun _ => ⟨n, rfl, h⟩⟩
theorem vb_int (n : Int) : vb (2, n) = bitsB n 8 := rfl
theorem val_vb {p : Int × Int} (h : right p.1 p.2 = true) : valOf (vb p) = p := by
  obtain ⟨h1, h8⟩ := right_cases h
  have hk : lenK p.1 = 1 ∨ lenK p.1 = 8 := by unfold lenK; split <;> simp
  rcases hk with hk | hk
  · rcases h1 hk with rfl | rfl <;> rfl
  · obtain ⟨n, rfl, hs⟩ := h8 hk
    rw [vb_int, val_rep (rep_bits n)]
    unfold small8 at hs
    unfold i8
    congr 1; omega
theorem pv1 {l : List (Int × Int)} (h : l.length = 1) : ∃ a, l = [a] := by match l, h with | [a], _ => exact ⟨a, rfl⟩
theorem pv2 {l : List (Int × Int)} (h : l.length = 2) : ∃ a b, l = [a, b] := by match l, h with | [a, b], _ => exact ⟨a, b, rfl⟩
theorem pv3 {l : List (Int × Int)} (h : l.length = 3) : ∃ a b c, l = [a, b, c] := by match l, h with | [a, b, c], _ => exact ⟨a, b, c, rfl⟩
theorem tmod_is (a b : Int) : a - a.tdiv b * b = a.tmod b := by have := Int.tmod_def a b; rw [this, Int.mul_comm]
theorem i8_neg (a : Int) : i8 (256 - a) = i8 (-a) := by unfold i8; omega
theorem bit_false_add (x : Int) : x + ((Wp.bit false : Nat) : Int) = x := by simp [Wp.bit]
set_option maxHeartbeats 1000000 in
theorem plain_apply {i : Nat} {l : List (Int × Int)} (hi : i < 18) (hl : l.length = arOf i) (hr : ∀ p ∈ l, right p.1 p.2 = true) (hf : fitB i (l.map fun p => lenK p.1) = true) :
    trapF i (l.map vb) = (applyP i l).2 ∧ ((applyP i l).2 = false → valOf (resF i (l.map vb)) = (applyP i l).1) := by
  match i, hi, hl with
  | 0, _, hl =>
    obtain ⟨a, rfl⟩ := pv1 hl
    have hx : lenK a.1 = 1 := by simpa [fitB] using hf
    rcases (right_cases (hr a (by simp))).1 hx with rfl | rfl <;> exact ⟨rfl, fun _ => rfl⟩
  | 1, _, hl =>
    obtain ⟨a, rfl⟩ := pv1 hl
    have hx : lenK a.1 = 8 := by simpa [fitB] using hf
    obtain ⟨n, rfl, hs⟩ := (right_cases (hr a (by simp))).2 hx
    exact ⟨rfl, fun _ => (val_rep (Wp.rep_neg (rep_bits n))).trans (by show _ = ((2 : Int), i8 (256 - n)); rw [i8_neg])⟩
  | 2, _, hl =>
    obtain ⟨a, b, c, rfl⟩ := pv3 hl
    have hq : lenK a.1 = 1 ∧ (lenK b.1 = 1 ∨ lenK b.1 = 8) ∧ lenK b.1 = lenK c.1 := by simpa [fitB, and_assoc] using hf
    rcases (right_cases (hr a (by simp))).1 hq.1 with rfl | rfl
    · exact ⟨rfl, fun _ => val_vb (hr c (by simp))⟩
    · exact ⟨rfl, fun _ => val_vb (hr b (by simp))⟩
  | 3, _, hl =>
    obtain ⟨a, b, rfl⟩ := pv2 hl
    have hq : lenK a.1 = 1 ∧ lenK b.1 = 1 := by simpa [fitB] using hf
    rcases (right_cases (hr a (by simp))).1 hq.1 with rfl | rfl <;> rcases (right_cases (hr b (by simp))).1 hq.2 with rfl | rfl <;> exact ⟨rfl, fun _ => rfl⟩
  | 4, _, hl =>
    obtain ⟨a, b, rfl⟩ := pv2 hl
    have hq : lenK a.1 = 1 ∧ lenK b.1 = 1 := by simpa [fitB] using hf
    rcases (right_cases (hr a (by simp))).1 hq.1 with rfl | rfl <;> rcases (right_cases (hr b (by simp))).1 hq.2 with rfl | rfl <;> exact ⟨rfl, fun _ => rfl⟩
  | 5, _, hl =>
    obtain ⟨a, b, rfl⟩ := pv2 hl
    have hq : lenK a.1 = 1 ∧ lenK b.1 = 1 := by simpa [fitB] using hf
    rcases (right_cases (hr a (by simp))).1 hq.1 with rfl | rfl <;> rcases (right_cases (hr b (by simp))).1 hq.2 with rfl | rfl <;> exact ⟨rfl, fun _ => rfl⟩
  | 6, _, hl =>
    obtain ⟨a, b, rfl⟩ := pv2 hl
    have hq : lenK a.1 = 1 ∧ lenK b.1 = 1 := by simpa [fitB] using hf
    rcases (right_cases (hr a (by simp))).1 hq.1 with rfl | rfl <;> rcases (right_cases (hr b (by simp))).1 hq.2 with rfl | rfl <;> exact ⟨rfl, fun _ => rfl⟩
  | 7, _, hl =>
    obtain ⟨a, b, rfl⟩ := pv2 hl
    have hq : (lenK a.1 = 1 ∨ lenK a.1 = 8) ∧ lenK a.1 = lenK b.1 := by simpa [fitB] using hf
    rcases hq.1 with h1 | h8
    · rcases (right_cases (hr a (by simp))).1 h1 with rfl | rfl <;> rcases (right_cases (hr b (by simp))).1 (hq.2 ▸ h1) with rfl | rfl <;> exact ⟨rfl, fun _ => rfl⟩
    · obtain ⟨n, rfl, hs⟩ := (right_cases (hr a (by simp))).2 h8
      obtain ⟨m, rfl, hs2⟩ := (right_cases (hr b (by simp))).2 (hq.2 ▸ h8)
      refine ⟨rfl, fun _ => ?_⟩
      show valOf [Wp.sameB (bitsB n 8) (bitsB m 8)] = (1, truthN ((n == m)))
      rw [valOf_one, same_bits hs hs2]
  | 8, _, hl =>
    obtain ⟨a, b, rfl⟩ := pv2 hl
    have hq : (lenK a.1 = 1 ∨ lenK a.1 = 8) ∧ lenK a.1 = lenK b.1 := by simpa [fitB] using hf
    rcases hq.1 with h1 | h8
    · rcases (right_cases (hr a (by simp))).1 h1 with rfl | rfl <;> rcases (right_cases (hr b (by simp))).1 (hq.2 ▸ h1) with rfl | rfl <;> exact ⟨rfl, fun _ => rfl⟩
    · obtain ⟨n, rfl, hs⟩ := (right_cases (hr a (by simp))).2 h8
      obtain ⟨m, rfl, hs2⟩ := (right_cases (hr b (by simp))).2 (hq.2 ▸ h8)
      refine ⟨rfl, fun _ => ?_⟩
      show valOf [!Wp.sameB (bitsB n 8) (bitsB m 8)] = (1, truthN (!(n == m)))
      rw [valOf_one, same_bits hs hs2]
  | 9, _, hl =>
    obtain ⟨a, b, rfl⟩ := pv2 hl
    have hq : lenK a.1 = 8 ∧ lenK b.1 = 8 := by simpa [fitB] using hf
    obtain ⟨n, rfl, hs⟩ := (right_cases (hr a (by simp))).2 hq.1
    obtain ⟨m, rfl, hs2⟩ := (right_cases (hr b (by simp))).2 hq.2
    refine ⟨rfl, fun _ => ?_⟩
    show valOf [Wp.lessB (bitsB n 8) (bitsB m 8)] = (1, truthN (decide (n < m)))
    rw [valOf_one, less_bits hs hs2]
  | 10, _, hl =>
    obtain ⟨a, b, rfl⟩ := pv2 hl
    have hq : lenK a.1 = 8 ∧ lenK b.1 = 8 := by simpa [fitB] using hf
    obtain ⟨n, rfl, hs⟩ := (right_cases (hr a (by simp))).2 hq.1
    obtain ⟨m, rfl, hs2⟩ := (right_cases (hr b (by simp))).2 hq.2
    refine ⟨rfl, fun _ => ?_⟩
    show valOf [!Wp.lessB (bitsB m 8) (bitsB n 8)] = (1, truthN (decide (n ≤ m)))
    rw [valOf_one, less_bits hs2 hs]
    congr 2
    rw [Bool.eq_iff_iff]; simp
  | 11, _, hl =>
    obtain ⟨a, b, rfl⟩ := pv2 hl
    have hq : lenK a.1 = 8 ∧ lenK b.1 = 8 := by simpa [fitB] using hf
    obtain ⟨n, rfl, hs⟩ := (right_cases (hr a (by simp))).2 hq.1
    obtain ⟨m, rfl, hs2⟩ := (right_cases (hr b (by simp))).2 hq.2
    refine ⟨rfl, fun _ => ?_⟩
    show valOf [Wp.lessB (bitsB m 8) (bitsB n 8)] = (1, truthN (decide (m < n)))
    rw [valOf_one, less_bits hs2 hs]
  | 12, _, hl =>
    obtain ⟨a, b, rfl⟩ := pv2 hl
    have hq : lenK a.1 = 8 ∧ lenK b.1 = 8 := by simpa [fitB] using hf
    obtain ⟨n, rfl, hs⟩ := (right_cases (hr a (by simp))).2 hq.1
    obtain ⟨m, rfl, hs2⟩ := (right_cases (hr b (by simp))).2 hq.2
    refine ⟨rfl, fun _ => ?_⟩
    show valOf [!Wp.lessB (bitsB n 8) (bitsB m 8)] = (1, truthN (decide (m ≤ n)))
    rw [valOf_one, less_bits hs hs2]
    congr 2
    rw [Bool.eq_iff_iff]; simp
  | 13, _, hl =>
    obtain ⟨a, b, rfl⟩ := pv2 hl
    have hq : lenK a.1 = 8 ∧ lenK b.1 = 8 := by simpa [fitB] using hf
    obtain ⟨n, rfl, hs⟩ := (right_cases (hr a (by simp))).2 hq.1
    obtain ⟨m, rfl, hs2⟩ := (right_cases (hr b (by simp))).2 hq.2
    exact ⟨rfl, fun _ => (val_rep (Wp.rep_sums (rep_bits n) (rep_bits m) false)).trans (by rw [bit_false_add]; rfl)⟩
  | 14, _, hl =>
    obtain ⟨a, b, rfl⟩ := pv2 hl
    have hq : lenK a.1 = 8 ∧ lenK b.1 = 8 := by simpa [fitB] using hf
    obtain ⟨n, rfl, hs⟩ := (right_cases (hr a (by simp))).2 hq.1
    obtain ⟨m, rfl, hs2⟩ := (right_cases (hr b (by simp))).2 hq.2
    exact ⟨rfl, fun _ => val_rep (Wp.rep_minus (rep_bits n) (rep_bits m))⟩
  | 15, _, hl =>
    obtain ⟨a, b, rfl⟩ := pv2 hl
    have hq : lenK a.1 = 8 ∧ lenK b.1 = 8 := by simpa [fitB] using hf
    obtain ⟨n, rfl, hs⟩ := (right_cases (hr a (by simp))).2 hq.1
    obtain ⟨m, rfl, hs2⟩ := (right_cases (hr b (by simp))).2 hq.2
    exact ⟨rfl, fun _ => val_rep (Wp.rep_times (rep_bits n) (rep_bits m))⟩
  | 16, _, hl =>
    obtain ⟨a, b, rfl⟩ := pv2 hl
    have hq : lenK a.1 = 8 ∧ lenK b.1 = 8 := by simpa [fitB] using hf
    obtain ⟨n, rfl, hs⟩ := (right_cases (hr a (by simp))).2 hq.1
    obtain ⟨m, rfl, hs2⟩ := (right_cases (hr b (by simp))).2 hq.2
    have ht : trapF 16 [bitsB n 8, bitsB m 8] = (m == 0) := zero_bits hs2
    have hap : applyP 16 [(2, n), (2, m)] = if m == 0 then ((0, 0), true) else ((2, i8 (n.tdiv m)), false) := rfl
    by_cases h0 : m = 0
    · subst h0
      exact ⟨ht, fun h => by rw [hap] at h; simp at h⟩
    · have hb : (m == 0) = false := by simpa using h0
      rw [hap, hb]
      exact ⟨ht.trans hb, fun _ => val_rep (quo_rep hs hs2 h0)⟩
  | 17, _, hl =>
    obtain ⟨a, b, rfl⟩ := pv2 hl
    have hq : lenK a.1 = 8 ∧ lenK b.1 = 8 := by simpa [fitB] using hf
    obtain ⟨n, rfl, hs⟩ := (right_cases (hr a (by simp))).2 hq.1
    obtain ⟨m, rfl, hs2⟩ := (right_cases (hr b (by simp))).2 hq.2
    have ht : trapF 17 [bitsB n 8, bitsB m 8] = (m == 0) := zero_bits hs2
    have hap : applyP 17 [(2, n), (2, m)] = if m == 0 then ((0, 0), true) else ((2, i8 (n - n.tdiv m * m)), false) := rfl
    by_cases h0 : m = 0
    · subst h0
      exact ⟨ht, fun h => by rw [hap] at h; simp at h⟩
    · have hb : (m == 0) = false := by simpa using h0
      rw [hap, hb]
      exact ⟨ht.trans hb, fun _ => (val_rep (rest_rep hs hs2 h0)).trans (by rw [tmod_is]; rfl)⟩
  | n + 18, hi, _ => exact absurd hi (by omega)
end Go.Proofs.YtmbjhpgemphmmaaDoor
