/-
  THE WALK of the law WordApplies.
-/
import Derived.Test.YtmbjhpgemphmmaaDoorSl
import Derived.Test.YtmbjhpgemphmmaaDoorSn
import Derived.Test.YtmbjhpgemphmmaaDoorSm
import Derived.Test.YtmbjhpgemphmmaaDoorGh
namespace Go.Proofs.YtmbjhpgemphmmaaDoor
open Go.RowKit
theorem bits_right {w : World} {k n : Int} (h : right k n = true) : Calls Tryd.prog 23 #[.agg #[.int .i64 k, .int .i64 n]] w (BtPost w n (lenK k)) := by
  unfold right at h
  simp only [Bool.or_eq_true, Bool.and_eq_true, beq_iff_eq, decide_eq_true_eq] at h
  rcases h with ⟨rfl, h⟩ | ⟨rfl, h⟩
  · rcases h with h | h
    · exact bits_zero h
    · exact bits_one h
  · exact bits_int h.1 h.2
section
variable {w w1 : World} {base e n : Nat} {v : Value} {xs : List Value}
theorem grown_chg0 (ho : w.ownsRow base e 1 v n xs) (hg : w.grownBy w1 v.ownBlock) : Chg (fun k o => base ≤ k ∧ elemOf o = some e) w w1 :=
  (Chg.refl _ w).grown hg fun k o' hk ho' => by
    have hge := (ho.lt k hk).1
    rcases ho.2 with ⟨rfl, _⟩ | ⟨g', cap, cur, rfl, _, hh, _⟩
    · simp [Value.ownBlock] at hk
    · simp only [Value.ownBlock, Option.some.injEq] at hk
      subst hk
      rw [hh] at ho'
      injection ho' with ho'
      subst ho'
      exact ⟨hge, rfl⟩
theorem gt_grown0 {W : World} {B : Nat} (h : Chg (GT B) W w) (ho : w.ownsRow base e 1 v n xs) (hb : W.heap.size ≤ base) (hg : w.grownBy w1 v.ownBlock) : Chg (GT B) W w1 :=
  h.trans' (grown_chg0 ho hg) fun k o hk hs => absurd (lt_of_heap hk) (by have := hs.1; omega)
theorem own_capG {c g : Nat} (h : w.ownsRow base e 1 (.slice (some ⟨g, 0, none⟩) n c) n xs) (hn : 0 < n) : n ≤ c := by
  rcases h.2 with ⟨_, h0⟩ | ⟨g', cap, cur, hv, _, _, hnc, _⟩
  · omega
  · simp only [Value.slice.injEq] at hv
    rw [hv.2.2]; exact hnc
end
/-- the first loop -/
def Ap1 (W : World) (l : List (Int × Int)) (iv : Value) (wr : World) : Prop :=
  ∃ k : Nat, k ≤ l.length ∧ iv = .int .i64 (k : Nat) ∧ (∀ p ∈ l.take k, right p.1 p.2 = true) ∧ Below W.heap.size W wr
/-- a word of inputs under way -/
def ApI (W : World) (B b q m : Nat) (ov kv : Value) (wr : World) : Prop :=
  ∃ k : Nat, k ≤ m ∧ kv = .int .i64 k ∧ (∃ A c, ov = .slice A k c) ∧ GA wr B b (inps (q + k)) ∧ Chg (GT B) W wr ∧ wr.ownsRow W.heap.size 29 1 ov k (natVals (litsFrom q k))
/-- the words of inputs, the inputs' bits -/
def Ap2 (W : World) (B b : Nat) (l : List (Int × Int)) (pv bv iv : Value) (wr : World) : Prop :=
  ∃ (k q : Nat) (rows : List Value), k ≤ l.length ∧ (bitsAll (l.take k)).length = q ∧ iv = .int .i64 (k : Nat) ∧ (∃ A c, pv = .slice A k c) ∧ (∃ A c, bv = .slice A q c) ∧ GA wr B b (inps q) ∧ Chg (GT B) W wr ∧
    wr.ownsRow W.heap.size 28 1 pv k rows ∧ wr.ownsRow W.heap.size 4 1 bv q (boolVals (bitsAll (l.take k))) ∧ RowsG wr B (pws 0 (l.take k)) rows
theorem boolVals_append (a b : List Bool) : boolVals (a ++ b) = boolVals a ++ boolVals b := by unfold boolVals; rw [List.map_append]
theorem pvVals_len (l : List (Int × Int)) : (pvVals l).length = 2 * l.length := by
  induction l with
  | nil => rfl
  | cons x r ih => simp only [pvVals, List.length_cons, ih]; omega
theorem right_small {p : Int × Int} (h : right p.1 p.2 = true) : small8 p.2 := by
  unfold right at h
  simp only [Bool.or_eq_true, Bool.and_eq_true, beq_iff_eq, decide_eq_true_eq] at h
  unfold small8
  omega
set_option maxHeartbeats 1000000 in
theorem apply_op {W : World} {R : Nat} {A : Option Addr} {c i : Nat} {l : List (Int × Int)} (hi : i < 18) (hl : l.length = arOf i) (hrt : ∀ p ∈ l, right p.1 p.2 = true) (hr : Reads W R 2 A (arOf i) (pvVals l)) :
    Calls Tryd.prog 24 #[.string (opOf i), .slice A (arOf i) c] W (ApO W (applyP i l)) := by
  obtain ⟨ad, rfl, _, hc⟩ := hr.2 (by have := (arOf_range i).1; omega)
  match i, hi, hl with
  | 0, _, hl =>
    obtain ⟨⟨k0, n0⟩, rfl⟩ := pv1 hl
    have h0 : W.cell? ad = some (.int .i64 k0) := hc 0 _ rfl
    have g0 : W.cell? ⟨ad.block, ad.off + 1, none⟩ = some (.int .i64 n0) := hc 1 _ rfl
    exact app_0 h0 g0 rfl
  | 1, _, hl =>
    obtain ⟨⟨k0, n0⟩, rfl⟩ := pv1 hl
    have h0 : W.cell? ad = some (.int .i64 k0) := hc 0 _ rfl
    have g0 : W.cell? ⟨ad.block, ad.off + 1, none⟩ = some (.int .i64 n0) := hc 1 _ rfl
    exact app_1 h0 g0 (right_small (p := (k0, n0)) (hrt _ (by simp)))
  | 2, _, hl =>
    obtain ⟨⟨k0, n0⟩, ⟨k1, n1⟩, ⟨k2, n2⟩, rfl⟩ := pv3 hl
    have h0 : W.cell? ad = some (.int .i64 k0) := hc 0 _ rfl
    have g0 : W.cell? ⟨ad.block, ad.off + 1, none⟩ = some (.int .i64 n0) := hc 1 _ rfl
    have h1 : W.cell? ⟨ad.block, ad.off + 2, none⟩ = some (.int .i64 k1) := hc 2 _ rfl
    have g1 : W.cell? ⟨ad.block, ad.off + 3, none⟩ = some (.int .i64 n1) := hc 3 _ rfl
    have h2 : W.cell? ⟨ad.block, ad.off + 4, none⟩ = some (.int .i64 k2) := hc 4 _ rfl
    have g2 : W.cell? ⟨ad.block, ad.off + 5, none⟩ = some (.int .i64 n2) := hc 5 _ rfl
    cases hq : (n0 == 1) with
    | true =>
      show Calls _ _ _ _ (ApO W (if (n0 == 1) = true then (k1, n1) else (k2, n2), false))
      rw [if_pos hq]; exact app_2t h0 g0 h1 g1 h2 g2 hq
    | false =>
      show Calls _ _ _ _ (ApO W (if (n0 == 1) = true then (k1, n1) else (k2, n2), false))
      rw [if_neg (by rw [hq]; simp)]; exact app_2f h0 g0 h1 g1 h2 g2 hq
  | 3, _, hl =>
    obtain ⟨⟨k0, n0⟩, ⟨k1, n1⟩, rfl⟩ := pv2 hl
    have h0 : W.cell? ad = some (.int .i64 k0) := hc 0 _ rfl
    have g0 : W.cell? ⟨ad.block, ad.off + 1, none⟩ = some (.int .i64 n0) := hc 1 _ rfl
    have h1 : W.cell? ⟨ad.block, ad.off + 2, none⟩ = some (.int .i64 k1) := hc 2 _ rfl
    have g1 : W.cell? ⟨ad.block, ad.off + 3, none⟩ = some (.int .i64 n1) := hc 3 _ rfl
    exact app_3 h0 g0 h1 g1 (right_small (p := (k0, n0)) (hrt _ (by simp))) (right_small (p := (k1, n1)) (hrt _ (by simp))) rfl
  | 4, _, hl =>
    obtain ⟨⟨k0, n0⟩, ⟨k1, n1⟩, rfl⟩ := pv2 hl
    have h0 : W.cell? ad = some (.int .i64 k0) := hc 0 _ rfl
    have g0 : W.cell? ⟨ad.block, ad.off + 1, none⟩ = some (.int .i64 n0) := hc 1 _ rfl
    have h1 : W.cell? ⟨ad.block, ad.off + 2, none⟩ = some (.int .i64 k1) := hc 2 _ rfl
    have g1 : W.cell? ⟨ad.block, ad.off + 3, none⟩ = some (.int .i64 n1) := hc 3 _ rfl
    exact app_4 h0 g0 h1 g1 (right_small (p := (k0, n0)) (hrt _ (by simp))) (right_small (p := (k1, n1)) (hrt _ (by simp))) rfl
  | 5, _, hl =>
    obtain ⟨⟨k0, n0⟩, ⟨k1, n1⟩, rfl⟩ := pv2 hl
    have h0 : W.cell? ad = some (.int .i64 k0) := hc 0 _ rfl
    have g0 : W.cell? ⟨ad.block, ad.off + 1, none⟩ = some (.int .i64 n0) := hc 1 _ rfl
    have h1 : W.cell? ⟨ad.block, ad.off + 2, none⟩ = some (.int .i64 k1) := hc 2 _ rfl
    have g1 : W.cell? ⟨ad.block, ad.off + 3, none⟩ = some (.int .i64 n1) := hc 3 _ rfl
    exact app_5 h0 g0 h1 g1 (right_small (p := (k0, n0)) (hrt _ (by simp))) (right_small (p := (k1, n1)) (hrt _ (by simp))) rfl
  | 6, _, hl =>
    obtain ⟨⟨k0, n0⟩, ⟨k1, n1⟩, rfl⟩ := pv2 hl
    have h0 : W.cell? ad = some (.int .i64 k0) := hc 0 _ rfl
    have g0 : W.cell? ⟨ad.block, ad.off + 1, none⟩ = some (.int .i64 n0) := hc 1 _ rfl
    have h1 : W.cell? ⟨ad.block, ad.off + 2, none⟩ = some (.int .i64 k1) := hc 2 _ rfl
    have g1 : W.cell? ⟨ad.block, ad.off + 3, none⟩ = some (.int .i64 n1) := hc 3 _ rfl
    exact app_6 h0 g0 h1 g1 rfl
  | 7, _, hl =>
    obtain ⟨⟨k0, n0⟩, ⟨k1, n1⟩, rfl⟩ := pv2 hl
    have h0 : W.cell? ad = some (.int .i64 k0) := hc 0 _ rfl
    have g0 : W.cell? ⟨ad.block, ad.off + 1, none⟩ = some (.int .i64 n0) := hc 1 _ rfl
    have h1 : W.cell? ⟨ad.block, ad.off + 2, none⟩ = some (.int .i64 k1) := hc 2 _ rfl
    have g1 : W.cell? ⟨ad.block, ad.off + 3, none⟩ = some (.int .i64 n1) := hc 3 _ rfl
    exact app_7 h0 g0 h1 g1 rfl
  | 8, _, hl =>
    obtain ⟨⟨k0, n0⟩, ⟨k1, n1⟩, rfl⟩ := pv2 hl
    have h0 : W.cell? ad = some (.int .i64 k0) := hc 0 _ rfl
    have g0 : W.cell? ⟨ad.block, ad.off + 1, none⟩ = some (.int .i64 n0) := hc 1 _ rfl
    have h1 : W.cell? ⟨ad.block, ad.off + 2, none⟩ = some (.int .i64 k1) := hc 2 _ rfl
    have g1 : W.cell? ⟨ad.block, ad.off + 3, none⟩ = some (.int .i64 n1) := hc 3 _ rfl
    exact app_8 h0 g0 h1 g1 rfl
  | 9, _, hl =>
    obtain ⟨⟨k0, n0⟩, ⟨k1, n1⟩, rfl⟩ := pv2 hl
    have h0 : W.cell? ad = some (.int .i64 k0) := hc 0 _ rfl
    have g0 : W.cell? ⟨ad.block, ad.off + 1, none⟩ = some (.int .i64 n0) := hc 1 _ rfl
    have h1 : W.cell? ⟨ad.block, ad.off + 2, none⟩ = some (.int .i64 k1) := hc 2 _ rfl
    have g1 : W.cell? ⟨ad.block, ad.off + 3, none⟩ = some (.int .i64 n1) := hc 3 _ rfl
    exact app_9 h0 g0 h1 g1 rfl
  | 10, _, hl =>
    obtain ⟨⟨k0, n0⟩, ⟨k1, n1⟩, rfl⟩ := pv2 hl
    have h0 : W.cell? ad = some (.int .i64 k0) := hc 0 _ rfl
    have g0 : W.cell? ⟨ad.block, ad.off + 1, none⟩ = some (.int .i64 n0) := hc 1 _ rfl
    have h1 : W.cell? ⟨ad.block, ad.off + 2, none⟩ = some (.int .i64 k1) := hc 2 _ rfl
    have g1 : W.cell? ⟨ad.block, ad.off + 3, none⟩ = some (.int .i64 n1) := hc 3 _ rfl
    exact app_10 h0 g0 h1 g1 rfl
  | 11, _, hl =>
    obtain ⟨⟨k0, n0⟩, ⟨k1, n1⟩, rfl⟩ := pv2 hl
    have h0 : W.cell? ad = some (.int .i64 k0) := hc 0 _ rfl
    have g0 : W.cell? ⟨ad.block, ad.off + 1, none⟩ = some (.int .i64 n0) := hc 1 _ rfl
    have h1 : W.cell? ⟨ad.block, ad.off + 2, none⟩ = some (.int .i64 k1) := hc 2 _ rfl
    have g1 : W.cell? ⟨ad.block, ad.off + 3, none⟩ = some (.int .i64 n1) := hc 3 _ rfl
    exact app_11 h0 g0 h1 g1 rfl
  | 12, _, hl =>
    obtain ⟨⟨k0, n0⟩, ⟨k1, n1⟩, rfl⟩ := pv2 hl
    have h0 : W.cell? ad = some (.int .i64 k0) := hc 0 _ rfl
    have g0 : W.cell? ⟨ad.block, ad.off + 1, none⟩ = some (.int .i64 n0) := hc 1 _ rfl
    have h1 : W.cell? ⟨ad.block, ad.off + 2, none⟩ = some (.int .i64 k1) := hc 2 _ rfl
    have g1 : W.cell? ⟨ad.block, ad.off + 3, none⟩ = some (.int .i64 n1) := hc 3 _ rfl
    exact app_12 h0 g0 h1 g1 rfl
  | 13, _, hl =>
    obtain ⟨⟨k0, n0⟩, ⟨k1, n1⟩, rfl⟩ := pv2 hl
    have h0 : W.cell? ad = some (.int .i64 k0) := hc 0 _ rfl
    have g0 : W.cell? ⟨ad.block, ad.off + 1, none⟩ = some (.int .i64 n0) := hc 1 _ rfl
    have h1 : W.cell? ⟨ad.block, ad.off + 2, none⟩ = some (.int .i64 k1) := hc 2 _ rfl
    have g1 : W.cell? ⟨ad.block, ad.off + 3, none⟩ = some (.int .i64 n1) := hc 3 _ rfl
    exact app_13 h0 g0 h1 g1 (right_small (p := (k0, n0)) (hrt _ (by simp))) (right_small (p := (k1, n1)) (hrt _ (by simp)))
  | 14, _, hl =>
    obtain ⟨⟨k0, n0⟩, ⟨k1, n1⟩, rfl⟩ := pv2 hl
    have h0 : W.cell? ad = some (.int .i64 k0) := hc 0 _ rfl
    have g0 : W.cell? ⟨ad.block, ad.off + 1, none⟩ = some (.int .i64 n0) := hc 1 _ rfl
    have h1 : W.cell? ⟨ad.block, ad.off + 2, none⟩ = some (.int .i64 k1) := hc 2 _ rfl
    have g1 : W.cell? ⟨ad.block, ad.off + 3, none⟩ = some (.int .i64 n1) := hc 3 _ rfl
    exact app_14 h0 g0 h1 g1 (right_small (p := (k0, n0)) (hrt _ (by simp))) (right_small (p := (k1, n1)) (hrt _ (by simp)))
  | 15, _, hl =>
    obtain ⟨⟨k0, n0⟩, ⟨k1, n1⟩, rfl⟩ := pv2 hl
    have h0 : W.cell? ad = some (.int .i64 k0) := hc 0 _ rfl
    have g0 : W.cell? ⟨ad.block, ad.off + 1, none⟩ = some (.int .i64 n0) := hc 1 _ rfl
    have h1 : W.cell? ⟨ad.block, ad.off + 2, none⟩ = some (.int .i64 k1) := hc 2 _ rfl
    have g1 : W.cell? ⟨ad.block, ad.off + 3, none⟩ = some (.int .i64 n1) := hc 3 _ rfl
    exact app_15 h0 g0 h1 g1 (right_small (p := (k0, n0)) (hrt _ (by simp))) (right_small (p := (k1, n1)) (hrt _ (by simp)))
  | 16, _, hl =>
    obtain ⟨⟨k0, n0⟩, ⟨k1, n1⟩, rfl⟩ := pv2 hl
    have h0 : W.cell? ad = some (.int .i64 k0) := hc 0 _ rfl
    have g0 : W.cell? ⟨ad.block, ad.off + 1, none⟩ = some (.int .i64 n0) := hc 1 _ rfl
    have h1 : W.cell? ⟨ad.block, ad.off + 2, none⟩ = some (.int .i64 k1) := hc 2 _ rfl
    have g1 : W.cell? ⟨ad.block, ad.off + 3, none⟩ = some (.int .i64 n1) := hc 3 _ rfl
    cases hq : (n1 == 0) with
    | true =>
      show Calls _ _ _ _ (ApO W (if (n1 == 0) = true then ((0, 0), true) else ((2, i8 (n0.tdiv n1)), false)))
      rw [if_pos hq]; exact app_16z h0 g0 h1 g1 hq
    | false =>
      show Calls _ _ _ _ (ApO W (if (n1 == 0) = true then ((0, 0), true) else ((2, i8 (n0.tdiv n1)), false)))
      rw [if_neg (by rw [hq]; simp)]; exact app_16 h0 g0 h1 g1 (right_small (p := (k0, n0)) (hrt _ (by simp))) (by simpa using hq) hq
  | 17, _, hl =>
    obtain ⟨⟨k0, n0⟩, ⟨k1, n1⟩, rfl⟩ := pv2 hl
    have h0 : W.cell? ad = some (.int .i64 k0) := hc 0 _ rfl
    have g0 : W.cell? ⟨ad.block, ad.off + 1, none⟩ = some (.int .i64 n0) := hc 1 _ rfl
    have h1 : W.cell? ⟨ad.block, ad.off + 2, none⟩ = some (.int .i64 k1) := hc 2 _ rfl
    have g1 : W.cell? ⟨ad.block, ad.off + 3, none⟩ = some (.int .i64 n1) := hc 3 _ rfl
    cases hq : (n1 == 0) with
    | true =>
      show Calls _ _ _ _ (ApO W (if (n1 == 0) = true then ((0, 0), true) else ((2, i8 (n0 - n0.tdiv n1 * n1)), false)))
      rw [if_pos hq]; exact app_17z h0 g0 h1 g1 hq
    | false =>
      show Calls _ _ _ _ (ApO W (if (n1 == 0) = true then ((0, 0), true) else ((2, i8 (n0 - n0.tdiv n1 * n1)), false)))
      rw [if_neg (by rw [hq]; simp)]; exact app_17 h0 g0 h1 g1 (right_small (p := (k0, n0)) (hrt _ (by simp))) (by simpa using hq) hq
  | n + 18, hi, _ => exact absurd hi (by omega)
/-- what Of, IsApply and ApplyOf tell -/
theorem applies_case {wr : World} {B b LB R : Nat} {l : List (Int × Int)} (hg : GA wr B b (inps (bitsAll l).length)) (hL : Lvls wr LB) (hLB : LB ≤ wr.heap.size) {p : Addr} (he : wr.cell? ⟨0, 0, none⟩ = some (.iface 220 (.pointer (some p))))
    {s : ByteArray} {A A2 : Option Addr} {c c2 n : Nat} (hn : l.length = n) (hn5 : n ≤ 5) (hrt : ∀ p ∈ l, right p.1 p.2 = true) (hp : 0 < n → PartsAt wr B A (pws 0 l)) :
    (Calls Tryd.prog 17 #[.pointer (some ⟨b, 0, none⟩), .string s, .slice A n c] wr (OfE wr p) ∧
      ∀ W, R ≤ W.heap.size → Reads W R 2 A2 n (pvVals l) → Calls Tryd.prog 20 #[.string s, .slice A2 n c2] W (IaP W true)) ∨
    ((∃ i ps, i < 18 ∧ ps = pws 0 l ∧ l.length = arOf i ∧ fitB i (l.map fun p => lenK p.1) = true ∧ Calls Tryd.prog 17 #[.pointer (some ⟨b, 0, none⟩), .string s, .slice A n c] wr (OfQ wr B b (inps (bitsAll l).length) i ps) ∧
      ∀ W, R ≤ W.heap.size → Reads W R 2 A2 n (pvVals l) → Calls Tryd.prog 24 #[.string s, .slice A2 n c2] W (ApO W (applyP i l))) ∧
      ∀ W, R ≤ W.heap.size → Reads W R 2 A2 n (pvVals l) → Calls Tryd.prog 20 #[.string s, .slice A2 n c2] W (IaP W false)) := by
  have hbl := bitsAll_len l
  by_cases hbad : badOp s n = true
  · exact .inl ⟨of_bad he fun W hb => shape_bad (hL.below hb hLB) (Nat.le_trans hLB hb.size) hbad, fun W _ _ => isa_bad hbad⟩
  · obtain ⟨i, hi, rfl, hm⟩ := known_op (known (by simpa using hbad))
    have hpos : 0 < n := by have := (arOf_range i).1; omega
    have hpp := hp hpos
    have hisa : ∀ W : World, R ≤ W.heap.size → Reads W R 2 A2 n (pvVals l) → Calls Tryd.prog 20 #[.string (opOf i), .slice A2 n c2] W (IaP W (!fitB i (l.map fun p => lenK p.1))) :=
      fun W hR hr => isa_op hi hm hn hrt hr hR
    cases hfit : fitB i (l.map fun p => lenK p.1) with
    | false =>
      refine .inl ⟨of_bad he fun W hb => ?_, fun W hR hr => ?_⟩
      · have h := shape_op (c := c) (hL.below hb hLB) (Nat.le_trans hLB hb.size) (lens := l.map fun p => lenK p.1) hi (by rw [List.length_map, hn, hm]) (show Lens W A _ by have := (hpp.new hb).lens; rwa [pws_lens] at this)
        rw [hfit] at h
        rw [hm]; exact h
      · have h := hisa W hR hr
        rw [hfit] at h; exact h
    | true =>
      refine .inr ⟨⟨i, pws 0 l, hi, rfl, by rw [hn, hm], hfit, ?_, fun W hR hr => ?_⟩, fun W hR hr => ?_⟩
      · have h := of_op (c := c) hg hL hLB hpp hi (by rw [pws_length, hn, hm]) (by rw [pws_lens]; exact hfit) (pws_has (by omega)) (by rw [inps_length]; omega)
        rw [hm]; exact h
      · subst hm
        exact apply_op hi hn hrt hr
      · have h := hisa W hR hr
        rw [hfit] at h; exact h
/-- the values that Of's gates come to -/
theorem applies_plain {i : Nat} {l : List (Int × Int)} {gs' : List Gm.Gate} {outs : List Nat} {last : Nat} (hi : i < 18) (hl : l.length = arOf i) (hrt : ∀ p ∈ l, right p.1 p.2 = true) (hf : fitB i (l.map fun p => lenK p.1) = true)
    (h5 : MadeW (inps (bitsAll l).length) gs' 1800 outs (fun inp => resF i ((pws 0 l).map (evs inp (inps (bitsAll l).length))))) (h6 : MadeL (inps (bitsAll l).length) gs' 1800 last (fun inp => trapF i ((pws 0 l).map (evs inp (inps (bitsAll l).length))))) :
    Gm.ev (bitsAll l) gs' last = (applyP i l).2 ∧ ((applyP i l).2 = false → valOf (evs (bitsAll l) gs' outs) = (applyP i l).1) := by
  have h := plain_apply hi hl hrt hf
  have hp := pws_evs l [] 0 (bitsAll l).length rfl (by omega)
  rw [List.nil_append] at hp
  rw [h5.eq, h6.eq, hp]
  exact h
set_option maxRecDepth 100000 in
theorem applies_long {w : World} {A : Option Addr} {n c : Nat} {s : ByteArray} (hn : 5 < n) :
    Calls Tryd.prog 6 #[.string s, .slice A n c] w (LPost w) := by
  have h5 : (5 : Int) < (n : Int) := by omega
  go_enter Tryd.func6, Tryd.ntmps6
  go_wp2_with fail
  refine (five_any _).mono ?_
  rintro e w1 ⟨rfl, hb1⟩
  have HB1 := Lib.hid hb1
  clear hb1
  go_wp2
  go_ret
  exact ⟨rfl, HB1.out⟩
attribute [local irreducible] wpSeq wpStill
set_option maxRecDepth 100000 in
set_option maxHeartbeats 8000000 in
theorem applies_short {w : World} {LB E : Nat} {ea : Nat → Addr} (he : Errs w ea E) (hE : E ≤ w.heap.size) (hL : Lvls w LB) (hLB : LB ≤ w.heap.size) {s : ByteArray} {A : Option Addr} {c n : Nat} {l : List (Int × Int)} (hn : l.length = n) (hn5 : n ≤ 5)
    (hr : Reads w w.heap.size 2 A n (pvVals l)) :
    Calls Tryd.prog 6 #[.string s, .slice A n c] w (LPost w) := by
  obtain ⟨ir, hr0, hy0, hy1, hy2⟩ := info_parts infoRowS_
  have HIR := Lib.hid (show _ ∧ _ ∧ _ ∧ _ from ⟨hr0, hy0, hy1, hy2⟩)
  obtain ⟨il, hv0, hx0, hx1, hx2⟩ := info_parts infoLit_
  have HIL := Lib.hid (show _ ∧ _ ∧ _ ∧ _ from ⟨hv0, hx0, hx1, hx2⟩)
  obtain ⟨ib, hq0, hu0, hu1, hu2⟩ := info_parts infoBoolW
  have HIB := Lib.hid (show _ ∧ _ ∧ _ ∧ _ from ⟨hq0, hu0, hu1, hu2⟩)
  have HE := Lib.hid he
  have HEE := Lib.hid hE
  have HL := Lib.hid hL
  have HLB := Lib.hid hLB
  have HR := Lib.hid hr
  clear he hE hL hLB hr hr0 hy0 hy1 hy2 hv0 hx0 hx1 hx2 hq0 hu0 hu1 hu2
  go_enter Tryd.func6, Tryd.ntmps6
  go_wp2_with fail
  refine (five_any _).mono ?_
  rintro e w1 ⟨rfl, hb1⟩
  have HB1 := Lib.hid hb1
  clear hb1
  go_wp2_with fail
  go_loopw [6] (fun iv wr => Ap1 w l iv wr) (fun iv _ => l.length - (intOf iv).toNat)
  case atStart => exact ⟨0, Nat.zero_le _, rfl, by simp, HB1.out⟩
  case round =>
    obtain ⟨k, hkl, rfl, hrt0, hb⟩ := hrel
    rw [hn] at hkl
    have HB := Lib.hid hb
    have HRT0 := Lib.hid hrt0
    clear hb hrt0
    by_cases hk2 : k < n
    · obtain ⟨⟨kk, nn⟩, hx⟩ : ∃ p, l[k]? = some p := ⟨_, List.getElem?_eq_getElem (by omega)⟩
      obtain ⟨ad, hA, hadb, hc⟩ := HR.out.2 (by omega)
      subst hA
      obtain ⟨q0, q1⟩ := pvVals_at l k _ hx
      have cc := hc _ _ q0
      have cd := hc _ _ q1
      rw [val_field] at cd
      obtain ⟨W2, hW2⟩ : ∃ W2, W2 = wr.drew := ⟨_, rfl⟩
      have HB2 := Lib.hid (show Below w.heap.size w W2 by rw [hW2]; exact below_drewN HB.out 1)
      have HSS := Lib.hid (show ∀ w' : World, Below w.heap.size w w' → w'.cell? (ad.add (k * 2)) = some (.int .i64 kk) ∧ w'.cell? ⟨(ad.add (k * 2)).block, (ad.add (k * 2)).off + 1, none⟩ = some (.int .i64 nn) from fun w' hb =>
        ⟨(hb.cell (by rw [block_of_add]; exact hadb)).trans cc, (hb.cell (by show (ad.add (k * 2)).block < _; rw [block_of_add]; exact hadb)).trans cd⟩)
      have HX := Lib.hid hx
      have HW2 := Lib.hid hW2
      have HADB := Lib.hid hadb
      clear hx hc cc cd q0 q1 hW2 hadb
      go_wp2_with fail
      refine wp_region_seq (S := fun w' => w'.cell? (ad.add (k * 2)) = some (.int .i64 kk) ∧ w'.cell? ⟨(ad.add (k * 2)).block, (ad.add (k * 2)).off + 1, none⟩ = some (.int .i64 nn)) [(0, false), (1, false), (2, false), (3, false), (4, false), (5, false), (6, false), (7, false), (8, false), (9, true), (10, false)] (by kernel_rfl) (by kernel_rfl) (by kernel_rfl) (by rw [← HW2.out]; exact HSS.out _ HB2.out) ?_
      rw [← HW2.out]
      iterate 9 (refine seq_take _ _ rfl (by kernel_rfl) (fun wv hv => by obtain ⟨hv1, hv2⟩ := hv; go_simp; try with_reducible rfl) ?_; simp only [Act.put, List.getElem_toArray, List.getElem_cons_zero, List.getElem_cons_succ, List.setIfInBounds_toArray, List.set_cons_zero, List.set_cons_succ])
      refine seq_act _ rfl (fun K hK => ?_)
      go_simp
      refine (right_any _ _ _).mono ?_
      rintro e w3 ⟨rfl, hb3⟩
      obtain ⟨rb, hrb⟩ : ∃ rb, right kk nn = rb := ⟨_, rfl⟩
      rw [hrb]
      have HRB := Lib.hid hrb
      have HB3 := Lib.hid (HB2.out.trans (hb3.mono HB2.out.size))
      clear hb3 hrb
      go_simp
      refine hK _ _ (HSS.out _ HB3.out) ?_
      clear hK K
      iterate 1 (refine seq_take _ _ rfl (by kernel_rfl) (fun wv hv => by go_simp; try with_reducible rfl) ?_; simp only [Act.put, List.getElem_toArray, List.getElem_cons_zero, List.getElem_cons_succ, List.setIfInBounds_toArray, List.set_cons_zero, List.set_cons_succ])
      refine seq_nil ?_
      cases rb with
      | false =>
        go_wp2_with fail
        go_ret
        exact ⟨rfl, HB3.out⟩
      | true =>
        go_wp2_with fail
        go_roundw
        case rel =>
          refine ⟨k + 1, by omega, by go_num, fun p hp => ?_, HB3.out⟩
          rw [Gm.take_one HX.out] at hp
          rcases List.mem_append.1 hp with hp | hp
          · exact HRT0.out p hp
          · rw [List.mem_singleton.1 hp]; exact HRB.out
        case measure => simp [intOf]; omega
    · obtain rfl : n = k := by omega
      obtain ⟨wa, rfl⟩ : ∃ wa : World, wa = wr := ⟨_, rfl⟩
      have hrt : ∀ p ∈ l, right p.1 p.2 = true := by have := HRT0.out; rwa [List.take_of_length_le (by omega)] at this
      have HRT := Lib.hid hrt
      have hga := ga_new wa (B := wa.heap.size) (Nat.le_refl _)
      obtain ⟨W2, hW2⟩ : ∃ W2, W2 = wa.alloc (.cells #[.slice none 0 0, .int .i64 0, .map none] 27) := ⟨_, rfl⟩
      rw [← hW2] at hga
      have hb12 : Below wa.heap.size wa W2 := by rw [hW2]; exact (Below.refl _ _).alloc (Nat.le_refl _) _
      have hbw2 : Below w.heap.size w W2 := HB.out.trans (hb12.mono HB.out.size)
      have HGA := Lib.hid hga
      have HB2 := Lib.hid hbw2
      have HWB := Lib.hid (And.intro HB.out.size hb12.size)
      have HW2 := Lib.hid hW2
      clear hga hW2 hb12 hbw2 hrt HRT0
      go_wp2_with fail
      rw [← HW2.out]
      go_loopw [9, 10, 11] (fun pv bv jv wx => Ap2 W2 wa.heap.size wa.heap.size l pv bv jv wx) (fun _ _ jv _ => l.length - (intOf jv).toNat)
      case atStart => exact ⟨0, 0, [], Nat.zero_le _, rfl, rfl, ⟨none, 0, rfl⟩, ⟨none, 0, rfl⟩, HGA.out, Chg.refl _ _, World.ownsRow_nil _ _ _ _, World.ownsRow_nil _ _ _ _, rfl, fun i v hv => by simp at hv⟩
      case round =>
        obtain ⟨wb, rfl⟩ : ∃ wb : World, wb = wr := ⟨_, rfl⟩
        obtain ⟨k, q, rows, hkl, hq, rfl, ⟨Ap, cp, rfl⟩, ⟨Ab, cb, rfl⟩, hg, hch, hpo, hbo, hrows⟩ := hrel
        rw [hn] at hkl
        have hq40 : q ≤ 40 := by
          have h1 := bitsAll_len (l.take k)
          rw [List.length_take] at h1; omega
        have HBW := Lib.hid (GT.below hch HWB.out.2)
        have HB := Lib.hid (HB2.out.trans (HBW.out.mono HWB.out.1))
        have HG := Lib.hid hg
        have HC := Lib.hid hch
        have HP := Lib.hid hpo
        have HI := Lib.hid hbo
        have HRW := Lib.hid hrows
        have HQ := Lib.hid hq
        have hs2b : W2.heap.size ≤ wb.heap.size := hch.size
        clear hg hch hpo hbo hrows hq
        by_cases hk2 : k < n
        · obtain ⟨⟨kk, nn⟩, hx⟩ : ∃ p, l[k]? = some p := ⟨_, List.getElem?_eq_getElem (by omega)⟩
          have hrt : right kk nn = true := HRT.out _ (List.mem_of_getElem? hx)
          obtain ⟨ad, hA, hadb, hc⟩ := HR.out.2 (by omega)
          subst hA
          obtain ⟨q0, q1⟩ := pvVals_at l k _ hx
          have cc := (HB.out.cell (p := ad.add (k * 2)) (by rw [block_of_add]; exact hadb)).trans (hc _ _ q0)
          have cd := (HB.out.cell (p := ad.add (k * 2 + 1)) (by rw [block_of_add]; exact hadb)).trans (hc _ _ q1)
          rw [val_field] at cd
          obtain ⟨m, hm⟩ : ∃ m, lenK kk = m := ⟨_, rfl⟩
          have hm8 : 1 ≤ m ∧ m ≤ 8 := by rw [← hm]; exact lenK_le kk
          obtain ⟨hm1, hm8⟩ := hm8
          have CB := bits_right (w := wb) hrt
          rw [hm] at CB
          have CB := Lib.hid CB
          have HX := Lib.hid hx
          have HM := Lib.hid hm
          clear hx hrt hc q0 q1 hm
          go_wp2_with fail
          refine CB.out.mono ?_
          rintro e w3 ⟨Abt, cbt, rfl, hob, hb3⟩
          have HOB := Lib.hid hob
          have HG3 := Lib.hid (HG.out.new hb3)
          have HC3 := Lib.hid (HC.out.trans (Chg.of_new hb3))
          have HP3 := Lib.hid (own_chg HP.out (S := fun _ _ => False) (.of_new hb3) (by simp))
          have HI3 := Lib.hid (own_chg HI.out (S := fun _ _ => False) (.of_new hb3) (by simp))
          have HR3 := Lib.hid (HRW.out.chg (S := fun _ _ => False) (.of_new hb3) (by simp))
          have hs3 : wb.heap.size ≤ w3.heap.size := hb3.size
          clear hob hb3 cc cd
          go_wp2_with fail
          go_loopw [14, 15] (fun ov kv wx => ApI w3 wa.heap.size wa.heap.size q m ov kv wx) (fun _ kv _ => m - (intOf kv).toNat)
          case atStart => exact ⟨0, Nat.zero_le _, rfl, ⟨none, 0, rfl⟩, HG3.out, Chg.refl _ _, World.ownsRow_nil _ _ _ _⟩
          case round =>
            obtain ⟨j, hj, rfl, ⟨Ai, ci, rfl⟩, hg, hch, hown⟩ := hrel
            by_cases hjm : j < m
            · have C := input_ga hg (by rw [inps_length]; omega)
              rw [inps_succ] at C
              have C := Lib.hid C
              have HCI := Lib.hid hch
              have HOI := Lib.hid hown
              clear hg hch hown
              go_wp2_with fail
              refine C.out.mono ?_
              rintro e w4 ⟨rfl, h1, h2⟩
              have HG4 := Lib.hid h1
              have HC4 := Lib.hid (HCI.out.trans h2)
              have HO4 := Lib.hid (own_gt HOI.out h2)
              have hs4 : w3.heap.size ≤ w4.heap.size := HC4.out.size
              clear h1 h2
              go_wp2_with (at_builtin; refine wpList_append_sl _ rfl (.tmp 84) (.tmp 86) _ rfl w3.heap.size 29 il _ 1 8 Tryd.underlying28 HIL.out.1 HIL.out.2.1 HIL.out.2.2.1 HIL.out.2.2.2 rfl (by omega) _ j _ rfl (HO4.out.alloc _) (w4.heap.size + 1) (some ⟨w4.heap.size, 0, none⟩) 1 1 [.int .i64 ((2 * (q + j) + 2 : Nat) : Int)] rfl (reads_new rfl (by omega) rfl) (ints_one (by simp)) (le_maxLen (by omega)) (le_bytes (by omega) (by omega)) (by simp; omega) ?_; intro A5 c5 w5 hown5 hg5)
              have hg6 : (w4.alloc (.cells #[.int .i64 ((2 * (q + j) + 2 : Nat) : Int)] 29)).grownBy w5 (Value.slice Ai j ci).ownBlock := hg5
              have HG5 := Lib.hid (HG4.out.row (row_chg HO4.out hg6))
              have HC5 := Lib.hid (gt_grown HC4.out HO4.out (Nat.le_refl _) hg6)
              have HO5 := Lib.hid (show w5.ownsRow w3.heap.size 29 1 (.slice A5 (j + 1) c5) (j + 1) (natVals (litsFrom q (j + 1))) by rw [litsFrom_succ, natVals_append]; exact hown5)
              clear hown5 hg5 hg6
              go_wp2_with fail
              go_roundw
              case rel => exact ⟨j + 1, by omega, by go_num, ⟨_, _, rfl⟩, HG5.out, HC5.out, HO5.out⟩
              case measure => simp [intOf]; omega
            · obtain rfl : j = m := by omega
              have HG4 := Lib.hid hg
              have HC4 := Lib.hid (HC3.out.trans hch)
              have HW4 := Lib.hid hown
              have hty : ∀ (t : Nat) (ht : t = 28 ∨ t = 4), ∀ (base : Nat) (v : Value) (nx : Nat) (xs : List Value), w3.ownsRow base t 1 v nx xs → wr.ownsRow base t 1 v nx xs := fun t ht base v nx xs h => own_chg h hch fun g cur _ _ hs => by
                rcases hs.2 with e | e | e <;> rcases ht with rfl | rfl <;> simp [elemOf] at e
              have HP4 := Lib.hid (hty _ (.inl rfl) _ _ _ _ HP3.out)
              have HI4 := Lib.hid (hty _ (.inr rfl) _ _ _ _ HI3.out)
              have HB4 := Lib.hid (hty _ (.inr rfl) _ _ _ _ HOB.out)
              have HR4 := Lib.hid (HR3.out.chg hch fun k o hs => ⟨hs.1, by rcases hs.2 with e | e | e <;> rw [e] <;> simp⟩)
              have hs4 : w3.heap.size ≤ wr.heap.size := hch.size
              clear hg hch hown hty
              have HON := Lib.hid (show ∀ u ∈ boolVals (bitsB nn j), u.oneCell' = true from fun u hu => by obtain ⟨b, _, rfl⟩ := List.mem_map.1 hu; rfl)
              go_upto_region 28 with (at_builtin; refine wpList_append_sl _ rfl (.tmp 88) (.tmp 89) _ rfl W2.heap.size 4 ib _ 1 1 Tryd.underlying54 HIB.out.1 HIB.out.2.1 HIB.out.2.2.1 HIB.out.2.2.2 rfl (by omega) _ q _ rfl HI4.out wr.heap.size Abt j cbt _ rfl (Reads.of_own HB4.out) HON.out (le_maxLen (by omega)) (le_bytes (by omega) (by omega)) (by omega) ?_; intro A5 c5 w5 hown5 hg5)
              have hch5 : Chg (fun k o => W2.heap.size ≤ k ∧ elemOf o = some 4) wr w5 := grown_chg0 HI4.out hg5
              have HG5 := Lib.hid (HG4.out.chg hch5 fun k o _ hs => by rw [hs.2]; exact ⟨by simp, by simp, by simp⟩)
              have HC5 := Lib.hid (gt_grown0 HC4.out HI4.out (Nat.le_refl _) hg5)
              have HP5 := Lib.hid (own_chg HP4.out hch5 (by simp [elemOf]))
              have HW5 := Lib.hid (own_chg HW4.out hch5 (by simp [elemOf]))
              have HR5 := Lib.hid (HR4.out.chg hch5 fun k o hs => ⟨Nat.le_trans HWB.out.2 hs.1, by rw [hs.2]; simp⟩)
              have HI5 := Lib.hid (show w5.ownsRow W2.heap.size 4 1 (.slice A5 (q + j) c5) (q + j) (boolVals (bitsAll (l.take k) ++ bitsB nn j)) by rw [boolVals_append]; exact hown5)
              have hs5 : wr.heap.size ≤ w5.heap.size := hch5.size
              clear hown5 hg5 hch5
              go_wp2_with (at_builtin; refine wpList_append_sl _ rfl (.tmp 91) (.tmp 93) _ rfl W2.heap.size 28 ir _ 1 24 Tryd.underlying53 HIR.out.1 HIR.out.2.1 HIR.out.2.2.1 HIR.out.2.2.2 rfl (by omega) _ k _ rfl (HP5.out.alloc _) (w5.heap.size + 1) (some ⟨w5.heap.size, 0, none⟩) 1 1 [.slice Ai j ci] rfl (reads_new rfl (by omega) rfl) (fun u hu => by rw [List.mem_singleton.1 hu]; rfl) (le_maxLen (by omega)) (le_bytes (by omega) (by omega)) (by simp; omega) ?_; intro A6 c6 w6 hown6 hg6)
              have hg7 : (w5.alloc (.cells #[.slice Ai j ci] 28)).grownBy w6 (Value.slice Ap k cp).ownBlock := hg6
              have hch6 := grown_chg HP5.out hg7
              have HG6 := Lib.hid (HG5.out.chg hch6 fun k o _ hs => by rw [hs.2]; exact ⟨by simp, by simp, by simp⟩)
              have HC6 := Lib.hid (gt_grown HC5.out HP5.out (Nat.le_refl _) hg7)
              have HI6 := Lib.hid (own_chg HI5.out hch6 (by simp [elemOf]))
              have hS : ∀ (j : Nat) (o : Obj), (W2.heap.size ≤ j ∧ elemOf o = some 28) → wa.heap.size ≤ j ∧ elemOf o ≠ some 29 := fun j o hs => ⟨Nat.le_trans HWB.out.2 hs.1, by rw [hs.2]; simp⟩
              have hfl := litsFrom_len q j
              have HR6 := Lib.hid (show RowsG w6 wa.heap.size (pws 0 (l.take k) ++ [litsFrom q j]) (rows ++ [.slice Ai j ci]) by
                have h := (HR5.out.chg hch6 hS).snoc (c := ci) (A := Ai) (xs := litsFrom q j) (by rw [hfl]; exact (Held.of_own HW5.out).chg hch6 hS)
                rwa [hfl] at h)
              have HP6 := Lib.hid (show w6.ownsRow W2.heap.size 28 1 (.slice A6 (k + 1) c6) (k + 1) (rows ++ [.slice Ai j ci]) from hown6)
              clear hown6 hg6 hg7 hch6 hS hfl
              go_wp2_with fail
              go_roundw
              case rel =>
                have ht : l.take (k + 1) = l.take k ++ [(kk, nn)] := Gm.take_one HX.out
                have hv : vb (kk, nn) = bitsB nn j := by unfold vb; rw [HM.out]
                have hbits : bitsAll (l.take (k + 1)) = bitsAll (l.take k) ++ bitsB nn j := by rw [ht, bitsAll_snoc, hv]
                refine ⟨k + 1, q + j, _, by omega, ?_, by go_num, ⟨_, _, rfl⟩, ⟨_, _, rfl⟩, HG6.out, HC6.out, HP6.out, ?_, ?_⟩
                · rw [hbits, List.length_append, HQ.out, bitsB_len]
                · rw [hbits]; exact HI6.out
                · rw [ht, pws_snoc, HQ.out, Nat.zero_add, HM.out]; exact HR6.out
              case measure => simp [intOf]; omega
        · obtain rfl : n = k := by omega
          have htl : l.take n = l := List.take_of_length_le (by omega)
          have HQ' := HQ.out
          have HI' := HI.out
          have HRW' := HRW.out
          rw [htl] at HQ' HI' HRW'
          have HQ2 := Lib.hid HQ'
          have HI2 := Lib.hid HI'
          have hlw : Lvls wb LB := HL.out.below HB.out HLB.out
          have hlb : LB ≤ wb.heap.size := Nat.le_trans HLB.out HB.out.size
          have her := HE.out.below (HB.out.mono HEE.out)
          have hca := applies_case (R := w.heap.size) (s := s) (c := cp) (c2 := c) (A2 := A) (l := l) (by rw [HQ']; exact HG.out) hlw hlb (her.var 3 (by omega) (by omega)) hn hn5 HRT.out (fun hp => parts_of_ownG HP.out HRW' hp)
          rw [HQ'] at hca
          have HER := Lib.hid her
          have HEE2 := Lib.hid (Nat.le_trans HEE.out HB.out.size)
          have hab : wa.heap.size ≤ wb.heap.size := Nat.le_trans HWB.out.2 hs2b
          clear HQ' HI' HRW' htl
          rcases hca with ⟨co1, co2⟩ | ⟨⟨i, ps, hi, rfl, hla, hfit, co1, co3⟩, co2⟩
          · have CO := Lib.hid co1
            have CI := Lib.hid co2
            clear hlw hlb her co1 co2
            go_wp2_with fail
            refine CO.out.mono ?_
            rintro e w2 ⟨rfl, hb2⟩
            have HBE := Lib.hid hb2
            have HCC := Lib.hid (show ∀ W', Below wb.heap.size wb W' → Calls Tryd.prog 21 #[.iface 220 (.pointer (some (ea 3))), .int .i64 3] W' (fun e w' => e = .returned (.bool true) ∧ Below W'.heap.size W' w') from fun W' hb =>
              coded_sent (HER.out.below (hb.mono HEE2.out)) (Nat.le_trans HEE2.out hb.size) (k := 3) (by omega) (by omega))
            have HBI := Lib.hid (HB.out.trans (hb2.mono HB.out.size))
            clear hb2
            go_wp2_with fail
            refine (CI.out w2 HBI.out.size (HR.out.below HBI.out)).mono ?_
            rintro e w3 ⟨r, rfl, hr, hb3⟩
            have HB3 := Lib.hid (HBE.out.trans (hb3.mono HBE.out.size))
            clear hb3
            go_wp2_with fail
            refine (HCC.out w3 HB3.out).mono ?_
            rintro e w4 ⟨rfl, hb4⟩
            have HEND := Lib.hid (HB.out.trans ((HB3.out.trans (hb4.mono HB3.out.size)).mono HB.out.size))
            clear hb4
            go_wp2
            go_ret
            exact ⟨rfl, HEND.out⟩
          · have CO := Lib.hid co1
            have CI := Lib.hid co2
            have CA := Lib.hid co3
            have HLA := Lib.hid (And.intro hi (And.intro hla hfit))
            clear hlw hlb her co1 co2 co3 hi hla hfit
            go_wp2_with fail
            refine CO.out.mono ?_
            rintro e w2 ⟨nr, Ar, cr, gs', outs, last, rfl, h1, h2, h3, h4, h5, h6⟩
            obtain ⟨⟨⟨kv, nv⟩, tb⟩, hap⟩ : ∃ r, applyP i l = r := ⟨_, rfl⟩
            have hpl := applies_plain (outs := outs) (last := last) (gs' := gs') HLA.out.1 HLA.out.2.1 HRT.out HLA.out.2.2 (by rw [HQ2.out]; exact h5) (by rw [HQ2.out]; exact h6)
            rw [hap] at hpl
            have HPL := Lib.hid hpl
            rw [hap] at CA
            have HB3 := Lib.hid (show Below w.heap.size w w2 from HB.out.trans ((GT.below h2 hab).mono HWB.out.1))
            have HI3 := Lib.hid (own_chg HI2.out h2 fun g cur _ _ hs => by rcases hs.2 with e | e | e <;> simp [elemOf] at e)
            have HG3 := Lib.hid h1
            have HO3 := Lib.hid h3
            have hins : Gm.ins gs' = q := by rw [h5.ext.ins, inps_ins]
            have HAS := Lib.hid (And.intro h5.all (And.intro h6.has hins))
            have hol : outs.length = nr := by have := h3.1; rw [natVals_length] at this; omega
            have HOL := Lib.hid hol
            have hlx : last ≤ 100000 := by
              have a1 := h6.has
              have a2 := h6.len
              rw [inps_length] at a2
              unfold Gm.has at a1; omega
            have hsb2 : wb.heap.size ≤ w2.heap.size := h2.size
            clear h1 h2 h3 h5 h6 hap hpl hins hol
            go_wp2_with fail
            refine (CI.out w2 HB3.out.size (HR.out.below HB3.out)).mono ?_
            rintro e w3 ⟨r, rfl, hr, hb3⟩
            have HB4 := Lib.hid (HB3.out.trans (hb3.mono HB3.out.size))
            have HI4 := Lib.hid (own_chg HI3.out (S := fun _ _ => False) (.of_new hb3) (by simp))
            have HG4 := Lib.hid (HG3.out.new hb3)
            have HO4 := Lib.hid (own_chg HO3.out (S := fun _ _ => False) (.of_new hb3) (by simp))
            have hs23 : w2.heap.size ≤ w3.heap.size := hb3.size
            have hws3 : w.heap.size ≤ w3.heap.size := HB4.out.size
            clear hb3
            rcases h4 with rfl | rfl
            · go_upto_region 36 with (at_builtin; refine wpList_append_sl _ rfl (.tmp 120) (.tmp 121) _ rfl w3.heap.size 29 il _ 1 8 Tryd.underlying28 HIL.out.1 HIL.out.2.1 HIL.out.2.2.1 HIL.out.2.2.2 rfl (by omega) _ 0 [] rfl (World.ownsRow_nil _ _ _ _) w3.heap.size Ar 1 cr (natVals outs) rfl (Reads.of_own HO4.out) natVals_ones (le_maxLen (by omega)) (le_bytes (by omega) (by omega)) (Nat.le_refl _) ?_; rw [Nat.zero_add, List.nil_append]; intro A5 c5 w5 hown5 hg5)
              have hb5 : Below w3.heap.size w3 w5 := below_row hg5
              have HB5 := Lib.hid (HB4.out.trans (hb5.mono HB4.out.size))
              have HI5 := Lib.hid (own_chg HI4.out (S := fun _ _ => False) (.of_new hb5) (by simp))
              have HG5 := Lib.hid (HG4.out.new hb5)
              have HO5 := Lib.hid hown5
              have hs35 : w3.heap.size ≤ w5.heap.size := hb5.size
              clear hown5 hg5 hb5
              go_wp2_with (at_builtin; refine wpList_append_sl _ rfl (.tmp 123) (.tmp 125) _ rfl w3.heap.size 29 il _ 1 8 Tryd.underlying28 HIL.out.1 HIL.out.2.1 HIL.out.2.2.1 HIL.out.2.2.2 rfl (by omega) _ 1 _ rfl (HO5.out.alloc _) (w5.heap.size + 1) (some ⟨w5.heap.size, 0, none⟩) 1 1 [.int .i64 (last : Nat)] rfl (reads_new rfl (by omega) rfl) (ints_one (by simp)) (le_maxLen (by omega)) (le_bytes (by omega) (by omega)) (by simp; omega) ?_; intro A6 c6 w6 hown6 hg6)
              have hg7 : (w5.alloc (.cells #[.int .i64 (last : Nat)] 29)).grownBy w6 (Value.slice A5 1 c5).ownBlock := hg6
              have hch6 := row_chg HO5.out hg7
              have HG6 := Lib.hid (HG5.out.row hch6)
              have HB6 := Lib.hid (own_grown_below HB5.out HO5.out (by omega) hg7)
              have HI6 := Lib.hid (own_chg HI5.out hch6 (by simp [elemOf]))
              have hl9 : (outs ++ [last]).length = 2 := by rw [List.length_append, HOL.out]; rfl
              have CE := Lib.hid (show Calls Tryd.prog 18 #[.pointer (some ⟨wa.heap.size, 0, none⟩), .slice Ab q cb, .slice A6 2 c6] w6 (EvN w6 ((outs ++ [last]).map (Gm.ev (bitsAll l) gs')) 2) by
                have hown' : w6.ownsRow w3.heap.size 29 1 (.slice A6 2 c6) 2 (natVals (outs ++ [last])) := by rw [natVals_append]; exact hown6
                have h := geval_any (A := Ab) (c := cb) (c2 := c6) HG6.out (inp := bitsAll l) (by rw [HQ2.out, HAS.out.2.2]) (by rw [HQ2.out]; exact Reads.of_own HI6.out) (Nat.le_refl _) (l := outs ++ [last]) (by rw [hl9]; exact Reads.of_own hown') (Nat.le_refl _) (by rw [hl9]; omega) (fun x hx => by
                  rcases List.mem_append.1 hx with hx | hx
                  · exact HAS.out.1 x hx
                  · rw [List.mem_singleton.1 hx]; exact HAS.out.2.1)
                rw [hl9, HQ2.out] at h
                exact h.mono fun _ _ k => evg_n (by rw [List.length_map, hl9]) k)
              clear hown6 hg6 hg7 hch6
              go_wp2_with fail
              refine CE.out.mono ?_
              rintro e w7 ⟨A7, c7, rfl, ho7, hb7⟩
              obtain ⟨gv, rfl, _, _⟩ := own_some ho7 (by omega)
              obtain ⟨u8, hu8, c8⟩ := own_cell (k := 1) ho7 (by omega)
              obtain rfl : Value.bool tb = u8 := by
                have e1 : ((outs ++ [last]).map (Gm.ev (bitsAll l) gs'))[1]? = some tb := by
                  rw [List.getElem?_map, List.getElem?_append_right (by rw [HOL.out]; omega), HOL.out]
                  simp [HPL.out.1]
                unfold boolVals at hu8
                rw [List.getElem?_map, e1] at hu8
                simpa using hu8
              have hcap := own_capG ho7 (by omega)
              have hcapI : (1 : Int) ≤ (c7 : Int) := by omega
              have ht8 := own_take (n := 1) ho7 (by omega) (by omega)
              have hbits : (boolVals ((outs ++ [last]).map (Gm.ev (bitsAll l) gs'))).take 1 = boolVals (evs (bitsAll l) gs' outs) := by
                unfold boolVals evs
                rw [← List.map_take, ← List.map_take, List.take_append_of_le_length (by rw [HOL.out]; omega), List.take_of_length_le (by rw [HOL.out]; omega)]
              rw [hbits] at ht8
              have HB7 := Lib.hid (HB6.out.trans (hb7.mono HB6.out.size))
              have HT7 := Lib.hid ht8
              have HC8 := Lib.hid (And.intro c8 (World.block_lt_of_cell? w7 _ c8))
              clear ho7 hb7 hu8 c8 hcap ht8 hbits hl9
              go_wp2_with fail
              refine (CA.out w7 HB7.out.size (HR.out.below HB7.out)).mono ?_
              rintro e w8 ⟨rfl, hb8⟩
              obtain ⟨W9, hW9⟩ : ∃ W9, W9 = w8.alloc (.cells #[.int .i64 kv, .int .i64 nv] 45) := ⟨_, rfl⟩
              have k9 : Blk W9 w8.heap.size 45 #[.int .i64 kv, .int .i64 nv] := by rw [hW9]; exact Blk.new w8 _ _
              have hb89 : Below w7.heap.size w7 W9 := by rw [hW9]; exact hb8.alloc hb8.size _
              have c8 : W9.cell? ⟨gv, 1, none⟩ = some (.bool tb) := (hb89.cell HC8.out.2).trans HC8.out.1
              have HB9 := Lib.hid (HB7.out.trans (hb89.mono HB7.out.size))
              have HT9 := Lib.hid (own_chg HT7.out (S := fun _ _ => False) (.of_new hb89) (by simp))
              have HK9 := Lib.hid k9
              have HW9 := Lib.hid hW9
              clear hb8 hW9 k9 hb89
              go_upto_region 41 with fail
              rw [← HW9.out]
              cases tb with
              | true =>
                go_wp2_with fail
                go_ret
                exact ⟨rfl, HB9.out⟩
              | false =>
                have hvl := HPL.out.2 rfl
                have hel : (evs (bitsAll l) gs' outs).length = 1 := by unfold evs; rw [List.length_map]; exact HOL.out
                have CV := value_any (w := W9) (p := ea 3) (A := some ⟨gv, 0, none⟩) (c := c7) (l := evs (bitsAll l) gs' outs) ((HE.out.below (HB9.out.mono HEE.out)).var 3 (by omega) (by omega)) (by rw [hel]; omega) (by rw [hel]; exact Reads.of_own HT9.out)
                rw [hvl, if_pos (by rw [hel]; omega), hel] at CV
                have CV := Lib.hid CV
                clear hvl hel
                go_wp2_with fail
                refine CV.out.mono ?_
                rintro e w10 ⟨rfl, hb10⟩
                have k10 := HK9.out.below hb10 HK9.out.lt
                obtain ⟨W11, hW11⟩ : ∃ W11, W11 = w10.alloc (.cells #[.int .i64 kv, .int .i64 nv] 45) := ⟨_, rfl⟩
                have z11 : Blk W11 w10.heap.size 45 #[.int .i64 kv, .int .i64 nv] := by rw [hW11]; exact Blk.new w10 _ _
                have k11 : Blk W11 w8.heap.size 45 #[.int .i64 kv, .int .i64 nv] := by rw [hW11]; exact k10.alloc _
                have HB11 := Lib.hid (show Below w.heap.size w W11 by rw [hW11]; exact (HB9.out.trans (hb10.mono HB9.out.size)).alloc (Nat.le_trans HB9.out.size hb10.size) _)
                have y0 := z11.cell 0
                have y1 := z11.cell 1
                have v0 := k11.cell 0
                have v1 := k11.cell 1
                have HW11 := Lib.hid hW11
                clear hb10 k10 hW11 z11 k11
                go_upto_region 46 with fail
                rw [← HW11.out]
                go_wp2_with fail
                go_ret
                exact ⟨rfl, HB11.out⟩
            · go_upto_region 36 with (at_builtin; refine wpList_append_sl _ rfl (.tmp 120) (.tmp 121) _ rfl w3.heap.size 29 il _ 1 8 Tryd.underlying28 HIL.out.1 HIL.out.2.1 HIL.out.2.2.1 HIL.out.2.2.2 rfl (by omega) _ 0 [] rfl (World.ownsRow_nil _ _ _ _) w3.heap.size Ar 8 cr (natVals outs) rfl (Reads.of_own HO4.out) natVals_ones (le_maxLen (by omega)) (le_bytes (by omega) (by omega)) (Nat.le_refl _) ?_; rw [Nat.zero_add, List.nil_append]; intro A5 c5 w5 hown5 hg5)
              have hb5 : Below w3.heap.size w3 w5 := below_row hg5
              have HB5 := Lib.hid (HB4.out.trans (hb5.mono HB4.out.size))
              have HI5 := Lib.hid (own_chg HI4.out (S := fun _ _ => False) (.of_new hb5) (by simp))
              have HG5 := Lib.hid (HG4.out.new hb5)
              have HO5 := Lib.hid hown5
              have hs35 : w3.heap.size ≤ w5.heap.size := hb5.size
              clear hown5 hg5 hb5
              go_wp2_with (at_builtin; refine wpList_append_sl _ rfl (.tmp 123) (.tmp 125) _ rfl w3.heap.size 29 il _ 1 8 Tryd.underlying28 HIL.out.1 HIL.out.2.1 HIL.out.2.2.1 HIL.out.2.2.2 rfl (by omega) _ 8 _ rfl (HO5.out.alloc _) (w5.heap.size + 1) (some ⟨w5.heap.size, 0, none⟩) 1 1 [.int .i64 (last : Nat)] rfl (reads_new rfl (by omega) rfl) (ints_one (by simp)) (le_maxLen (by omega)) (le_bytes (by omega) (by omega)) (by simp; omega) ?_; intro A6 c6 w6 hown6 hg6)
              have hg7 : (w5.alloc (.cells #[.int .i64 (last : Nat)] 29)).grownBy w6 (Value.slice A5 8 c5).ownBlock := hg6
              have hch6 := row_chg HO5.out hg7
              have HG6 := Lib.hid (HG5.out.row hch6)
              have HB6 := Lib.hid (own_grown_below HB5.out HO5.out (by omega) hg7)
              have HI6 := Lib.hid (own_chg HI5.out hch6 (by simp [elemOf]))
              have hl9 : (outs ++ [last]).length = 9 := by rw [List.length_append, HOL.out]; rfl
              have CE := Lib.hid (show Calls Tryd.prog 18 #[.pointer (some ⟨wa.heap.size, 0, none⟩), .slice Ab q cb, .slice A6 9 c6] w6 (EvN w6 ((outs ++ [last]).map (Gm.ev (bitsAll l) gs')) 9) by
                have hown' : w6.ownsRow w3.heap.size 29 1 (.slice A6 9 c6) 9 (natVals (outs ++ [last])) := by rw [natVals_append]; exact hown6
                have h := geval_any (A := Ab) (c := cb) (c2 := c6) HG6.out (inp := bitsAll l) (by rw [HQ2.out, HAS.out.2.2]) (by rw [HQ2.out]; exact Reads.of_own HI6.out) (Nat.le_refl _) (l := outs ++ [last]) (by rw [hl9]; exact Reads.of_own hown') (Nat.le_refl _) (by rw [hl9]; omega) (fun x hx => by
                  rcases List.mem_append.1 hx with hx | hx
                  · exact HAS.out.1 x hx
                  · rw [List.mem_singleton.1 hx]; exact HAS.out.2.1)
                rw [hl9, HQ2.out] at h
                exact h.mono fun _ _ k => evg_n (by rw [List.length_map, hl9]) k)
              clear hown6 hg6 hg7 hch6
              go_wp2_with fail
              refine CE.out.mono ?_
              rintro e w7 ⟨A7, c7, rfl, ho7, hb7⟩
              obtain ⟨gv, rfl, _, _⟩ := own_some ho7 (by omega)
              obtain ⟨u8, hu8, c8⟩ := own_cell (k := 8) ho7 (by omega)
              obtain rfl : Value.bool tb = u8 := by
                have e1 : ((outs ++ [last]).map (Gm.ev (bitsAll l) gs'))[8]? = some tb := by
                  rw [List.getElem?_map, List.getElem?_append_right (by rw [HOL.out]; omega), HOL.out]
                  simp [HPL.out.1]
                unfold boolVals at hu8
                rw [List.getElem?_map, e1] at hu8
                simpa using hu8
              have hcap := own_capG ho7 (by omega)
              have hcapI : (8 : Int) ≤ (c7 : Int) := by omega
              have ht8 := own_take (n := 8) ho7 (by omega) (by omega)
              have hbits : (boolVals ((outs ++ [last]).map (Gm.ev (bitsAll l) gs'))).take 8 = boolVals (evs (bitsAll l) gs' outs) := by
                unfold boolVals evs
                rw [← List.map_take, ← List.map_take, List.take_append_of_le_length (by rw [HOL.out]; omega), List.take_of_length_le (by rw [HOL.out]; omega)]
              rw [hbits] at ht8
              have HB7 := Lib.hid (HB6.out.trans (hb7.mono HB6.out.size))
              have HT7 := Lib.hid ht8
              have HC8 := Lib.hid (And.intro c8 (World.block_lt_of_cell? w7 _ c8))
              clear ho7 hb7 hu8 c8 hcap ht8 hbits hl9
              go_wp2_with fail
              refine (CA.out w7 HB7.out.size (HR.out.below HB7.out)).mono ?_
              rintro e w8 ⟨rfl, hb8⟩
              obtain ⟨W9, hW9⟩ : ∃ W9, W9 = w8.alloc (.cells #[.int .i64 kv, .int .i64 nv] 45) := ⟨_, rfl⟩
              have k9 : Blk W9 w8.heap.size 45 #[.int .i64 kv, .int .i64 nv] := by rw [hW9]; exact Blk.new w8 _ _
              have hb89 : Below w7.heap.size w7 W9 := by rw [hW9]; exact hb8.alloc hb8.size _
              have c8 : W9.cell? ⟨gv, 8, none⟩ = some (.bool tb) := (hb89.cell HC8.out.2).trans HC8.out.1
              have HB9 := Lib.hid (HB7.out.trans (hb89.mono HB7.out.size))
              have HT9 := Lib.hid (own_chg HT7.out (S := fun _ _ => False) (.of_new hb89) (by simp))
              have HK9 := Lib.hid k9
              have HW9 := Lib.hid hW9
              clear hb8 hW9 k9 hb89
              go_upto_region 41 with fail
              rw [← HW9.out]
              cases tb with
              | true =>
                go_wp2_with fail
                go_ret
                exact ⟨rfl, HB9.out⟩
              | false =>
                have hvl := HPL.out.2 rfl
                have hel : (evs (bitsAll l) gs' outs).length = 8 := by unfold evs; rw [List.length_map]; exact HOL.out
                have CV := value_any (w := W9) (p := ea 3) (A := some ⟨gv, 0, none⟩) (c := c7) (l := evs (bitsAll l) gs' outs) ((HE.out.below (HB9.out.mono HEE.out)).var 3 (by omega) (by omega)) (by rw [hel]; omega) (by rw [hel]; exact Reads.of_own HT9.out)
                rw [hvl, if_pos (by rw [hel]; omega), hel] at CV
                have CV := Lib.hid CV
                clear hvl hel
                go_wp2_with fail
                refine CV.out.mono ?_
                rintro e w10 ⟨rfl, hb10⟩
                have k10 := HK9.out.below hb10 HK9.out.lt
                obtain ⟨W11, hW11⟩ : ∃ W11, W11 = w10.alloc (.cells #[.int .i64 kv, .int .i64 nv] 45) := ⟨_, rfl⟩
                have z11 : Blk W11 w10.heap.size 45 #[.int .i64 kv, .int .i64 nv] := by rw [hW11]; exact Blk.new w10 _ _
                have k11 : Blk W11 w8.heap.size 45 #[.int .i64 kv, .int .i64 nv] := by rw [hW11]; exact k10.alloc _
                have HB11 := Lib.hid (show Below w.heap.size w W11 by rw [hW11]; exact (HB9.out.trans (hb10.mono HB9.out.size)).alloc (Nat.le_trans HB9.out.size hb10.size) _)
                have y0 := z11.cell 0
                have y1 := z11.cell 1
                have v0 := k11.cell 0
                have v1 := k11.cell 1
                have HW11 := Lib.hid hW11
                clear hb10 k10 hW11 z11 k11
                go_upto_region 46 with fail
                rw [← HW11.out]
                go_wp2_with fail
                go_ret
                exact ⟨rfl, HB11.out⟩
end Go.Proofs.YtmbjhpgemphmmaaDoor
