/-
  PLAIN: what is written is read again: numbers, words, lines.
-/
import Derived.Test.YtaedbnbeelkkcaaGreatDoorRp
import Derived.Lib.AtoiAllCases
import Derived.Lib.ItoaLen
namespace Go.Proofs.YtaedbnbeelkkcaaGreatDoor.Rd
open Go.Lib
theorem parse_snoc : ∀ (l : List UInt8) (acc v : Nat) (c : UInt8), parseUint10 acc l = .ok v → v < 1000000000 → 48 ≤ c.toNat → c.toNat ≤ 57 → parseUint10 acc (l ++ [c]) = .ok (v * 10 + (c.toNat - 48))
  | [], acc, v, c, h, hv, h1, h2 => by
    simp only [parseUint10] at h
    injection h with h
    subst h
    simp only [List.nil_append, parseUint10]
    rw [if_pos ⟨h1, h2⟩, if_neg (by omega), if_neg (by omega)]
  | d :: r, acc, v, c, h, hv, h1, h2 => by
    simp only [parseUint10] at h
    split at h
    · rename_i hd
      split at h
      · cases h
      · rename_i hr
        split at h
        · cases h
        · rename_i hr2
          simp only [List.cons_append, parseUint10]
          rw [if_pos hd, if_neg hr, if_neg hr2]
          exact parse_snoc r _ v c h hv h1 h2
    · cases h
theorem digit_nat {d : Nat} (h : d < 10) : (UInt8.ofNat (48 + d)).toNat = 48 + d := by
  rw [UInt8.toNat_ofNat']; omega
theorem parse_dec : ∀ (u : Nat), u < 1000000000 → parseUint10 0 (decDigits u) = .ok u := by
  intro u
  induction u using Nat.strongRecOn with
  | _ u ih =>
    intro hu
    rw [decDigits]
    split
    · rename_i h
      simp only [parseUint10, digit_nat h]
      rw [if_pos (by omega), if_neg (by omega), if_neg (by omega)]
      congr 1; omega
    · rename_i h
      have hm : u % 10 < 10 := Nat.mod_lt _ (by omega)
      have h1 := parse_snoc (decDigits (u / 10)) 0 (u / 10) (UInt8.ofNat (48 + u % 10)) (ih (u / 10) (by omega) (by omega)) (by omega) (by rw [digit_nat hm]; omega) (by rw [digit_nat hm]; omega)
      rw [h1, digit_nat hm]
      congr 1; omega
theorem dec_bytes : ∀ (u : Nat), ∀ c ∈ decDigits u, 48 ≤ c.toNat ∧ c.toNat ≤ 57 := by
  intro u
  induction u using Nat.strongRecOn with
  | _ u ih =>
    intro c hc
    rw [decDigits] at hc
    split at hc
    · rename_i h
      rw [List.mem_singleton.1 hc, digit_nat h]; omega
    · rename_i h
      have hm : u % 10 < 10 := Nat.mod_lt _ (by omega)
      rcases List.mem_append.1 hc with hc | hc
      · exact ih (u / 10) (by omega) c hc
      · rw [List.mem_singleton.1 hc, digit_nat hm]; omega
theorem dec_cons (u : Nat) : ∃ c r, decDigits u = c :: r := by
  cases h : decDigits u with
  | nil =>
    rw [decDigits] at h
    split at h
    · cases h
    · simp at h
  | cons c r => exact ⟨c, r, rfl⟩
theorem itoa_bytes (n : Int) : ∀ c ∈ itoa n, c ≠ 10 ∧ c ≠ 32 := by
  intro c hc
  unfold itoa at hc
  have key : 45 ≤ c.toNat := by
    split at hc
    · rcases List.mem_cons.1 hc with rfl | hc
      · decide
      · have := dec_bytes _ c hc; omega
    · have := dec_bytes _ c hc; omega
  constructor
  · rintro rfl; exact absurd key (by decide)
  · rintro rfl; exact absurd key (by decide)
theorem atoi_itoa {n : Int} (h0 : -100000000 ≤ n) (h1 : n ≤ 100000000) : atoiAll (itoa n) = .ok n := by
  unfold itoa
  split
  · rename_i h
    obtain ⟨c, r, hc⟩ := dec_cons n.natAbs
    have hp : parseMag (decDigits n.natAbs) = .ok n.natAbs := by
      unfold parseMag
      rw [if_neg (by rw [hc]; simp)]
      exact parse_dec _ (by omega)
    rw [atoiAll_minus, hp]
    show (if 9223372036854775808 < n.natAbs then NumEnd.range else NumEnd.ok (-(n.natAbs : Int))) = _
    rw [if_neg (by omega)]
    congr 1; omega
  · rename_i h
    obtain ⟨c, r, hc⟩ := dec_cons n.toNat
    have hb := dec_bytes n.toNat c (by rw [hc]; simp)
    have hp : parseMag (decDigits n.toNat) = .ok n.toNat := by
      unfold parseMag
      rw [if_neg (by rw [hc]; simp)]
      exact parse_dec _ (by omega)
    rw [hc] at hp ⊢
    rw [atoiAll_plain c r (by omega) (by omega), hp]
    show (if 9223372036854775808 ≤ n.toNat then NumEnd.range else NumEnd.ok (n.toNat : Int)) = _
    rw [if_neg (by omega)]
    congr 1; omega
/-! ### splitting what is joined -/
theorem indexByte_first (c : UInt8) : ∀ (x t : List UInt8), c ∉ x → indexByte (x ++ c :: t) c = x.length
  | [], t, _ => by simp [indexByte]
  | b :: x, t, h => by
    have hb : ¬ b = c := fun e => h (by rw [e]; simp)
    have ih := indexByte_first c x t (fun e => h (List.mem_cons_of_mem _ e))
    simp only [List.cons_append, indexByte, ih, beq_iff_eq, hb, if_false]
    rw [if_neg (by omega)]; simp
theorem split_join (c : UInt8) : ∀ (x : List UInt8) (r : List (List UInt8)), c ∉ x → (∀ y ∈ r, c ∉ y) → splitK [c] 0 r.length (join (x :: r) [c]) = x :: r
  | x, [], _, _ => by rw [join_one]; rfl
  | x, y :: r, hx, hr => by
    have ih := split_join c y r (hr y (by simp)) (fun z hz => hr z (by simp [hz]))
    have hj : join (x :: y :: r) [c] = x ++ c :: join (y :: r) [c] := by
      rw [join_cons, joinTail_cons]; rfl
    have hi : index (join (x :: y :: r) [c]) [c] = x.length := by rw [hj, index_one]; exact indexByte_first c x _ hx
    rw [List.length_cons]
    unfold splitK
    rw [if_neg (by rw [hi]; simp), hi, hj]
    congr 1
    · simp
    · have e : ((x.length : Int)).toNat + [c].length = x.length + 1 := by simp
      rw [e]
      have e2 : (x ++ c :: join (y :: r) [c]).drop (x.length + 1) = join (y :: r) [c] := by
        rw [List.drop_append]; simp
      rw [e2]; exact ih
theorem count_join (c : UInt8) : ∀ (x : List UInt8) (r : List (List UInt8)), c ∉ x → (∀ y ∈ r, c ∉ y) → (join (x :: r) [c]).count c = r.length
  | x, [], hx, _ => by rw [join_one]; exact List.count_eq_zero.2 hx
  | x, y :: r, hx, hr => by
    have ih := count_join c y r (hr y (by simp)) (fun z hz => hr z (by simp [hz]))
    have hj : join (x :: y :: r) [c] = x ++ c :: join (y :: r) [c] := by
      rw [join_cons, joinTail_cons]; rfl
    rw [hj, List.count_append, List.count_cons_self, ih, List.count_eq_zero.2 hx, List.length_cons]; omega
theorem pieces_is {c : UInt8} {s : ByteArray} {x : List UInt8} {r : List (List UInt8)} (hs : s.data.toList = join (x :: r) [c]) (hx : c ∉ x) (hr : ∀ y ∈ r, c ∉ y) : (pieces c s).map (·.data.toList) = x :: r := by
  unfold pieces
  rw [splitB_data]
  have hc : countB s ⟨#[c]⟩ = r.length := by
    show count s.data.toList [c] = r.length
    rw [count_one, hs]; exact count_join c x r hx hr
  rw [hc, hs]
  exact split_join c x r hx hr
end Go.Proofs.YtaedbnbeelkkcaaGreatDoor.Rd
