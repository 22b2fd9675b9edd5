/-
  PLAIN: words as lists of bools, the lowest first: sums by carries, products by rows. No program in sight.
  PLAIN: words as lists of bools: differences, products, picks, equality, order, division; what they are modulo 2 to the width. No program in sight.
-/

namespace Go.Proofs.YtmbjhpgemphmmaaDoor
namespace Wp
def bit (b : Bool) : Nat := if b then 1 else 0
def nu : List Bool → Nat
  | [] => 0
  | b :: l => bit b + 2 * nu l
theorem bit_le (b : Bool) : bit b ≤ 1 := by cases b <;> simp [bit]
theorem nu_lt (l : List Bool) : nu l < 2 ^ l.length := by
  induction l with
  | nil => simp [nu]
  | cons b l ih => have := bit_le b; simp only [nu, List.length_cons, Nat.pow_succ]; omega
theorem nu_inj : ∀ {a b : List Bool}, a.length = b.length → nu a = nu b → a = b
  | [], [], _, _ => rfl
  | [], y :: b, h, _ => by simp at h
  | x :: a, [], h, _ => by simp at h
  | x :: a, y :: b, h, hn => by
    simp only [nu] at hn
    have h1 := bit_le x
    have h2 := bit_le y
    have e1 : bit x = bit y := by omega
    have e2 : nu a = nu b := by omega
    have e3 : x = y := by cases x <;> cases y <;> simp [bit] at e1 ⊢
    rw [e3, nu_inj (by simpa using h) e2]
theorem nu_append (a b : List Bool) : nu (a ++ b) = nu a + 2 ^ a.length * nu b := by
  induction a with
  | nil => simp [nu]
  | cons x a ih => simp only [List.cons_append, nu, ih, List.length_cons, Nat.pow_succ, Nat.mul_add]; rw [Nat.mul_comm (2 ^ a.length) 2, Nat.mul_assoc]; omega
theorem nu_zeros (n : Nat) : nu (List.replicate n false) = 0 := by
  induction n with
  | zero => rfl
  | succ n ih => rw [List.replicate_succ]; simp [nu, bit, ih]
def sumBit (a b c : Bool) : Bool := (a != b) != c
def carryBit (a b c : Bool) : Bool := (a && b) || ((a != b) && c)
theorem bit_sum (a b c : Bool) : bit (sumBit a b c) + 2 * bit (carryBit a b c) = bit a + bit b + bit c := by
  cases a <;> cases b <;> cases c <;> rfl
/-- the carry behind the first k places -/
def carry (a b : List Bool) (c : Bool) : Bool := (a.zip b).foldl (fun c p => carryBit p.1 p.2 c) c
/-- sums, place by place -/
def sums : List Bool → List Bool → Bool → List Bool
  | x :: a, y :: b, c => sumBit x y c :: sums a b (carryBit x y c)
  | _, _, _ => []
theorem sums_length : ∀ {a b : List Bool} (c : Bool), a.length = b.length → (sums a b c).length = a.length
  | [], [], _, _ => rfl
  | [], y :: b, _, h => by simp at h
  | x :: a, [], _, h => by simp at h
  | x :: a, y :: b, c, h => by simp only [sums, List.length_cons]; rw [sums_length _ (by simpa using h)]
theorem sums_nu : ∀ {a b : List Bool} (c : Bool), a.length = b.length → nu (sums a b c) + 2 ^ a.length * bit (carry a b c) = nu a + nu b + bit c
  | [], [], c, _ => by simp [sums, nu, carry]
  | [], y :: b, _, h => by simp at h
  | x :: a, [], _, h => by simp at h
  | x :: a, y :: b, c, h => by
    have ih := sums_nu (a := a) (b := b) (carryBit x y c) (by simpa using h)
    have hb := bit_sum x y c
    have hc : carry (x :: a) (y :: b) c = carry a b (carryBit x y c) := rfl
    rw [hc]
    simp only [sums, nu, List.length_cons, Nat.pow_succ]
    rw [Nat.mul_comm (2 ^ a.length) 2, Nat.mul_assoc]
    omega
theorem carry_snoc {a b : List Bool} (h : a.length = b.length) (x y c : Bool) : carry (a ++ [x]) (b ++ [y]) c = carryBit x y (carry a b c) := by
  unfold carry; rw [List.zip_append h, List.foldl_append]; rfl
theorem sums_snoc : ∀ {a b : List Bool}, a.length = b.length → ∀ (x y c : Bool), sums (a ++ [x]) (b ++ [y]) c = sums a b c ++ [sumBit x y (carry a b c)]
  | [], [], _, _, _, _ => rfl
  | [], y :: b, h, _, _, _ => by simp at h
  | x :: a, [], h, _, _, _ => by simp at h
  | x :: a, y :: b, h, x', y', c => by
    simp only [List.cons_append, sums]
    rw [sums_snoc (by simpa using h)]
    rfl
/-- modulo 2 to the width -/
theorem sums_mod {a b : List Bool} (c : Bool) (h : a.length = b.length) : nu (sums a b c) = (nu a + nu b + bit c) % 2 ^ a.length := by
  have h1 := sums_nu c h
  have h2 := nu_lt (sums a b c)
  rw [sums_length c h] at h2
  rw [← h1, Nat.add_mul_mod_self_left, Nat.mod_eq_of_lt h2]
end Wp
end Go.Proofs.YtmbjhpgemphmmaaDoor
namespace Go.Proofs.YtmbjhpgemphmmaaDoor
namespace Wp
theorem bit_not (b : Bool) : bit (!b) + bit b = 1 := by cases b <;> rfl
theorem nu_not (l : List Bool) : nu (l.map (!·)) + nu l + 1 = 2 ^ l.length := by
  induction l with
  | nil => rfl
  | cons b l ih => have := bit_not b; simp only [List.map_cons, nu, List.length_cons, Nat.pow_succ]; omega
/-- a list of n bits that is x modulo 2 to the n -/
def Rep (n : Nat) (l : List Bool) (x : Int) : Prop := l.length = n ∧ ((2 : Int) ^ n) ∣ ((nu l : Int) - x)
theorem Rep.self (l : List Bool) : Rep l.length l (nu l) := ⟨rfl, by simp⟩
theorem Rep.cong {n : Nat} {l : List Bool} {x y : Int} (h : Rep n l x) (hy : ((2 : Int) ^ n) ∣ (x - y)) : Rep n l y := ⟨h.1, by
  have := Int.dvd_add h.2 hy
  have e : (nu l : Int) - x + (x - y) = (nu l : Int) - y := by omega
  rwa [e] at this⟩
theorem Rep.inj {n : Nat} {l r : List Bool} {x : Int} (h : Rep n l x) (k : Rep n r x) : l = r := by
  refine nu_inj (h.1.trans k.1.symm) ?_
  have h1 := Int.dvd_sub h.2 k.2
  have e : (nu l : Int) - x - ((nu r : Int) - x) = (nu l : Int) - nu r := by omega
  rw [e] at h1
  have l1 := nu_lt l
  have l2 := nu_lt r
  rw [h.1] at l1
  rw [k.1] at l2
  obtain ⟨c, hc⟩ := h1
  have hp : (2 : Int) ^ n = ((2 ^ n : Nat) : Int) := by simp
  rw [hp] at hc
  have hc0 : c = 0 := by
    rcases Int.lt_trichotomy c 0 with h | h | h
    · have : ((2 ^ n : Nat) : Int) * c ≤ ((2 ^ n : Nat) : Int) * (-1) := Int.mul_le_mul_of_nonneg_left (by omega) (by omega)
      omega
    · exact h
    · have : ((2 ^ n : Nat) : Int) * 1 ≤ ((2 ^ n : Nat) : Int) * c := Int.mul_le_mul_of_nonneg_left (by omega) (by omega)
      omega
  rw [hc0] at hc
  omega
theorem rep_sums {n : Nat} {a b : List Bool} {x y : Int} (ha : Rep n a x) (hb : Rep n b y) (c : Bool) : Rep n (sums a b c) (x + y + (bit c : Nat)) := by
  have hl := ha.1.trans hb.1.symm
  refine ⟨(sums_length c hl).trans ha.1, ?_⟩
  have hs := sums_nu c hl
  rw [ha.1] at hs
  have hs' : (nu (sums a b c) : Int) + (2 : Int) ^ n * (bit (carry a b c) : Nat) = (nu a : Int) + nu b + (bit c : Nat) := by
    have := congrArg (fun (t : Nat) => (t : Int)) hs
    simpa using this
  have h1 := Int.dvd_sub (Int.dvd_add ha.2 hb.2) (Int.dvd_mul_right ((2 : Int) ^ n) (bit (carry a b c) : Nat))
  have e : (nu (sums a b c) : Int) - (x + y + (bit c : Nat)) = (nu a : Int) - x + ((nu b : Int) - y) - (2 : Int) ^ n * (bit (carry a b c) : Nat) := by omega
  rw [e]
  exact h1
theorem rep_not {n : Nat} {a : List Bool} {x : Int} (ha : Rep n a x) : Rep n (a.map (!·)) (-x - 1) := by
  refine ⟨(List.length_map _).trans ha.1, ?_⟩
  have h := nu_not a
  rw [ha.1] at h
  have h' : (nu (a.map (!·)) : Int) + nu a + 1 = (2 : Int) ^ n := by
    have := congrArg (fun (t : Nat) => (t : Int)) h
    simpa using this
  have h1 := Int.dvd_sub (Int.dvd_refl ((2 : Int) ^ n)) ha.2
  have e : (nu (a.map (!·)) : Int) - (-x - 1) = (2 : Int) ^ n - ((nu a : Int) - x) := by omega
  rw [e]
  exact h1
theorem rep_zeros (n : Nat) : Rep n (List.replicate n false) 0 := ⟨List.length_replicate, by rw [nu_zeros]; simp⟩
def negB (a : List Bool) : List Bool := sums (a.map (!·)) (List.replicate a.length false) true
theorem rep_neg {n : Nat} {a : List Bool} {x : Int} (ha : Rep n a x) : Rep n (negB a) (-x) := by
  have h := rep_sums (rep_not ha) (rep_zeros n) true
  have e : -x - 1 + 0 + ((bit true : Nat) : Int) = -x := by simp [bit]
  rw [e] at h
  unfold negB
  rw [ha.1]
  exact h
def minusB (a b : List Bool) : List Bool := sums a (b.map (!·)) true
def geB (a b : List Bool) : Bool := carry a (b.map (!·)) true
theorem minusB_length {a b : List Bool} (h : a.length = b.length) : (minusB a b).length = a.length := sums_length _ (by simpa using h)
theorem rep_minus {n : Nat} {a b : List Bool} {x y : Int} (ha : Rep n a x) (hb : Rep n b y) : Rep n (minusB a b) (x - y) := by
  have h := rep_sums ha (rep_not hb) true
  have e : x + (-y - 1) + ((bit true : Nat) : Int) = x - y := by simp [bit]; omega
  rw [e] at h
  exact h
theorem minus_nu {a b : List Bool} (h : a.length = b.length) : nu (minusB a b) + 2 ^ a.length * bit (geB a b) + nu b = nu a + 2 ^ a.length := by
  have h1 := sums_nu (a := a) (b := b.map (!·)) true (by simpa using h)
  have h2 := nu_not b
  rw [← h] at h2
  unfold minusB geB
  simp only [bit, if_true] at h1 ⊢
  omega
theorem geB_iff {a b : List Bool} (h : a.length = b.length) : geB a b = decide (nu b ≤ nu a) := by
  have h1 := minus_nu h
  have h2 := nu_lt (minusB a b)
  rw [minusB_length h] at h2
  have h3 := nu_lt a
  have h4 := nu_lt b
  rw [← h] at h4
  cases hg : geB a b with
  | true =>
    rw [hg] at h1
    simp only [bit, if_true, Nat.mul_one] at h1
    exact (decide_eq_true (by omega)).symm
  | false =>
    rw [hg] at h1
    simp only [bit, Bool.false_eq_true, if_false, Nat.mul_zero] at h1
    exact (decide_eq_false (by omega)).symm
theorem minus_ge {a b : List Bool} (h : a.length = b.length) (hg : nu b ≤ nu a) : nu (minusB a b) = nu a - nu b := by
  have h1 := minus_nu h
  rw [geB_iff h, decide_eq_true hg] at h1
  simp only [bit, if_true, Nat.mul_one] at h1
  omega
/-- the row of a product -/
def rowB (a b : List Bool) (i : Nat) : List Bool := List.replicate i false ++ (a.take (a.length - i)).map (· && b.getD i false)
def mulTo (a b : List Bool) : Nat → List Bool
  | 0 => List.replicate a.length false
  | i + 1 => sums (mulTo a b i) (rowB a b i) false
def timesB (a b : List Bool) : List Bool := mulTo a b a.length
theorem map_and_true (l : List Bool) : l.map (· && true) = l := by simp
theorem nu_and (l : List Bool) (c : Bool) : nu (l.map (· && c)) = nu l * bit c := by
  cases c with
  | true => rw [map_and_true]; simp [bit]
  | false =>
    have : l.map (· && false) = List.replicate l.length false := by
      rw [List.eq_replicate_iff]; simp
    rw [this, nu_zeros]; simp [bit]
theorem rep_row {n : Nat} {a b : List Bool} (ha : a.length = n) {i : Nat} (hi : i ≤ n) : Rep n (rowB a b i) ((nu a : Int) * ((2 : Int) ^ i * (bit (b.getD i false) : Nat))) := by
  refine ⟨by unfold rowB; simp [ha]; omega, ?_⟩
  have h1 : nu (rowB a b i) = 2 ^ i * (nu (a.take (n - i)) * bit (b.getD i false)) := by
    unfold rowB
    rw [nu_append, nu_zeros, List.length_replicate, nu_and, ha]
    omega
  have h2 : nu a = nu (a.take (n - i)) + 2 ^ (n - i) * nu (a.drop (n - i)) := by
    conv => lhs; rw [← List.take_append_drop (n - i) a]
    rw [nu_append]
    congr 3
    simp [ha]
  have hp : (2 : Int) ^ n = (2 : Int) ^ i * (2 : Int) ^ (n - i) := by rw [← Int.pow_add]; congr 1; omega
  refine ⟨-((nu (a.drop (n - i)) : Int) * (bit (b.getD i false) : Nat)), ?_⟩
  rw [h1, h2, hp]
  simp only [Int.natCast_mul, Int.natCast_add, Int.natCast_pow, Int.cast_ofNat_Int]
  generalize (nu (a.take (n - i)) : Int) = t
  generalize (nu (a.drop (n - i)) : Int) = d
  generalize ((bit (b.getD i false) : Nat) : Int) = c
  generalize (2 : Int) ^ i = p
  generalize (2 : Int) ^ (n - i) = q
  rw [Int.add_mul, Int.mul_neg]
  have e1 : p * (t * c) = t * (p * c) := by rw [Int.mul_left_comm]
  have e2 : q * d * (p * c) = p * q * (d * c) := by
    simp only [Int.mul_comm, Int.mul_left_comm]
  rw [e1, e2]
  omega
theorem mulTo_length {a b : List Bool} : ∀ {i : Nat}, i ≤ a.length → (mulTo a b i).length = a.length
  | 0, _ => List.length_replicate
  | i + 1, h => by
    have ih := mulTo_length (a := a) (b := b) (i := i) (by omega)
    unfold mulTo
    rw [sums_length _ (by rw [ih, (rep_row (b := b) rfl (show i ≤ a.length by omega)).1]), ih]
theorem nu_take_succ {b : List Bool} {i : Nat} (hi : i < b.length) : nu (b.take (i + 1)) = nu (b.take i) + 2 ^ i * bit (b.getD i false) := by
  have hb : b.getD i false = b[i] := by simp [List.getD, hi]
  rw [List.take_succ_eq_append_getElem hi, nu_append, hb]
  simp [nu]
  rw [Nat.min_eq_left (by omega)]
theorem rep_mulTo {n : Nat} {a b : List Bool} (ha : a.length = n) (hb : b.length = n) : ∀ {i : Nat}, i ≤ n → Rep n (mulTo a b i) ((nu a : Int) * (nu (b.take i) : Nat))
  | 0, _ => by
    have h := rep_zeros n
    unfold mulTo
    rw [ha]
    simpa [nu] using h
  | i + 1, hi => by
    have ih := rep_mulTo ha hb (i := i) (by omega)
    have h := rep_sums ih (rep_row (b := b) ha (i := i) (by omega)) false
    unfold mulTo
    rw [nu_take_succ (by omega)]
    have e : (nu a : Int) * (nu (b.take i) : Nat) + (nu a : Int) * ((2 : Int) ^ i * (bit (b.getD i false) : Nat)) + ((bit false : Nat) : Int) = (nu a : Int) * ((nu (b.take i) + 2 ^ i * bit (b.getD i false) : Nat) : Int) := by
      rw [Int.natCast_add, Int.natCast_mul, Int.natCast_pow, Int.mul_add]
      simp [bit]
    rw [e] at h
    exact h
theorem dvd_prod {n : Int} {a b x y : Int} (h : n ∣ a - x) (k : n ∣ b - y) : n ∣ a * b - x * y := by
  have q1 : n ∣ (a - x) * b := Int.dvd_mul_of_dvd_left h
  have q2 : n ∣ x * (b - y) := Int.dvd_mul_of_dvd_right k
  have h1 := Int.dvd_add q1 q2
  have e : (a - x) * b + x * (b - y) = a * b - x * y := by rw [Int.sub_mul, Int.mul_sub]; omega
  rwa [e] at h1
theorem rep_times {n : Nat} {a b : List Bool} {x y : Int} (ha : Rep n a x) (hb : Rep n b y) : Rep n (timesB a b) (x * y) := by
  have h := rep_mulTo ha.1 hb.1 (i := n) (Nat.le_refl _)
  rw [List.take_of_length_le (by rw [hb.1]; exact Nat.le_refl _)] at h
  unfold timesB
  rw [ha.1]
  exact h.cong (dvd_prod ha.2 hb.2)
/-- one or the other -/
def pickB (c : Bool) (a b : List Bool) : List Bool := if c then a else b
theorem pickB_length {c : Bool} {a b : List Bool} (h : a.length = b.length) : (pickB c a b).length = a.length := by unfold pickB; split <;> simp [h]
/-- are two alike? -/
def sameB (a b : List Bool) : Bool := (a.zip b).all fun p => p.1 == p.2
theorem sameB_snoc {a b : List Bool} (h : a.length = b.length) (x y : Bool) : sameB (a ++ [x]) (b ++ [y]) = (sameB a b && !(x != y)) := by
  unfold sameB; rw [List.zip_append h]; cases x <;> cases y <;> simp
theorem sameB_iff : ∀ {a b : List Bool}, a.length = b.length → (sameB a b = true ↔ a = b)
  | [], [], _ => by simp [sameB]
  | [], y :: b, h => by simp at h
  | x :: a, [], h => by simp at h
  | x :: a, y :: b, h => by
    have ih := sameB_iff (a := a) (b := b) (by simpa using h)
    unfold sameB at ih ⊢
    simp only [List.zip_cons_cons, List.all_cons, Bool.and_eq_true, beq_iff_eq, List.cons.injEq]
    exact and_congr Iff.rfl ih
/-- division without a sign, from the highest bit on: what is left, and the bits of the quotient -/
def divStep (n : Nat) (x : Bool) (wide r : List Bool) : Bool × List Bool :=
  let r1 := x :: r.take n
  (geB r1 wide, pickB (geB r1 wide) (minusB r1 wide) r1)
def divTo (a b : List Bool) : Nat → List Bool × List Bool
  | 0 => ([], List.replicate (a.length + 1) false)
  | k + 1 => let s := divTo a b k; let t := divStep a.length (a.getD (a.length - 1 - k) false) (b ++ [false]) s.2; (t.1 :: s.1, t.2)
theorem divTo_length {a b : List Bool} (h : a.length = b.length) : ∀ {k : Nat}, k ≤ a.length → (divTo a b k).1.length = k ∧ (divTo a b k).2.length = a.length + 1
  | 0, _ => ⟨rfl, List.length_replicate⟩
  | k + 1, hk => by
    have ih := divTo_length h (k := k) (by omega)
    have hr : (a.getD (a.length - 1 - k) false :: (divTo a b k).2.take a.length).length = (b ++ [false]).length := by simp [ih.2, h]
    unfold divTo divStep
    refine ⟨by simp [ih.1], ?_⟩
    simp only
    rw [pickB_length]
    · rw [minusB_length hr]; simp [ih.2]
    · rw [minusB_length hr]
theorem divTo_nu {a b : List Bool} (h : a.length = b.length) (hb : 0 < nu b) : ∀ {k : Nat}, k ≤ a.length →
    nu (a.drop (a.length - k)) = nu (divTo a b k).1 * nu b + nu (divTo a b k).2 ∧ nu (divTo a b k).2 < nu b
  | 0, _ => by simp [divTo, nu, nu_zeros, hb]
  | k + 1, hk => by
    obtain ⟨h1, h2⟩ := divTo_nu h hb (k := k) (by omega)
    have hl := (divTo_length h (k := k) (by omega)).2
    have hbl := nu_lt b
    rw [← h] at hbl
    have hd : a.drop (a.length - (k + 1)) = a.getD (a.length - 1 - k) false :: a.drop (a.length - k) := by
      have hi : a.length - (k + 1) < a.length := by omega
      rw [List.drop_eq_getElem_cons hi]
      congr 1
      · have : a.length - 1 - k = a.length - (k + 1) := by omega
        rw [this]; simp [List.getD, hi]
      · congr 1; omega
    rw [hd]
    simp only [divTo, divStep]
    generalize ha0 : a.getD (a.length - 1 - k) false = x
    generalize hr0 : (divTo a b k).2 = r at *
    generalize (divTo a b k).1 = q at *
    have ht : nu (r.take a.length) = nu r := by
      have e : nu r = nu (r.take a.length) + 2 ^ a.length * nu (r.drop a.length) := by
        conv => lhs; rw [← List.take_append_drop a.length r]
        rw [nu_append]; congr 3; simp [hl]
      have : nu (r.drop a.length) = 0 := by
        rcases Nat.eq_zero_or_pos (nu (r.drop a.length)) with h0 | h0
        · exact h0
        · have : 2 ^ a.length * 1 ≤ 2 ^ a.length * nu (r.drop a.length) := Nat.mul_le_mul_left _ h0
          omega
      rw [this] at e
      omega
    have hw : nu (b ++ [false]) = nu b := by rw [nu_append]; simp [nu, bit]
    have hr1l : (x :: r.take a.length).length = (b ++ [false]).length := by simp [hl, h]
    have hr1 : nu (x :: r.take a.length) = bit x + 2 * nu r := by simp only [nu, ht]
    have hg := geB_iff hr1l
    rw [hw, hr1] at hg
    have hb1 := bit_le x
    by_cases hge : nu b ≤ bit x + 2 * nu r
    · rw [decide_eq_true hge] at hg
      have hm := minus_ge hr1l (by rw [hw, hr1]; exact hge)
      rw [hw, hr1] at hm
      rw [hg]
      simp only [pickB, if_true, nu, hm, h1]
      refine ⟨?_, by omega⟩
      rw [show bit true = 1 from rfl, Nat.add_mul, Nat.mul_assoc]
      omega
    · rw [decide_eq_false hge] at hg
      rw [hg]
      simp only [pickB, Bool.false_eq_true, if_false, hr1, nu, h1]
      refine ⟨?_, by omega⟩
      rw [show bit false = 0 from rfl, Nat.add_mul, Nat.mul_assoc]
      omega
def quoB (a b : List Bool) : List Bool := (divTo a b a.length).1
def remB (a b : List Bool) : List Bool := (divTo a b a.length).2.take a.length
theorem div_nu {a b : List Bool} (h : a.length = b.length) (hb : 0 < nu b) : nu (quoB a b) = nu a / nu b ∧ nu (remB a b) = nu a % nu b ∧ (quoB a b).length = a.length ∧ (remB a b).length = a.length := by
  obtain ⟨h1, h2⟩ := divTo_nu h hb (k := a.length) (Nat.le_refl _)
  obtain ⟨h3, h4⟩ := divTo_length h (k := a.length) (Nat.le_refl _)
  simp only [Nat.sub_self, List.drop_zero] at h1
  have hbl := nu_lt b
  rw [← h] at hbl
  have ht : nu (remB a b) = nu (divTo a b a.length).2 := by
    unfold remB
    have e : nu (divTo a b a.length).2 = nu ((divTo a b a.length).2.take a.length) + 2 ^ a.length * nu ((divTo a b a.length).2.drop a.length) := by
      conv => lhs; rw [← List.take_append_drop a.length (divTo a b a.length).2]
      rw [nu_append]; congr 3; simp [h4]
    have : nu ((divTo a b a.length).2.drop a.length) = 0 := by
      rcases Nat.eq_zero_or_pos (nu ((divTo a b a.length).2.drop a.length)) with h0 | h0
      · exact h0
      · have : 2 ^ a.length * 1 ≤ 2 ^ a.length * nu ((divTo a b a.length).2.drop a.length) := Nat.mul_le_mul_left _ h0
        omega
    rw [this] at e
    omega
  refine ⟨?_, ?_, h3, by unfold remB; rw [List.length_take, h4]; omega⟩
  · unfold quoB
    rw [h1, Nat.mul_comm, Nat.mul_add_div hb, Nat.div_eq_of_lt h2]; omega
  · rw [ht]
    conv => rhs; rw [h1]
    rw [Nat.mul_comm, Nat.mul_add_mod, Nat.mod_eq_of_lt h2]
theorem quoB_length {a b : List Bool} (h : a.length = b.length) : (quoB a b).length = a.length := (divTo_length h (Nat.le_refl _)).1
theorem remB_length {a b : List Bool} (h : a.length = b.length) : (remB a b).length = a.length := by
  have := (divTo_length (b := b) h (Nat.le_refl _)).2; unfold remB; rw [List.length_take, this]; omega
/-- the highest bit -/
def topB (a : List Bool) : Bool := a.getD (a.length - 1) false
def absB (a : List Bool) : List Bool := pickB (topB a) (negB a) a
def sQuo (a b : List Bool) : List Bool := pickB (topB a != topB b) (negB (quoB (absB a) (absB b))) (quoB (absB a) (absB b))
def sRem (a b : List Bool) : List Bool := pickB (topB a) (negB (remB (absB a) (absB b))) (remB (absB a) (absB b))
theorem negB_length (a : List Bool) : (negB a).length = a.length := by unfold negB; rw [sums_length _ (by simp)]; simp
theorem absB_length (a : List Bool) : (absB a).length = a.length := by unfold absB; rw [pickB_length (negB_length a)]; exact negB_length a
def sg (c : Bool) (x : Int) : Int := if c then -x else x
theorem rep_abs (a : List Bool) : Rep a.length a (sg (topB a) (nu (absB a))) := by
  unfold absB pickB sg
  cases topB a with
  | false => exact Rep.self a
  | true =>
    simp only [if_true]
    have h := Rep.self (negB a)
    rw [negB_length] at h
    have h2 := rep_neg (Rep.self a)
    refine (Rep.self a).cong ?_
    have h3 := Int.dvd_sub h2.2 h.2
    obtain ⟨c, hc⟩ := h2.2
    exact ⟨c, by omega⟩
theorem rep_sg {n : Nat} {a : List Bool} {x : Int} (h : Rep n a x) (c : Bool) : Rep n (pickB c (negB a) a) (sg c x) := by
  cases c with
  | true => exact rep_neg h
  | false => exact h
theorem rep_sQuo {a b : List Bool} (h : a.length = b.length) (hb : 0 < nu (absB b)) : Rep a.length (sQuo a b) (sg (topB a != topB b) ((nu (absB a) / nu (absB b) : Nat) : Int)) := by
  have hl : (absB a).length = (absB b).length := by rw [absB_length, absB_length, h]
  obtain ⟨h1, _, h3, _⟩ := div_nu hl hb
  have hr := Rep.self (quoB (absB a) (absB b))
  rw [h3, absB_length, h1] at hr
  exact rep_sg hr _
theorem rep_sRem {a b : List Bool} (h : a.length = b.length) (hb : 0 < nu (absB b)) : Rep a.length (sRem a b) (sg (topB a) ((nu (absB a) % nu (absB b) : Nat) : Int)) := by
  have hl : (absB a).length = (absB b).length := by rw [absB_length, absB_length, h]
  obtain ⟨_, h1, _, h3⟩ := div_nu hl hb
  have hr := Rep.self (remB (absB a) (absB b))
  rw [h3, absB_length, h1] at hr
  exact rep_sg hr _
theorem sg_sg (c d : Bool) (x y : Int) : sg (c != d) x * sg d y = sg c (x * y) := by
  unfold sg; cases c <;> cases d <;> simp [Int.neg_mul, Int.mul_neg]
theorem sg_add (c : Bool) (x y : Int) : sg c x + sg c y = sg c (x + y) := by
  unfold sg; cases c <;> simp <;> omega
/-- EUCLID -/
theorem euclid {a b : List Bool} (h : a.length = b.length) (hb : 0 < nu (absB b)) : sums (timesB (sQuo a b) b) (sRem a b) false = a := by
  have hb' := rep_abs b
  rw [← h] at hb'
  have h1 := rep_sums (rep_times (rep_sQuo h hb) hb') (rep_sRem h hb) false
  rw [sg_sg, show ((bit false : Nat) : Int) = 0 from rfl, Int.add_zero, sg_add] at h1
  have e : ((nu (absB a) / nu (absB b) : Nat) : Int) * (nu (absB b) : Int) + ((nu (absB a) % nu (absB b) : Nat) : Int) = (nu (absB a) : Int) := by
    have := Nat.div_add_mod (nu (absB a)) (nu (absB b))
    rw [Nat.mul_comm] at this
    rw [← Int.natCast_mul, ← Int.natCast_add, this]
  rw [e] at h1
  exact h1.inj (rep_abs a)
theorem nu_zero {a : List Bool} : nu a = 0 ↔ a = List.replicate a.length false := by
  constructor
  · intro h; exact nu_inj (by simp) (by rw [nu_zeros, h])
  · intro h; rw [h, nu_zeros]
theorem neg_zero_iff {a : List Bool} (h : nu (negB a) = 0) : nu a = 0 := by
  have h1 := (rep_neg (Rep.self a)).2
  rw [h] at h1
  have h2 := nu_lt a
  obtain ⟨c, hc⟩ := h1
  have hp : (2 : Int) ^ a.length = ((2 ^ a.length : Nat) : Int) := by simp
  rw [hp] at hc
  rcases Int.lt_trichotomy c 0 with h | h | h
  · have : ((2 ^ a.length : Nat) : Int) * c ≤ ((2 ^ a.length : Nat) : Int) * (-1) := Int.mul_le_mul_of_nonneg_left (by omega) (by omega)
    omega
  · rw [h] at hc; omega
  · have : ((2 ^ a.length : Nat) : Int) * 1 ≤ ((2 ^ a.length : Nat) : Int) * c := Int.mul_le_mul_of_nonneg_left (by omega) (by omega)
    omega
theorem abs_pos {a : List Bool} (h : 0 < nu a) : 0 < nu (absB a) := by
  rcases Nat.eq_zero_or_pos (nu (absB a)) with h0 | h0
  · unfold absB pickB at h0
    split at h0
    · have := neg_zero_iff h0; omega
    · omega
  · exact h0
end Wp
end Go.Proofs.YtmbjhpgemphmmaaDoor
