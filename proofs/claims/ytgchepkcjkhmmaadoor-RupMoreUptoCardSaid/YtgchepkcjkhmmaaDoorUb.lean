/-
  PLAIN: A STABLE SORT's PARTS: exchange, insertion, rotation, merging by symmetric comparisons: what is sorted behind each. No program in sight.
-/
import Derived.WalkKit
namespace Go.Proofs.YtgchepkcjkhmmaaDoor.srt
def Srt (f : Int → Int) (d : List Int) (a b : Nat) : Prop := ∀ (i j : Nat) x y, a ≤ i → i ≤ j → j < b → d[i]? = some x → d[j]? = some y → f x ≤ f y
structure Pm (a b : Nat) (d d' : List Int) : Prop where
  len : d'.length = d.length
  out : ∀ i : Nat, i < a ∨ b ≤ i → d'[i]? = d[i]?
  perm : d'.Perm d
  all : ∀ P : Int → Prop, (∀ (i : Nat) x, a ≤ i → i < b → d[i]? = some x → P x) → ∀ (i : Nat) x, a ≤ i → i < b → d'[i]? = some x → P x
section
variable {f : Int → Int} {d d' d'' : List Int} {a b k : Nat}
theorem Pm.refl (a b : Nat) (d : List Int) : Pm a b d d := ⟨rfl, fun _ _ => rfl, List.Perm.refl _, fun _ h => h⟩
theorem Pm.trans (h : Pm a b d d') (g : Pm a b d' d'') : Pm a b d d'' :=
  ⟨g.len.trans h.len, fun i hi => (g.out i hi).trans (h.out i hi), g.perm.trans h.perm, fun P hP => g.all P (h.all P hP)⟩
theorem Pm.mono {a' b' : Nat} (h : Pm a b d d') (ha : a' ≤ a) (hb : b ≤ b') : Pm a' b' d d' :=
  ⟨h.len, fun i hi => h.out i (by omega), h.perm, fun P hP i x h1 h2 hx => by
    by_cases hi : a ≤ i ∧ i < b
    · exact h.all P (fun j y j1 j2 hy => hP j y (by omega) (by omega) hy) i x hi.1 hi.2 hx
    · rw [h.out i (by omega)] at hx
      exact hP i x h1 h2 hx⟩
theorem Pm.mem (h : Pm a b d d') {D : Int → Prop} (hD : ∀ x ∈ d, D x) : ∀ x ∈ d', D x := fun x hx => hD x (h.perm.mem_iff.1 hx)
theorem swap_at {i j : Nat} {x y : Int} (hi : d[i]? = some x) (hj : d[j]? = some y) (k : Nat) : ((d.set i y).set j x)[k]? = if k = j then some x else if k = i then some y else d[k]? := by
  have h1 : i < d.length := (List.getElem?_eq_some_iff.1 hi).1
  have h2 : j < d.length := (List.getElem?_eq_some_iff.1 hj).1
  rw [List.getElem?_set, List.getElem?_set]
  by_cases e : k = j
  · subst e; simp [h2]
  · rw [if_neg (fun e' => e e'.symm), if_neg e]
    by_cases e' : k = i
    · subst e'; simp [h1]
    · rw [if_neg (fun e2 => e' e2.symm), if_neg e']
theorem Pm.swap {i j : Nat} {x y : Int} (hi : d[i]? = some x) (hj : d[j]? = some y) (h1 : a ≤ i) (h2 : i < b) (h3 : a ≤ j) (h4 : j < b) : Pm a b d ((d.set i y).set j x) := by
  refine ⟨by simp, fun k hk => ?_, ?_, fun P hP k z hk1 hk2 hz => ?_⟩
  · rw [swap_at hi hj, if_neg (by omega), if_neg (by omega)]
  · obtain ⟨l1, e1⟩ := List.getElem?_eq_some_iff.1 hi
    obtain ⟨l2, e2⟩ := List.getElem?_eq_some_iff.1 hj
    subst e1; subst e2
    exact List.set_set_perm l1 l2
  · rw [swap_at hi hj] at hz
    split at hz
    · injection hz with hz; subst hz; exact hP i _ h1 h2 hi
    · split at hz
      · injection hz with hz; subst hz; exact hP j _ h3 h4 hj
      · exact hP k z hk1 hk2 hz
theorem Srt.out {a' b' : Nat} (h : Srt f d a b) (hd : ∀ i : Nat, a' ≤ i → i < b' → d'[i]? = d[i]?) (h1 : a ≤ a') (h2 : b' ≤ b) : Srt f d' a' b' := fun i j x y hi hij hj hx hy => by
  rw [hd i hi (by omega)] at hx
  rw [hd j (by omega) hj] at hy
  exact h i j x y (by omega) hij (by omega) hx hy
theorem Srt.less {a' b' : Nat} (h : Srt f d a b) (h1 : a ≤ a') (h2 : b' ≤ b) : Srt f d a' b' := h.out (fun _ _ _ => rfl) h1 h2
theorem Srt.one (h : b ≤ a + 1) : Srt f d a b := fun i j x y hi hij hj hx hy => by
  obtain rfl : i = j := by omega
  rw [hx] at hy
  injection hy with hy
  subst hy
  exact Int.le_refl _
/-- sorted, but for what stands at k -/
def ExS (f : Int → Int) (d : List Int) (a b k : Nat) : Prop := ∀ (i j : Nat) x y, a ≤ i → i ≤ j → j < b → i ≠ k → j ≠ k → d[i]? = some x → d[j]? = some y → f x ≤ f y
theorem Srt.exs (h : Srt f d a b) : ExS f d a b k := fun i j x y h1 h2 h3 _ _ => h i j x y h1 h2 h3
theorem ExS.top (h : Srt f d a b) : ExS f d a (b + 1) b := fun i j x y h1 h2 h3 _ hj => h i j x y h1 h2 (by omega)
theorem ExS.bottom (h : Srt f d (a + 1) b) : ExS f d a b a := fun i j x y h1 h2 h3 hi _ => h i j x y (by omega) h2 h3
theorem ExS.srt {z : Int} (h : ExS f d a b k) (hk : d[k]? = some z) (hl : ∀ (i : Nat) x, a ≤ i → i < k → d[i]? = some x → f x ≤ f z) (hr : ∀ (j : Nat) y, k < j → j < b → d[j]? = some y → f z ≤ f y) : Srt f d a b := fun i j x y h1 h2 h3 hx hy => by
  by_cases e1 : i = k
  · subst e1
    rw [hk] at hx
    injection hx with hx; subst hx
    by_cases e2 : j = i
    · subst e2; rw [hk] at hy; injection hy with hy; subst hy; exact Int.le_refl _
    · exact hr j y (by omega) h3 hy
  · by_cases e2 : j = k
    · subst e2
      rw [hk] at hy
      injection hy with hy; subst hy
      exact hl i x h1 (by omega) hx
    · exact h i j x y h1 h2 h3 e1 e2 hx hy
/-- what stands at k changes places with what stands behind it -/
theorem ExS.up {x y : Int} (h : ExS f d a b k) (hk : d[k]? = some x) (hk1 : d[k + 1]? = some y) (hb : k + 1 < b) : ExS f ((d.set k y).set (k + 1) x) a b (k + 1) := fun i j u v h1 h2 h3 e1 e2 hu hv => by
  rw [swap_at hk hk1, if_neg e1] at hu
  rw [swap_at hk hk1, if_neg e2] at hv
  by_cases ei : i = k
  · subst ei
    rw [if_pos rfl] at hu
    injection hu with hu; subst hu
    by_cases ej : j = i
    · rw [if_pos ej] at hv; injection hv with hv; subst hv; exact Int.le_refl _
    · rw [if_neg ej] at hv
      exact h (i + 1) j y v (by omega) (by omega) h3 (by omega) ej hk1 hv
  · rw [if_neg ei] at hu
    by_cases ej : j = k
    · rw [if_pos ej] at hv; injection hv with hv; subst hv
      exact h i (k + 1) u y h1 (by omega) hb ei (by omega) hu hk1
    · rw [if_neg ej] at hv
      exact h i j u v h1 h2 h3 ei ej hu hv
/-- .. with what stands ahead of it -/
theorem ExS.down {x y : Int} (h : ExS f d a b (k + 1)) (hk1 : d[k + 1]? = some x) (hk : d[k]? = some y) (ha : a ≤ k) : ExS f ((d.set (k + 1) y).set k x) a b k := fun i j u v h1 h2 h3 e1 e2 hu hv => by
  rw [swap_at hk1 hk, if_neg e1] at hu
  rw [swap_at hk1 hk, if_neg e2] at hv
  by_cases ei : i = k + 1
  · rw [if_pos ei] at hu
    injection hu with hu; subst hu
    by_cases ej : j = k + 1
    · rw [if_pos ej] at hv; injection hv with hv; subst hv; exact Int.le_refl _
    · rw [if_neg ej] at hv
      exact h k j y v ha (by omega) h3 (by omega) ej hk hv
  · rw [if_neg ei] at hu
    by_cases ej : j = k + 1
    · rw [if_pos ej] at hv; injection hv with hv; subst hv
      exact h i k u y h1 (by omega) (by omega) ei (by omega) hu hk
    · rw [if_neg ej] at hv
      exact h i j u v h1 h2 h3 ei ej hu hv
end
/-! ### exchange of two ranges; rotation -/
/-- the ranges have changed places -/
def Swd (d d' : List Int) (a b n : Nat) : Prop := d'.length = d.length ∧ ∀ k : Nat, d'[k]? = if a ≤ k ∧ k < a + n then d[k - a + b]? else if b ≤ k ∧ k < b + n then d[k - b + a]? else d[k]?
theorem Swd.refl (d : List Int) (a b : Nat) : Swd d d a b 0 := ⟨rfl, fun k => by rw [if_neg (by omega), if_neg (by omega)]⟩
theorem Swd.step {d d' : List Int} {a b n : Nat} {x y : Int} (h : Swd d d' a b n) (hab : a + n + 1 ≤ b) (hx : d[a + n]? = some x) (hy : d[b + n]? = some y) : Swd d ((d'.set (a + n) y).set (b + n) x) a b (n + 1) := by
  have e1 : d'[a + n]? = some x := by rw [h.2, if_neg (by omega), if_neg (by omega), hx]
  have e2 : d'[b + n]? = some y := by rw [h.2, if_neg (by omega), if_neg (by omega), hy]
  refine ⟨by simpa using h.1, fun k => ?_⟩
  rw [swap_at e1 e2, h.2]
  by_cases k1 : k = b + n
  · rw [if_pos k1, if_neg (by omega), if_pos (by omega), k1, show b + n - b + a = a + n by omega, hx]
  · rw [if_neg k1]
    by_cases k2 : k = a + n
    · rw [if_pos k2, if_pos (by omega), k2, show a + n - a + b = b + n by omega, hy]
    · rw [if_neg k2]
      by_cases k3 : a ≤ k ∧ k < a + n
      · rw [if_pos k3, if_pos (by omega)]
      · rw [if_neg k3, if_neg (show ¬ (a ≤ k ∧ k < a + (n + 1)) by omega)]
        by_cases k4 : b ≤ k ∧ k < b + n
        · rw [if_pos k4, if_pos (show b ≤ k ∧ k < b + (n + 1) by omega)]
        · rw [if_neg k4, if_neg (show ¬ (b ≤ k ∧ k < b + (n + 1)) by omega)]
/-- [a, m) and [m, b) have changed places -/
def Rot (d d' : List Int) (a m b : Nat) : Prop := ∀ k : Nat, d'[k]? = if k < a ∨ b ≤ k then d[k]? else if k < a + (b - m) then d[k - a + m]? else d[k - (a + (b - m)) + a]?
theorem rot_id_left (d : List Int) (a b : Nat) : Rot d d a a b := fun k => by
  by_cases h : k < a ∨ b ≤ k
  · rw [if_pos h]
  · rw [if_neg h, if_pos (by omega), show k - a + a = k by omega]
theorem rot_id_right (d : List Int) (a b : Nat) : Rot d d a b b := fun k => by
  by_cases h : k < a ∨ b ≤ k
  · rw [if_pos h]
  · rw [if_neg h, if_neg (by omega), show k - (a + (b - b)) + a = k by omega]
theorem Rot.more_left {c d d' : List Int} {m i j : Nat} (h : Swd c d (m - i) m j) (hr : Rot d d' (m - (i - j)) m (m + j)) (hij : j < i) (him : i ≤ m) : Rot c d' (m - i) m (m + j) := fun k => by
  rw [hr k]
  by_cases h1 : k < m - i ∨ m + j ≤ k
  · rw [if_pos h1, if_pos (by omega), h.2, if_neg (by omega), if_neg (by omega)]
  · rw [if_neg h1]
    by_cases h2 : k < m - i + (m + j - m)
    · rw [if_pos h2, if_pos (by omega), h.2, if_pos (by omega)]
    · rw [if_neg h2, if_neg (by omega)]
      by_cases h3 : k < m - (i - j) + (m + j - m)
      · rw [if_pos h3, h.2, if_neg (by omega), if_pos (by omega)]
        congr 1; omega
      · rw [if_neg h3, h.2, if_neg (by omega), if_neg (by omega)]
        congr 1; omega
theorem Rot.more_right {c d d' : List Int} {m i j : Nat} (h : Swd c d (m - i) (m + j - i) i) (hr : Rot d d' (m - i) m (m + (j - i))) (hij : i < j) (him : i ≤ m) : Rot c d' (m - i) m (m + j) := fun k => by
  rw [hr k]
  by_cases h1 : k < m - i ∨ m + j ≤ k
  · rw [if_pos h1, if_pos (by omega), h.2, if_neg (by omega), if_neg (by omega)]
  · rw [if_neg h1]
    by_cases h2 : k < m - i + (m + j - m)
    · rw [if_pos h2]
      by_cases h3 : m + (j - i) ≤ k
      · rw [if_pos (.inr h3), h.2, if_neg (by omega), if_pos (by omega)]
        omega
      · rw [if_neg (by omega)]
        by_cases h4 : k < m - i + (m + (j - i) - m)
        · rw [if_pos h4, h.2, if_neg (by omega), if_neg (by omega)]
        · rw [if_neg h4, h.2, if_pos (by omega)]
          congr 1; omega
    · rw [if_neg h2]
      by_cases h3 : m + (j - i) ≤ k
      · rw [if_pos (.inr h3), h.2, if_neg (by omega), if_pos (by omega)]
        congr 1; omega
      · omega
theorem Rot.last {c d : List Int} {m i : Nat} (h : Swd c d (m - i) m i) (him : i ≤ m) : Rot c d (m - i) m (m + i) := fun k => by
  rw [h.2]
  by_cases h1 : k < m - i ∨ m + i ≤ k
  · rw [if_pos h1, if_neg (by omega), if_neg (by omega)]
  · rw [if_neg h1]
    by_cases h2 : k < m - i + (m + i - m)
    · rw [if_pos h2, if_pos (by omega)]
    · rw [if_neg h2, if_neg (by omega), if_pos (by omega)]
      congr 1; omega
/-! ### merging by symmetric comparisons -/
section
variable {f : Int → Int} {d d' d'' : List Int} {a b m s mid : Nat}
/-- what is known where the search has ended at s (e: its fellow) -/
structure Cut (f : Int → Int) (d : List Int) (a m b s e : Nat) : Prop where
  left : ∀ (i j : Nat) x y, a ≤ i → i < s → e ≤ j → j < b → d[i]? = some x → d[j]? = some y → f x ≤ f y
  right : ∀ (i j : Nat) x y, s ≤ i → i < m → m ≤ j → j < e → d[i]? = some x → d[j]? = some y → f y ≤ f x
theorem sym_cross {e : Nat} (h1 : Srt f d a m) (h2 : Srt f d m b) (hc : Cut f d a m b s e) (has : a ≤ s) (hsm : s ≤ m) (hme : m ≤ e) (heb : e ≤ b) (hmid : s + (e - m) = mid) (hr : Rot d d' s m e) :
    Srt f d' a s ∧ Srt f d' s mid ∧ Srt f d' mid e ∧ Srt f d' e b ∧ ∀ (i j : Nat) x y, a ≤ i → i < mid → mid ≤ j → j < b → d'[i]? = some x → d'[j]? = some y → f x ≤ f y := by
  have hat := hr
  refine ⟨h1.out (fun i hi hi2 => by rw [hat, if_pos (by omega)]) (Nat.le_refl _) hsm, fun i j x y hi hij hj hx hy => ?_, fun i j x y hi hij hj hx hy => ?_, h2.out (fun i hi hi2 => by rw [hat, if_pos (by omega)]) hme (Nat.le_refl _), fun i j x y hi hi2 hj hj2 hx hy => ?_⟩
  · rw [hat, if_neg (by omega), if_pos (by omega)] at hx hy
    exact h2 _ _ x y (by omega) (by omega) (by omega) hx hy
  · rw [hat, if_neg (by omega), if_neg (by omega)] at hx hy
    exact h1 _ _ x y (by omega) (by omega) (by omega) hx hy
  · rw [hat] at hx hy
    by_cases ei : i < s
    · rw [if_pos (by omega)] at hx
      by_cases ej : e ≤ j
      · rw [if_pos (by omega)] at hy
        exact hc.left i j x y hi ei ej hj2 hx hy
      · rw [if_neg (by omega), if_neg (by omega)] at hy
        exact h1 _ _ x y hi (by omega) (by omega) hx hy
    · rw [if_neg (by omega), if_pos (by omega)] at hx
      by_cases ej : e ≤ j
      · rw [if_pos (by omega)] at hy
        exact h2 _ _ x y (by omega) (by omega) hj2 hx hy
      · rw [if_neg (by omega), if_neg (by omega)] at hy
        exact hc.right _ _ y x (by omega) (by omega) (by omega) (by omega) hy hx
theorem sym_join (h1 : Srt f d'' a mid) (h2 : Srt f d'' mid b) (hc : ∀ (i j : Nat) x y, a ≤ i → i < mid → mid ≤ j → j < b → d''[i]? = some x → d''[j]? = some y → f x ≤ f y) : Srt f d'' a b := fun i j x y hi hij hj hx hy => by
  by_cases ei : j < mid
  · exact h1 i j x y hi hij ei hx hy
  · by_cases ej : mid ≤ i
    · exact h2 i j x y ej hij hj hx hy
    · exact hc i j x y hi (by omega) (by omega) hj hx hy
/-- what stands left and right stays there -/
theorem cross_keep {d1 d2 : List Int} (hc : ∀ (i j : Nat) x y, a ≤ i → i < mid → mid ≤ j → j < b → d[i]? = some x → d[j]? = some y → f x ≤ f y) (h1 : Pm a mid d d1) (h2 : Pm mid b d1 d2) :
    ∀ (i j : Nat) x y, a ≤ i → i < mid → mid ≤ j → j < b → d2[i]? = some x → d2[j]? = some y → f x ≤ f y := by
  intro i j x y hi hi2 hj hj2 hx hy
  rw [h2.out i (by omega)] at hx
  refine h1.all (fun x => f x ≤ f y) (fun i' x' a1 a2 hx' => ?_) i x hi hi2 hx
  refine h2.all (fun y => f x' ≤ f y) (fun j' y' b1 b2 hy' => ?_) j y hj hj2 hy
  rw [h1.out j' (by omega)] at hy'
  exact hc i' j' x' y' a1 a2 b1 b2 hx' hy'
/-- the search's cut, case m > mid -/
theorem cut_of_search {r0 s0 : Nat} (h1 : Srt f d a m) (h2 : Srt f d m b) (hmb : m ≤ b) (hb : b ≤ d.length) (hs0 : s0 ≤ s) (hsr : s ≤ r0) (has : a ≤ s0) (hrm : r0 ≤ m) (hn : mid + m ≤ b + s0) (hn2 : m + r0 ≤ mid + m)
    (hlo : ∀ c, s0 ≤ c → c < s → ∀ x y, d[c]? = some x → d[mid + m - 1 - c]? = some y → f x ≤ f y) (hhi : ∀ c, s ≤ c → c < r0 → ∀ x y, d[c]? = some x → d[mid + m - 1 - c]? = some y → f y ≤ f x)
    (hend : s = s0 → s0 = a ∨ mid + m = b + s0) (hend2 : s = r0 → r0 = m ∨ mid = r0) : Cut f d a m b s (mid + m - s) := by
  refine ⟨fun i j x y hi hi2 hj hj2 hx hy => ?_, fun i j x y hi hi2 hj hj2 hx hy => ?_⟩
  · by_cases e : s = s0
    · rcases hend e with h | h
      · omega
      · omega
    · obtain ⟨z, hz⟩ : ∃ z, d[s - 1]? = some z := ⟨_, List.getElem?_eq_getElem (by omega)⟩
      obtain ⟨t, ht⟩ : ∃ t, d[mid + m - s]? = some t := ⟨_, List.getElem?_eq_getElem (by omega)⟩
      have k1 := h1 i (s - 1) x z hi (by omega) (by omega) hx hz
      have k2 := hlo (s - 1) (by omega) (by omega) z t hz (by rw [show mid + m - 1 - (s - 1) = mid + m - s by omega]; exact ht)
      have k3 := h2 (mid + m - s) j t y (by omega) hj hj2 ht hy
      omega
  · by_cases e : s = r0
    · rcases hend2 e with h | h
      · omega
      · omega
    · obtain ⟨z, hz⟩ : ∃ z, d[s]? = some z := ⟨_, List.getElem?_eq_getElem (by omega)⟩
      obtain ⟨t, ht⟩ : ∃ t, d[mid + m - 1 - s]? = some t := ⟨_, List.getElem?_eq_getElem (by omega)⟩
      have k1 := h1 s i z x (by omega) hi hi2 hz hx
      have k2 := hhi s (Nat.le_refl _) (by omega) z t hz ht
      have k3 := h2 j (mid + m - 1 - s) y t hj (by omega) (by omega) hy ht
      omega
/-- the search goes on: what is known below c, and from c on -/
theorem search_lo {s0 c p : Nat} (h1 : Srt f d a m) (h2 : Srt f d m b) (has : a ≤ s0) (hcm : c < m) (hpb : p - s0 < b) (hpm : m ≤ p - c) (hcp : c ≤ p) {x y : Int} (hx : d[c]? = some x) (hy : d[p - c]? = some y) (hle : f x ≤ f y) :
    ∀ i, s0 ≤ i → i < c + 1 → ∀ u v, d[i]? = some u → d[p - i]? = some v → f u ≤ f v := fun i hi hi2 u v hu hv => by
  have k1 := h1 i c u x (by omega) (by omega) hcm hu hx
  have k2 := h2 (p - c) (p - i) y v hpm (by omega) (by omega) hy hv
  omega
theorem search_hi {r0 c p : Nat} (h1 : Srt f d a m) (h2 : Srt f d m b) (hac : a ≤ c) (hrm : r0 ≤ m) (hpb : p - c < b) (hpm : m + r0 ≤ p + 1) {x y : Int} (hx : d[c]? = some x) (hy : d[p - c]? = some y) (hle : f y ≤ f x) :
    ∀ i, c ≤ i → i < r0 → ∀ u v, d[i]? = some u → d[p - i]? = some v → f v ≤ f u := fun i hi hi2 u v hu hv => by
  have k1 := h1 c i x u hac hi (by omega) hx hu
  have k2 := h2 (p - i) (p - c) v y (by omega) (by omega) hpb hv hy
  omega
end
end Go.Proofs.YtgchepkcjkhmmaaDoor.srt
