/-
  PLAIN: A STABLE SORT's PARTS: exchange, insertion, rotation, merging by symmetric comparisons: what is sorted behind each. No program in sight.
  WALKS of slices.SortStableFunc's family at int: swapRange, rotate, insertionSort, symMerge, stable.
  WALKS of slices.SortStableFunc's family at int: symMerge.
  WALKS of slices.SortStableFunc's family at int: symMerge (whole), stable, SortStableFunc.
  WALKS of slices.SortStableFunc's family at int: symMerge (any), stable, SortStableFunc.
  slices.Sort at api.Clause: the kit's walk of pdqsortOrdered[int] handed through.
-/
import Derived.WalkKit
import Derived.Test.YtgchepkcjkhmmaaDoorProg
import Derived.Test.YtgchepkcjkhmmaaDoorHs
import Derived.Sort.WalkC
import Derived.BigQuiet
import Derived.BigRegion
import Derived.Deep.QuietTactic
import Derived.Shelf.Abstract
import Derived.RowKitTokens
import Derived.Deep.DeepCutAuto
import Derived.Test.YtgchepkcjkhmmaaDoorSh
import Derived.Shelf.Sort.Plain
import Derived.Lib.Hide
namespace Go.Proofs.YtgchepkcjkhmmaaDoor.srt
def Srt (f : Int → Int) (d : List Int) (a b : Nat) : Prop := ∀ (i j : Nat) x y, a ≤ i → i ≤ j → j < b → d[i]? = some x → d[j]? = some y → f x ≤ f y
structure Pm (a b : Nat) (d d' : List Int) : Prop where
  len : d'.length = d.length
  out : ∀ i : Nat, i < a ∨ b ≤ i → d'[i]? = d[i]?
  perm : d'.Perm d
  all : ∀ P : Int → Prop, (∀ (i : Nat) x, a ≤ i → i < b → d[i]? = some x → P x) → ∀ (i : Nat) x, a ≤ i → i < b → d'[i]? = some x → P x
section
variable {f : Int → Int} {d d' d'' : List Int} {a b k : Nat}
theorem Pm.refl (a b : Nat) (d : List Int) : Pm a b d d := ⟨rfl, fun _ _ => rfl, List.Perm.refl _, fun _ h => h⟩
theorem Pm.trans (h : Pm a b d d') (g : Pm a b d' d'') : Pm a b d d'' :=
  ⟨g.len.trans h.len, fun i hi => (g.out i hi).trans (h.out i hi), g.perm.trans h.perm, fun P hP => g.all P (h.all P hP)⟩
theorem Pm.mono {a' b' : Nat} (h : Pm a b d d') (ha : a' ≤ a) (hb : b ≤ b') : Pm a' b' d d' :=
  ⟨h.len, fun i hi => h.out i (by omega), h.perm, fun P hP i x h1 h2 hx => by
    by_cases hi : a ≤ i ∧ i < b
    · exact h.all P (fun j y j1 j2 hy => hP j y (by omega) (by omega) hy) i x hi.1 hi.2 hx
    · rw [h.out i (by omega)] at hx
      exact hP i x h1 h2 hx⟩
theorem Pm.mem (h : Pm a b d d') {D : Int → Prop} (hD : ∀ x ∈ d, D x) : ∀ x ∈ d', D x := fun x hx => hD x (h.perm.mem_iff.1 hx)
theorem swap_at {i j : Nat} {x y : Int} (hi : d[i]? = some x) (hj : d[j]? = some y) (k : Nat) : ((d.set i y).set j x)[k]? = if k = j then some x else if k = i then some y else d[k]? := by
  have h1 : i < d.length := (List.getElem?_eq_some_iff.1 hi).1
  have h2 : j < d.length := (List.getElem?_eq_some_iff.1 hj).1
  rw [List.getElem?_set, List.getElem?_set]
  by_cases e : k = j
  · subst e; simp [h2]
  · rw [if_neg (fun e' => e e'.symm), if_neg e]
    by_cases e' : k = i
    · subst e'; simp [h1]
    · rw [if_neg (fun e2 => e' e2.symm), if_neg e']
theorem Pm.swap {i j : Nat} {x y : Int} (hi : d[i]? = some x) (hj : d[j]? = some y) (h1 : a ≤ i) (h2 : i < b) (h3 : a ≤ j) (h4 : j < b) : Pm a b d ((d.set i y).set j x) := by
  refine ⟨by simp, fun k hk => ?_, ?_, fun P hP k z hk1 hk2 hz => ?_⟩
  · rw [swap_at hi hj, if_neg (by omega), if_neg (by omega)]
  · obtain ⟨l1, e1⟩ := List.getElem?_eq_some_iff.1 hi
    obtain ⟨l2, e2⟩ := List.getElem?_eq_some_iff.1 hj
    subst e1; subst e2
    exact List.set_set_perm l1 l2
  · rw [swap_at hi hj] at hz
    split at hz
    · injection hz with hz; subst hz; exact hP i _ h1 h2 hi
    · split at hz
      · injection hz with hz; subst hz; exact hP j _ h3 h4 hj
      · exact hP k z hk1 hk2 hz
theorem Srt.out {a' b' : Nat} (h : Srt f d a b) (hd : ∀ i : Nat, a' ≤ i → i < b' → d'[i]? = d[i]?) (h1 : a ≤ a') (h2 : b' ≤ b) : Srt f d' a' b' := fun i j x y hi hij hj hx hy => by
  rw [hd i hi (by omega)] at hx
  rw [hd j (by omega) hj] at hy
  exact h i j x y (by omega) hij (by omega) hx hy
theorem Srt.less {a' b' : Nat} (h : Srt f d a b) (h1 : a ≤ a') (h2 : b' ≤ b) : Srt f d a' b' := h.out (fun _ _ _ => rfl) h1 h2
theorem Srt.one (h : b ≤ a + 1) : Srt f d a b := fun i j x y hi hij hj hx hy => by
  obtain rfl : i = j := by omega
  rw [hx] at hy
  injection hy with hy
  subst hy
  exact Int.le_refl _
/-- sorted, but for what stands at k -/
def ExS (f : Int → Int) (d : List Int) (a b k : Nat) : Prop := ∀ (i j : Nat) x y, a ≤ i → i ≤ j → j < b → i ≠ k → j ≠ k → d[i]? = some x → d[j]? = some y → f x ≤ f y
theorem Srt.exs (h : Srt f d a b) : ExS f d a b k := fun i j x y h1 h2 h3 _ _ => h i j x y h1 h2 h3
theorem ExS.top (h : Srt f d a b) : ExS f d a (b + 1) b := fun i j x y h1 h2 h3 _ hj => h i j x y h1 h2 (by omega)
theorem ExS.bottom (h : Srt f d (a + 1) b) : ExS f d a b a := fun i j x y h1 h2 h3 hi _ => h i j x y (by omega) h2 h3
theorem ExS.srt {z : Int} (h : ExS f d a b k) (hk : d[k]? = some z) (hl : ∀ (i : Nat) x, a ≤ i → i < k → d[i]? = some x → f x ≤ f z) (hr : ∀ (j : Nat) y, k < j → j < b → d[j]? = some y → f z ≤ f y) : Srt f d a b := fun i j x y h1 h2 h3 hx hy => by
  by_cases e1 : i = k
  · subst e1
    rw [hk] at hx
    injection hx with hx; subst hx
    by_cases e2 : j = i
    · subst e2; rw [hk] at hy; injection hy with hy; subst hy; exact Int.le_refl _
    · exact hr j y (by omega) h3 hy
  · by_cases e2 : j = k
    · subst e2
      rw [hk] at hy
      injection hy with hy; subst hy
      exact hl i x h1 (by omega) hx
    · exact h i j x y h1 h2 h3 e1 e2 hx hy
/-- what stands at k changes places with what stands behind it -/
theorem ExS.up {x y : Int} (h : ExS f d a b k) (hk : d[k]? = some x) (hk1 : d[k + 1]? = some y) (hb : k + 1 < b) : ExS f ((d.set k y).set (k + 1) x) a b (k + 1) := fun i j u v h1 h2 h3 e1 e2 hu hv => by
  rw [swap_at hk hk1, if_neg e1] at hu
  rw [swap_at hk hk1, if_neg e2] at hv
  by_cases ei : i = k
  · subst ei
    rw [if_pos rfl] at hu
    injection hu with hu; subst hu
    by_cases ej : j = i
    · rw [if_pos ej] at hv; injection hv with hv; subst hv; exact Int.le_refl _
    · rw [if_neg ej] at hv
      exact h (i + 1) j y v (by omega) (by omega) h3 (by omega) ej hk1 hv
  · rw [if_neg ei] at hu
    by_cases ej : j = k
    · rw [if_pos ej] at hv; injection hv with hv; subst hv
      exact h i (k + 1) u y h1 (by omega) hb ei (by omega) hu hk1
    · rw [if_neg ej] at hv
      exact h i j u v h1 h2 h3 ei ej hu hv
/-- .. with what stands ahead of it -/
theorem ExS.down {x y : Int} (h : ExS f d a b (k + 1)) (hk1 : d[k + 1]? = some x) (hk : d[k]? = some y) (ha : a ≤ k) : ExS f ((d.set (k + 1) y).set k x) a b k := fun i j u v h1 h2 h3 e1 e2 hu hv => by
  rw [swap_at hk1 hk, if_neg e1] at hu
  rw [swap_at hk1 hk, if_neg e2] at hv
  by_cases ei : i = k + 1
  · rw [if_pos ei] at hu
    injection hu with hu; subst hu
    by_cases ej : j = k + 1
    · rw [if_pos ej] at hv; injection hv with hv; subst hv; exact Int.le_refl _
    · rw [if_neg ej] at hv
      exact h k j y v ha (by omega) h3 (by omega) ej hk hv
  · rw [if_neg ei] at hu
    by_cases ej : j = k + 1
    · rw [if_pos ej] at hv; injection hv with hv; subst hv
      exact h i k u y h1 (by omega) (by omega) ei (by omega) hu hk
    · rw [if_neg ej] at hv
      exact h i j u v h1 h2 h3 ei ej hu hv
end
/-! ### exchange of two ranges; rotation -/
/-- the ranges have changed places -/
def Swd (d d' : List Int) (a b n : Nat) : Prop := d'.length = d.length ∧ ∀ k : Nat, d'[k]? = if a ≤ k ∧ k < a + n then d[k - a + b]? else if b ≤ k ∧ k < b + n then d[k - b + a]? else d[k]?
theorem Swd.refl (d : List Int) (a b : Nat) : Swd d d a b 0 := ⟨rfl, fun k => by rw [if_neg (by omega), if_neg (by omega)]⟩
theorem Swd.step {d d' : List Int} {a b n : Nat} {x y : Int} (h : Swd d d' a b n) (hab : a + n + 1 ≤ b) (hx : d[a + n]? = some x) (hy : d[b + n]? = some y) : Swd d ((d'.set (a + n) y).set (b + n) x) a b (n + 1) := by
  have e1 : d'[a + n]? = some x := by rw [h.2, if_neg (by omega), if_neg (by omega), hx]
  have e2 : d'[b + n]? = some y := by rw [h.2, if_neg (by omega), if_neg (by omega), hy]
  refine ⟨by simpa using h.1, fun k => ?_⟩
  rw [swap_at e1 e2, h.2]
  by_cases k1 : k = b + n
  · rw [if_pos k1, if_neg (by omega), if_pos (by omega), k1, show b + n - b + a = a + n by omega, hx]
  · rw [if_neg k1]
    by_cases k2 : k = a + n
    · rw [if_pos k2, if_pos (by omega), k2, show a + n - a + b = b + n by omega, hy]
    · rw [if_neg k2]
      by_cases k3 : a ≤ k ∧ k < a + n
      · rw [if_pos k3, if_pos (by omega)]
      · rw [if_neg k3, if_neg (show ¬ (a ≤ k ∧ k < a + (n + 1)) by omega)]
        by_cases k4 : b ≤ k ∧ k < b + n
        · rw [if_pos k4, if_pos (show b ≤ k ∧ k < b + (n + 1) by omega)]
        · rw [if_neg k4, if_neg (show ¬ (b ≤ k ∧ k < b + (n + 1)) by omega)]
/-- [a, m) and [m, b) have changed places -/
def Rot (d d' : List Int) (a m b : Nat) : Prop := ∀ k : Nat, d'[k]? = if k < a ∨ b ≤ k then d[k]? else if k < a + (b - m) then d[k - a + m]? else d[k - (a + (b - m)) + a]?
theorem rot_id_left (d : List Int) (a b : Nat) : Rot d d a a b := fun k => by
  by_cases h : k < a ∨ b ≤ k
  · rw [if_pos h]
  · rw [if_neg h, if_pos (by omega), show k - a + a = k by omega]
theorem rot_id_right (d : List Int) (a b : Nat) : Rot d d a b b := fun k => by
  by_cases h : k < a ∨ b ≤ k
  · rw [if_pos h]
  · rw [if_neg h, if_neg (by omega), show k - (a + (b - b)) + a = k by omega]
theorem Rot.more_left {c d d' : List Int} {m i j : Nat} (h : Swd c d (m - i) m j) (hr : Rot d d' (m - (i - j)) m (m + j)) (hij : j < i) (him : i ≤ m) : Rot c d' (m - i) m (m + j) := fun k => by
  rw [hr k]
  by_cases h1 : k < m - i ∨ m + j ≤ k
  · rw [if_pos h1, if_pos (by omega), h.2, if_neg (by omega), if_neg (by omega)]
  · rw [if_neg h1]
    by_cases h2 : k < m - i + (m + j - m)
    · rw [if_pos h2, if_pos (by omega), h.2, if_pos (by omega)]
    · rw [if_neg h2, if_neg (by omega)]
      by_cases h3 : k < m - (i - j) + (m + j - m)
      · rw [if_pos h3, h.2, if_neg (by omega), if_pos (by omega)]
        congr 1; omega
      · rw [if_neg h3, h.2, if_neg (by omega), if_neg (by omega)]
        congr 1; omega
theorem Rot.more_right {c d d' : List Int} {m i j : Nat} (h : Swd c d (m - i) (m + j - i) i) (hr : Rot d d' (m - i) m (m + (j - i))) (hij : i < j) (him : i ≤ m) : Rot c d' (m - i) m (m + j) := fun k => by
  rw [hr k]
  by_cases h1 : k < m - i ∨ m + j ≤ k
  · rw [if_pos h1, if_pos (by omega), h.2, if_neg (by omega), if_neg (by omega)]
  · rw [if_neg h1]
    by_cases h2 : k < m - i + (m + j - m)
    · rw [if_pos h2]
      by_cases h3 : m + (j - i) ≤ k
      · rw [if_pos (.inr h3), h.2, if_neg (by omega), if_pos (by omega)]
        omega
      · rw [if_neg (by omega)]
        by_cases h4 : k < m - i + (m + (j - i) - m)
        · rw [if_pos h4, h.2, if_neg (by omega), if_neg (by omega)]
        · rw [if_neg h4, h.2, if_pos (by omega)]
          congr 1; omega
    · rw [if_neg h2]
      by_cases h3 : m + (j - i) ≤ k
      · rw [if_pos (.inr h3), h.2, if_neg (by omega), if_pos (by omega)]
        congr 1; omega
      · omega
theorem Rot.last {c d : List Int} {m i : Nat} (h : Swd c d (m - i) m i) (him : i ≤ m) : Rot c d (m - i) m (m + i) := fun k => by
  rw [h.2]
  by_cases h1 : k < m - i ∨ m + i ≤ k
  · rw [if_pos h1, if_neg (by omega), if_neg (by omega)]
  · rw [if_neg h1]
    by_cases h2 : k < m - i + (m + i - m)
    · rw [if_pos h2, if_pos (by omega)]
    · rw [if_neg h2, if_neg (by omega), if_pos (by omega)]
      congr 1; omega
/-! ### merging by symmetric comparisons -/
section
variable {f : Int → Int} {d d' d'' : List Int} {a b m s mid : Nat}
/-- what is known where the search has ended at s (e: its fellow) -/
structure Cut (f : Int → Int) (d : List Int) (a m b s e : Nat) : Prop where
  left : ∀ (i j : Nat) x y, a ≤ i → i < s → e ≤ j → j < b → d[i]? = some x → d[j]? = some y → f x ≤ f y
  right : ∀ (i j : Nat) x y, s ≤ i → i < m → m ≤ j → j < e → d[i]? = some x → d[j]? = some y → f y ≤ f x
theorem sym_cross {e : Nat} (h1 : Srt f d a m) (h2 : Srt f d m b) (hc : Cut f d a m b s e) (has : a ≤ s) (hsm : s ≤ m) (hme : m ≤ e) (heb : e ≤ b) (hmid : s + (e - m) = mid) (hr : Rot d d' s m e) :
    Srt f d' a s ∧ Srt f d' s mid ∧ Srt f d' mid e ∧ Srt f d' e b ∧ ∀ (i j : Nat) x y, a ≤ i → i < mid → mid ≤ j → j < b → d'[i]? = some x → d'[j]? = some y → f x ≤ f y := by
  have hat := hr
  refine ⟨h1.out (fun i hi hi2 => by rw [hat, if_pos (by omega)]) (Nat.le_refl _) hsm, fun i j x y hi hij hj hx hy => ?_, fun i j x y hi hij hj hx hy => ?_, h2.out (fun i hi hi2 => by rw [hat, if_pos (by omega)]) hme (Nat.le_refl _), fun i j x y hi hi2 hj hj2 hx hy => ?_⟩
  · rw [hat, if_neg (by omega), if_pos (by omega)] at hx hy
    exact h2 _ _ x y (by omega) (by omega) (by omega) hx hy
  · rw [hat, if_neg (by omega), if_neg (by omega)] at hx hy
    exact h1 _ _ x y (by omega) (by omega) (by omega) hx hy
  · rw [hat] at hx hy
    by_cases ei : i < s
    · rw [if_pos (by omega)] at hx
      by_cases ej : e ≤ j
      · rw [if_pos (by omega)] at hy
        exact hc.left i j x y hi ei ej hj2 hx hy
      · rw [if_neg (by omega), if_neg (by omega)] at hy
        exact h1 _ _ x y hi (by omega) (by omega) hx hy
    · rw [if_neg (by omega), if_pos (by omega)] at hx
      by_cases ej : e ≤ j
      · rw [if_pos (by omega)] at hy
        exact h2 _ _ x y (by omega) (by omega) hj2 hx hy
      · rw [if_neg (by omega), if_neg (by omega)] at hy
        exact hc.right _ _ y x (by omega) (by omega) (by omega) (by omega) hy hx
theorem sym_join (h1 : Srt f d'' a mid) (h2 : Srt f d'' mid b) (hc : ∀ (i j : Nat) x y, a ≤ i → i < mid → mid ≤ j → j < b → d''[i]? = some x → d''[j]? = some y → f x ≤ f y) : Srt f d'' a b := fun i j x y hi hij hj hx hy => by
  by_cases ei : j < mid
  · exact h1 i j x y hi hij ei hx hy
  · by_cases ej : mid ≤ i
    · exact h2 i j x y ej hij hj hx hy
    · exact hc i j x y hi (by omega) (by omega) hj hx hy
/-- what stands left and right stays there -/
theorem cross_keep {d1 d2 : List Int} (hc : ∀ (i j : Nat) x y, a ≤ i → i < mid → mid ≤ j → j < b → d[i]? = some x → d[j]? = some y → f x ≤ f y) (h1 : Pm a mid d d1) (h2 : Pm mid b d1 d2) :
    ∀ (i j : Nat) x y, a ≤ i → i < mid → mid ≤ j → j < b → d2[i]? = some x → d2[j]? = some y → f x ≤ f y := by
  intro i j x y hi hi2 hj hj2 hx hy
  rw [h2.out i (by omega)] at hx
  refine h1.all (fun x => f x ≤ f y) (fun i' x' a1 a2 hx' => ?_) i x hi hi2 hx
  refine h2.all (fun y => f x' ≤ f y) (fun j' y' b1 b2 hy' => ?_) j y hj hj2 hy
  rw [h1.out j' (by omega)] at hy'
  exact hc i' j' x' y' a1 a2 b1 b2 hx' hy'
/-- the search's cut, case m > mid -/
theorem cut_of_search {r0 s0 : Nat} (h1 : Srt f d a m) (h2 : Srt f d m b) (hmb : m ≤ b) (hb : b ≤ d.length) (hs0 : s0 ≤ s) (hsr : s ≤ r0) (has : a ≤ s0) (hrm : r0 ≤ m) (hn : mid + m ≤ b + s0) (hn2 : m + r0 ≤ mid + m)
    (hlo : ∀ c, s0 ≤ c → c < s → ∀ x y, d[c]? = some x → d[mid + m - 1 - c]? = some y → f x ≤ f y) (hhi : ∀ c, s ≤ c → c < r0 → ∀ x y, d[c]? = some x → d[mid + m - 1 - c]? = some y → f y ≤ f x)
    (hend : s = s0 → s0 = a ∨ mid + m = b + s0) (hend2 : s = r0 → r0 = m ∨ mid = r0) : Cut f d a m b s (mid + m - s) := by
  refine ⟨fun i j x y hi hi2 hj hj2 hx hy => ?_, fun i j x y hi hi2 hj hj2 hx hy => ?_⟩
  · by_cases e : s = s0
    · rcases hend e with h | h
      · omega
      · omega
    · obtain ⟨z, hz⟩ : ∃ z, d[s - 1]? = some z := ⟨_, List.getElem?_eq_getElem (by omega)⟩
      obtain ⟨t, ht⟩ : ∃ t, d[mid + m - s]? = some t := ⟨_, List.getElem?_eq_getElem (by omega)⟩
      have k1 := h1 i (s - 1) x z hi (by omega) (by omega) hx hz
      have k2 := hlo (s - 1) (by omega) (by omega) z t hz (by rw [show mid + m - 1 - (s - 1) = mid + m - s by omega]; exact ht)
      have k3 := h2 (mid + m - s) j t y (by omega) hj hj2 ht hy
      omega
  · by_cases e : s = r0
    · rcases hend2 e with h | h
      · omega
      · omega
    · obtain ⟨z, hz⟩ : ∃ z, d[s]? = some z := ⟨_, List.getElem?_eq_getElem (by omega)⟩
      obtain ⟨t, ht⟩ : ∃ t, d[mid + m - 1 - s]? = some t := ⟨_, List.getElem?_eq_getElem (by omega)⟩
      have k1 := h1 s i z x (by omega) hi hi2 hz hx
      have k2 := hhi s (Nat.le_refl _) (by omega) z t hz ht
      have k3 := h2 j (mid + m - 1 - s) y t hj (by omega) (by omega) hy ht
      omega
/-- the search goes on: what is known below c, and from c on -/
theorem search_lo {s0 c p : Nat} (h1 : Srt f d a m) (h2 : Srt f d m b) (has : a ≤ s0) (hcm : c < m) (hpb : p - s0 < b) (hpm : m ≤ p - c) (hcp : c ≤ p) {x y : Int} (hx : d[c]? = some x) (hy : d[p - c]? = some y) (hle : f x ≤ f y) :
    ∀ i, s0 ≤ i → i < c + 1 → ∀ u v, d[i]? = some u → d[p - i]? = some v → f u ≤ f v := fun i hi hi2 u v hu hv => by
  have k1 := h1 i c u x (by omega) (by omega) hcm hu hx
  have k2 := h2 (p - c) (p - i) y v hpm (by omega) (by omega) hy hv
  omega
theorem search_hi {r0 c p : Nat} (h1 : Srt f d a m) (h2 : Srt f d m b) (hac : a ≤ c) (hrm : r0 ≤ m) (hpb : p - c < b) (hpm : m + r0 ≤ p + 1) {x y : Int} (hx : d[c]? = some x) (hy : d[p - c]? = some y) (hle : f y ≤ f x) :
    ∀ i, c ≤ i → i < r0 → ∀ u v, d[i]? = some u → d[p - i]? = some v → f v ≤ f u := fun i hi hi2 u v hu hv => by
  have k1 := h1 c i x u hac hi (by omega) hx hu
  have k2 := h2 (p - i) (p - c) v y (by omega) (by omega) hpb hv hy
  omega
end
end Go.Proofs.YtgchepkcjkhmmaaDoor.srt
namespace Go.Proofs.YtgchepkcjkhmmaaDoor.srt
open Go.RowKit Go.Sort
/-- the world with the row's cells holding d, some draws on -/
def rowW (w : World) (g : Nat) (d : List Int) (m : Nat) : World := (putRow (Value.int .i64) w g 0 d.toArray).drewN m
section
variable {w : World} {g m : Nat} {d d0 : List Int}
theorem rowW_cell {i : Nat} {x : Int} (hH : Holds (Value.int .i64) w g 0 d0.toArray) (hl : d.length = d0.length) (hx : d[i]? = some x) : (rowW w g d m).cell? ⟨g, i, none⟩ = some (.int .i64 x) := by
  obtain ⟨h1, h2⟩ := List.getElem?_eq_some_iff.1 hx
  have := (holds_putRow (Value.int .i64) w g 0 d0.toArray d.toArray hH (by simpa using hl) i (by simpa using h1)).1
  rw [Nat.zero_add] at this
  have e : (d.toArray)[i]! = x := by simp [h1, h2]
  rw [e] at this
  exact this
theorem rowW_frozen {i : Nat} {x : Int} (hH : Holds (Value.int .i64) w g 0 d0.toArray) (hl : d.length = d0.length) (hx : d[i]? = some x) : (rowW w g d m).frozen? ⟨g, i, none⟩ = false := by
  obtain ⟨h1, h2⟩ := List.getElem?_eq_some_iff.1 hx
  have := (holds_putRow (Value.int .i64) w g 0 d0.toArray d.toArray hH (by simpa using hl) i (by simpa using h1)).2
  rw [Nat.zero_add] at this
  exact this
theorem rowW_swap {i j : Nat} {x y : Int} (hi : d[i]? = some x) (hj : d[j]? = some y) :
    (((rowW w g d m).setCell ⟨g, i, none⟩ (.int .i64 y)).setCell ⟨g, j, none⟩ (.int .i64 x)).drew = rowW w g ((d.set i y).set j x) (m + 1) := by
  obtain ⟨h1, h2⟩ := List.getElem?_eq_some_iff.1 hi
  obtain ⟨h3, h4⟩ := List.getElem?_eq_some_iff.1 hj
  have := swap_worldC (Value.int .i64) w g 0 d.toArray m i j (by simpa using h1) (by simpa using h3)
  have e1 : (d.toArray)[i]! = x := by simp [h1, h2]
  have e2 : (d.toArray)[j]! = y := by simp [h3, h4]
  have e3 : swp d.toArray i j = ((d.set i y).set j x).toArray := by unfold swp; rw [e1, e2]; simp
  rw [e1, e2, Nat.zero_add, Nat.zero_add, e3] at this
  exact this
theorem rowW_swap' {i j : Nat} {x y : Int} (hi : d[i]? = some x) (hj : d[j]? = some y) (hne : i ≠ j) :
    (((rowW w g d m).setCell ⟨g, j, none⟩ (.int .i64 x)).setCell ⟨g, i, none⟩ (.int .i64 y)).drew = rowW w g ((d.set i y).set j x) (m + 1) := by
  rw [rowW_swap hj hi, List.set_comm _ _ hne]
end
def SwR (w : World) (g _m : Nat) (d : List Int) (a b n : Nat) (iv : Value) (wr : World) : Prop := ∃ (k m' : Nat) (d' : List Int), k ≤ n ∧ iv = .int .i64 (k : Nat) ∧ wr = rowW w g d' m' ∧ Swd d d' a b k ∧ Pm a (b + n) d d'
set_option maxRecDepth 100000 in
set_option maxHeartbeats 4000000 in
theorem swapRange_w {w : World} {g N cap m a b n : Nat} {d d0 : List Int} {fv : Value} (hH : Holds (Value.int .i64) w g 0 d0.toArray) (hl0 : d0.length = N) (hl : d.length = N) (hN : N ≤ 1000000) (hab : a + n ≤ b) (hb : b + n ≤ N) :
    Calls Tryd.prog 77 #[.slice (some ⟨g, 0, none⟩) N cap, .int .i64 (a : Nat), .int .i64 (b : Nat), .int .i64 (n : Nat), fv] (rowW w g d m) fun e w' => e = .returned (.tuple #[]) ∧ ∃ m' d', w' = rowW w g d' m' ∧ Swd d d' a b n ∧ Pm a (b + n) d d' := by
  have HH := Lib.hid hH
  have HL := Lib.hid hl
  have HL0 := Lib.hid hl0
  clear hH hl hl0
  go_enter Tryd.func77, Tryd.ntmps77
  go_wp2_with fail
  go_loopw [10] (fun iv wr => SwR w g m d a b n iv wr) (fun iv _ => n - (intOf iv).toNat)
  case atStart => exact ⟨0, m, d, Nat.zero_le _, rfl, rfl, Swd.refl d a b, Pm.refl _ _ _⟩
  case round =>
    obtain ⟨k, m', d', hk, rfl, hwr, hs, hp0⟩ := hrel
    by_cases hkn : k < n
    · obtain ⟨p, hp⟩ : ∃ p, a + k = p := ⟨_, rfl⟩
      obtain ⟨q, hq⟩ : ∃ q, b + k = q := ⟨_, rfl⟩
      obtain ⟨x, hx⟩ : ∃ x, d[p]? = some x := ⟨_, List.getElem?_eq_getElem (by have := HL.out; omega)⟩
      obtain ⟨y, hy⟩ : ∃ y, d[q]? = some y := ⟨_, List.getElem?_eq_getElem (by have := HL.out; omega)⟩
      have hx' : d'[p]? = some x := by rw [hs.2, if_neg (by omega), if_neg (by omega), hx]
      have hy' : d'[q]? = some y := by rw [hs.2, if_neg (by omega), if_neg (by omega), hy]
      have hl' : d'.length = d0.length := by rw [hs.1, HL.out, HL0.out]
      have cx : wr.cell? ⟨g, p, none⟩ = some (.int .i64 x) := by rw [hwr]; exact rowW_cell HH.out hl' hx'
      have cy : wr.cell? ⟨g, q, none⟩ = some (.int .i64 y) := by rw [hwr]; exact rowW_cell HH.out hl' hy'
      have fx : wr.frozen? ⟨g, p, none⟩ = false := by rw [hwr]; exact rowW_frozen HH.out hl' hx'
      have fy : wr.frozen? ⟨g, q, none⟩ = false := by rw [hwr]; exact rowW_frozen HH.out hl' hy'
      have wp : IntKind.i64.wrap ((a : Int) + (k : Int)) = (p : Int) := by rw [IntKind.wrap_i64]; omega
      have wq : IntKind.i64.wrap ((b : Int) + (k : Int)) = (q : Int) := by rw [IntKind.wrap_i64]; omega
      have hpN : (p : Int) < (N : Int) := by omega
      have hqN : (q : Int) < (N : Int) := by omega
      have hpq : p ≠ q := by omega
      have E1 := Lib.hid (rowW_swap (w := w) (g := g) (m := m') hx' hy')
      have E2 := Lib.hid (rowW_swap' (w := w) (g := g) (m := m') hx' hy' hpq)
      have HS := Lib.hid (hs.step (by omega) (by rw [hp]; exact hx) (by rw [hq]; exact hy))
      have HP := Lib.hid hp
      have HPM := Lib.hid (hp0.trans (Pm.swap hx' hy' (by omega) (by omega) (by omega) (by omega)))
      have HQ := Lib.hid hq
      have HWR := Lib.hid hwr
      clear hwr hs hx hy hx' hy' hp hq hl' hp0
      go_wp2_with fail
      go_region
      all_goals go_wp2
      all_goals go_roundw
      all_goals first
        | exact ⟨k + 1, m' + 1, _, by omega, by go_num, by rw [HWR.out]; first | exact E1.out | exact E2.out, by rw [← HP.out, ← HQ.out]; exact HS.out, HPM.out⟩
        | (simp [intOf]; omega)
    · obtain rfl : n = k := by omega
      have HS := Lib.hid hs
      have HWR := Lib.hid hwr
      have HPM := Lib.hid hp0
      clear hs hwr hp0
      go_wp2_with fail
      go_end0
      exact ⟨rfl, m', d', HWR.out, HS.out, HPM.out⟩
def RoR (w : World) (g N a md b : Nat) (d : List Int) (iv jv : Value) (wr : World) : Prop := ∃ (i j m' : Nat) (d' : List Int), 0 < i ∧ 0 < j ∧ a + i ≤ md ∧ md + j ≤ b ∧ iv = .int .i64 (i : Nat) ∧ jv = .int .i64 (j : Nat) ∧ wr = rowW w g d' m' ∧ d'.length = N ∧ Pm a b d d' ∧ ∀ dT, Rot d' dT (md - i) md (md + j) → Rot d dT a md b
set_option maxRecDepth 100000 in
set_option maxHeartbeats 4000000 in
theorem rotate_w {w : World} {g N cap m a md b : Nat} {d d0 : List Int} {fv : Value} (hH : Holds (Value.int .i64) w g 0 d0.toArray) (hl0 : d0.length = N) (hl : d.length = N) (hN : N ≤ 1000000) (ham : a < md) (hmb : md < b) (hb : b ≤ N) :
    Calls Tryd.prog 75 #[.slice (some ⟨g, 0, none⟩) N cap, .int .i64 (a : Nat), .int .i64 (md : Nat), .int .i64 (b : Nat), fv] (rowW w g d m) fun e w' => e = .returned (.tuple #[]) ∧ ∃ m' d', w' = rowW w g d' m' ∧ Rot d d' a md b ∧ Pm a b d d' := by
  have CS := Lib.hid (fun (d' : List Int) (m' a' b' n : Nat) (h1 : d'.length = N) (h2 : a' + n ≤ b') (h3 : b' + n ≤ N) => swapRange_w (m := m') (cap := cap) (fv := fv) hH hl0 h1 hN h2 h3)
  have HL := Lib.hid hl
  clear hH hl hl0
  go_enter Tryd.func75, Tryd.ntmps75
  go_wp2_with fail
  go_loopw [10, 11] (fun iv jv wr => RoR w g N a md b d iv jv wr) (fun iv jv _ => (intOf iv).toNat + (intOf jv).toNat)
  case atStart => exact ⟨md - a, b - md, m, d, by omega, by omega, by omega, by omega, by go_num, by go_num, rfl, HL.out, Pm.refl _ _ _, fun dT h => by rw [show md - (md - a) = a by omega, show md + (b - md) = b by omega] at h; exact h⟩
  case round =>
    obtain ⟨i, j, m', d', hi, hj, hai, hjb, rfl, rfl, rfl, hl, hpm, hrot⟩ := hrel
    have HL2 := Lib.hid hl
    have HPM := Lib.hid hpm
    have HR := Lib.hid hrot
    clear hl hpm hrot
    have w1 : IntKind.i64.wrap ((md : Int) - (i : Int)) = ((md - i : Nat) : Int) := by rw [IntKind.wrap_i64]; omega
    by_cases hij : i = j
    · subst hij
      go_wp2_with fail
      refine (CS.out d' m' (md - i) md i HL2.out (by omega) (by omega)).mono ?_
      rintro e w3 ⟨rfl, m3, d3, rfl, hs, hp⟩
      have HS := Lib.hid hs
      have HP := Lib.hid hp
      clear hs hp
      go_wp2_with fail
      go_end0
      exact ⟨rfl, m3, d3, rfl, HR.out _ (Rot.last HS.out (by omega)), HPM.out.trans (HP.out.mono (by omega) (by omega))⟩
    · have hne : ¬ ((i : Int) = (j : Int)) := by omega
      by_cases hlt : j < i
      · go_wp2_with fail
        refine (CS.out d' m' (md - i) md j HL2.out (by omega) (by omega)).mono ?_
        rintro e w3 ⟨rfl, m3, d3, rfl, hs, hp⟩
        have HS := Lib.hid hs
        have HP := Lib.hid hp
        clear hs hp
        go_wp2_with fail
        go_roundw
        case rel => exact ⟨i - j, j, m3, d3, by omega, by omega, by omega, by omega, by go_num, rfl, rfl, by rw [HS.out.1]; exact HL2.out, HPM.out.trans (HP.out.mono (by omega) (by omega)), fun dT h => HR.out dT (Rot.more_left HS.out h hlt (by omega))⟩
        case measure => simp [intOf]; omega
      · obtain ⟨t, ht⟩ : ∃ t, md + j = t := ⟨_, rfl⟩
        obtain ⟨q, hq⟩ : ∃ q, t - i = q := ⟨_, rfl⟩
        obtain ⟨p, hp⟩ : ∃ p, md - i = p := ⟨_, rfl⟩
        have w2 : IntKind.i64.wrap ((md : Int) + (j : Int)) = (t : Int) := by rw [IntKind.wrap_i64]; omega
        have w3 : IntKind.i64.wrap ((t : Int) - (i : Int)) = (q : Int) := by rw [IntKind.wrap_i64]; omega
        rw [hp] at w1
        have HT := Lib.hid ht
        have HQ := Lib.hid hq
        have HPP := Lib.hid hp
        have C := Lib.hid (CS.out d' m' p q i HL2.out (by omega) (by omega))
        clear ht hq hp
        go_wp2_with fail
        refine C.out.mono ?_
        rintro e w3 ⟨rfl, m3, d3, rfl, hs, hp⟩
        have HS := Lib.hid hs
        have HP := Lib.hid hp
        clear hs hp
        go_wp2_with fail
        go_roundw
        case rel =>
          have hs' := HS.out
          rw [← HPP.out, ← HQ.out, ← HT.out] at hs'
          exact ⟨i, j - i, m3, d3, by omega, by omega, by omega, by omega, rfl, by go_num, rfl, by rw [HS.out.1]; exact HL2.out, HPM.out.trans (HP.out.mono (by have := HPP.out; omega) (by have := HQ.out; have := HT.out; omega)), fun dT h => HR.out dT (Rot.more_right hs' h (by omega) (by omega))⟩
        case measure => simp [intOf]; omega
/-- WHAT IS ASKED OF THE COMPARISON -/
def CmpOk (gf : Nat) (cb : Array Value) (f : Int → Int) (D : Int → Prop) (w : World) (g N : Nat) : Prop :=
  ∀ (X : List Int) (m : Nat) (x y : Int), X.length = N → D x → D y → Calls Tryd.prog gf (#[.int .i64 x, .int .i64 y] ++ cb) (rowW w g X m) fun e w' => e = .returned (.int .i64 (f x - f y)) ∧ ∃ q, w' = (rowW w g X m).drewN q
theorem CmpOk.at_ {gf : Nat} {cb : Array Value} {f : Int → Int} {D : Int → Prop} {w : World} {g N : Nat} (h : CmpOk gf cb f D w g N) {X : List Int} {m : Nat} {x y : Int} (hX : X.length = N) (hx : D x) (hy : D y) (n : Nat) :
    Calls Tryd.prog gf (#[.int .i64 x, .int .i64 y] ++ cb) ((rowW w g X m).drewN n) fun e w' => e = .returned (.int .i64 (f x - f y)) ∧ ∃ q, w' = ((rowW w g X m).drewN n).drewN q := by
  have e : ∀ k, (rowW w g X m).drewN k = rowW w g X (m + k) := fun k => by unfold rowW; rw [World.drewN_drewN]
  rw [e n]
  refine (h X (m + n) x y hX hx hy).mono ?_
  rintro e' w' ⟨h1, q, h2⟩
  exact ⟨h1, q, h2⟩
theorem rowW_drewN (w : World) (g : Nat) (X : List Int) (m k : Nat) : (rowW w g X m).drewN k = rowW w g X (m + k) := by unfold rowW; rw [World.drewN_drewN]
def InR (f : Int → Int) (w : World) (g a b : Nat) (d : List Int) (iv : Value) (wr : World) : Prop := ∃ (i m' : Nat) (d' : List Int), a < i ∧ (i ≤ b ∨ i = a + 1) ∧ iv = .int .i64 (i : Nat) ∧ wr = rowW w g d' m' ∧ Srt f d' a i ∧ Pm a b d d'
def InJ (f : Int → Int) (w : World) (g a b i : Nat) (d : List Int) (jv : Value) (wr : World) : Prop := ∃ (j m' : Nat) (d' : List Int) (x : Int), a ≤ j ∧ j ≤ i ∧ jv = .int .i64 (j : Nat) ∧ wr = rowW w g d' m' ∧ d'[j]? = some x ∧ ExS f d' a (i + 1) j ∧ (∀ (q : Nat) y, j < q → q < i + 1 → d'[q]? = some y → f x ≤ f y) ∧ Pm a b d d'
set_option maxRecDepth 100000 in
set_option maxHeartbeats 4000000 in
theorem insertion_w {w : World} {g N cap m a b gf : Nat} {cb : Array Value} {f : Int → Int} {D : Int → Prop} {d d0 : List Int} (hH : Holds (Value.int .i64) w g 0 d0.toArray) (hl0 : d0.length = N) (hl : d.length = N) (hN : N ≤ 1000000) (hD : ∀ x ∈ d, D x) (hf : ∀ x, D x → -1 ≤ f x ∧ f x ≤ 1)
    (eg : ∀ args w, (callFunc gf args).run Tryd.prog w = .ok (.enter gf args) w) (hc : CmpOk gf cb f D w g N) (hab : a ≤ b) (hb : b ≤ N) :
    Calls Tryd.prog 67 #[.slice (some ⟨g, 0, none⟩) N cap, .int .i64 (a : Nat), .int .i64 (b : Nat), .func (.func gf) #[] cb] (rowW w g d m) fun e w' => e = .returned (.tuple #[]) ∧ ∃ m' d', w' = rowW w g d' m' ∧ Srt f d' a b ∧ Pm a b d d' := by
  have HH := Lib.hid hH
  have HL := Lib.hid hl
  have HL0 := Lib.hid hl0
  have HC := Lib.hid hc
  have HD := Lib.hid hD
  have HF := Lib.hid hf
  clear hH hl hl0 hc hD hf
  go_enter Tryd.func67, Tryd.ntmps67
  go_wp2_with fail
  go_loopw [8] (fun iv wr => InR f w g a b d iv wr) (fun iv _ => b + 1 - (intOf iv).toNat)
  case atStart => exact ⟨a + 1, m, d, by omega, .inr rfl, by go_num, rfl, Srt.one (Nat.le_refl _), Pm.refl _ _ _⟩
  case round =>
    obtain ⟨i, m1, d1, hai, hib, rfl, rfl, hs, hpm⟩ := hrel
    have HS := Lib.hid hs
    have HPM := Lib.hid hpm
    clear hs hpm
    by_cases hlt : i < b
    · go_wp2_with fail
      go_loopw [9] (fun jv wr => InJ f w g a b i d jv wr) (fun jv _ => (intOf jv).toNat)
      case atStart => exact ⟨i, m1, d1, d1[i]'(by rw [HPM.out.len, HL.out]; omega), by omega, Nat.le_refl _, rfl, rfl, List.getElem?_eq_getElem _, ExS.top HS.out, fun q y h1 h2 _ => by omega, HPM.out⟩
      case round =>
        obtain ⟨j, m2, d2, x, haj, hji, rfl, hwr, hx, hex, hrt, hpm2⟩ := hrel
        have hl2 : d2.length = d0.length := by rw [hpm2.len, HL.out, HL0.out]
        by_cases hja : a < j
        · obtain ⟨k, rfl⟩ : ∃ k, j = k + 1 := ⟨j - 1, by omega⟩
          obtain ⟨y, hy⟩ : ∃ y, d2[k]? = some y := ⟨_, List.getElem?_eq_getElem (by rw [hl2, HL0.out]; omega)⟩
          have cx : wr.cell? ⟨g, k + 1, none⟩ = some (.int .i64 x) := by rw [hwr]; exact rowW_cell HH.out hl2 hx
          have cy : wr.cell? ⟨g, k, none⟩ = some (.int .i64 y) := by rw [hwr]; exact rowW_cell HH.out hl2 hy
          have fx : wr.frozen? ⟨g, k + 1, none⟩ = false := by rw [hwr]; exact rowW_frozen HH.out hl2 hx
          have fy : wr.frozen? ⟨g, k, none⟩ = false := by rw [hwr]; exact rowW_frozen HH.out hl2 hy
          have wk : IntKind.i64.wrap (k : Int) = (k : Int) := by rw [IntKind.wrap_i64]; omega
          have kz : (k : Int) + 1 < (N : Int) := by omega
          have kz1 : (k : Int) < (N : Int) := by omega
          have hjaz' : (a : Int) < (k : Int) + 1 := by omega
          have p0 : (0 : Int) ≤ (k : Int) + 1 := by omega
          have e0 : ((k : Int) + 1).toNat = k + 1 := by omega
          have hDx : D x := HD.out x (hpm2.perm.mem_iff.1 (List.mem_of_getElem? hx))
          have hDy : D y := HD.out y (hpm2.perm.mem_iff.1 (List.mem_of_getElem? hy))
          have hc := HC.out.at_ (m := m2) (by rw [hl2, HL0.out]) hDx hDy
          rw [← hwr] at hc
          have hfx := HF.out x hDx
          have hfy := HF.out y hDy
          have HWR := Lib.hid hwr
          have HX := Lib.hid hx
          have HY := Lib.hid hy
          have HEX := Lib.hid hex
          have HRT := Lib.hid hrt
          have HPM2 := Lib.hid hpm2
          clear hwr hx hy hex hrt hpm2 hDx hDy hl2
          by_cases hlv : f x < f y
          · have hlv' : f x - f y < 0 := by omega
            go_wp2_with fail
            go_quiet ((go_at_fn gf; refine Calls.quiet_of (hc _)))
            have HW2 := Lib.hid (show wr.drewN nq = rowW w g d2 (m2 + nq) by rw [HWR.out, rowW_drewN])
            have cx2 : (wr.drewN nq).cell? ⟨g, k + 1, none⟩ = some (.int .i64 x) := cx
            have cy2 : (wr.drewN nq).cell? ⟨g, k, none⟩ = some (.int .i64 y) := cy
            have fx2 : (wr.drewN nq).frozen? ⟨g, k + 1, none⟩ = false := fx
            have fy2 : (wr.drewN nq).frozen? ⟨g, k, none⟩ = false := fy
            clear cx cy fx fy hc
            generalize wr.drewN nq = wq at HW2 cx2 cy2 fx2 fy2 ⊢
            have E1 := Lib.hid (rowW_swap (w := w) (g := g) (m := m2 + nq) HX.out HY.out)
            have E2 := Lib.hid (rowW_swap' (w := w) (g := g) (m := m2 + nq) HX.out HY.out (by omega))
            obtain ⟨j1, hj1⟩ : ∃ j1, k + 1 = j1 := ⟨_, rfl⟩
            rw [hj1] at cx2 fx2 e0
            have J1 := Lib.hid hj1
            have hj1k : j1 ≠ k := by omega
            clear hj1
            go_wp2_with fail
            go_region
            all_goals go_wp2
            all_goals go_roundw
            all_goals first
              | exact ⟨k, m2 + nq + 1, _, x, by omega, by omega, by go_num, by rw [HW2.out, ← J1.out]; first | exact E1.out | exact E2.out, by rw [swap_at HX.out HY.out, if_pos rfl], HEX.out.down HX.out HY.out (by omega), fun q z h1 h2 hz => by
                  rw [swap_at HX.out HY.out, if_neg (by omega)] at hz
                  split at hz
                  · injection hz with hz; subst hz; omega
                  · exact HRT.out q z (by omega) h2 hz, HPM2.out.trans (Pm.swap HX.out HY.out (by omega) (by omega) (by omega) (by omega))⟩
              | (simp [intOf]; done)
          · have hlv' : ¬ (f x - f y < 0) := by omega
            have HSI := Lib.hid (show Srt f d2 a (i + 1) from HEX.out.srt HX.out (fun p z h1 h2 hz => by
              have := HEX.out p k z y h1 (by omega) (by omega) (by omega) (by omega) hz HY.out
              omega) HRT.out)
            go_wp2_with fail
            go_quiet ((go_at_fn gf; refine Calls.quiet_of (hc _)))
            go_wp2
            go_roundw
            case rel => exact ⟨i + 1, m2 + nq, d2, by omega, .inl (by omega), by go_num, by rw [HWR.out, rowW_drewN], HSI.out, HPM2.out⟩
            case measure => simp [intOf]; omega
        · obtain rfl : j = a := by omega
          have HSI := Lib.hid (show Srt f d2 j (i + 1) from hex.srt hx (fun p z h1 h2 hz => by omega) hrt)
          have HWR := Lib.hid hwr
          have HPM2 := Lib.hid hpm2
          clear hwr hx hex hrt hpm2 hl2
          go_wp2_with fail
          go_quiet (fail)
          go_wp2
          go_roundw
          case rel => exact ⟨i + 1, m2 + nq, d2, by omega, .inl (by omega), by go_num, by rw [HWR.out, rowW_drewN], HSI.out, HPM2.out⟩
          case measure => simp [intOf]; omega
    · have HE := Lib.hid (show Srt f d1 a b from by
        rcases hib with h | h
        · obtain rfl : i = b := by omega
          exact HS.out
        · exact Srt.one (by omega))
      go_wp2_with fail
      go_end0
      exact ⟨rfl, m1, d1, rfl, HE.out, HPM.out⟩
end Go.Proofs.YtgchepkcjkhmmaaDoor.srt
namespace Go.Proofs.YtgchepkcjkhmmaaDoor.srt
open Go.RowKit Go.Sort
def SeL (f : Int → Int) (w : World) (g md b : Nat) (d : List Int) (x : Int) (iv jv : Value) (wr : World) : Prop := ∃ (i j m' : Nat), md ≤ i ∧ i ≤ j ∧ j ≤ b ∧ iv = .int .i64 (i : Nat) ∧ jv = .int .i64 (j : Nat) ∧ wr = rowW w g d m' ∧ (∀ (k : Nat) y, md ≤ k → k < i → d[k]? = some y → f y < f x) ∧ ∀ (k : Nat) y, j ≤ k → k < b → d[k]? = some y → f x ≤ f y
def SwL (f : Int → Int) (w : World) (g a b i : Nat) (d : List Int) (x : Int) (kv : Value) (wr : World) : Prop := ∃ (k m' : Nat) (d' : List Int), a ≤ k ∧ k + 1 ≤ i ∧ kv = .int .i64 (k : Nat) ∧ wr = rowW w g d' m' ∧ d'[k]? = some x ∧ ExS f d' a b k ∧ (∀ (p : Nat) y, a ≤ p → p < i → d'[p]? = some y → f y ≤ f x) ∧ (∀ (q : Nat) y, i ≤ q → q < b → d'[q]? = some y → f x ≤ f y) ∧ Pm a b d d'
set_option maxRecDepth 100000 in
set_option maxHeartbeats 4000000 in
theorem sym_left {w : World} {g N cap m a b gf : Nat} {cb : Array Value} {f : Int → Int} {D : Int → Prop} {d d0 : List Int} (hH : Holds (Value.int .i64) w g 0 d0.toArray) (hl0 : d0.length = N) (hl : d.length = N) (hN : N ≤ 1000000) (hD : ∀ x ∈ d, D x) (hf : ∀ x, D x → -1 ≤ f x ∧ f x ≤ 1)
    (eg : ∀ args w, (callFunc gf args).run Tryd.prog w = .ok (.enter gf args) w) (hc : CmpOk gf cb f D w g N) (hab : a + 1 < b) (hb : b ≤ N) (hs : Srt f d (a + 1) b) :
    Calls Tryd.prog 68 #[.slice (some ⟨g, 0, none⟩) N cap, .int .i64 (a : Nat), .int .i64 ((a + 1 : Nat) : Int), .int .i64 (b : Nat), .func (.func gf) #[] cb] (rowW w g d m) fun e w' => e = .returned (.tuple #[]) ∧ ∃ m' d', w' = rowW w g d' m' ∧ Srt f d' a b ∧ Pm a b d d' := by
  obtain ⟨md, hmd⟩ : ∃ md, a + 1 = md := ⟨_, rfl⟩
  obtain ⟨x, hx⟩ : ∃ x, d[a]? = some x := ⟨_, List.getElem?_eq_getElem (by omega)⟩
  have w1 : IntKind.i64.wrap ((md : Int) - (a : Int)) = 1 := by rw [IntKind.wrap_i64]; omega
  rw [hmd] at hs ⊢
  have hma : a < md := by omega
  have hma2 : md ≤ a + 1 := by omega
  have HM := Lib.hid hmd
  have HX := Lib.hid hx
  have HS := Lib.hid hs
  have HH := Lib.hid hH
  have HL := Lib.hid hl
  have HL0 := Lib.hid hl0
  have HC := Lib.hid hc
  have HD := Lib.hid hD
  have HF := Lib.hid hf
  clear hH hl hl0 hc hD hf hs hmd hx
  go_enter Tryd.func68, Tryd.ntmps68
  go_wp2_with fail
  go_loopw [10, 11] (fun iv jv wr => SeL f w g md b d x iv jv wr) (fun iv jv _ => (intOf jv).toNat - (intOf iv).toNat)
  case atStart => exact ⟨md, b, m, Nat.le_refl _, by have := HM.out; omega, Nat.le_refl _, rfl, rfl, rfl, fun k y h1 h2 _ => by omega, fun k y h1 h2 _ => by omega⟩
  case round =>
    obtain ⟨i, j, m1, hi, hij, hj, rfl, rfl, hwr, h1, h2⟩ := hrel
    by_cases hlt : i < j
    · obtain ⟨s, hs⟩ : ∃ s, i + j = s := ⟨_, rfl⟩
      obtain ⟨h, hh⟩ : ∃ h, s / 2 = h := ⟨_, rfl⟩
      have ws : IntKind.i64.wrap ((i : Int) + (j : Int)) = (s : Int) := by rw [IntKind.wrap_i64]; omega
      have hsh : (s : Int) / 2 = (h : Int) := by omega
      obtain ⟨y, hy⟩ : ∃ y, d[h]? = some y := ⟨_, List.getElem?_eq_getElem (by have := HL.out; omega)⟩
      have hll : d.length = d0.length := by rw [HL.out, HL0.out]
      have cx : wr.cell? ⟨g, a, none⟩ = some (.int .i64 x) := by rw [hwr]; exact rowW_cell HH.out hll HX.out
      have cy : wr.cell? ⟨g, h, none⟩ = some (.int .i64 y) := by rw [hwr]; exact rowW_cell HH.out hll hy
      have hDx : D x := HD.out x (List.mem_of_getElem? HX.out)
      have hDy : D y := HD.out y (List.mem_of_getElem? hy)
      have hc := HC.out.at_ (m := m1) HL.out hDy hDx
      rw [← hwr] at hc
      have hfx := HF.out x hDx
      have hfy := HF.out y hDy
      have haN : (a : Int) < (N : Int) := by omega
      have hhN : (h : Int) < (N : Int) := by omega
      have hih : i ≤ h ∧ h < j := by omega
      have HWR := Lib.hid hwr
      have HY := Lib.hid hy
      have H1 := Lib.hid h1
      have H2 := Lib.hid h2
      have HSS := Lib.hid hs
      have HHH := Lib.hid hh
      clear hwr hy hDx hDy h1 h2 hs hh hll
      by_cases hlv : f y < f x
      · have hlv' : f y - f x < 0 := by omega
        have H1' := Lib.hid (show ∀ (k : Nat) z, md ≤ k → k < h + 1 → d[k]? = some z → f z < f x from fun k z k1 k2 hz => by
          have := HS.out k h z y (by omega) (by omega) (by omega) hz HY.out
          omega)
        go_wp2_with fail
        go_quiet ((go_at_fn gf; refine Calls.quiet_of (hc _)))
        go_wp2_with fail
        go_roundw
        case rel => exact ⟨h + 1, j, m1 + nq, by omega, by omega, hj, by go_num, rfl, by rw [HWR.out, rowW_drewN], H1'.out, H2.out⟩
        case measure => simp [intOf]; omega
      · have hlv' : ¬ (f y - f x < 0) := by omega
        have H2' := Lib.hid (show ∀ (k : Nat) z, h ≤ k → k < b → d[k]? = some z → f x ≤ f z from fun k z k1 k2 hz => by
          have := HS.out h k y z (by omega) k1 k2 HY.out hz
          omega)
        go_wp2_with fail
        go_quiet ((go_at_fn gf; refine Calls.quiet_of (hc _)))
        go_wp2_with fail
        go_roundw
        case rel => exact ⟨i, h, m1 + nq, by omega, by omega, by omega, rfl, rfl, by rw [HWR.out, rowW_drewN], H1.out, H2'.out⟩
        case measure => simp [intOf]; omega
    · obtain rfl : j = i := by omega
      obtain ⟨t, ht⟩ : ∃ t, j - 1 = t := ⟨_, rfl⟩
      have wt : IntKind.i64.wrap ((j : Int) - 1) = (t : Int) := by rw [IntKind.wrap_i64]; omega
      have HST := Lib.hid (show SwL f w g a b j d x (.int .i64 (a : Nat)) wr from ⟨a, m1, d, Nat.le_refl _, by have := HM.out; omega, rfl, hwr, HX.out, ExS.bottom (by rw [HM.out]; exact HS.out), fun p y p1 p2 hy => by
        by_cases e : p = a
        · subst e; rw [HX.out] at hy; injection hy with hy; subst hy; exact Int.le_refl _
        · exact Int.le_of_lt (h1 p y (by have := HM.out; omega) p2 hy), h2, Pm.refl _ _ _⟩)
      have htj : t < j := by omega
      have htj2 : j ≤ t + 1 := by omega
      clear hwr h1 h2 ht
      go_wp2_with fail
      go_loopw [13] (fun kv wr => SwL f w g a b j d x kv wr) (fun kv _ => j - (intOf kv).toNat)
      case atStart => exact HST.out
      case round =>
        obtain ⟨k, m2, d2, hak, hki, rfl, hwr, hx, hex, hlo, hhi, hpm⟩ := hrel
        by_cases hkt : k < t
        · have hl2 : d2.length = d0.length := by rw [hpm.len, HL.out, HL0.out]
          obtain ⟨y, hy⟩ : ∃ y, d2[k + 1]? = some y := ⟨_, List.getElem?_eq_getElem (by rw [hl2, HL0.out]; omega)⟩
          obtain ⟨k1, hk1⟩ : ∃ k1, k + 1 = k1 := ⟨_, rfl⟩
          rw [hk1] at hy
          have cx : wr.cell? ⟨g, k, none⟩ = some (.int .i64 x) := by rw [hwr]; exact rowW_cell HH.out hl2 hx
          have cy : wr.cell? ⟨g, k1, none⟩ = some (.int .i64 y) := by rw [hwr]; exact rowW_cell HH.out hl2 hy
          have fx : wr.frozen? ⟨g, k, none⟩ = false := by rw [hwr]; exact rowW_frozen HH.out hl2 hx
          have fy : wr.frozen? ⟨g, k1, none⟩ = false := by rw [hwr]; exact rowW_frozen HH.out hl2 hy
          have wk : IntKind.i64.wrap ((k : Int) + 1) = (k1 : Int) := by rw [IntKind.wrap_i64]; omega
          have kz : (k1 : Int) < (N : Int) := by omega
          have kz1 : (k : Int) < (N : Int) := by omega
          have hne : k ≠ k1 := by omega
          have E1 := Lib.hid (rowW_swap (w := w) (g := g) (m := m2) hx hy)
          have E2 := Lib.hid (rowW_swap' (w := w) (g := g) (m := m2) hx hy hne)
          have HEX := Lib.hid (show ExS f ((d2.set k y).set k1 x) a b k1 by rw [← hk1] at hy ⊢; exact hex.up hx hy (by omega))
          have HLO := Lib.hid (show ∀ (p : Nat) z, a ≤ p → p < j → ((d2.set k y).set k1 x)[p]? = some z → f z ≤ f x from fun p z p1 p2 hz => by
            rw [swap_at hx hy] at hz
            split at hz
            · injection hz with hz; subst hz; exact Int.le_refl _
            · split at hz
              · injection hz with hz; subst hz; exact hlo k1 y (by omega) (by omega) hy
              · exact hlo p z p1 p2 hz)
          have HHI := Lib.hid (show ∀ (q : Nat) z, j ≤ q → q < b → ((d2.set k y).set k1 x)[q]? = some z → f x ≤ f z from fun q z p1 p2 hz => by
            rw [swap_at hx hy, if_neg (by omega), if_neg (by omega)] at hz
            exact hhi q z p1 p2 hz)
          have HPM2 := Lib.hid (hpm.trans (Pm.swap hx hy (a := a) (b := b) (by omega) (by omega) (by omega) (by omega)))
          have HXX := Lib.hid (show ((d2.set k y).set k1 x)[k1]? = some x by rw [swap_at hx hy, if_pos rfl])
          have HWR := Lib.hid hwr
          have hka : k < k1 := by omega
          have hkb : k1 ≤ k + 1 := by omega
          clear hwr hx hy hex hlo hhi hpm hl2 hk1
          go_wp2_with fail
          go_region
          all_goals go_wp2
          all_goals go_roundw
          all_goals first
            | exact ⟨k1, m2 + 1, _, by omega, by omega, by go_num, by rw [HWR.out]; first | exact E1.out | exact E2.out, HXX.out, HEX.out, HLO.out, HHI.out, HPM2.out⟩
            | (simp [intOf]; omega)
        · have HE := Lib.hid (show Srt f d2 a b from hex.srt hx (fun p z p1 p2 hz => hlo p z p1 (by omega) hz) (fun q z p1 p2 hz => hhi q z (by omega) p2 hz))
          have HWR := Lib.hid hwr
          have HPM := Lib.hid hpm
          clear hwr hx hex hlo hhi hpm
          go_wp2_with fail
          exact bodyPost_ret (v := .tuple #[]) (results_none rfl _ _ _) rfl ⟨rfl, m2, d2, HWR.out, HE.out, HPM.out⟩
def SeM (f : Int → Int) (w : World) (g a md : Nat) (d : List Int) (x : Int) (iv jv : Value) (wr : World) : Prop := ∃ (i j m' : Nat), a ≤ i ∧ i ≤ j ∧ j ≤ md ∧ iv = .int .i64 (i : Nat) ∧ jv = .int .i64 (j : Nat) ∧ wr = rowW w g d m' ∧ (∀ (k : Nat) y, a ≤ k → k < i → d[k]? = some y → f y ≤ f x) ∧ ∀ (k : Nat) y, j ≤ k → k < md → d[k]? = some y → f x < f y
def SwM (f : Int → Int) (w : World) (g a b i md : Nat) (d : List Int) (x : Int) (kv : Value) (wr : World) : Prop := ∃ (k m' : Nat) (d' : List Int), i ≤ k ∧ k ≤ md ∧ kv = .int .i64 (k : Nat) ∧ wr = rowW w g d' m' ∧ d'[k]? = some x ∧ ExS f d' a b k ∧ (∀ (p : Nat) y, a ≤ p → p < i → d'[p]? = some y → f y ≤ f x) ∧ (∀ (q : Nat) y, i ≤ q → q < b → d'[q]? = some y → f x ≤ f y) ∧ Pm a b d d'
set_option maxRecDepth 100000 in
set_option maxHeartbeats 4000000 in
theorem sym_right {w : World} {g N cap m a md gf : Nat} {cb : Array Value} {f : Int → Int} {D : Int → Prop} {d d0 : List Int} (hH : Holds (Value.int .i64) w g 0 d0.toArray) (hl0 : d0.length = N) (hl : d.length = N) (hN : N ≤ 1000000) (hD : ∀ x ∈ d, D x) (hf : ∀ x, D x → -1 ≤ f x ∧ f x ≤ 1)
    (eg : ∀ args w, (callFunc gf args).run Tryd.prog w = .ok (.enter gf args) w) (hc : CmpOk gf cb f D w g N) (ham : a + 1 < md) (hb : md + 1 ≤ N) (hs : Srt f d a md) :
    Calls Tryd.prog 68 #[.slice (some ⟨g, 0, none⟩) N cap, .int .i64 (a : Nat), .int .i64 (md : Nat), .int .i64 ((md + 1 : Nat) : Int), .func (.func gf) #[] cb] (rowW w g d m) fun e w' => e = .returned (.tuple #[]) ∧ ∃ m' d', w' = rowW w g d' m' ∧ Srt f d' a (md + 1) ∧ Pm a (md + 1) d d' := by
  obtain ⟨b, hbb⟩ : ∃ b, md + 1 = b := ⟨_, rfl⟩
  obtain ⟨x, hx⟩ : ∃ x, d[md]? = some x := ⟨_, List.getElem?_eq_getElem (by omega)⟩
  obtain ⟨t0, ht0⟩ : ∃ t0, md - a = t0 := ⟨_, rfl⟩
  have w1 : IntKind.i64.wrap ((md : Int) - (a : Int)) = (t0 : Int) := by rw [IntKind.wrap_i64]; omega
  have w1n : ((t0 : Int) == 1) = false := by rw [beq_eq_false_iff_ne]; omega
  have w2 : IntKind.i64.wrap ((b : Int) - (md : Int)) = 1 := by rw [IntKind.wrap_i64]; omega
  have HE0 := Lib.hid (show ExS f d a (md + 1) md from ExS.top hs)
  rw [hbb] at HE0 ⊢
  have hba : md < b := by omega
  have hbc : b ≤ md + 1 := by omega
  have HX := Lib.hid hx
  have HS := Lib.hid hs
  have HH := Lib.hid hH
  have HL := Lib.hid hl
  have HL0 := Lib.hid hl0
  have HC := Lib.hid hc
  have HD := Lib.hid hD
  have HF := Lib.hid hf
  clear hH hl hl0 hc hD hf hs hx ht0 hbb
  go_enter Tryd.func68, Tryd.ntmps68
  go_wp2_with fail
  go_loopw [14, 15] (fun iv jv wr => SeM f w g a md d x iv jv wr) (fun iv jv _ => (intOf jv).toNat - (intOf iv).toNat)
  case atStart => exact ⟨a, md, m, Nat.le_refl _, by omega, Nat.le_refl _, rfl, rfl, rfl, fun k y h1 h2 _ => by omega, fun k y h1 h2 _ => by omega⟩
  case round =>
    obtain ⟨i, j, m1, hi, hij, hj, rfl, rfl, hwr, h1, h2⟩ := hrel
    by_cases hlt : i < j
    · obtain ⟨s, hs⟩ : ∃ s, i + j = s := ⟨_, rfl⟩
      obtain ⟨h, hh⟩ : ∃ h, s / 2 = h := ⟨_, rfl⟩
      have ws : IntKind.i64.wrap ((i : Int) + (j : Int)) = (s : Int) := by rw [IntKind.wrap_i64]; omega
      have hsh : (s : Int) / 2 = (h : Int) := by omega
      obtain ⟨y, hy⟩ : ∃ y, d[h]? = some y := ⟨_, List.getElem?_eq_getElem (by have := HL.out; omega)⟩
      have hll : d.length = d0.length := by rw [HL.out, HL0.out]
      have cx : wr.cell? ⟨g, md, none⟩ = some (.int .i64 x) := by rw [hwr]; exact rowW_cell HH.out hll HX.out
      have cy : wr.cell? ⟨g, h, none⟩ = some (.int .i64 y) := by rw [hwr]; exact rowW_cell HH.out hll hy
      have hDx : D x := HD.out x (List.mem_of_getElem? HX.out)
      have hDy : D y := HD.out y (List.mem_of_getElem? hy)
      have hc := HC.out.at_ (m := m1) HL.out hDx hDy
      rw [← hwr] at hc
      have hfx := HF.out x hDx
      have hfy := HF.out y hDy
      have haN : (md : Int) < (N : Int) := by omega
      have hhN : (h : Int) < (N : Int) := by omega
      have hih : i ≤ h ∧ h < j := by omega
      have HWR := Lib.hid hwr
      have HY := Lib.hid hy
      have H1 := Lib.hid h1
      have H2 := Lib.hid h2
      clear hwr hy hDx hDy h1 h2 hs hh hll
      by_cases hlv : f x < f y
      · have hlv' : decide (f x - f y < 0) = true := decide_eq_true (by omega)
        have H2' := Lib.hid (show ∀ (k : Nat) z, h ≤ k → k < md → d[k]? = some z → f x < f z from fun k z k1 k2 hz => by
          have := HS.out h k y z (by omega) k1 k2 HY.out hz
          omega)
        go_wp2_with fail
        go_quiet ((go_at_fn gf; refine Calls.quiet_of (hc _)))
        go_wp2_with fail
        go_roundw
        case rel => exact ⟨i, h, m1 + nq, by omega, by omega, by omega, rfl, rfl, by rw [HWR.out, rowW_drewN], H1.out, H2'.out⟩
        case measure => simp [intOf]; omega
      · have hlv' : decide (f x - f y < 0) = false := decide_eq_false (by omega)
        have H1' := Lib.hid (show ∀ (k : Nat) z, a ≤ k → k < h + 1 → d[k]? = some z → f z ≤ f x from fun k z k1 k2 hz => by
          have := HS.out k h z y (by omega) (by omega) (by omega) hz HY.out
          omega)
        go_wp2_with fail
        go_quiet ((go_at_fn gf; refine Calls.quiet_of (hc _)))
        go_wp2_with fail
        go_roundw
        case rel => exact ⟨h + 1, j, m1 + nq, by omega, by omega, hj, by go_num, rfl, by rw [HWR.out, rowW_drewN], H1'.out, H2.out⟩
        case measure => simp [intOf]; omega
    · obtain rfl : j = i := by omega
      have HST := Lib.hid (show SwM f w g a b j md d x (.int .i64 (md : Nat)) wr from ⟨md, m1, d, hj, Nat.le_refl _, rfl, hwr, HX.out, HE0.out, h1, fun q y q1 q2 hy => by
        by_cases e : q = md
        · subst e; rw [HX.out] at hy; injection hy with hy; subst hy; exact Int.le_refl _
        · exact Int.le_of_lt (h2 q y q1 (by omega) hy), Pm.refl _ _ _⟩)
      clear hwr h1 h2
      go_wp2_with fail
      go_loopw [17] (fun kv wr => SwM f w g a b j md d x kv wr) (fun kv _ => (intOf kv).toNat)
      case atStart => exact HST.out
      case round =>
        obtain ⟨k1, m2, d2, hjk, hki, rfl, hwr, hx, hex, hlo, hhi, hpm⟩ := hrel
        by_cases hkt : j < k1
        · have hl2 : d2.length = d0.length := by rw [hpm.len, HL.out, HL0.out]
          obtain ⟨k, hk1⟩ : ∃ k, k + 1 = k1 := ⟨k1 - 1, by omega⟩
          obtain ⟨y, hy⟩ : ∃ y, d2[k]? = some y := ⟨_, List.getElem?_eq_getElem (by rw [hl2, HL0.out]; omega)⟩
          have cx : wr.cell? ⟨g, k1, none⟩ = some (.int .i64 x) := by rw [hwr]; exact rowW_cell HH.out hl2 hx
          have cy : wr.cell? ⟨g, k, none⟩ = some (.int .i64 y) := by rw [hwr]; exact rowW_cell HH.out hl2 hy
          have fx : wr.frozen? ⟨g, k1, none⟩ = false := by rw [hwr]; exact rowW_frozen HH.out hl2 hx
          have fy : wr.frozen? ⟨g, k, none⟩ = false := by rw [hwr]; exact rowW_frozen HH.out hl2 hy
          have wk : IntKind.i64.wrap ((k1 : Int) - 1) = (k : Int) := by rw [IntKind.wrap_i64]; omega
          have kz : (k1 : Int) < (N : Int) := by omega
          have kz1 : (k : Int) < (N : Int) := by omega
          have hne : k1 ≠ k := by omega
          have E1 := Lib.hid (rowW_swap (w := w) (g := g) (m := m2) hx hy)
          have E2 := Lib.hid (rowW_swap' (w := w) (g := g) (m := m2) hx hy hne)
          have HEX := Lib.hid (show ExS f ((d2.set k1 y).set k x) a b k by rw [← hk1] at hx hex ⊢; exact hex.down hx hy (by omega))
          have HLO := Lib.hid (show ∀ (p : Nat) z, a ≤ p → p < j → ((d2.set k1 y).set k x)[p]? = some z → f z ≤ f x from fun p z p1 p2 hz => by
            rw [swap_at hx hy, if_neg (by omega), if_neg (by omega)] at hz
            exact hlo p z p1 p2 hz)
          have HHI := Lib.hid (show ∀ (q : Nat) z, j ≤ q → q < b → ((d2.set k1 y).set k x)[q]? = some z → f x ≤ f z from fun q z p1 p2 hz => by
            rw [swap_at hx hy] at hz
            split at hz
            · injection hz with hz; subst hz; exact Int.le_refl _
            · split at hz
              · injection hz with hz; subst hz; exact hhi k y (by omega) (by omega) hy
              · exact hhi q z p1 p2 hz)
          have HPM2 := Lib.hid (hpm.trans (Pm.swap hx hy (a := a) (b := b) (by omega) (by omega) (by omega) (by omega)))
          have HXX := Lib.hid (show ((d2.set k1 y).set k x)[k]? = some x by rw [swap_at hx hy, if_pos rfl])
          have HWR := Lib.hid hwr
          have hka : k < k1 := by omega
          have hkb : k1 ≤ k + 1 := by omega
          clear hwr hx hy hex hlo hhi hpm hl2 hk1
          go_wp2_with fail
          go_region
          all_goals go_wp2
          all_goals go_roundw
          all_goals first
            | exact ⟨k, m2 + 1, _, by omega, by omega, by go_num, by rw [HWR.out]; first | exact E1.out | exact E2.out, HXX.out, HEX.out, HLO.out, HHI.out, HPM2.out⟩
            | (simp [intOf]; done)
            | (simp [intOf]; omega)
        · obtain rfl : k1 = j := by omega
          have HE := Lib.hid (show Srt f d2 a b from hex.srt hx hlo (fun q z p1 p2 hz => hhi q z (by omega) p2 hz))
          have HWR := Lib.hid hwr
          have HPM := Lib.hid hpm
          clear hwr hx hex hlo hhi hpm
          go_wp2_with fail
          exact bodyPost_ret (v := .tuple #[]) (results_none rfl _ _ _) rfl ⟨rfl, m2, d2, HWR.out, HE.out, HPM.out⟩
end Go.Proofs.YtgchepkcjkhmmaaDoor.srt
namespace Go.Proofs.YtgchepkcjkhmmaaDoor.srt
open Go.RowKit Go.Sort
/-- the search's relation -/
def SeG (f : Int → Int) (w : World) (g s0 r0 p : Nat) (d : List Int) (iv jv : Value) (wr : World) : Prop := ∃ (i j m' : Nat), s0 ≤ i ∧ i ≤ j ∧ j ≤ r0 ∧ iv = .int .i64 (i : Nat) ∧ jv = .int .i64 (j : Nat) ∧ wr = rowW w g d m' ∧ (∀ c, s0 ≤ c → c < i → ∀ x y, d[c]? = some x → d[p - c]? = some y → f x ≤ f y) ∧ ∀ c, j ≤ c → c < r0 → ∀ x y, d[c]? = some x → d[p - c]? = some y → f y ≤ f x
/-- what the merge has behind the rotation -/
structure Mid (f : Int → Int) (d d' : List Int) (a b s mid e : Nat) : Prop where
  s1 : Srt f d' a s
  s2 : Srt f d' s mid
  s3 : Srt f d' mid e
  s4 : Srt f d' e b
  cross : ∀ (i j : Nat) x y, a ≤ i → i < mid → mid ≤ j → j < b → d'[i]? = some x → d'[j]? = some y → f x ≤ f y
  pm : Pm a b d d'
set_option maxRecDepth 100000 in
set_option maxHeartbeats 8000000 in
theorem sym_gen {w : World} {g N cap gf : Nat} {cb : Array Value} {f : Int → Int} {D : Int → Prop} {d0 : List Int} (hH : Holds (Value.int .i64) w g 0 d0.toArray) (hl0 : d0.length = N) (hN : N ≤ 1000000) (hf : ∀ x, D x → -1 ≤ f x ∧ f x ≤ 1)
    (eg : ∀ args w, (callFunc gf args).run Tryd.prog w = .ok (.enter gf args) w) (hc : CmpOk gf cb f D w g N) (sz : Nat)
    (IH : ∀ (a md b m : Nat) (d : List Int), b - a < sz → a < md → md < b → b ≤ N → d.length = N → (∀ x ∈ d, D x) → Srt f d a md → Srt f d md b → Calls Tryd.prog 68 #[.slice (some ⟨g, 0, none⟩) N cap, .int .i64 (a : Nat), .int .i64 (md : Nat), .int .i64 (b : Nat), .func (.func gf) #[] cb] (rowW w g d m) fun e w' => e = .returned (.tuple #[]) ∧ ∃ m' d', w' = rowW w g d' m' ∧ Srt f d' a b ∧ Pm a b d d')
    (a md b m : Nat) (d : List Int) (hsz : b - a = sz) (ham : a + 1 < md) (hmb : md + 1 < b) (hb : b ≤ N) (hl : d.length = N) (hD : ∀ x ∈ d, D x) (h1 : Srt f d a md) (h2 : Srt f d md b) :
    Calls Tryd.prog 68 #[.slice (some ⟨g, 0, none⟩) N cap, .int .i64 (a : Nat), .int .i64 (md : Nat), .int .i64 (b : Nat), .func (.func gf) #[] cb] (rowW w g d m) fun e w' => e = .returned (.tuple #[]) ∧ ∃ m' d', w' = rowW w g d' m' ∧ Srt f d' a b ∧ Pm a b d d' := by
  have CR := Lib.hid (fun (d' : List Int) (m' a' md' b' : Nat) (k1 : d'.length = N) (k2 : a' < md') (k3 : md' < b') (k4 : b' ≤ N) => rotate_w (m := m') (cap := cap) (fv := .func (.func gf) #[] cb) hH hl0 k1 hN k2 k3 k4)
  obtain ⟨t0, ht0⟩ : ∃ t0, md - a = t0 := ⟨_, rfl⟩
  obtain ⟨t1, ht1⟩ : ∃ t1, b - md = t1 := ⟨_, rfl⟩
  obtain ⟨ab, hab⟩ : ∃ ab, a + b = ab := ⟨_, rfl⟩
  obtain ⟨mid, hmid⟩ : ∃ mid, ab / 2 = mid := ⟨_, rfl⟩
  obtain ⟨n, hn⟩ : ∃ n, mid + md = n := ⟨_, rfl⟩
  obtain ⟨p, hp⟩ : ∃ p, n - 1 = p := ⟨_, rfl⟩
  have w1 : IntKind.i64.wrap ((md : Int) - (a : Int)) = (t0 : Int) := by rw [IntKind.wrap_i64]; omega
  have w1n : ((t0 : Int) == 1) = false := by rw [beq_eq_false_iff_ne]; omega
  have w2 : IntKind.i64.wrap ((b : Int) - (md : Int)) = (t1 : Int) := by rw [IntKind.wrap_i64]; omega
  have w2n : ((t1 : Int) == 1) = false := by rw [beq_eq_false_iff_ne]; omega
  have w3 : IntKind.i64.wrap ((a : Int) + (b : Int)) = (ab : Int) := by rw [IntKind.wrap_i64]; omega
  have w4 : (ab : Int) / 2 = (mid : Int) := by omega
  have w5 : IntKind.i64.wrap ((mid : Int) + (md : Int)) = (n : Int) := by rw [IntKind.wrap_i64]; omega
  have w6 : IntKind.i64.wrap ((n : Int) - 1) = (p : Int) := by rw [IntKind.wrap_i64]; omega
  have hmid0 : a < mid ∧ mid < b ∧ 2 * mid ≤ a + b ∧ a + b ≤ 2 * mid + 1 := by omega
  have hn0 : n ≤ mid + md ∧ mid + md ≤ n := by omega
  have hp0 : p + 1 ≤ n ∧ n ≤ p + 1 := by omega
  have H1 := Lib.hid h1
  have H2 := Lib.hid h2
  have HH := Lib.hid hH
  have HL := Lib.hid hl
  have HL0 := Lib.hid hl0
  have HC := Lib.hid hc
  have HD := Lib.hid hD
  have HF := Lib.hid hf
  have HIH := Lib.hid IH
  have hszl : b - a ≤ sz ∧ sz ≤ b - a := by omega
  clear hH hl hl0 hc hD hf h1 h2 IH ht0 ht1 hab hmid hn hp hsz
  by_cases hmm : mid < md
  · obtain ⟨s0, hs0⟩ : ∃ s0, n - b = s0 := ⟨_, rfl⟩
    have w7 : IntKind.i64.wrap ((n : Int) - (b : Int)) = (s0 : Int) := by rw [IntKind.wrap_i64]; omega
    obtain ⟨r0, hr0⟩ : ∃ r0, mid = r0 := ⟨_, rfl⟩
    have hsr : a ≤ s0 ∧ s0 ≤ r0 ∧ r0 ≤ md ∧ n ≤ b + s0 ∧ r0 ≤ mid ∧ (s0 = a ∨ n = b + s0) ∧ (r0 = md ∨ mid = r0) := by omega
    clear hs0
    have HST := Lib.hid (show SeG f w g s0 r0 p d (.int .i64 (s0 : Nat)) (.int .i64 (mid : Nat)) (rowW w g d m) from ⟨s0, r0, m, Nat.le_refl _, hsr.2.1, Nat.le_refl _, rfl, by rw [hr0], rfl, fun c h1 h2 => by omega, fun c h1 h2 => by omega⟩)
    clear hr0
    go_enter Tryd.func68, Tryd.ntmps68
    go_wp2_with fail
    go_loopw [20, 21] (fun iv jv wr => SeG f w g s0 r0 p d iv jv wr) (fun iv jv _ => (intOf jv).toNat - (intOf iv).toNat)
    case atStart => exact HST.out
    case round =>
      obtain ⟨i, j, m1, hi, hij, hj, rfl, rfl, hwr, h1, h2⟩ := hrel
      by_cases hlt : i < j
      · as_aux_lemma =>
        obtain ⟨s, hs⟩ : ∃ s, i + j = s := ⟨_, rfl⟩
        obtain ⟨h, hh⟩ : ∃ h, s / 2 = h := ⟨_, rfl⟩
        have ws : IntKind.i64.wrap ((i : Int) + (j : Int)) = (s : Int) := by rw [IntKind.wrap_i64]; omega
        have hsh : (s : Int) / 2 = (h : Int) := by omega
        have hih : i ≤ h ∧ h < j := by omega
        obtain ⟨q, hq⟩ : ∃ q, p - h = q := ⟨_, rfl⟩
        have wq : IntKind.i64.wrap ((p : Int) - (h : Int)) = (q : Int) := by rw [IntKind.wrap_i64]; omega
        have hqr : md ≤ q ∧ q < b := by omega
        obtain ⟨x, hx⟩ : ∃ x, d[h]? = some x := ⟨_, List.getElem?_eq_getElem (by have := HL.out; omega)⟩
        obtain ⟨y, hy⟩ : ∃ y, d[q]? = some y := ⟨_, List.getElem?_eq_getElem (by have := HL.out; omega)⟩
        have hll : d.length = d0.length := by rw [HL.out, HL0.out]
        have cx : wr.cell? ⟨g, h, none⟩ = some (.int .i64 x) := by rw [hwr]; exact rowW_cell HH.out hll hx
        have cy : wr.cell? ⟨g, q, none⟩ = some (.int .i64 y) := by rw [hwr]; exact rowW_cell HH.out hll hy
        have hDx : D x := HD.out x (List.mem_of_getElem? hx)
        have hDy : D y := HD.out y (List.mem_of_getElem? hy)
        have hc := HC.out.at_ (m := m1) HL.out hDy hDx
        rw [← hwr] at hc
        have hfx := HF.out x hDx
        have hfy := HF.out y hDy
        have hqN : (q : Int) < (N : Int) := by omega
        have hhN : (h : Int) < (N : Int) := by omega
        have hy2 : d[p - h]? = some y := by rw [hq]; exact hy
        have HX := Lib.hid hx
        have HY := Lib.hid hy2
        have HWR := Lib.hid hwr
        have HI1 := Lib.hid h1
        have HI2 := Lib.hid h2
        clear hwr hy hy2 hx hDx hDy h1 h2 hs hh hll hq
        by_cases hlv : f y < f x
        · have hlv' : decide (f y - f x < 0) = true := decide_eq_true (by omega)
          have HN := Lib.hid (search_hi (r0 := r0) H1.out H2.out (by omega) hsr.2.2.1 (by omega) (by omega) HX.out HY.out (by omega))
          go_wp2_with fail
          go_quiet ((go_at_fn gf; refine Calls.quiet_of (hc _)))
          go_wp2_with fail
          go_roundw
          case rel => exact ⟨i, h, m1 + nq, by omega, by omega, by omega, rfl, rfl, by rw [HWR.out, rowW_drewN], HI1.out, HN.out⟩
          case measure => simp [intOf]; omega
        · have hlv' : decide (f y - f x < 0) = false := decide_eq_false (by omega)
          have HN := Lib.hid (search_lo (s0 := s0) H1.out H2.out hsr.1 (by omega) (by omega) (by omega) (by omega) HX.out HY.out (by omega))
          go_wp2_with fail
          go_quiet ((go_at_fn gf; refine Calls.quiet_of (hc _)))
          go_wp2_with fail
          go_roundw
          case rel => exact ⟨h + 1, j, m1 + nq, by omega, by omega, hj, by go_num, rfl, by rw [HWR.out, rowW_drewN], HN.out, HI2.out⟩
          case measure => simp [intOf]; omega
      · as_aux_lemma =>
        obtain rfl : j = i := by omega
        obtain ⟨e, he⟩ : ∃ e, n - j = e := ⟨_, rfl⟩
        have we : IntKind.i64.wrap ((n : Int) - (j : Int)) = (e : Int) := by rw [IntKind.wrap_i64]; omega
        have hcut : Cut f d a md b j (mid + md - j) := cut_of_search (r0 := r0) (s0 := s0) H1.out H2.out (by omega) (by rw [HL.out]; omega) hi hj hsr.1 hsr.2.2.1 (by omega) (by omega) (fun c c1 c2 x y => by rw [show mid + md - 1 - c = p - c by omega]; exact h1 c c1 c2 x y) (fun c c1 c2 x y => by rw [show mid + md - 1 - c = p - c by omega]; exact h2 c c1 c2 x y) (fun h => by omega) (fun h => by omega)
        rw [show mid + md - j = e by omega] at hcut
        have hje : j ≤ md ∧ md ≤ e ∧ e ≤ b ∧ j + (e - md) = mid ∧ a ≤ j := by omega
        have HMID := Lib.hid (show ∀ d', Rot d d' j md e → Pm j e d d' → Mid f d d' a b j mid e from fun d' hr hpm => by
          obtain ⟨k1, k2, k3, k4, k5⟩ := sym_cross H1.out H2.out hcut hje.2.2.2.2 hje.1 hje.2.1 hje.2.2.1 hje.2.2.2.1 hr
          exact ⟨k1, k2, k3, k4, k5, hpm.mono (by omega) (by omega)⟩)
        -- the two halves
        have HALF := Lib.hid (show ∀ (d1 d2 d3 : List Int), Mid f d d1 a b j mid e → Pm a mid d1 d2 → Srt f d2 a mid → Pm mid b d2 d3 → Srt f d3 mid b → Srt f d3 a b ∧ Pm a b d d3 from fun d1 d2 d3 hm p1 q1 p2 q2 => by
          refine ⟨sym_join (q1.out (fun i _ h2 => p2.out i (by omega)) (Nat.le_refl _) (Nat.le_refl _)) q2 (cross_keep hm.cross p1 p2), (hm.pm.trans (p1.mono (Nat.le_refl _) (by omega))).trans (p2.mono (by omega) (Nat.le_refl _))⟩)
        have HWR := Lib.hid hwr
        clear hcut hwr h1 h2 he
        obtain ⟨bb0, hbb0⟩ : ∃ bb0, decide (j < md ∧ md < e) = bb0 := ⟨_, rfl⟩
        have HBB0 := Lib.hid hbb0
        clear hbb0
        go_upto_region 39 with fail
        go_cut [185] (fun s wx => s = .bool bb0 ∧ wr = wx)
        case first =>
          as_aux_lemma =>
          by_cases c1 : j < md
          · have e1 : decide (j < md) = true := decide_eq_true (by omega)
            by_cases c2 : md < e
            · have e2 : decide (md < e) = true := decide_eq_true (by omega)
              have HE := Lib.hid (show decide (j < md ∧ md < e) = true from decide_eq_true ⟨c1, c2⟩)
              clear c1 c2
              go_wp2_with fail
              go_meet
              exact ⟨by rw [← HBB0.out, HE.out], rfl⟩
            · have e2 : decide (md < e) = false := decide_eq_false (by omega)
              have HE := Lib.hid (show decide (j < md ∧ md < e) = false from decide_eq_false (by omega))
              clear c1 c2
              go_wp2_with fail
              go_meet
              exact ⟨by rw [← HBB0.out, HE.out], rfl⟩
          · have e1 : decide (j < md) = false := decide_eq_false (by omega)
            have HE := Lib.hid (show decide (j < md ∧ md < e) = false from decide_eq_false (by omega))
            clear c1
            go_wp2_with fail
            go_meet
            exact ⟨by rw [← HBB0.out, HE.out], rfl⟩
        case rest =>
        obtain ⟨rfl, rfl⟩ := hcut
        go_upto_if 185 with fail
        go_cut [] (fun wx => ∃ (d1 : List Int) (m2 : Nat), wx = rowW w g d1 m2 ∧ Mid f d d1 a b j mid e)
        case first =>
          as_aux_lemma =>
          by_cases c : j < md ∧ md < e
          · obtain rfl : bb0 = true := by rw [← HBB0.out]; exact decide_eq_true c
            have C := Lib.hid (CR.out d m1 j md e HL.out c.1 c.2 (by omega))
            rw [← HWR.out] at C
            clear c
            go_wp2_with fail
            refine C.out.mono ?_
            rintro _ w3 ⟨rfl, m3, d3, hw3, hr, hp⟩
            have HW3 := Lib.hid hw3
            have HM3 := Lib.hid (HMID.out d3 hr hp)
            clear hw3 hr hp
            go_wp2_with fail
            go_meet
            exact ⟨d3, m3, HW3.out, HM3.out⟩
          · obtain rfl : bb0 = false := by rw [← HBB0.out]; exact decide_eq_false c
            have HM3 := Lib.hid (show Mid f d d a b j mid e from by
              by_cases c1 : j < md
              · exact HMID.out d (by rw [show e = md by omega]; exact rot_id_right d j md) (Pm.refl _ _ _)
              · exact HMID.out d (by rw [show j = md by omega]; exact rot_id_left d md e) (Pm.refl _ _ _))
            clear c
            go_wp2_with fail
            go_meet
            exact ⟨d, m1, HWR.out, HM3.out⟩
        case rest =>
        obtain ⟨d1, m2, hw1, hM⟩ := hcut
        clear HWR
        subst hw1
        have HM := Lib.hid hM
        have hl1 : d1.length = N := by rw [hM.pm.len, HL.out]
        have HL1 := Lib.hid hl1
        have HD1 := Lib.hid (show ∀ x ∈ d1, D x from hM.pm.mem HD.out)
        clear hM hl1
        obtain ⟨w5, hw5⟩ : ∃ w5, w5 = rowW w g d1 m2 := ⟨_, rfl⟩
        have HW5 := Lib.hid hw5
        rw [← hw5]
        clear hw5
        obtain ⟨bb1, hbb1⟩ : ∃ bb1, decide (a < j ∧ j < mid) = bb1 := ⟨_, rfl⟩
        have HBB1 := Lib.hid hbb1
        clear hbb1
        go_upto_region 41 with fail
        go_cut [199] (fun s wx => s = .bool bb1 ∧ w5 = wx)
        case first =>
          as_aux_lemma =>
          by_cases c1 : a < j
          · have e1 : decide (a < j) = true := decide_eq_true (by omega)
            by_cases c2 : j < mid
            · have e2 : decide (j < mid) = true := decide_eq_true (by omega)
              have HE := Lib.hid (show decide (a < j ∧ j < mid) = true from decide_eq_true ⟨c1, c2⟩)
              clear c1 c2
              go_wp2_with fail
              go_meet
              exact ⟨by rw [← HBB1.out, HE.out], rfl⟩
            · have e2 : decide (j < mid) = false := decide_eq_false (by omega)
              have HE := Lib.hid (show decide (a < j ∧ j < mid) = false from decide_eq_false (by omega))
              clear c1 c2
              go_wp2_with fail
              go_meet
              exact ⟨by rw [← HBB1.out, HE.out], rfl⟩
          · have e1 : decide (a < j) = false := decide_eq_false (by omega)
            have HE := Lib.hid (show decide (a < j ∧ j < mid) = false from decide_eq_false (by omega))
            clear c1
            go_wp2_with fail
            go_meet
            exact ⟨by rw [← HBB1.out, HE.out], rfl⟩
        case rest =>
        obtain ⟨rfl, rfl⟩ := hcut
        go_upto_if 199 with fail
        go_cut [] (fun wx => ∃ (d2 : List Int) (m3 : Nat), wx = rowW w g d2 m3 ∧ Pm a mid d1 d2 ∧ Srt f d2 a mid)
        case first =>
          as_aux_lemma =>
          by_cases c : a < j ∧ j < mid
          · obtain rfl : bb1 = true := by rw [← HBB1.out]; exact decide_eq_true c
            have C := Lib.hid (HIH.out a j mid m2 d1 (by omega) c.1 c.2 (by omega) HL1.out HD1.out HM.out.s1 HM.out.s2)
            rw [← HW5.out] at C
            clear c
            go_wp2_with fail
            refine C.out.mono ?_
            rintro _ w3 ⟨rfl, m3, d3, hw3, hr, hp⟩
            have HW3 := Lib.hid hw3
            have HM3 := Lib.hid hr
            have HP3 := Lib.hid hp
            clear hw3 hr hp
            go_wp2_with fail
            go_meet
            exact ⟨d3, m3, HW3.out, HP3.out, HM3.out⟩
          · obtain rfl : bb1 = false := by rw [← HBB1.out]; exact decide_eq_false c
            have HM3 := Lib.hid (show Srt f d1 a mid from by
              by_cases c1 : a < j
              · rw [show mid = j by omega]; exact HM.out.s1
              · have h := HM.out.s2
                rw [show j = a by omega] at h
                exact h)
            clear c
            go_wp2_with fail
            go_meet
            exact ⟨d1, m2, HW5.out, Pm.refl _ _ _, HM3.out⟩
        case rest =>
        obtain ⟨d2, m3, hw2, hp2, hs2⟩ := hcut
        clear HW5
        subst hw2
        have HL2 := Lib.hid (show d2.length = N by rw [hp2.len, HL1.out])
        have HD2 := Lib.hid (show ∀ x ∈ d2, D x from hp2.mem HD1.out)
        have HS3 := Lib.hid (show Srt f d2 mid e from HM.out.s3.out (fun i k1 k2 => hp2.out i (by omega)) (Nat.le_refl _) (Nat.le_refl _))
        have HS4 := Lib.hid (show Srt f d2 e b from HM.out.s4.out (fun i k1 k2 => hp2.out i (by omega)) (Nat.le_refl _) (Nat.le_refl _))
        have HP2 := Lib.hid hp2
        have HS2 := Lib.hid hs2
        clear hp2 hs2
        obtain ⟨w6, hw6⟩ : ∃ w6, w6 = rowW w g d2 m3 := ⟨_, rfl⟩
        have HW6 := Lib.hid hw6
        rw [← hw6]
        clear hw6
        obtain ⟨bb2, hbb2⟩ : ∃ bb2, decide (mid < e ∧ e < b) = bb2 := ⟨_, rfl⟩
        have HBB2 := Lib.hid hbb2
        clear hbb2
        go_upto_region 43 with fail
        go_cut [213] (fun s wx => s = .bool bb2 ∧ w6 = wx)
        case first =>
          as_aux_lemma =>
          by_cases c1 : mid < e
          · have e1 : decide (mid < e) = true := decide_eq_true (by omega)
            by_cases c2 : e < b
            · have e2 : decide (e < b) = true := decide_eq_true (by omega)
              have HE := Lib.hid (show decide (mid < e ∧ e < b) = true from decide_eq_true ⟨c1, c2⟩)
              clear c1 c2
              go_wp2_with fail
              go_meet
              exact ⟨by rw [← HBB2.out, HE.out], rfl⟩
            · have e2 : decide (e < b) = false := decide_eq_false (by omega)
              have HE := Lib.hid (show decide (mid < e ∧ e < b) = false from decide_eq_false (by omega))
              clear c1 c2
              go_wp2_with fail
              go_meet
              exact ⟨by rw [← HBB2.out, HE.out], rfl⟩
          · have e1 : decide (mid < e) = false := decide_eq_false (by omega)
            have HE := Lib.hid (show decide (mid < e ∧ e < b) = false from decide_eq_false (by omega))
            clear c1
            go_wp2_with fail
            go_meet
            exact ⟨by rw [← HBB2.out, HE.out], rfl⟩
        case rest =>
        obtain ⟨rfl, rfl⟩ := hcut
        by_cases c : mid < e ∧ e < b
        · obtain rfl : bb2 = true := by rw [← HBB2.out]; exact decide_eq_true c
          have C := Lib.hid (HIH.out mid e b m3 d2 (by omega) c.1 c.2 (by omega) HL2.out HD2.out HS3.out HS4.out)
          rw [← HW6.out] at C
          clear c
          go_wp2_with fail
          refine C.out.mono ?_
          rintro _ w3 ⟨rfl, m4, d3, hw3, hr, hp⟩
          have HW3 := Lib.hid hw3
          have HM3 := Lib.hid (HALF.out d1 d2 d3 HM.out HP2.out HS2.out hp hr)
          clear hw3 hr hp
          go_wp2_with fail
          go_end0
          exact ⟨rfl, m4, d3, HW3.out, HM3.out⟩
        · obtain rfl : bb2 = false := by rw [← HBB2.out]; exact decide_eq_false c
          have HM3 := Lib.hid (HALF.out d1 d2 d2 HM.out HP2.out HS2.out (Pm.refl _ _ _) (by
            by_cases c1 : mid < e
            · rw [show b = e by omega]; exact HS3.out
            · have h := HS4.out
              rw [show e = mid by omega] at h
              exact h))
          clear c
          go_wp2_with fail
          go_end0
          exact ⟨rfl, m3, d2, HW6.out, HM3.out⟩

  · obtain ⟨s0, hs0⟩ : ∃ s0, a = s0 := ⟨_, rfl⟩
    obtain ⟨r0, hr0⟩ : ∃ r0, md = r0 := ⟨_, rfl⟩
    have hsr : a ≤ s0 ∧ s0 ≤ r0 ∧ r0 ≤ md ∧ n ≤ b + s0 ∧ r0 ≤ mid ∧ (s0 = a ∨ n = b + s0) ∧ (r0 = md ∨ mid = r0) := by omega
    have HST := Lib.hid (show SeG f w g s0 r0 p d (.int .i64 (a : Nat)) (.int .i64 (md : Nat)) (rowW w g d m) from ⟨s0, r0, m, Nat.le_refl _, hsr.2.1, Nat.le_refl _, by rw [hs0], by rw [hr0], rfl, fun c h1 h2 => by omega, fun c h1 h2 => by omega⟩)
    clear hr0 hs0
    go_enter Tryd.func68, Tryd.ntmps68
    go_wp2_with fail
    go_loopw [20, 21] (fun iv jv wr => SeG f w g s0 r0 p d iv jv wr) (fun iv jv _ => (intOf jv).toNat - (intOf iv).toNat)
    case atStart => exact HST.out
    case round =>
      obtain ⟨i, j, m1, hi, hij, hj, rfl, rfl, hwr, h1, h2⟩ := hrel
      by_cases hlt : i < j
      · as_aux_lemma =>
        obtain ⟨s, hs⟩ : ∃ s, i + j = s := ⟨_, rfl⟩
        obtain ⟨h, hh⟩ : ∃ h, s / 2 = h := ⟨_, rfl⟩
        have ws : IntKind.i64.wrap ((i : Int) + (j : Int)) = (s : Int) := by rw [IntKind.wrap_i64]; omega
        have hsh : (s : Int) / 2 = (h : Int) := by omega
        have hih : i ≤ h ∧ h < j := by omega
        obtain ⟨q, hq⟩ : ∃ q, p - h = q := ⟨_, rfl⟩
        have wq : IntKind.i64.wrap ((p : Int) - (h : Int)) = (q : Int) := by rw [IntKind.wrap_i64]; omega
        have hqr : md ≤ q ∧ q < b := by omega
        obtain ⟨x, hx⟩ : ∃ x, d[h]? = some x := ⟨_, List.getElem?_eq_getElem (by have := HL.out; omega)⟩
        obtain ⟨y, hy⟩ : ∃ y, d[q]? = some y := ⟨_, List.getElem?_eq_getElem (by have := HL.out; omega)⟩
        have hll : d.length = d0.length := by rw [HL.out, HL0.out]
        have cx : wr.cell? ⟨g, h, none⟩ = some (.int .i64 x) := by rw [hwr]; exact rowW_cell HH.out hll hx
        have cy : wr.cell? ⟨g, q, none⟩ = some (.int .i64 y) := by rw [hwr]; exact rowW_cell HH.out hll hy
        have hDx : D x := HD.out x (List.mem_of_getElem? hx)
        have hDy : D y := HD.out y (List.mem_of_getElem? hy)
        have hc := HC.out.at_ (m := m1) HL.out hDy hDx
        rw [← hwr] at hc
        have hfx := HF.out x hDx
        have hfy := HF.out y hDy
        have hqN : (q : Int) < (N : Int) := by omega
        have hhN : (h : Int) < (N : Int) := by omega
        have hy2 : d[p - h]? = some y := by rw [hq]; exact hy
        have HX := Lib.hid hx
        have HY := Lib.hid hy2
        have HWR := Lib.hid hwr
        have HI1 := Lib.hid h1
        have HI2 := Lib.hid h2
        clear hwr hy hy2 hx hDx hDy h1 h2 hs hh hll hq
        by_cases hlv : f y < f x
        · have hlv' : decide (f y - f x < 0) = true := decide_eq_true (by omega)
          have HN := Lib.hid (search_hi (r0 := r0) H1.out H2.out (by omega) hsr.2.2.1 (by omega) (by omega) HX.out HY.out (by omega))
          go_wp2_with fail
          go_quiet ((go_at_fn gf; refine Calls.quiet_of (hc _)))
          go_wp2_with fail
          go_roundw
          case rel => exact ⟨i, h, m1 + nq, by omega, by omega, by omega, rfl, rfl, by rw [HWR.out, rowW_drewN], HI1.out, HN.out⟩
          case measure => simp [intOf]; omega
        · have hlv' : decide (f y - f x < 0) = false := decide_eq_false (by omega)
          have HN := Lib.hid (search_lo (s0 := s0) H1.out H2.out hsr.1 (by omega) (by omega) (by omega) (by omega) HX.out HY.out (by omega))
          go_wp2_with fail
          go_quiet ((go_at_fn gf; refine Calls.quiet_of (hc _)))
          go_wp2_with fail
          go_roundw
          case rel => exact ⟨h + 1, j, m1 + nq, by omega, by omega, hj, by go_num, rfl, by rw [HWR.out, rowW_drewN], HN.out, HI2.out⟩
          case measure => simp [intOf]; omega
      · as_aux_lemma =>
        obtain rfl : j = i := by omega
        obtain ⟨e, he⟩ : ∃ e, n - j = e := ⟨_, rfl⟩
        have we : IntKind.i64.wrap ((n : Int) - (j : Int)) = (e : Int) := by rw [IntKind.wrap_i64]; omega
        have hcut : Cut f d a md b j (mid + md - j) := cut_of_search (r0 := r0) (s0 := s0) H1.out H2.out (by omega) (by rw [HL.out]; omega) hi hj hsr.1 hsr.2.2.1 (by omega) (by omega) (fun c c1 c2 x y => by rw [show mid + md - 1 - c = p - c by omega]; exact h1 c c1 c2 x y) (fun c c1 c2 x y => by rw [show mid + md - 1 - c = p - c by omega]; exact h2 c c1 c2 x y) (fun h => by omega) (fun h => by omega)
        rw [show mid + md - j = e by omega] at hcut
        have hje : j ≤ md ∧ md ≤ e ∧ e ≤ b ∧ j + (e - md) = mid ∧ a ≤ j := by omega
        have HMID := Lib.hid (show ∀ d', Rot d d' j md e → Pm j e d d' → Mid f d d' a b j mid e from fun d' hr hpm => by
          obtain ⟨k1, k2, k3, k4, k5⟩ := sym_cross H1.out H2.out hcut hje.2.2.2.2 hje.1 hje.2.1 hje.2.2.1 hje.2.2.2.1 hr
          exact ⟨k1, k2, k3, k4, k5, hpm.mono (by omega) (by omega)⟩)
        -- the two halves
        have HALF := Lib.hid (show ∀ (d1 d2 d3 : List Int), Mid f d d1 a b j mid e → Pm a mid d1 d2 → Srt f d2 a mid → Pm mid b d2 d3 → Srt f d3 mid b → Srt f d3 a b ∧ Pm a b d d3 from fun d1 d2 d3 hm p1 q1 p2 q2 => by
          refine ⟨sym_join (q1.out (fun i _ h2 => p2.out i (by omega)) (Nat.le_refl _) (Nat.le_refl _)) q2 (cross_keep hm.cross p1 p2), (hm.pm.trans (p1.mono (Nat.le_refl _) (by omega))).trans (p2.mono (by omega) (Nat.le_refl _))⟩)
        have HWR := Lib.hid hwr
        clear hcut hwr h1 h2 he
        obtain ⟨bb0, hbb0⟩ : ∃ bb0, decide (j < md ∧ md < e) = bb0 := ⟨_, rfl⟩
        have HBB0 := Lib.hid hbb0
        clear hbb0
        go_upto_region 39 with fail
        go_cut [185] (fun s wx => s = .bool bb0 ∧ wr = wx)
        case first =>
          as_aux_lemma =>
          by_cases c1 : j < md
          · have e1 : decide (j < md) = true := decide_eq_true (by omega)
            by_cases c2 : md < e
            · have e2 : decide (md < e) = true := decide_eq_true (by omega)
              have HE := Lib.hid (show decide (j < md ∧ md < e) = true from decide_eq_true ⟨c1, c2⟩)
              clear c1 c2
              go_wp2_with fail
              go_meet
              exact ⟨by rw [← HBB0.out, HE.out], rfl⟩
            · have e2 : decide (md < e) = false := decide_eq_false (by omega)
              have HE := Lib.hid (show decide (j < md ∧ md < e) = false from decide_eq_false (by omega))
              clear c1 c2
              go_wp2_with fail
              go_meet
              exact ⟨by rw [← HBB0.out, HE.out], rfl⟩
          · have e1 : decide (j < md) = false := decide_eq_false (by omega)
            have HE := Lib.hid (show decide (j < md ∧ md < e) = false from decide_eq_false (by omega))
            clear c1
            go_wp2_with fail
            go_meet
            exact ⟨by rw [← HBB0.out, HE.out], rfl⟩
        case rest =>
        obtain ⟨rfl, rfl⟩ := hcut
        go_upto_if 185 with fail
        go_cut [] (fun wx => ∃ (d1 : List Int) (m2 : Nat), wx = rowW w g d1 m2 ∧ Mid f d d1 a b j mid e)
        case first =>
          as_aux_lemma =>
          by_cases c : j < md ∧ md < e
          · obtain rfl : bb0 = true := by rw [← HBB0.out]; exact decide_eq_true c
            have C := Lib.hid (CR.out d m1 j md e HL.out c.1 c.2 (by omega))
            rw [← HWR.out] at C
            clear c
            go_wp2_with fail
            refine C.out.mono ?_
            rintro _ w3 ⟨rfl, m3, d3, hw3, hr, hp⟩
            have HW3 := Lib.hid hw3
            have HM3 := Lib.hid (HMID.out d3 hr hp)
            clear hw3 hr hp
            go_wp2_with fail
            go_meet
            exact ⟨d3, m3, HW3.out, HM3.out⟩
          · obtain rfl : bb0 = false := by rw [← HBB0.out]; exact decide_eq_false c
            have HM3 := Lib.hid (show Mid f d d a b j mid e from by
              by_cases c1 : j < md
              · exact HMID.out d (by rw [show e = md by omega]; exact rot_id_right d j md) (Pm.refl _ _ _)
              · exact HMID.out d (by rw [show j = md by omega]; exact rot_id_left d md e) (Pm.refl _ _ _))
            clear c
            go_wp2_with fail
            go_meet
            exact ⟨d, m1, HWR.out, HM3.out⟩
        case rest =>
        obtain ⟨d1, m2, hw1, hM⟩ := hcut
        clear HWR
        subst hw1
        have HM := Lib.hid hM
        have hl1 : d1.length = N := by rw [hM.pm.len, HL.out]
        have HL1 := Lib.hid hl1
        have HD1 := Lib.hid (show ∀ x ∈ d1, D x from hM.pm.mem HD.out)
        clear hM hl1
        obtain ⟨w5, hw5⟩ : ∃ w5, w5 = rowW w g d1 m2 := ⟨_, rfl⟩
        have HW5 := Lib.hid hw5
        rw [← hw5]
        clear hw5
        obtain ⟨bb1, hbb1⟩ : ∃ bb1, decide (a < j ∧ j < mid) = bb1 := ⟨_, rfl⟩
        have HBB1 := Lib.hid hbb1
        clear hbb1
        go_upto_region 41 with fail
        go_cut [199] (fun s wx => s = .bool bb1 ∧ w5 = wx)
        case first =>
          as_aux_lemma =>
          by_cases c1 : a < j
          · have e1 : decide (a < j) = true := decide_eq_true (by omega)
            by_cases c2 : j < mid
            · have e2 : decide (j < mid) = true := decide_eq_true (by omega)
              have HE := Lib.hid (show decide (a < j ∧ j < mid) = true from decide_eq_true ⟨c1, c2⟩)
              clear c1 c2
              go_wp2_with fail
              go_meet
              exact ⟨by rw [← HBB1.out, HE.out], rfl⟩
            · have e2 : decide (j < mid) = false := decide_eq_false (by omega)
              have HE := Lib.hid (show decide (a < j ∧ j < mid) = false from decide_eq_false (by omega))
              clear c1 c2
              go_wp2_with fail
              go_meet
              exact ⟨by rw [← HBB1.out, HE.out], rfl⟩
          · have e1 : decide (a < j) = false := decide_eq_false (by omega)
            have HE := Lib.hid (show decide (a < j ∧ j < mid) = false from decide_eq_false (by omega))
            clear c1
            go_wp2_with fail
            go_meet
            exact ⟨by rw [← HBB1.out, HE.out], rfl⟩
        case rest =>
        obtain ⟨rfl, rfl⟩ := hcut
        go_upto_if 199 with fail
        go_cut [] (fun wx => ∃ (d2 : List Int) (m3 : Nat), wx = rowW w g d2 m3 ∧ Pm a mid d1 d2 ∧ Srt f d2 a mid)
        case first =>
          as_aux_lemma =>
          by_cases c : a < j ∧ j < mid
          · obtain rfl : bb1 = true := by rw [← HBB1.out]; exact decide_eq_true c
            have C := Lib.hid (HIH.out a j mid m2 d1 (by omega) c.1 c.2 (by omega) HL1.out HD1.out HM.out.s1 HM.out.s2)
            rw [← HW5.out] at C
            clear c
            go_wp2_with fail
            refine C.out.mono ?_
            rintro _ w3 ⟨rfl, m3, d3, hw3, hr, hp⟩
            have HW3 := Lib.hid hw3
            have HM3 := Lib.hid hr
            have HP3 := Lib.hid hp
            clear hw3 hr hp
            go_wp2_with fail
            go_meet
            exact ⟨d3, m3, HW3.out, HP3.out, HM3.out⟩
          · obtain rfl : bb1 = false := by rw [← HBB1.out]; exact decide_eq_false c
            have HM3 := Lib.hid (show Srt f d1 a mid from by
              by_cases c1 : a < j
              · rw [show mid = j by omega]; exact HM.out.s1
              · have h := HM.out.s2
                rw [show j = a by omega] at h
                exact h)
            clear c
            go_wp2_with fail
            go_meet
            exact ⟨d1, m2, HW5.out, Pm.refl _ _ _, HM3.out⟩
        case rest =>
        obtain ⟨d2, m3, hw2, hp2, hs2⟩ := hcut
        clear HW5
        subst hw2
        have HL2 := Lib.hid (show d2.length = N by rw [hp2.len, HL1.out])
        have HD2 := Lib.hid (show ∀ x ∈ d2, D x from hp2.mem HD1.out)
        have HS3 := Lib.hid (show Srt f d2 mid e from HM.out.s3.out (fun i k1 k2 => hp2.out i (by omega)) (Nat.le_refl _) (Nat.le_refl _))
        have HS4 := Lib.hid (show Srt f d2 e b from HM.out.s4.out (fun i k1 k2 => hp2.out i (by omega)) (Nat.le_refl _) (Nat.le_refl _))
        have HP2 := Lib.hid hp2
        have HS2 := Lib.hid hs2
        clear hp2 hs2
        obtain ⟨w6, hw6⟩ : ∃ w6, w6 = rowW w g d2 m3 := ⟨_, rfl⟩
        have HW6 := Lib.hid hw6
        rw [← hw6]
        clear hw6
        obtain ⟨bb2, hbb2⟩ : ∃ bb2, decide (mid < e ∧ e < b) = bb2 := ⟨_, rfl⟩
        have HBB2 := Lib.hid hbb2
        clear hbb2
        go_upto_region 43 with fail
        go_cut [213] (fun s wx => s = .bool bb2 ∧ w6 = wx)
        case first =>
          as_aux_lemma =>
          by_cases c1 : mid < e
          · have e1 : decide (mid < e) = true := decide_eq_true (by omega)
            by_cases c2 : e < b
            · have e2 : decide (e < b) = true := decide_eq_true (by omega)
              have HE := Lib.hid (show decide (mid < e ∧ e < b) = true from decide_eq_true ⟨c1, c2⟩)
              clear c1 c2
              go_wp2_with fail
              go_meet
              exact ⟨by rw [← HBB2.out, HE.out], rfl⟩
            · have e2 : decide (e < b) = false := decide_eq_false (by omega)
              have HE := Lib.hid (show decide (mid < e ∧ e < b) = false from decide_eq_false (by omega))
              clear c1 c2
              go_wp2_with fail
              go_meet
              exact ⟨by rw [← HBB2.out, HE.out], rfl⟩
          · have e1 : decide (mid < e) = false := decide_eq_false (by omega)
            have HE := Lib.hid (show decide (mid < e ∧ e < b) = false from decide_eq_false (by omega))
            clear c1
            go_wp2_with fail
            go_meet
            exact ⟨by rw [← HBB2.out, HE.out], rfl⟩
        case rest =>
        obtain ⟨rfl, rfl⟩ := hcut
        by_cases c : mid < e ∧ e < b
        · obtain rfl : bb2 = true := by rw [← HBB2.out]; exact decide_eq_true c
          have C := Lib.hid (HIH.out mid e b m3 d2 (by omega) c.1 c.2 (by omega) HL2.out HD2.out HS3.out HS4.out)
          rw [← HW6.out] at C
          clear c
          go_wp2_with fail
          refine C.out.mono ?_
          rintro _ w3 ⟨rfl, m4, d3, hw3, hr, hp⟩
          have HW3 := Lib.hid hw3
          have HM3 := Lib.hid (HALF.out d1 d2 d3 HM.out HP2.out HS2.out hp hr)
          clear hw3 hr hp
          go_wp2_with fail
          go_end0
          exact ⟨rfl, m4, d3, HW3.out, HM3.out⟩
        · obtain rfl : bb2 = false := by rw [← HBB2.out]; exact decide_eq_false c
          have HM3 := Lib.hid (HALF.out d1 d2 d2 HM.out HP2.out HS2.out (Pm.refl _ _ _) (by
            by_cases c1 : mid < e
            · rw [show b = e by omega]; exact HS3.out
            · have h := HS4.out
              rw [show e = mid by omega] at h
              exact h))
          clear c
          go_wp2_with fail
          go_end0
          exact ⟨rfl, m3, d2, HW6.out, HM3.out⟩

end Go.Proofs.YtgchepkcjkhmmaaDoor.srt
namespace Go.Proofs.YtgchepkcjkhmmaaDoor.srt
open Go.RowKit Go.Sort
/-! ### plain: blocks -/
def Bls (f : Int → Int) (d : List Int) (bs n : Nat) : Prop := ∀ i, Srt f d (bs * i) (min (bs * i + bs) n)
structure Mrg (f : Int → Int) (d : List Int) (bs n A : Nat) : Prop where
  at_ : ∃ k, A = 2 * bs * k
  done : ∀ i, 2 * bs * i + 2 * bs ≤ A → Srt f d (2 * bs * i) (2 * bs * i + 2 * bs)
  todo : ∀ i, A ≤ bs * i → Srt f d (bs * i) (min (bs * i + bs) n)
theorem srt_empty {f : Int → Int} {d : List Int} {a b : Nat} (h : b ≤ a + 1) : Srt f d a b := Srt.one h
theorem Mrg.start {f : Int → Int} {d : List Int} {bs n : Nat} (h : Bls f d bs n) (_hb : 0 < bs) : Mrg f d bs n 0 :=
  ⟨⟨0, rfl⟩, fun i hi => by omega, fun i _ => h i⟩
theorem Mrg.left {f : Int → Int} {d : List Int} {bs n A : Nat} (h : Mrg f d bs n A) (hn : A + bs ≤ n) : Srt f d A (A + bs) := by
  obtain ⟨k, hk⟩ := h.at_
  have := h.todo (2 * k) (by rw [hk, Nat.mul_comm 2 bs, Nat.mul_assoc]; exact Nat.le_refl _)
  rw [show bs * (2 * k) = A by rw [hk, Nat.mul_comm 2 bs, Nat.mul_assoc], Nat.min_eq_left hn] at this
  exact this
theorem Mrg.right {f : Int → Int} {d : List Int} {bs n A : Nat} (h : Mrg f d bs n A) {b : Nat} (hb : b = min (A + bs + bs) n) : Srt f d (A + bs) b := by
  obtain ⟨k, hk⟩ := h.at_
  have e : bs * (2 * k + 1) = A + bs := by rw [hk, Nat.mul_add, Nat.mul_one, Nat.mul_comm 2 bs, Nat.mul_assoc]
  have := h.todo (2 * k + 1) (by omega)
  rw [e, ← hb] at this
  exact this
theorem Mrg.lt_of {bs A i : Nat} {k : Nat} (hk : A = 2 * bs * k) (h : ¬ 2 * bs * i + 2 * bs ≤ A) : A ≤ 2 * bs * i := by
  subst hk
  rcases Nat.lt_or_ge i k with h1 | h1
  · exfalso; apply h
    have := Nat.mul_le_mul_left (2 * bs) (show i + 1 ≤ k by omega)
    rw [Nat.mul_add, Nat.mul_one] at this
    exact this
  · exact Nat.mul_le_mul_left _ h1
theorem Mrg.step {f : Int → Int} {d d' : List Int} {bs n A b : Nat} (h : Mrg f d bs n A) (eb : b = A + 2 * bs) (hs : Srt f d' A b) (hp : Pm A b d d') : Mrg f d' bs n b := by
  subst eb
  obtain ⟨k, hk⟩ := h.at_
  refine ⟨⟨k + 1, by rw [hk, Nat.mul_add, Nat.mul_one]⟩, fun i hi => ?_, fun i hi => ?_⟩
  · by_cases h1 : 2 * bs * i + 2 * bs ≤ A
    · exact (h.done i h1).out (fun j j1 j2 => hp.out j (by omega)) (Nat.le_refl _) (Nat.le_refl _)
    · have := Mrg.lt_of hk h1
      have e : 2 * bs * i = A := by omega
      rw [e]; exact hs
  · exact (h.todo i (by omega)).out (fun j j1 j2 => hp.out j (by omega)) (Nat.le_refl _) (Nat.le_refl _)
theorem Mrg.stop {f : Int → Int} {d d' : List Int} {bs n A : Nat} (h : Mrg f d bs n A) (hA : A ≤ n) (hs : Srt f d' A n) (hp : Pm A n d d') : Bls f d' (2 * bs) n := fun i => by
  obtain ⟨k, hk⟩ := h.at_
  by_cases h1 : 2 * bs * i + 2 * bs ≤ A
  · rw [Nat.min_eq_left (by omega)]
    exact (h.done i h1).out (fun j j1 j2 => hp.out j (by omega)) (Nat.le_refl _) (Nat.le_refl _)
  · have := Mrg.lt_of hk h1
    exact hs.less this (Nat.min_le_right _ _)
theorem Mrg.rest {f : Int → Int} {d : List Int} {bs n A : Nat} (h : Mrg f d bs n A) (hn : n ≤ A + bs) : Srt f d A n := by
  obtain ⟨k, hk⟩ := h.at_
  have e : bs * (2 * k) = A := by rw [hk, Nat.mul_comm 2 bs, Nat.mul_assoc]
  have := h.todo (2 * k) (by rw [e]; exact Nat.le_refl _)
  rw [e, Nat.min_eq_right hn] at this
  exact this
theorem bls_20 {f : Int → Int} {d d' : List Int} {n k : Nat} (h : ∀ i, i < k → Srt f d (20 * i) (20 * i + 20)) (hk : 20 * k ≤ n) (hn : n < 20 * k + 20) (hs : Srt f d' (20 * k) n) (hp : Pm (20 * k) n d d') : Bls f d' 20 n := fun i => by
  by_cases h1 : i < k
  · rw [Nat.min_eq_left (by omega)]
    exact (h i h1).out (fun j j1 j2 => hp.out j (by omega)) (Nat.le_refl _) (Nat.le_refl _)
  · exact hs.less (by omega) (Nat.min_le_right _ _)
/-! ### symMerge -/
theorem sym_any {w : World} {g N cap gf : Nat} {cb : Array Value} {f : Int → Int} {D : Int → Prop} {d0 : List Int} (hH : Holds (Value.int .i64) w g 0 d0.toArray) (hl0 : d0.length = N) (hN : N ≤ 1000000) (hf : ∀ x, D x → -1 ≤ f x ∧ f x ≤ 1)
    (eg : ∀ args w, (callFunc gf args).run Tryd.prog w = .ok (.enter gf args) w) (hc : CmpOk gf cb f D w g N) (sz : Nat) :
    ∀ (a md b m : Nat) (d : List Int), b - a < sz → a < md → md < b → b ≤ N → d.length = N → (∀ x ∈ d, D x) → Srt f d a md → Srt f d md b → Calls Tryd.prog 68 #[.slice (some ⟨g, 0, none⟩) N cap, .int .i64 (a : Nat), .int .i64 (md : Nat), .int .i64 (b : Nat), .func (.func gf) #[] cb] (rowW w g d m) fun e w' => e = .returned (.tuple #[]) ∧ ∃ m' d', w' = rowW w g d' m' ∧ Srt f d' a b ∧ Pm a b d d' := by
  induction sz with
  | zero => intro a md b m d h; omega
  | succ sz ih =>
    intro a md b m d hsz ham hmb hb hl hD h1 h2
    by_cases e1 : a + 1 = md
    · subst e1
      exact sym_left hH hl0 hl hN hD hf eg hc hmb hb h2
    · by_cases e2 : md + 1 = b
      · subst e2
        exact sym_right hH hl0 hl hN hD hf eg hc (by omega) hb h1
      · exact sym_gen hH hl0 hN hf eg hc (b - a) (fun a' md' b' m' d' h => ih a' md' b' m' d' (by omega)) a md b m d rfl (by omega) (by omega) hb hl hD h1 h2
/-! ### stable -/
def StI (f : Int → Int) (w : World) (g n : Nat) (d : List Int) (av bv : Value) (wr : World) : Prop := ∃ (k m' : Nat) (d' : List Int), 20 * k ≤ n ∧ av = .int .i64 ((20 * k : Nat) : Int) ∧ bv = .int .i64 ((20 * k + 20 : Nat) : Int) ∧ wr = rowW w g d' m' ∧ (∀ i, i < k → Srt f d' (20 * i) (20 * i + 20)) ∧ Pm 0 n d d'
def StO (f : Int → Int) (w : World) (g n : Nat) (d : List Int) (sv : Value) (wr : World) : Prop := ∃ (bs m' : Nat) (d' : List Int), 0 < bs ∧ bs ≤ 2000040 ∧ sv = .int .i64 (bs : Nat) ∧ wr = rowW w g d' m' ∧ Bls f d' bs n ∧ Pm 0 n d d'
def StM (f : Int → Int) (w : World) (g n bs : Nat) (d : List Int) (av bv : Value) (wr : World) : Prop := ∃ (A m' : Nat) (d' : List Int), A ≤ n ∧ av = .int .i64 (A : Nat) ∧ bv = .int .i64 ((A + 2 * bs : Nat) : Int) ∧ wr = rowW w g d' m' ∧ Mrg f d' bs n A ∧ Pm 0 n d d'
set_option maxRecDepth 100000 in
set_option maxHeartbeats 4000000 in
theorem stable_w {w : World} {g N cap m gf : Nat} {cb : Array Value} {f : Int → Int} {D : Int → Prop} {d d0 : List Int} (hH : Holds (Value.int .i64) w g 0 d0.toArray) (hl0 : d0.length = N) (hl : d.length = N) (hN : N ≤ 1000000) (hD : ∀ x ∈ d, D x) (hf : ∀ x, D x → -1 ≤ f x ∧ f x ≤ 1)
    (eg : ∀ args w, (callFunc gf args).run Tryd.prog w = .ok (.enter gf args) w) (hc : CmpOk gf cb f D w g N) :
    Calls Tryd.prog 52 #[.slice (some ⟨g, 0, none⟩) N cap, .int .i64 (N : Nat), .func (.func gf) #[] cb] (rowW w g d m) fun e w' => e = .returned (.tuple #[]) ∧ ∃ m' d', w' = rowW w g d' m' ∧ Srt f d' 0 N ∧ Pm 0 N d d' := by
  have CI := Lib.hid (fun (d' : List Int) (m' a b : Nat) (h1 : d'.length = N) (h2 : ∀ x ∈ d', D x) (h3 : a ≤ b) (h4 : b ≤ N) => insertion_w (cap := cap) (m := m') hH hl0 h1 hN h2 hf eg hc h3 h4)
  have CS := Lib.hid (fun (d' : List Int) (m' a md b : Nat) (h1 : d'.length = N) (h2 : ∀ x ∈ d', D x) (h3 : a < md) (h4 : md < b) (h5 : b ≤ N) (h6 : Srt f d' a md) (h7 : Srt f d' md b) => sym_any (cap := cap) hH hl0 hN hf eg hc (b - a + 1) a md b m' d' (Nat.lt_succ_self _) h3 h4 h5 h1 h2 h6 h7)
  have HL := Lib.hid hl
  have HD := Lib.hid hD
  clear hH hl hl0 hc hD hf
  go_enter Tryd.func52, Tryd.ntmps52
  go_wp2_with fail
  go_loopw [7, 8] (fun av bv wr => StI f w g N d av bv wr) (fun _ bv _ => N + 20 - (intOf bv).toNat)
  case atStart => exact ⟨0, m, d, Nat.zero_le _, rfl, rfl, rfl, fun i h => absurd h (by omega), Pm.refl _ _ _⟩
  case round =>
    obtain ⟨k, m1, d1, hk, rfl, rfl, rfl, hs, hp⟩ := hrel
    have HS := Lib.hid hs
    have HP := Lib.hid hp
    have HL1 := Lib.hid (show d1.length = N by rw [hp.len, HL.out])
    have HD1 := Lib.hid (show ∀ x ∈ d1, D x from hp.mem HD.out)
    clear hs hp
    obtain ⟨a, ha⟩ : ∃ a, 20 * k = a := ⟨_, rfl⟩
    obtain ⟨b, hb⟩ : ∃ b, a + 20 = b := ⟨_, rfl⟩
    have hab : a + 20 ≤ b ∧ b ≤ a + 20 := by omega
    have HA := Lib.hid ha
    have HB := Lib.hid hb
    rw [ha] at hk
    rw [ha, hb]
    clear ha hb
    have wb : IntKind.i64.wrap ((b : Int) + 20) = ((b + 20 : Nat) : Int) := by rw [IntKind.wrap_i64]; omega
    by_cases hlt : b ≤ N
    · go_wp2_with fail
      refine (CI.out d1 m1 a b HL1.out HD1.out (by omega) hlt).mono ?_
      rintro _ w2 ⟨rfl, m2, d2, rfl, hs2, hp2⟩
      have HS2 := Lib.hid (show ∀ i, i < k + 1 → Srt f d2 (20 * i) (20 * i + 20) from fun i hi => by
        have h1 := HA.out
        have h2 := HB.out
        by_cases e : i = k
        · subst e; rw [h1, show a + 20 = b by omega]; exact hs2
        · exact (HS.out i (by omega)).out (fun j j1 j2 => hp2.out j (by omega)) (Nat.le_refl _) (Nat.le_refl _))
      have HP2 := Lib.hid (HP.out.trans (hp2.mono (Nat.zero_le _) hlt))
      clear hs2 hp2
      go_wp2_with fail
      go_roundw
      case rel => exact ⟨k + 1, m2, d2, by have := HB.out; have := HA.out; omega, by rw [show 20 * (k + 1) = b by have := HB.out; have := HA.out; omega], by rw [show 20 * (k + 1) + 20 = b + 20 by have := HB.out; have := HA.out; omega]; go_num, rfl, HS2.out, HP2.out⟩
      case measure => simp [intOf]; omega
    · go_wp2_with fail
      refine (CI.out d1 m1 a N HL1.out HD1.out hk (Nat.le_refl _)).mono ?_
      rintro _ w2 ⟨rfl, m2, d2, rfl, hs2, hp2⟩
      have HST := Lib.hid (show StO f w g N d (.int .i64 ((20 : Nat) : Int)) (rowW w g d2 m2) from ⟨20, m2, d2, by omega, by omega, rfl, rfl, by
        have h1 := HA.out
        exact bls_20 (k := k) HS.out (by omega) (by omega) (by rw [h1]; exact hs2) (by rw [h1]; exact hp2), HP.out.trans (hp2.mono (Nat.zero_le _) (Nat.le_refl _))⟩)
      clear hs2 hp2 HS HP HL1 HD1 HA HB hab hk hlt wb
      go_wp2_with fail
      go_loopw [6] (fun sv wr => StO f w g N d sv wr) (fun sv _ => N - (intOf sv).toNat)
      case atStart => exact HST.out
      case round =>
        obtain ⟨bs, m3, d3, hbs, hbs2, rfl, rfl, hbl, hp3⟩ := hrel
        have HBL := Lib.hid hbl
        have HP3 := Lib.hid hp3
        clear hbl hp3
        by_cases hlt : bs < N
        · have hbs3 : bs ≤ 1000000 := by omega
          obtain ⟨b2, hb2⟩ : ∃ b2, 2 * bs = b2 := ⟨_, rfl⟩
          have hb2' : b2 ≤ 2 * bs ∧ 2 * bs ≤ b2 := by omega
          have HB2 := Lib.hid hb2
          have w2 : IntKind.i64.wrap (2 * (bs : Int)) = (b2 : Int) := by rw [IntKind.wrap_i64]; omega
          have w2' : IntKind.i64.wrap ((bs : Int) * 2) = (b2 : Int) := by rw [IntKind.wrap_i64]; omega
          have HST2 := Lib.hid (show StM f w g N bs d (.int .i64 ((0 : Nat) : Int)) (.int .i64 (b2 : Nat)) (rowW w g d3 m3) from ⟨0, m3, d3, Nat.zero_le _, rfl, by rw [← hb2, Nat.zero_add], rfl, Mrg.start HBL.out hbs, HP3.out⟩)
          clear HBL HP3 hb2
          go_wp2_with fail
          go_loopw [7, 8] (fun av bv wr => StM f w g N bs d av bv wr) (fun _ bv _ => N + 2 * bs - (intOf bv).toNat)
          case atStart => exact HST2.out
          case round =>
            obtain ⟨a, m4, d4, ha, rfl, rfl, rfl, hm, hp⟩ := hrel
            have HM := Lib.hid hm
            have HP := Lib.hid hp
            have HL1 := Lib.hid (show d4.length = N by rw [hp.len, HL.out])
            have HD1 := Lib.hid (show ∀ x ∈ d4, D x from hp.mem HD.out)
            clear hm hp
            obtain ⟨b, hb⟩ : ∃ b, a + 2 * bs = b := ⟨_, rfl⟩
            obtain ⟨md, hmd⟩ : ∃ md, a + bs = md := ⟨_, rfl⟩
            have hab : a + 2 * bs ≤ b ∧ b ≤ a + 2 * bs := by omega
            have hmd' : a + bs ≤ md ∧ md ≤ a + bs := by omega
            have HB := Lib.hid hb
            have HMD := Lib.hid hmd
            rw [hb]
            clear hb hmd
            have wm : IntKind.i64.wrap ((a : Int) + (bs : Int)) = (md : Int) := by rw [IntKind.wrap_i64]; omega
            have wb : IntKind.i64.wrap ((b : Int) + (b2 : Int)) = ((b + b2 : Nat) : Int) := by rw [IntKind.wrap_i64]; omega
            by_cases hle : b ≤ N
            · have C := Lib.hid (CS.out d4 m4 a md b HL1.out HD1.out (by omega) (by omega) hle (by rw [← HMD.out]; exact HM.out.left (by omega)) (by rw [← HMD.out]; exact HM.out.right (by omega)))
              go_wp2_with fail
              refine C.out.mono ?_
              rintro _ w2 ⟨rfl, m5, d5, rfl, hs5, hp5⟩
              have HM5 := Lib.hid (HM.out.step HB.out.symm hs5 hp5)
              have HP5 := Lib.hid (HP.out.trans (hp5.mono (Nat.zero_le _) hle))
              clear hs5 hp5
              go_wp2_with fail
              go_roundw
              case rel => exact ⟨b, m5, d5, hle, rfl, by rw [show b + 2 * bs = b + b2 by rw [HB2.out]]; go_num, rfl, HM5.out, HP5.out⟩
              case measure => simp [intOf]; omega
            · by_cases hmn : md < N
              · have C := Lib.hid (CS.out d4 m4 a md N HL1.out HD1.out (by omega) hmn (Nat.le_refl _) (by rw [← HMD.out]; exact HM.out.left (by omega)) (by rw [← HMD.out]; exact HM.out.right (by omega)))
                go_wp2_with fail
                refine C.out.mono ?_
                rintro _ w2 ⟨rfl, m5, d5, rfl, hs5, hp5⟩
                have HM5 := Lib.hid (HM.out.stop ha hs5 hp5)
                have HP5 := Lib.hid (HP.out.trans (hp5.mono (Nat.zero_le _) (Nat.le_refl _)))
                clear hs5 hp5
                go_wp2_with fail
                go_roundw
                case rel => exact ⟨b2, m5, d5, by omega, by omega, rfl, rfl, by rw [← HB2.out]; exact HM5.out, HP5.out⟩
                case measure => simp [intOf]; omega
              · have HM5 := Lib.hid (HM.out.stop ha (HM.out.rest (by omega)) (Pm.refl _ _ _))
                go_wp2_with fail
                go_roundw
                case rel => exact ⟨b2, m4, d4, by omega, by omega, rfl, rfl, by rw [← HB2.out]; exact HM5.out, HP.out⟩
                case measure => simp [intOf]; omega
        · have HSS := Lib.hid (show Srt f d3 0 N from by
            have := HBL.out 0
            rw [Nat.mul_zero, Nat.zero_add, Nat.min_eq_right (by omega)] at this
            exact this)
          go_wp2_with fail
          go_end0
          exact ⟨rfl, m3, d3, rfl, HSS.out, HP3.out⟩
theorem sort_stable_w {w : World} {g N cap m gf : Nat} {cb : Array Value} {f : Int → Int} {D : Int → Prop} {d d0 : List Int} (hH : Holds (Value.int .i64) w g 0 d0.toArray) (hl0 : d0.length = N) (hl : d.length = N) (hN : N ≤ 1000000) (hD : ∀ x ∈ d, D x) (hf : ∀ x, D x → -1 ≤ f x ∧ f x ≤ 1)
    (eg : ∀ args w, (callFunc gf args).run Tryd.prog w = .ok (.enter gf args) w) (hc : CmpOk gf cb f D w g N) :
    Calls Tryd.prog 34 #[.slice (some ⟨g, 0, none⟩) N cap, .func (.func gf) #[] cb] (rowW w g d m) fun e w' => e = .returned (.tuple #[]) ∧ ∃ m' d', w' = rowW w g d' m' ∧ Srt f d' 0 N ∧ Pm 0 N d d' := by
  have C := Lib.hid (stable_w (cap := cap) (m := m) hH hl0 hl hN hD hf eg hc)
  clear hH hl0 hl hD hf hc
  go_enter Tryd.func34, Tryd.ntmps34
  go_wp2_with fail
  refine C.out.mono ?_
  rintro _ w2 ⟨rfl, m5, d5, rfl, hs5, hp5⟩
  go_wp2_with fail
  go_end0
  exact ⟨rfl, m5, d5, rfl, hs5, hp5⟩
end Go.Proofs.YtgchepkcjkhmmaaDoor.srt
namespace Go.Proofs.YtgchepkcjkhmmaaDoor
open Go.RowKit Go.Lib Go.Sort
theorem pdq_int (blk off cap : Nat) (zs : List Int) (w : World) (hH : Holds (Value.int .i64) w blk off zs.toArray) (hblk : blk < w.heap.size) (hsz : zs.length < 4611686018427387904) :
    Calls Tryd.prog 50 #[.slice (some ⟨blk, off, none⟩) zs.length cap, .int .i64 (0 : Nat), .int .i64 (zs.length : Nat), .int .i64 (bitsLen zs.length : Nat)] w fun e w' =>
      e = .returned (.tuple #[]) ∧ ∃ n os, w' = grow (putRow (Value.int .i64) (Sort.ahead w n) blk off (zs.mergeSort fun x y => decide (x ≤ y)).toArray) os := by
  have hk : bitsLen zs.length ≤ 62 := (bitsLen_le_iff zs.length 62).2 (by omega)
  have hdp := pdqDepth_le_59 ltInt zs.toArray 0 zs.length (bitsLen zs.length) true true (by omega)
  have h := calls_of_every_depth fun D => Any.pdqWalkInInt Tryd.lays257 D 65 blk off cap 0 zs.length (bitsLen zs.length) zs.toArray w (by omega) hH hblk (Nat.zero_le _) (by simp) (by simpa using hsz) (by omega) (Or.inl rfl)
  have e : Sort.pdq ltInt zs.toArray 0 zs.length (bitsLen zs.length) true true = (zs.mergeSort fun x y => decide (x ≤ y)).toArray := by
    rw [← Any.sort_int_eqD]
    unfold Sort.sort
    simp
  rw [e] at h
  refine (?_ : Calls Tryd.prog (Tryd.lays257_ren.f 257) _ w _)
  simpa using h
set_option maxRecDepth 100000 in
theorem ins_none (c : Nat) (w : World) : Calls Tryd.prog 56 #[.slice none 0 c, .int .i64 0, .int .i64 0] w fun e w' => e = .returned (.tuple #[]) ∧ w = w' := by
  go_enter Tryd.func56, Tryd.ntmps56
  go_wp2_with fail
  go_loop [6] (fun iv => iv = .int .i64 1) (fun _ => 0)
  case atStart => rfl
  case round =>
    subst hrel
    go_wp2_with fail
    go_end0
    exact ⟨rfl, rfl⟩
set_option maxRecDepth 100000 in
theorem pdq_none (c : Nat) (w : World) : Calls Tryd.prog 50 #[.slice none 0 c, .int .i64 0, .int .i64 0, .int .i64 0] w fun e w' => e = .returned (.tuple #[]) ∧ w = w' := by
  have C := Lib.hid (ins_none c w)
  go_enter Tryd.func50, Tryd.ntmps50
  go_wp2_with fail
  go_loop [1, 2] (fun av bv => av = .int .i64 0 ∧ bv = .int .i64 0) (fun _ _ => 0)
  case atStart => exact ⟨rfl, rfl⟩
  case round =>
    obtain ⟨h1, h2⟩ := hrel
    subst h1
    subst h2
    go_wp2_with fail
    refine C.out.mono ?_
    rintro e w' ⟨rfl, rfl⟩
    go_wp2_with fail
    exact bodyPost_ret (v := .tuple #[]) (results_none rfl _ _ _) rfl ⟨rfl, rfl⟩
set_option maxRecDepth 100000 in
theorem sort_none (c : Nat) (w : World) : Calls Tryd.prog 32 #[.slice none 0 c] w fun e w' => e = .returned (.tuple #[]) ∧ w = w' := by
  have C := Lib.hid (pdq_none c w)
  have C2 := Lib.hid (Tryd.bits_Len 0 w (by decide) (by decide))
  go_enter Tryd.func32, Tryd.ntmps32
  go_wp2_with fail
  refine C2.out.mono ?_
  rintro e w' ⟨rfl, rfl⟩
  go_wp2_with fail
  refine C.out.mono ?_
  rintro e w' ⟨rfl, rfl⟩
  go_wp2_with fail
  go_end0
  exact ⟨rfl, rfl⟩
set_option maxRecDepth 100000 in
theorem sort_clause (blk off cap : Nat) (zs : List Int) (w : World) (hH : Holds (Value.int .i64) w blk off zs.toArray) (hblk : blk < w.heap.size) (hsz : zs.length ≤ 1000000) :
    Calls Tryd.prog 32 #[.slice (some ⟨blk, off, none⟩) zs.length cap] w fun e w' =>
      e = .returned (.tuple #[]) ∧ ∃ n os, w' = grow (putRow (Value.int .i64) (Sort.ahead w n) blk off (zs.mergeSort fun x y => decide (x ≤ y)).toArray) os := by
  obtain ⟨n, hn⟩ : ∃ n, zs.length = n := ⟨_, rfl⟩
  have C := pdq_int blk off cap zs w hH hblk (by omega)
  have C2 := Tryd.bits_Len (n : Int) w (by omega) (by omega)
  have eb : ((n : Int)).toNat = n := by omega
  rw [eb, bitLen_eq n (by omega)] at C2
  rw [hn] at C hsz ⊢
  have C := Lib.hid C
  have C2 := Lib.hid C2
  have wn : IntKind.u64.wrap (n : Int) = (n : Int) := by rw [IntKind.wrap_u64]; omega
  clear hH hn eb
  go_enter Tryd.func32, Tryd.ntmps32
  go_wp2_with fail
  refine C2.out.mono ?_
  rintro e w' ⟨rfl, rfl⟩
  go_wp2_with fail
  refine C.out.mono ?_
  rintro e w' ⟨rfl, h⟩
  have H := Lib.hid h
  clear h
  go_wp2_with fail
  go_end0
  exact ⟨rfl, H.out⟩
end Go.Proofs.YtgchepkcjkhmmaaDoor
