/-
  PLAIN LAWS on checked proofs: of more clauses; with a clause behind; no model.
-/
import Derived.Test.YtgchepkcjkhmmaaDoorZe
namespace Go.Proofs.YtgchepkcjkhmmaaDoor
theorem pfR_more {v : Int} : ∀ {pf L L' : List (List Int)} {i j : Nat} {fin : Bool}, (∀ x ∈ L, x ∈ L') → (pfR v L i fin pf).1 = 0 → (pfR v L' j fin pf).1 = 0
  | [], L, L', i, j, fin, _, h => by unfold pfR at h ⊢; split at h <;> simp_all
  | c :: r, L, L', i, j, fin, hs, h => by
    unfold pfR at h ⊢
    by_cases h1 : okC v c = true
    · rw [if_pos h1] at h ⊢
      by_cases h2 : Ref L c
      · rw [if_pos h2] at h
        rw [if_pos (h2.mono hs)]
        refine pfR_more (fun x hx => ?_) h
        rcases List.mem_append.1 hx with hx | hx
        · exact List.mem_append_left _ (hs x hx)
        · exact List.mem_append_right _ hx
      · rw [if_neg h2] at h; simp at h
    · rw [if_neg h1] at h; simp at h
theorem ref_of_nil {L : List (List Int)} {c : List Int} (h : [] ∈ L) : Ref L c := fun A _ hS => by
  rcases hS [] h with ⟨n, hn, _⟩ | ⟨n, hn, _⟩ <;> cases hn
theorem pfR_behind {v : Int} {own : List Int} (hok : okC v own = true) : ∀ {pf L : List (List Int)} {i : Nat} {fin : Bool}, (fin = true → [] ∈ L) → (pfR v L i fin pf).1 = 0 → (pfR v L i fin (pf ++ [own])).1 = 0
  | [], L, i, fin, hf, h => by
    cases fin with
    | false => unfold pfR at h; simp at h
    | true =>
      show (pfR v L i true [own]).1 = 0
      unfold pfR
      rw [if_pos hok, if_pos (ref_of_nil (hf rfl))]
      unfold pfR
      simp
  | c :: r, L, i, fin, hf, h => by
    show (pfR v L i fin (c :: (r ++ [own]))).1 = 0
    unfold pfR at h ⊢
    by_cases h1 : okC v c = true
    · rw [if_pos h1] at h ⊢
      by_cases h2 : Ref L c
      · rw [if_pos h2] at h ⊢
        refine pfR_behind hok (fun hx => ?_) h
        cases fin with
        | true => exact List.mem_append_left _ (hf rfl)
        | false =>
          have : c = [] := by simpa using hx
          subst this
          simp
      · rw [if_neg h2] at h; simp at h
    · rw [if_neg h1] at h; simp at h
theorem pfR_sound {v : Int} {A : Nat → Int} (hA : OkA A) (hT : ∀ n : Int, n ≠ 0 → (n.natAbs : Int) ≤ v → lv A n = 1 ∨ lv A n = -1) : ∀ {pf L : List (List Int)} {i : Nat} {fin : Bool}, (∀ x ∈ L, ∃ n ∈ x, lv A n = 1) → (pfR v L i fin pf).1 = 0 → fin = true
  | [], L, i, fin, _, h => by
    cases fin with
    | false => unfold pfR at h; simp at h
    | true => rfl
  | c :: r, L, i, fin, hm, h => by
    unfold pfR at h
    by_cases h1 : okC v c = true
    · rw [if_pos h1] at h
      by_cases h2 : Ref L c
      · rw [if_pos h2] at h
        obtain ⟨n, hn, hne⟩ := h2 A hA (fun x hx => .inl (hm x hx))
        have hb : badN v n = false := by
          unfold okC at h1
          have h3 : c.any (badN v) = false := by simpa using h1
          have := List.any_eq_false.1 h3 n hn
          simpa using this
        have hlit : n ≠ 0 ∧ (n.natAbs : Int) ≤ v := by
          unfold badN at hb
          simp only [Bool.or_eq_false_iff, decide_eq_false_iff_not, beq_eq_false_iff_ne, ne_eq] at hb
          omega
        have hn1 : lv A n = 1 := (hT n hlit.1 hlit.2).resolve_right hne
        have key := pfR_sound hA hT (fun x hx => by
          rcases List.mem_append.1 hx with hx | hx
          · exact hm x hx
          · obtain rfl : x = c := by simpa using hx
            exact ⟨n, hn, hn1⟩) h
        cases c with
        | nil => cases hn
        | cons a t => simpa using key
      · rw [if_neg h2] at h; simp at h
    · rw [if_neg h1] at h; simp at h
end Go.Proofs.YtgchepkcjkhmmaaDoor
