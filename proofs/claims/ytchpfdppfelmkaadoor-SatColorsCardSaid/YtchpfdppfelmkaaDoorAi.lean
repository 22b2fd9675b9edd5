/-
  PLAIN: what a search that is known to end has come to. No program in sight.
-/
import Derived.Test.YtchpfdppfelmkaaDoorAj
namespace Go.Proofs.YtchpfdppfelmkaaDoor.slv
section
variable {V : Nat} {F : List (List Int)}
/-- what a search has come to, whatever its bounds -/
def SeP (V : Nat) (F : List (List Int)) : Ans → SS → Prop
  | .yes m, s => m = modelOf V s.vs ∧ SI V F s ∧ Done s ∧ s.dead = false ∧ ∀ v, 1 ≤ v → v ≤ V → va s.vs v ≠ 0
  | .no pf, s => pf = s.pf ++ [[]] ∧ PfOk V F s.pf ∧ Ref (F ++ s.pf) []
  | .tired, _ => True
theorem searchL_part (hV : V ≤ 400000) {effort : Nat} : ∀ {f rd cf : Nat} {left : Int} {s s' : SS} {a : Ans}, SI V F s → s.dead = false → F.length + s.pf.length + f < 4000000 → searchL V effort f rd cf left s = some (a, s') → SeP V F a s' ∧ s'.pf.length ≤ s.pf.length + f ∧ (a = .tired → effort ≤ cf + f)
  | 0, _, _, _, _, _, _, _, _, _, hu => by cases hu
  | f + 1, rd, cf, left, s, s', a, h, hd, hsz, hu => by
    unfold searchL at hu
    obtain ⟨r, s1, e1, h1⟩ := spreadM_ok h.full (by have := h.len; omega)
    rw [e1] at hu
    cases r with
    | none =>
      dsimp only at hu
      obtain ⟨f1, d1, fr⟩ := h1
      have hS1 : SI V F s1 := h.of_fra f1 fr.pf fr.xs.1
      by_cases hl : left ≤ 0
      · rw [if_pos hl] at hu
        have hbk : ∃ s2, backM V s1 0 = some s2 ∧ SI V F s2 ∧ s2.dead = false ∧ s2.pf = s.pf := by
          by_cases hlm : s1.lm.length = 0
          · exact ⟨s1, backM_none (by omega), hS1, fr.dead.trans hd, fr.pf⟩
          · obtain ⟨m, hm⟩ := at_lt (l := s1.lm) (i := 0) (by omega)
            obtain ⟨s2, e2, hB⟩ := backM_ok hV f1.inv f1.wt hm
            exact ⟨s2, e2, h.of_fra hB.full (hB.pf.trans fr.pf) (by rw [hB.xs]; exact fr.xs.1), (hB.dead.trans fr.dead).trans hd, hB.pf.trans fr.pf⟩
        obtain ⟨s2, e2, g1, g2, g3⟩ := hbk
        split at hu
        · rw [e2] at hu
          obtain ⟨k1, k2, k3⟩ := searchL_part hV g1 g2 (by rw [g3]; omega) hu
          exact ⟨k1, by rw [g3] at k2; omega, fun e => by have := k3 e; omega⟩
        · cases hu
      · rw [if_neg hl] at hu
        obtain ⟨q, s2, e2, h2⟩ := decideM_ok f1 d1
        have hS2 : SI V F s2 := h.of_fra h2.full (h2.pf.trans fr.pf) (by rw [h2.xs]; exact fr.xs.1)
        have hpf2 : s2.pf = s.pf := h2.pf.trans fr.pf
        rw [e2] at hu
        cases q with
        | false =>
          obtain ⟨n1, n2, n3, n4, n5⟩ := h2.no rfl
          injection hu with hu
          injection hu with hu1 hu2
          subst hu1
          subst hu2
          exact ⟨⟨rfl, hS2, n3, (h2.dead.trans fr.dead).trans hd, by rw [n1]; exact n5⟩, by rw [hpf2]; omega, fun e => by cases e⟩
        | true =>
          obtain ⟨k1, k2, k3⟩ := searchL_part hV hS2 ((h2.dead.trans fr.dead).trans hd) (by rw [hpf2]; omega) hu
          exact ⟨k1, by rw [hpf2] at k2; omega, fun e => by have := k3 e; omega⟩
    | some k =>
      dsimp only at hu
      obtain ⟨c1, w1, fr⟩ := h1
      by_cases hlm : s1.lm.length = 0
      · rw [if_pos hlm] at hu
        injection hu with hu
        injection hu with hu1 hu2
        subst hu1
        subst hu2
        exact ⟨⟨rfl, by rw [fr.pf]; exact h.pf, by rw [fr.pf]; exact ref_end c1 (List.length_eq_zero_iff.1 hlm)⟩, by rw [fr.pf]; omega, fun e => by cases e⟩
      · rw [if_neg hlm] at hu
        by_cases hce : cf = effort
        · rw [if_pos hce] at hu
          injection hu with hu
          injection hu with hu1 hu2
          subst hu1
          subst hu2
          exact ⟨trivial, by rw [fr.pf]; omega, fun _ => by omega⟩
        · rw [if_neg hce] at hu
          obtain ⟨s2, c, e2, h2⟩ := conflictM_ok hV c1 w1 (fun e => hlm (by rw [e]; rfl)) (by rw [fr.xs.1]; have := h.len; omega) (by rw [fr.pf]; omega)
          have hpf2 : s2.pf = s.pf ++ [c] := by rw [h2.pf, fr.pf]
          have hP2 : PfOk V F s2.pf := by
            rw [hpf2]
            exact h.pf.snoc h2.ref ⟨h2.nd, h2.ne, h2.lit⟩ fun d hd' => h2.new (fr.dead.trans hd) d (List.mem_append_right _ hd')
          have hlen2 : s2.pf.length = s.pf.length + 1 := by rw [hpf2, List.length_append]; rfl
          have hS2 : SI V F s2 := ⟨by rw [hpf2, ← List.append_assoc]; exact h2.full, hP2, by rw [hlen2]; have := h2.xs; have := fr.xs.1; have := h.len; omega⟩
          rw [e2] at hu
          obtain ⟨k1, k2, k3⟩ := searchL_part hV hS2 ((h2.dead.trans fr.dead).trans hd) (by omega) hu
          exact ⟨k1, by omega, fun e => by have := k3 e; omega⟩
theorem searchM_part (hV : V ≤ 400000) {effort f : Nat} {s s' : SS} {a : Ans} (h : SI V F s) (hl : s.lm = []) (hsz : F.length + s.pf.length + f < 4000000) (hu : searchM V effort f s = some (a, s')) : SeP V F a s' ∧ s'.pf.length ≤ s.pf.length + f ∧ (a = .tired → effort ≤ f) := by
  unfold searchM at hu
  cases hd : s.dead with
  | true =>
    rw [hd, if_pos rfl] at hu
    injection hu with hu
    injection hu with hu1 hu2
    subst hu1
    subst hu2
    exact ⟨⟨rfl, h.pf, h.full.inv.ded hd⟩, by omega, fun e => by cases e⟩
  | false =>
    rw [hd, if_neg (by decide)] at hu
    obtain ⟨r, s1, e1, h1⟩ := spreadM_ok h.full (by have := h.len; omega)
    rw [e1] at hu
    cases r with
    | some k =>
      dsimp only at hu
      obtain ⟨c1, w1, fr⟩ := h1
      injection hu with hu
      injection hu with hu1 hu2
      subst hu1
      subst hu2
      exact ⟨⟨rfl, by rw [fr.pf]; exact h.pf, by rw [fr.pf]; exact ref_end c1 (by rw [fr.lm]; exact hl)⟩, by rw [fr.pf]; omega, fun e => by cases e⟩
    | none =>
      dsimp only at hu
      obtain ⟨f1, d1, fr⟩ := h1
      have hS1 : SI V F s1 := h.of_fra f1 fr.pf fr.xs.1
      obtain ⟨k1, k2, k3⟩ := searchL_part hV hS1 (fr.dead.trans hd) (by rw [fr.pf]; exact hsz) hu
      exact ⟨k1, by rw [fr.pf] at k2; exact k2, fun e => by have := k3 e; omega⟩
end
end Go.Proofs.YtchpfdppfelmkaaDoor.slv
