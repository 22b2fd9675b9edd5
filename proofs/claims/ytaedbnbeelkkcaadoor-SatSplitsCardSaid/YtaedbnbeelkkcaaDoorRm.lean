/-
  A MAP FROM INTS TO SLICES, its slices told as they lie (not through what they hold).
-/
import Derived.Test.YtaedbnbeelkkcaaDoorTm
import Derived.Maps.Own
import Derived.Maps.Views
namespace Go.Proofs.YtaedbnbeelkkcaaDoor
open Go.RowKit Go.Maps
/-- a slice's code -/
def codeS : Value → Option (DataW Unit × List MemPlace)
  | .slice none n c => some (.slice [.lit (.int .i64 n), .lit (.int .i64 c)] [], [])
  | .slice (some ⟨b, o, none⟩) n c => some (.slice [.lit (.int .i64 n), .lit (.int .i64 c), .lit (.int .i64 b), .lit (.int .i64 o)] [], [])
  | _ => none
theorem codeS_inj {u v : Value} {d : DataW Unit} {p q : List MemPlace} (hu : codeS u = some (d, p)) (hv : codeS v = some (d, q)) : u = v := by
  unfold codeS at hu hv
  split at hu <;> split at hv <;> first | cases hu; done | cases hv; done | skip
  all_goals
    simp only [Option.some.injEq, Prod.mk.injEq] at hu hv
    obtain ⟨h1, _⟩ := hu
    obtain ⟨h2, _⟩ := hv
    rw [← h2] at h1
    simp at h1
  · obtain ⟨e1, e2⟩ := h1
    rw [Int.ofNat_inj.1 e1, Int.ofNat_inj.1 e2]
  · obtain ⟨e1, e2, e3, e4⟩ := h1
    rw [Int.ofNat_inj.1 e1, Int.ofNat_inj.1 e2, Int.ofNat_inj.1 e3, Int.ofNat_inj.1 e4]
theorem codeS_none : codeS (.slice none 0 0) = some (.slice [.lit (.int .i64 0), .lit (.int .i64 0)] [], []) := rfl
abbrev nilD : DataW Unit := .slice [.lit (.int .i64 0), .lit (.int .i64 0)] []
structure RawMap (P : Program) (k : TypeId) (w : World) (b V : Nat) (f : Int → Value) : Prop where
  ex : ∃ es, w.ownsMap P k codeS b (2 * V + 1) (.map es) ∧ es.Pairwise (fun p q => p.1 ≠ q.1) ∧ (∀ p ∈ es, ∃ z : Int, p.1 = .int .i64 z ∧ z.natAbs ≤ V) ∧
    ∀ z : Int, z.natAbs ≤ V → codeS (f z) = some ((DataW.map es).atKey (.int .i64 z) nilD, [])
section
variable {P : Program} {k t e : TypeId} {w w' : World} {b V : Nat} {f : Int → Value}
theorem wf_lit {z : Int} (h : z.natAbs ≤ V) (hV : V ≤ 1000000) : (Lit.int .i64 z).wf = true := WalkArith.wf_i64 (by omega)
theorem keyLit (z : Int) : WideAt.IsKeyLit (.int .i64 z) := trivial
theorem keys_le (es : List (Lit × DataW Unit)) (hp : es.Pairwise (fun p q => p.1 ≠ q.1)) (hk : ∀ p ∈ es, ∃ z : Int, p.1 = .int .i64 z ∧ z.natAbs ≤ V) : es.length ≤ 2 * V + 1 := by
  have hnd : (es.map (·.1)).Nodup := by
    unfold List.Nodup
    rw [List.pairwise_map]
    exact hp
  have hsub : es.map (·.1) ⊆ (List.range (2 * V + 1)).map (fun i : Nat => Lit.int .i64 ((i : Int) - (V : Int))) := fun x hx => by
    obtain ⟨p, hp, rfl⟩ := List.mem_map.1 hx
    obtain ⟨z, e, hz⟩ := hk p hp
    refine List.mem_map.2 ⟨(z + V).toNat, List.mem_range.2 (by omega), ?_⟩
    rw [e, show (((z + V).toNat : Nat) : Int) - V = z by omega]
  have := hnd.length_le_of_subset hsub
  simpa using this
theorem RawMap.lt (h : RawMap P k w b V f) : b < w.heap.size := by
  obtain ⟨es, h1, _⟩ := h.ex
  exact h1.lt
theorem RawMap.heap (h : RawMap P k w b V f) : ∃ es c, w.heap[b]? = some (.map es c) := by
  obtain ⟨_, ⟨es, c, hb, _⟩, _⟩ := h.ex
  exact ⟨es, c, hb⟩
theorem RawMap.keep (h : RawMap P k w b V f) (hw : w'.heap[b]? = w.heap[b]?) : RawMap P k w' b V f := by
  obtain ⟨es, ⟨me, c, hb, rest⟩, h2⟩ := h.ex
  exact ⟨es, ⟨me, c, hw.trans hb, rest⟩, h2⟩
theorem RawMap.chg {S : Nat → Obj → Prop} (h : RawMap P k w b V f) (hc : Chg S w w') (hn : ∀ o, ¬ S b o) : RawMap P k w' b V f := by
  obtain ⟨es, ⟨me, c, hb, rest⟩, h2⟩ := h.ex
  exact ⟨es, ⟨me, c, hc.keep b _ hb (hn _), rest⟩, h2⟩
theorem RawMap.made (w : World) (P : Program) (k : TypeId) (V : Nat) : RawMap P k (w.alloc (.map #[] 0)) w.heap.size V (fun _ => .slice none 0 0) :=
  ⟨[], (World.ownsMap_made w P k codeS).mono (Nat.zero_le _), List.Pairwise.nil, by simp, fun _ _ => rfl⟩
theorem RawMap.look (h : RawMap P k w b V f) (hk : P.underlying k = some (.int .i64)) (ht : P.underlying t = some (.map k e)) (hz : (zeroValue e).run P w = .ok (.slice none 0 0) w) (hV : V ≤ 1000000) {z : Int} (hzV : z.natAbs ≤ V) :
    (Instr.lookup t (.map (some b)) (.int .i64 z) false).run P w = .ok (f z) w := by
  obtain ⟨es, h1, _, _, h4⟩ := h.ex
  obtain ⟨v, ps, hrun, hv⟩ := h1.lookup (int_keyed hk) ht hz codeS_none (keyOf_int_mk hk (wf_lit hzV hV))
  have := codeS_inj hv (h4 z hzV)
  rw [hrun, this]
theorem RawMap.put (h : RawMap P k w b V f) (hk : P.underlying k = some (.int .i64)) (ht : P.underlying t = some (.map k e)) (hV : V ≤ 1000000) {z : Int} (hzV : z.natAbs ≤ V) {v : Value} {d : DataW Unit} (hv : codeS v = some (d, [])) :
    ∃ w', (Instr.mapUpdate t (.map (some b)) (.int .i64 z) v).run P w = .ok () w' ∧ RawMap P k w' b V (fun y => if y = z then v else f y) ∧ w.grownBy w' (some b) := by
  obtain ⟨es, h1, h2, h3, h4⟩ := h.ex
  have hkl := keyLit z
  obtain ⟨w', hrun, hown, hg⟩ := h1.update (int_keyed hk) ht (by unfold maxLen; omega) (keyOf_int_mk hk (wf_lit hzV hV)) hv
  refine ⟨w', hrun, ?_, hg⟩
  have hT : Tidy (DataW.map es : DataW Unit) := ⟨es, rfl, h2⟩
  obtain ⟨es', he', hp'⟩ := hT.put hkl d
  have hk' : ∀ p ∈ es', ∃ y : Int, p.1 = .int .i64 y ∧ y.natAbs ≤ V := by
    intro p hp
    have e : es' = DataW.insert (.int .i64 z, d) (es.filter fun p => !p.1.sameKey (.int .i64 z)) := by
      have h0 : DataW.map es' = DataW.map (DataW.insert (.int .i64 z, d) (es.filter fun p => !p.1.sameKey (.int .i64 z))) := he'.symm
      injection h0
    rw [e] at hp
    rcases List.mem_cons.1 ((WideShapes.insert_perm (.int .i64 z, d) _).mem_iff.1 hp) with rfl | hp
    · exact ⟨z, rfl, hzV⟩
    · exact h3 p (List.mem_filter.1 hp).1
  rw [he'] at hown
  refine ⟨es', ?_, hp', hk', fun y hy => ?_⟩
  · obtain ⟨me, c, hb, F, _, hD⟩ := hown
    refine ⟨me, c, hb, F, ?_, hD⟩
    injection hD with hD
    have := keys_le es' hp' hk'
    rw [hD, length_sorted] at this
    simpa using this
  · rw [← he']
    by_cases e : y = z
    · subst e
      rw [if_pos rfl, atKey_put_same hT.isMap hkl, hv]
    · rw [if_neg e, atKey_put_other (fun h => e (by injection h)), h4 y hy]
end
end Go.Proofs.YtaedbnbeelkkcaaDoor
