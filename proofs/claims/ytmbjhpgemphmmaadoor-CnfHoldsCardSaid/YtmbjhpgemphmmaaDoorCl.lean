/-
  The closure of cnf.Of: a literal's number of the clauses; and parts of the clauses' rows.
-/
import Derived.Test.YtmbjhpgemphmmaaDoorCp
import Derived.Test.YtmbjhpgemphmmaaDoorOm
import Derived.Test.YtmbjhpgemphmmaaDoorHq
namespace Go.Proofs.YtmbjhpgemphmmaaDoor
open Go.RowKit
theorem litNumAt {nl : List Bool} {i : Nat} (h : i < nl.length) : (Cn.nums nl)[i]? = some (Cn.numAt nl i) := by
  unfold Cn.nums; rw [Cn.numTo_get h, if_pos h]
theorem numAt_le (nl : List Bool) (i : Nat) : Cn.numAt nl i ≤ nl.length := by
  unfold Cn.numAt; split
  · unfold Cn.cnt; exact Nat.le_trans (List.length_filter_le _ _) (by rw [List.length_take]; omega)
  · omega
set_option maxRecDepth 100000 in
theorem of_lit {w : World} {base gm cm : Nat} {nl : List Bool} (hm : w.ownsRow base 3 1 (.slice (some ⟨gm, 0, none⟩) nl.length nl.length) nl.length (natVals (Cn.nums nl)))
    (hc : Blk w cm 37 #[.slice (some ⟨gm, 0, none⟩) nl.length nl.length]) {a : Nat} (ha : a / 2 < nl.length) (hn : nl.length ≤ 100000) :
    Calls Tryd.prog 36 #[.int .i64 a, .pointer (some ⟨cm, 0, none⟩)] w fun e w' => e = .returned (.int .i64 (Cn.litN nl a)) ∧ w = w' := by
  obtain ⟨u, hu, c0⟩ := own_cell (k := a / 2) hm ha
  obtain rfl : Value.int .i64 (Cn.numAt nl (a / 2) : Nat) = u := by
    rw [natVals_at (litNumAt ha)] at hu; injection hu
  have c1 := hc.cell 0
  obtain ⟨q, hq⟩ : ∃ q, a / 2 = q := ⟨_, rfl⟩
  rw [hq] at c0 ha
  have hv := numAt_le nl q
  have he : Cn.litN nl a = if a % 2 = 1 then -((Cn.numAt nl q : Nat) : Int) else (Cn.numAt nl q : Nat) := by unfold Cn.litN; rw [hq]
  have HE := Lib.hid he
  obtain ⟨z, hz⟩ : ∃ z, Cn.numAt nl q = z := ⟨_, rfl⟩
  rw [hz] at c0 hv
  have HZ := Lib.hid hz
  have hd : (a : Int) / 2 = (q : Int) := by omega
  have hqI : (q : Int) < (nl.length : Int) := by omega
  have ha2 : a ≤ 200001 := by omega
  clear hm hc hu he hz
  rcases Nat.mod_two_eq_zero_or_one a with ho | ho
  · have hoI : (a : Int) % 2 = 0 := by omega
    go_enter Tryd.func36, Tryd.ntmps36
    go_wp2_with fail
    go_ret
    rw [HE.out, if_neg (by omega), HZ.out]
    exact ⟨rfl, rfl⟩
  · have hoI : (a : Int) % 2 = 1 := by omega
    go_enter Tryd.func36, Tryd.ntmps36
    go_wp2_with fail
    go_ret
    rw [HE.out, if_pos (by omega), HZ.out]
    exact ⟨rfl, rfl⟩
theorem of_lit_n {w : World} {base gm cm m : Nat} {nl : List Bool} (e : nl.length = m) (hm : w.ownsRow base 3 1 (.slice (some ⟨gm, 0, none⟩) m m) m (natVals (Cn.nums nl)))
    (hc : Blk w cm 37 #[.slice (some ⟨gm, 0, none⟩) m m]) {a : Nat} (ha : a / 2 < m) (hn : m ≤ 100000) :
    Calls Tryd.prog 36 #[.int .i64 a, .pointer (some ⟨cm, 0, none⟩)] w fun e w' => e = .returned (.int .i64 (Cn.litN nl a)) ∧ w = w' := by
  subst e; exact of_lit hm hc ha hn
theorem litN_le (nl : List Bool) (a : Nat) : -(nl.length : Int) ≤ Cn.litN nl a ∧ Cn.litN nl a ≤ (nl.length : Int) := by
  have := numAt_le nl (a / 2)
  unfold Cn.litN; split <;> omega
theorem gatesC_step {nl : List Bool} {gs : List Gm.Gate} {i : Nat} {g : Gm.Gate} (h : gs[i]? = some g) : Cn.gatesC nl 0 (gs.take (i + 1)) = Cn.gatesC nl 0 (gs.take i) ++ Cn.gateC nl i g := by
  have hl := (List.getElem?_eq_some_iff.1 h).1
  rw [Gm.take_one h, Cn.gatesC_snoc, List.length_take, Nat.min_eq_left (by omega), Nat.zero_add]
/-- clauses of the call's own -/
def CsAt (w : World) (base : Nat) (v : Value) (cs : List (List Int)) : Prop :=
  ∃ rows : List Value, w.ownsRow base 42 1 v cs.length rows ∧ ∀ (i : Nat) (l : List Int), cs[i]? = some l → ∃ u, rows[i]? = some u ∧ w.ownsRow base 3 1 u l.length (litVals l)
theorem CsAt.nil (w : World) (base : Nat) : CsAt w base (.slice none 0 0) [] := ⟨[], World.ownsRow_nil _ _ _ _, fun i l h => by simp at h⟩
theorem CsAt.chg {w w' : World} {base : Nat} {v : Value} {cs : List (List Int)} (h : CsAt w base v cs) (hb : Below w.heap.size w w') : CsAt w' base v cs := by
  obtain ⟨rows, h1, h2⟩ := h
  refine ⟨rows, own_chg (S := fun _ _ => False) h1 (Chg.of_new hb) (fun _ _ _ _ hs => hs), fun i l hi => ?_⟩
  obtain ⟨u, h3, h4⟩ := h2 i l hi
  exact ⟨u, h3, own_chg (S := fun _ _ => False) h4 (Chg.of_new hb) (fun _ _ _ _ hs => hs)⟩
theorem gatesC_le (nl : List Bool) : ∀ (l : List Gm.Gate) (n : Nat), (Cn.gatesC nl n l).length ≤ 3 * l.length
  | [], n => by simp [Cn.gatesC]
  | g :: l, n => by
    have h1 := gatesC_le nl l (n + 1)
    have h2 : (Cn.gateC nl n g).length ≤ 3 := by unfold Cn.gateC; split <;> simp
    simp only [Cn.gatesC, List.length_append, List.length_cons]; omega
section
variable {P : Program} {ops : Array Oper} {S : World → Prop} {Q : Exit → Act → World → Prop}
theorem mv_rows3 {n i j k : Nat} {r : List Mv} {a : Act} {w : World} (oi oj ok : Oper) (hi : ops[i]? = some oi) (hj : ops[j]? = some oj) (hk : ops[k]? = some ok) (hsel : Region.noSelect ops = true)
    (aij : oi.apart ops oj = true) (aik : oi.apart ops ok = true) (aji : oj.apart ops oi = true) (ajk : oj.apart ops ok = true) (aki : ok.apart ops oi = true) (akj : ok.apart ops oj = true)
    (e : TypeId) (x1 x2 x3 : List Value) (m1 : Makes P ops e oi x1 a) (m2 : Makes P ops e oj x2 a) (m3 : Makes P ops e ok x3 a) (l1 : x1.length ≤ 1000000) (l2 : x2.length ≤ 1000000) (l3 : x3.length ≤ 1000000)
    (hS : S w) (hSa : ∀ w o, S w → S (w.alloc o))
    (h : ∀ n1 n2 n3 w', w'.ownsRow w.heap.size e 1 (.slice (some ⟨n1, 0, none⟩) x1.length x1.length) x1.length x1 → w'.ownsRow w.heap.size e 1 (.slice (some ⟨n2, 0, none⟩) x2.length x2.length) x2.length x2 →
      w'.ownsRow w.heap.size e 1 (.slice (some ⟨n3, 0, none⟩) x3.length x3.length) x3.length x3 → Below w.heap.size w w' → S w' →
      wpMv P ops n S Q r (((a.put oi.dst (.slice (some ⟨n1, 0, none⟩) x1.length x1.length)).put oj.dst (.slice (some ⟨n2, 0, none⟩) x2.length x2.length)).put ok.dst (.slice (some ⟨n3, 0, none⟩) x3.length x3.length)) w') :
    wpMv P ops n S Q (.all i j k :: r) a w := by
  have hs := Region.noSelect_spec hsel
  have si : ∀ cs b, oi.op ≠ .select cs b := fun cs b => hs i oi cs b hi
  have sj : ∀ cs b, oj.op ≠ .select cs b := fun cs b => hs j oj cs b hj
  have sk : ∀ cs b, ok.op ≠ .select cs b := fun cs b => hs k ok cs b hk
  have cij : ∀ (a : Act) u v, (a.put oi.dst u).put oj.dst v = (a.put oj.dst v).put oi.dst u := fun a u v => Act.put_comm a u v (Oper.apart_spec aij).2.1
  have cik : ∀ (a : Act) u v, (a.put oi.dst u).put ok.dst v = (a.put ok.dst v).put oi.dst u := fun a u v => Act.put_comm a u v (Oper.apart_spec aik).2.1
  have cjk : ∀ (a : Act) u v, (a.put oj.dst u).put ok.dst v = (a.put ok.dst v).put oj.dst u := fun a u v => Act.put_comm a u v (Oper.apart_spec ajk).2.1
  have s0 : w.heap.size ≤ w.heap.size := Nat.le_refl _
  have s1 : ∀ o, w.heap.size ≤ (w.alloc o).heap.size := fun o => by simp
  have s2 : ∀ o o', w.heap.size ≤ ((w.alloc o).alloc o').heap.size := fun o o' => by simp; omega
  have hb : ∀ o o' o'', Below w.heap.size w (((w.alloc o).alloc o').alloc o'') := fun o o' o'' => (((Below.refl _ _).alloc s0 _).alloc (s1 _) _).alloc (s2 _ _) _
  refine ⟨m1.step hi (hSa _ _ hS) ⟨?_, ?_⟩, m2.step hj (hSa _ _ hS) ⟨?_, ?_⟩, m3.step hk (hSa _ _ hS) ⟨?_, ?_⟩⟩
  · refine (m2.same aji sj _).step hj (hSa _ _ (hSa _ _ hS)) (((m3.same aki sk _).same akj sk _).step hk (hSa _ _ (hSa _ _ (hSa _ _ hS))) ?_)
    exact h _ _ _ _ (((own_full s0 rfl l1).alloc _).alloc _) ((own_full (s1 _) rfl l2).alloc _) (own_full (s2 _ _) rfl l3) (hb _ _ _) (hSa _ _ (hSa _ _ (hSa _ _ hS)))
  · refine (m3.same aki sk _).step hk (hSa _ _ (hSa _ _ hS)) (((m2.same aji sj _).same ajk sj _).step hj (hSa _ _ (hSa _ _ (hSa _ _ hS))) ?_)
    rw [← cjk (a.put oi.dst _)]
    exact h _ _ _ _ (((own_full s0 rfl l1).alloc _).alloc _) (own_full (s2 _ _) rfl l2) ((own_full (s1 _) rfl l3).alloc _) (hb _ _ _) (hSa _ _ (hSa _ _ (hSa _ _ hS)))
  · refine (m1.same aij si _).step hi (hSa _ _ (hSa _ _ hS)) (((m3.same akj sk _).same aki sk _).step hk (hSa _ _ (hSa _ _ (hSa _ _ hS))) ?_)
    rw [← cij a]
    exact h _ _ _ _ ((own_full (s1 _) rfl l1).alloc _) (((own_full s0 rfl l2).alloc _).alloc _) (own_full (s2 _ _) rfl l3) (hb _ _ _) (hSa _ _ (hSa _ _ (hSa _ _ hS)))
  · refine (m3.same akj sk _).step hk (hSa _ _ (hSa _ _ hS)) (((m1.same aij si _).same aik si _).step hi (hSa _ _ (hSa _ _ (hSa _ _ hS))) ?_)
    rw [← cik (a.put oj.dst _), ← cij a]
    exact h _ _ _ _ (own_full (s2 _ _) rfl l1) (((own_full s0 rfl l2).alloc _).alloc _) ((own_full (s1 _) rfl l3).alloc _) (hb _ _ _) (hSa _ _ (hSa _ _ (hSa _ _ hS)))
  · refine (m1.same aik si _).step hi (hSa _ _ (hSa _ _ hS)) (((m2.same ajk sj _).same aji sj _).step hj (hSa _ _ (hSa _ _ (hSa _ _ hS))) ?_)
    rw [← cik a, ← cjk (a.put oi.dst _)]
    exact h _ _ _ _ ((own_full (s1 _) rfl l1).alloc _) (own_full (s2 _ _) rfl l2) (((own_full s0 rfl l3).alloc _).alloc _) (hb _ _ _) (hSa _ _ (hSa _ _ (hSa _ _ hS)))
  · refine (m2.same ajk sj _).step hj (hSa _ _ (hSa _ _ hS)) (((m1.same aik si _).same aij si _).step hi (hSa _ _ (hSa _ _ (hSa _ _ hS))) ?_)
    rw [← cij (a.put ok.dst _), ← cik a, ← cjk (a.put oi.dst _)]
    exact h _ _ _ _ (own_full (s2 _ _) rfl l1) ((own_full (s1 _) rfl l2).alloc _) (((own_full s0 rfl l3).alloc _).alloc _) (hb _ _ _) (hSa _ _ (hSa _ _ (hSa _ _ hS)))
end
end Go.Proofs.YtmbjhpgemphmmaaDoor
