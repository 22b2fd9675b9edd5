/-
  THE WALK of the law SatColors.
-/
import Derived.Test.YtchpfdppfelmkaaDoorI6
import Derived.Test.YtchpfdppfelmkaaDoorMq
import Derived.Test.YtchpfdppfelmkaaDoorMo
namespace Go.Proofs.YtchpfdppfelmkaaDoor.slv
open cr
def rowC (m i : Nat) : List Int := (List.range m).map fun k => ((i * m + k + 1 : Nat) : Int)
def nextC (n m i k : Nat) : List (List Int) := (List.range k).map fun k => [-((i * m + k + 1 : Nat) : Int), -(((i + 1) % n * m + k + 1 : Nat) : Int)]
def allC (n m i : Nat) : List (List Int) := (List.range i).flatMap fun i => nextC n m i m ++ [rowC m i]
def colorsF (n m : Nat) : List (List Int) := allC n m n
/-- two colors of an odd ring do not go -/
def noC (n m : Nat) : Bool := m == 2 && n % 2 == 1
noncomputable def runC (n m : Nat) : Bool := (solveQ (n * m) 100000 2000 (fun _ => some true) (fun _ => some false) (colorsF n m)) == some (!(noC n m))
set_option maxRecDepth 1000000
theorem colors2 : (List.range 11).all (fun d => runC (d + 3) 2) = true := by decide +kernel
theorem colors3 : (List.range 11).all (fun d => runC (d + 3) 3) = true := by decide +kernel
theorem colors_run {n m : Nat} (h1 : 3 ≤ n) (h2 : n ≤ 13) (h3 : 2 ≤ m) (h4 : m ≤ 3) : ∃ s0 a s1, newM (n * m) (colorsF n m) = some s0 ∧ searchM (n * m) 100000 2000 s0 = some (a, s1) ∧ ((noC n m = true ∧ ∃ pf, a = .no pf) ∨ (noC n m = false ∧ ∃ mo, a = .yes mo)) := by
  have h : runC n m = true := by
    have e : n = (n - 3) + 3 := by omega
    have hm : m = 2 ∨ m = 3 := by omega
    rcases hm with rfl | rfl
    · rw [e]; exact List.all_eq_true.1 colors2 _ (List.mem_range.2 (by omega))
    · rw [e]; exact List.all_eq_true.1 colors3 _ (List.mem_range.2 (by omega))
  have hV : n * m ≤ 60 := Nat.le_trans (Nat.mul_le_mul h2 h4) (by omega)
  have h : solveQ (n * m) 100000 2000 (fun _ => some true) (fun _ => some false) (colorsF n m) = some (!(noC n m)) := by
    unfold runC at h
    exact eq_of_beq h
  obtain ⟨s0, e1, ⟨s1, _, e2, e⟩ | ⟨pf, s1, e2, e⟩⟩ := solveQ_ok hV h
  · injection e with e
    exact ⟨s0, _, _, e1, e2, .inr ⟨by cases hq : noC n m with | true => rw [hq] at e; cases e | false => rfl, _, rfl⟩⟩
  · injection e with e
    exact ⟨s0, _, _, e1, e2, .inl ⟨by cases hq : noC n m with | false => rw [hq] at e; cases e | true => rfl, _, rfl⟩⟩
theorem rowC_len (m i : Nat) : (rowC m i).length = m := by unfold rowC; simp
theorem nextC_len (n m i k : Nat) : (nextC n m i k).length = k := by unfold nextC; simp
theorem nextC_succ (n m i k : Nat) : nextC n m i (k + 1) = nextC n m i k ++ [[-((i * m + k + 1 : Nat) : Int), -(((i + 1) % n * m + k + 1 : Nat) : Int)]] := by unfold nextC; rw [List.range_succ, List.map_append]; rfl
theorem allC_succ (n m i : Nat) : allC n m (i + 1) = allC n m i ++ nextC n m i m ++ [rowC m i] := by unfold allC; rw [List.range_succ, List.flatMap_append]; simp
theorem allC_len (n m : Nat) : ∀ i, (allC n m i).length = i * (m + 1)
  | 0 => by simp [allC]
  | i + 1 => by rw [allC_succ, List.length_append, List.length_append, allC_len n m i, nextC_len, Nat.succ_mul]; simp; omega
theorem rowC_at {m i k : Nat} (h : k < m) : (rowC m i).take (k + 1) = (rowC m i).take k ++ [((i * m + k + 1 : Nat) : Int)] := by
  rw [List.take_add_one]
  congr 1
  unfold rowC
  rw [List.getElem?_map, List.getElem?_range h]; rfl
theorem colors_cell {n m i k : Nat} (hi : i < n) (hk : k < m) : i * m + k + 1 ≤ n * m := by
  have h1 : (i + 1) * m ≤ n * m := Nat.mul_le_mul_right _ hi
  rw [Nat.succ_mul] at h1
  omega
theorem colors_lit {n m : Nat} (h1 : 3 ≤ n) (h4 : m ≤ 3) : ∀ d ∈ colorsF n m, d.length ≤ 1000 ∧ ∀ z ∈ d, Lit (n * m) z := by
  intro d hd
  unfold colorsF allC at hd
  obtain ⟨i, hi, hd⟩ := List.mem_flatMap.1 hd
  have hi := List.mem_range.1 hi
  rcases List.mem_append.1 hd with hd | hd
  · unfold nextC at hd
    obtain ⟨k, hk, rfl⟩ := List.mem_map.1 hd
    have hk := List.mem_range.1 hk
    have h3 := colors_cell hi hk
    have h5 := colors_cell (i := (i + 1) % n) (Nat.mod_lt _ (by omega)) hk
    refine ⟨by simp, fun z hz => ?_⟩
    generalize n * m = N at h3 h5 ⊢
    generalize i * m = a at h3 hz
    generalize (i + 1) % n * m = b at h5 hz
    rcases List.mem_cons.1 hz with e | e
    · exact ⟨by omega, by omega⟩
    · obtain rfl : z = -((b + k + 1 : Nat) : Int) := by simpa using e
      exact ⟨by omega, by omega⟩
  · obtain rfl : d = rowC m i := by simpa using hd
    refine ⟨by rw [rowC_len]; omega, fun z hz => ?_⟩
    unfold rowC at hz
    obtain ⟨k, hk, rfl⟩ := List.mem_map.1 hz
    have hk := List.mem_range.1 hk
    have h := colors_cell hi hk
    refine ⟨by omega, ?_⟩
    show ((i * m + k + 1 : Nat) : Int).natAbs ≤ n * m
    rw [Int.natAbs_natCast]; exact h
end Go.Proofs.YtchpfdppfelmkaaDoor.slv
namespace Go.Proofs.YtchpfdppfelmkaaDoor.slv
open Go.RowKit
theorem yes_forH {V fuel : Nat} {F : List (List Int)} {s0 s' : SS} {mo : List Bool} (hV : V ≤ 1000) (hlit : ∀ d ∈ F, ∀ z ∈ d, Lit V z) (hn : F.length ≤ 400000) (hfu : fuel ≤ 100000) (e0 : newM V F = some s0) (hsr : searchM V 100000 fuel s0 = some (.yes mo, s')) : mo.length = V ∧ Cn.forH mo F = true := by
  obtain ⟨s0', e0', hsi0, hl0, _, hp0⟩ := newM_ok (V := V) (F := F) hlit (by omega)
  obtain rfl : s0 = s0' := by rw [e0] at e0'; injection e0' with e
  obtain ⟨hE, _, _⟩ := searchM_part (by omega) hsi0 hl0 (by rw [hp0]; simp; omega) hsr
  obtain ⟨h1, h2, h3, h4, h5⟩ := hE
  have hml : mo.length = V := by rw [h1]; unfold modelOf; simp
  refine ⟨hml, ?_⟩
  have hy := yes_holds h2.full h3 h4 h5 (fun d hd z hz => by
    rcases List.mem_append.1 hd with hd | hd
    · exact hlit d hd z hz
    · exact ((h2.pf.lit d hd).2.2 z hz).1)
  unfold Cn.forH
  refine List.all_eq_true.2 fun d hd => ?_
  obtain ⟨z, hz, e⟩ := hy d (List.mem_append_left _ hd)
  unfold Cn.clH
  refine List.any_eq_true.2 ⟨z, hz, ?_⟩
  obtain ⟨z1, z2⟩ := hlit d hd z hz
  have hget : ∀ v : Nat, 1 ≤ v → v ≤ V → mo.getD (v - 1) false = (va s'.vs v == 1) := fun v a b => by
    rw [h1]
    unfold modelOf va
    rw [List.getD_eq_getElem?_getD, List.getElem?_map, List.getElem?_range (by omega), Option.map_some, Option.getD_some, show v - 1 + 1 = v by omega]
  unfold Cn.litH
  unfold lv at e
  by_cases h0 : z < 0
  · rw [if_pos h0] at e
    rw [decide_eq_true h0, decide_eq_false (by omega : ¬ 0 < z), hget (-z).toNat (by omega) (by omega), show (-z).toNat = z.natAbs by omega, show va s'.vs z.natAbs = -1 by omega]
    rfl
  · rw [if_neg h0] at e
    rw [decide_eq_true (by omega : 0 < z), decide_eq_false h0, hget z.toNat (by omega) (by omega), show z.toNat = z.natAbs by omega, e]
    rfl
/-- a formula under way beside a row that grows -/
def FmC (w0 : World) (g V base : Nat) (cs : List (List Int)) (rv : Value) (wr : World) : Prop :=
  ∃ (A : Option Addr) (c : Nat) (rows : List Value), Below w0.heap.size w0 wr ∧ Blk wr g 29 #[.int .i64 (V : Nat), .slice A cs.length c] ∧ wr.ownsRow base 26 1 (.slice A cs.length c) cs.length rows ∧
    (∀ (i : Nat) (l : List Int), cs[i]? = some l → ∃ u, rows[i]? = some u ∧ wr.ownsRow base 3 1 u l.length (litVals l) ∧ (u.ownBlock = none ∨ u.ownBlock ≠ rv.ownBlock)) ∧ base ≤ wr.heap.size ∧ w0.heap.size ≤ base
theorem FmC.of {w0 wr : World} {g V base : Nat} {cs : List (List Int)} (h : FmA w0 g V base cs wr) : FmC w0 g V base cs (.slice none 0 0) wr := by
  obtain ⟨A, c, h1, h2, ⟨rows, h3, h4⟩, h5, h6⟩ := h
  refine ⟨A, c, rows, h1, h2, h3, fun i l hl => ?_, h5, h6⟩
  obtain ⟨u, u1, u2⟩ := h4 i l hl
  refine ⟨u, u1, u2, ?_⟩
  cases hb : u.ownBlock with
  | none => exact .inl rfl
  | some k => exact .inr (by simp [Value.ownBlock])
theorem FmC.toA {w0 wr : World} {g V base : Nat} {cs : List (List Int)} {rv : Value} (h : FmC w0 g V base cs rv wr) : FmA w0 g V base cs wr := by
  obtain ⟨A, c, rows, h1, h2, h3, h4, h5, h6⟩ := h
  exact ⟨A, c, h1, h2, ⟨rows, h3, fun i l hl => by obtain ⟨u, u1, u2, _⟩ := h4 i l hl; exact ⟨u, u1, u2⟩⟩, h5, h6⟩
theorem own_lt {w : World} {base e n k : Nat} {v : Value} {xs : List Value} (h : w.ownsRow base e 1 v n xs) (hk : v.ownBlock = some k) : k < w.heap.size := by
  rcases h.2 with ⟨rfl, _⟩ | ⟨g', cap, cur, rfl, _, hh, _⟩
  · cases hk
  · have e : g' = k := by simpa [Value.ownBlock] using hk
    rw [← e]
    exact lt_of_heap hh
theorem FmC.chg {w0 wr wr' : World} {g V base : Nat} {cs : List (List Int)} {rv : Value} (h : FmC w0 g V base cs rv wr) (hb : Below wr.heap.size wr wr') : FmC w0 g V base cs rv wr' := by
  obtain ⟨A, c, rows, h1, h2, h3, h4, h5, h6⟩ := h
  refine ⟨A, c, rows, h1.trans (hb.mono h1.size), h2.below hb h2.lt, own_chg (S := fun _ _ => False) h3 (Chg.of_new hb) (fun _ _ _ _ => id), fun i l hl => ?_, Nat.le_trans h5 hb.size, h6⟩
  obtain ⟨u, u1, u2, u3⟩ := h4 i l hl
  exact ⟨u, u1, own_chg (S := fun _ _ => False) u2 (Chg.of_new hb) (fun _ _ _ _ => id), u3⟩
/-- the row has grown -/
theorem FmC.row {w0 W w' : World} {g V base k : Nat} {cs : List (List Int)} {rv rv' : Value} {xs : List Value} {o : Obj} (h : FmC w0 g V base cs rv W) (hg0 : w0.heap.size ≤ base) (ho : (W.alloc o).ownsRow base 3 1 rv k xs) (hg : (W.alloc o).grownBy w' rv.ownBlock)
    (hl : rv'.ownBlock = rv.ownBlock ∨ rv'.ownBlock = some (W.alloc o).heap.size) : FmC w0 g V base cs rv' w' := by
  obtain ⟨A, c, rows, h1, h2, h3, h4, h5, h6⟩ := h
  have hsz : (W.alloc o).heap.size ≤ w'.heap.size := hg.size
  have hs2 : W.heap.size ≤ (W.alloc o).heap.size := by simp
  refine ⟨A, c, rows, (h1.alloc h1.size o).grown hg (by have := h1.size; omega) (fun j hj => by have := own_geq ho j hj; omega), blk_grown (h2.alloc o) ho (by decide) hg, (h3.alloc o).kept hg (own_own_ne (h3.alloc o) ho (by decide)), fun i l hl' => ?_, by omega, h6⟩
  obtain ⟨u, u1, u2, u3⟩ := h4 i l hl'
  refine ⟨u, u1, (u2.alloc o).kept hg u3, ?_⟩
  rcases hl with e | e
  · rw [e]; exact u3
  · cases hb : u.ownBlock with
    | none => exact .inl rfl
    | some j =>
      right
      rw [e]
      have := own_lt (u2.alloc o) hb
      intro e2
      injection e2 with e2
      omega
/-- one clause more, beside the row -/
theorem FmC.push {w0 W w' : World} {g V base n c c' k : Nat} {A A' : Option Addr} {cs : List (List Int)} {l : List Int} {rows xs : List Value} {u rv : Value} {o : Obj} (hn : cs.length = n) (hb0 : Below w0.heap.size w0 W) (hk : Blk W g 29 #[.int .i64 (V : Nat), .slice A n c])
    (hrow : W.ownsRow base 26 1 (.slice A n c) n rows) (hcl : ∀ (i : Nat) (l : List Int), cs[i]? = some l → ∃ u, rows[i]? = some u ∧ W.ownsRow base 3 1 u l.length (litVals l) ∧ (u.ownBlock = none ∨ u.ownBlock ≠ rv.ownBlock))
    (hu : W.ownsRow base 3 1 u l.length (litVals l)) (hud : u.ownBlock = none ∨ u.ownBlock ≠ rv.ownBlock) (hrv : W.ownsRow base 3 1 rv k xs) (hB : base ≤ W.heap.size) (hB0 : w0.heap.size ≤ base) (hg0 : w0.heap.size ≤ g)
    (hg : (W.alloc o).grownBy w' (Value.slice A n c).ownBlock) (hown : w'.ownsRow base 26 1 (.slice A' (n + 1) c') (n + 1) (rows ++ [u])) :
    FmC w0 g V base (cs ++ [l]) rv (w'.setCell ⟨g, 1, none⟩ (.slice A' (n + 1) c')) ∧ (w'.setCell ⟨g, 1, none⟩ (.slice A' (n + 1) c')).ownsRow base 3 1 rv k xs := by
  subst hn
  have hk' : Blk w' g 29 #[.int .i64 (V : Nat), .slice A cs.length c] := blk_grown (hk.alloc _) (hrow.alloc _) (by decide) hg
  have hb' : Below w0.heap.size w0 w' := own_grown_below0 hb0 hrow hB0 hg
  have hlen : (cs ++ [l]).length = cs.length + 1 := by simp
  have hsz : W.heap.size ≤ w'.heap.size := by
    have := hg.size
    simp at this
    omega
  have hrl : rows.length = cs.length := by have := hrow.1; omega
  have far : ∀ {v : Value} {m : Nat} {ys : List Value}, W.ownsRow base 3 1 v m ys → (w'.setCell ⟨g, 1, none⟩ (.slice A' (cs.length + 1) c')).ownsRow base 3 1 v m ys := fun h => by
    have h1 := own_kept1 h hrow (by decide) hg
    exact own_far h1 _ (own_blk_ne h1 hk' (by decide))
  refine ⟨⟨A', c', rows ++ [u], hb'.setCell (p := ⟨g, 1, none⟩) hg0 _, ?_, ?_, fun i x hx => ?_, ?_, hB0⟩, far hrv⟩
  · rw [hlen]; exact hk'.set_ 1 _
  · rw [hlen]; exact own_far hown _ (own_blk_ne hown hk' (by decide))
  · rcases Nat.lt_or_ge i cs.length with h | h
    · rw [List.getElem?_append_left h] at hx
      obtain ⟨y, y1, y2, y3⟩ := hcl i x hx
      exact ⟨y, by rw [List.getElem?_append_left (by omega)]; exact y1, far y2, y3⟩
    · rw [List.getElem?_append_right h] at hx
      have hi0 : i - cs.length = 0 := by
        have := (List.getElem?_eq_some_iff.1 hx).1
        simp at this
        omega
      rw [hi0] at hx
      obtain rfl : l = x := by simpa using hx
      exact ⟨u, by rw [List.getElem?_append_right (by omega), hrl, hi0]; rfl, far hu, hud⟩
  · simp; omega
/-- the row under way; its counter begins at 1 -/
def RcC (w1 : World) (g V base n m i : Nat) (L0 : List (List Int)) (kv rv : Value) (wr : World) : Prop :=
  ∃ (k : Nat) (A : Option Addr) (c : Nat), k ≤ m ∧ kv = .int .i64 ((k + 1 : Nat) : Int) ∧ rv = .slice A k c ∧ FmC w1 g V base (L0 ++ nextC n m i k) rv wr ∧ wr.ownsRow base 3 1 rv k (litVals ((rowC m i).take k))
attribute [local irreducible] wpSeq wpMv
set_option maxRecDepth 100000 in
set_option maxHeartbeats 16000000 in
theorem colorsLaw_any {w : World} {ea : Nat → Addr} {z zm : Int} (hes : Sen3 w ea) : Calls Tryd.prog 7 #[.int .i64 z, .int .i64 zm] w (RtT w) := by
  obtain ⟨i0, hi0, hz0, hz1, hz2⟩ := info_parts infoIntR_
  have HIN := Lib.hid (show _ ∧ _ ∧ _ ∧ _ from ⟨hi0, hz0, hz1, hz2⟩)
  clear hi0 hz0 hz1 hz2
  obtain ⟨ic, hi0', hz0', hz1', hz2'⟩ := info_parts infoClause_
  have HIC := Lib.hid (show _ ∧ _ ∧ _ ∧ _ from ⟨hi0', hz0', hz1', hz2'⟩)
  clear hi0' hz0' hz1' hz2'
  have C0 := Lib.hid (holds_true hes.s)
  have HES := Lib.hid hes
  clear hes
  go_enter Tryd.func7, Tryd.ntmps7
  go_wp2_with fail
  refine C0.out.mono ?_
  rintro e w1 ⟨rfl, hb1⟩
  have HB1 := Lib.hid hb1
  clear hb1
  by_cases h1 : z < 3
  · have e1 : decide (z < 3) = true := decide_eq_true h1
    go_wp2_with fail
    go_ret
    exact ⟨rfl, HB1.out⟩
  have e1 : decide (z < 3) = false := decide_eq_false h1
  by_cases h2 : 13 < z
  · have e2 : decide (13 < z) = true := decide_eq_true h2
    go_wp2_with fail
    go_ret
    exact ⟨rfl, HB1.out⟩
  have e2 : decide (13 < z) = false := decide_eq_false h2
  by_cases h3 : zm < 2
  · have e3 : decide (zm < 2) = true := decide_eq_true h3
    go_wp2_with fail
    go_ret
    exact ⟨rfl, HB1.out⟩
  have e3 : decide (zm < 2) = false := decide_eq_false h3
  by_cases h4 : 3 < zm
  · have e4 : decide (3 < zm) = true := decide_eq_true h4
    go_wp2_with fail
    go_ret
    exact ⟨rfl, HB1.out⟩
  have e4 : decide (3 < zm) = false := decide_eq_false h4
  obtain ⟨n, hn⟩ : ∃ n : Nat, z = (n : Int) := ⟨z.toNat, by omega⟩
  obtain ⟨m, hm⟩ : ∃ m : Nat, zm = (m : Int) := ⟨zm.toNat, by omega⟩
  subst hn
  subst hm
  have f1 : decide (n < 3) = false := decide_eq_false (by omega)
  have f2 : decide (13 < n) = false := decide_eq_false (by omega)
  have f3 : decide (m < 2) = false := decide_eq_false (by omega)
  have f4 : decide (3 < m) = false := decide_eq_false (by omega)
  have HN := Lib.hid (show 3 ≤ n ∧ n ≤ 13 ∧ 2 ≤ m ∧ m ≤ 3 by omega)
  obtain ⟨V, hV⟩ : ∃ V, n * m = V := ⟨_, rfl⟩
  have hV6 : V ≤ 13 * 3 := by rw [← hV]; exact Nat.mul_le_mul HN.out.2.1 HN.out.2.2.2
  have wV : IntKind.i64.wrap ((n : Int) * (m : Int)) = (V : Int) := by
    rw [show ((n : Int) * (m : Int)) = ((n * m : Nat) : Int) by simp, hV, IntKind.wrap_i64]; omega
  have HV := Lib.hid (show n * m = V ∧ V ≤ 39 from ⟨hV, by omega⟩)
  clear h1 h2 h3 h4 hV hV6
  obtain ⟨g, hg⟩ : ∃ g, w1.heap.size = g := ⟨_, rfl⟩
  obtain ⟨W2, hW2⟩ : ∃ W2, W2 = w1.alloc (.cells #[.int .i64 (V : Nat), .slice none 0 0] 29) := ⟨_, rfl⟩
  have hf2 : FmA w1 g V (g + 1) [] W2 := by rw [hW2, ← hg]; exact FmA.new w1 V
  have HF2 := Lib.hid hf2
  have HW2 := Lib.hid hW2
  have HG := Lib.hid hg
  clear hf2 hW2
  go_upto_region 5 with fail
  try rw [hg]
  rw [← HW2.out]
  clear hg e1 e2 e3 e4 f1 f2 f3 f4 wV
  have HST := Lib.hid (show FmA w1 g V (g + 1) (allC n m 0) W2 from HF2.out)
  go_wp2_with fail
  go_loopw [7] (fun yv wr => ∃ i : Nat, i ≤ n ∧ yv = .int .i64 (i : Nat) ∧ FmA w1 g V (g + 1) (allC n m i) wr) (fun yv _ => n - (intOf yv).toNat)
  case atStart => exact ⟨0, Nat.zero_le _, rfl, HST.out⟩
  case round =>
    obtain ⟨i, hi, ei, hf⟩ := hrel
    subst ei
    have HF := Lib.hid hf
    have HI := Lib.hid hi
    clear hf HST HF2 hi
    by_cases hin : i < n
    · have hiI : (i : Int) < (n : Int) := by omega
      obtain ⟨L0, hL0⟩ : ∃ L0, allC n m i = L0 := ⟨_, rfl⟩
      have hl0 : L0.length = i * (m + 1) := by rw [← hL0, allC_len]
      rw [hL0] at HF
      have HL0 := Lib.hid (And.intro hL0 hl0)
      have HS := Lib.hid (show RcC w1 g V (g + 1) n m i L0 (.int .i64 ((0 + 1 : Nat) : Int)) (.slice none 0 0) wr from ⟨0, none, 0, Nat.zero_le _, rfl, rfl, by rw [show nextC n m i 0 = [] from rfl, List.append_nil]; exact FmC.of HF.out, World.ownsRow_nil _ _ _ _⟩)
      have HYN := Lib.hid hin
      clear HF hL0 hl0
      go_wp2_with fail
      go_loopw [9, 8] (fun kv rv wx => RcC w1 g V (g + 1) n m i L0 kv rv wx) (fun kv _ _ => m + 1 - (intOf kv).toNat)
      case atStart => exact HS.out
      case round =>
        clear HS
        obtain ⟨k, A, c, hk, e1, e2, hf, ho⟩ := hrel
        subst e1
        subst e2
        have HF := Lib.hid hf
        have HO := Lib.hid ho
        have HK := Lib.hid hk
        clear hf ho hiI hin hk
        obtain ⟨k1, hk1⟩ : ∃ k1, k + 1 = k1 := ⟨_, rfl⟩
        rw [hk1]
        have HK1 := Lib.hid hk1
        by_cases hkm : k < m
        · have hkI : (k1 : Int) ≤ (m : Int) := by omega
          have HKM := Lib.hid hkm
          have hi13 : i ≤ 12 := by have := HYN.out; have := HN.out; omega
          have hm3 : m ≤ 3 := HN.out.2.2.2
          have b1 : i * m ≤ 12 * 3 := Nat.mul_le_mul hi13 hm3
          have hk4 : k1 ≤ 3 := by omega
          have wm1 : IntKind.i64.wrap ((i : Int) * (m : Int)) = ((i * m : Nat) : Int) := by
            rw [show ((i : Int) * (m : Int)) = ((i * m : Nat) : Int) by simp, IntKind.wrap_i64]; omega
          obtain ⟨p1, hp1⟩ : ∃ p1, i * m = p1 := ⟨_, rfl⟩
          rw [hp1] at wm1 b1
          have wa1 : IntKind.i64.wrap ((p1 : Int) + (k1 : Int)) = ((p1 + k1 : Nat) : Int) := by rw [IntKind.wrap_i64]; omega
          obtain ⟨u1, hu1⟩ : ∃ u1, p1 + k1 = u1 := ⟨_, rfl⟩
          rw [hu1] at wa1
          have wb1 : IntKind.i64.wrap (-(u1 : Int)) = -(u1 : Int) := by rw [IntKind.wrap_i64]; omega
          have wi1 : IntKind.i64.wrap ((i : Int) + 1) = ((i + 1 : Nat) : Int) := by rw [IntKind.wrap_i64]; omega
          obtain ⟨q, hq⟩ : ∃ q, (i + 1) % n = q := ⟨_, rfl⟩
          have hq13 : q ≤ 12 := by rw [← hq]; have := Nat.mod_lt (i + 1) (show 0 < n by have := HN.out; omega); have := HN.out; omega
          obtain ⟨i1, hi1⟩ : ∃ i1, i + 1 = i1 := ⟨_, rfl⟩
          rw [hi1] at wi1 hq
          have hi1b : i1 ≤ 13 := by omega
          have wq : (i1 : Int).tmod (n : Int) = (q : Int) := by
            rw [Int.tmod_eq_emod_of_nonneg (by omega), ← hq]; simp
          have wq2 : (i1 : Int) % (n : Int) = (q : Int) := by rw [← hq]; simp
          have zn : ((n : Int) == 0) = false := by have := HN.out; simp; omega
          have zn2 : (n = 0) = False := eq_false (by have := HN.out; omega)
          have b2 : q * m ≤ 12 * 3 := Nat.mul_le_mul hq13 hm3
          have wm2 : IntKind.i64.wrap ((q : Int) * (m : Int)) = ((q * m : Nat) : Int) := by
            rw [show ((q : Int) * (m : Int)) = ((q * m : Nat) : Int) by simp, IntKind.wrap_i64]; omega
          obtain ⟨p2, hp2⟩ : ∃ p2, q * m = p2 := ⟨_, rfl⟩
          rw [hp2] at wm2 b2
          have wa2 : IntKind.i64.wrap ((p2 : Int) + (k1 : Int)) = ((p2 + k1 : Nat) : Int) := by rw [IntKind.wrap_i64]; omega
          obtain ⟨u2, hu2⟩ : ∃ u2, p2 + k1 = u2 := ⟨_, rfl⟩
          rw [hu2] at wa2
          have wb2 : IntKind.i64.wrap (-(u2 : Int)) = -(u2 : Int) := by rw [IntKind.wrap_i64]; omega
          have HU := Lib.hid (show i * m + k + 1 = u1 ∧ (i + 1) % n * m + k + 1 = u2 by rw [hi1, hq]; omega)
          have w1' : IntKind.i64.wrap ((k1 : Int) + 1) = ((k1 + 1 : Nat) : Int) := by rw [IntKind.wrap_i64]; omega
          obtain ⟨k2, hk2⟩ : ∃ k2, k1 + 1 = k2 := ⟨_, rfl⟩
          rw [hk2] at w1'
          have HK2 := Lib.hid hk2
          have hk5 : k ≤ 3 := by omega
          have HO5 := Lib.hid (World.ownsRow.alloc HO.out (.cells #[.int .i64 (u1 : Nat)] 3))
          have HSZ := Lib.hid (show g + 1 ≤ (wr.alloc (.cells #[.int .i64 (u1 : Nat)] 3)).heap.size by obtain ⟨_, _, _, _, _, _, _, q5, _⟩ := HF.out; simp; omega)
          clear hp1 hu1 hq hi1 hp2 hu2 b1 b2 hk4 hk2 hk1 hkm hi13 hm3 hq13
          go_upto_region 13 with (at_builtin; go_loud (refine wpList_append_loc _ rfl (.tmp 46) (.tmp 52) _ rfl (g + 1) 3 i0 _ 1 8 Tryd.underlying26 HIN.out.1 HIN.out.2.1 HIN.out.2.2.1 HIN.out.2.2.2 rfl (by omega) (.slice A k c) k (litVals ((rowC m i).take k)) rfl HO5.out (wr.heap.size + 1) (some ⟨wr.heap.size, 0, none⟩) 1 1 [.int .i64 (u1 : Nat)] rfl (reads_new (by simp) (by simp) rfl) (by intro u hu; rw [List.mem_singleton.1 hu]; rfl) (le_maxLen (by omega)) (le_bytes (by omega) (by omega)) HSZ.out ?_; intro A8 c8 w8 hown8 hg8 hl8; have HO8 := Lib.hid hown8; have HG8 := Lib.hid hg8; have HL8 := Lib.hid hl8; clear hown8 hg8 hl8))
          have hown8 := HO8.out
          rw [lit_snoc, show (rowC m i).take k ++ [((u1 : Nat) : Int)] = (rowC m i).take (k + 1) by rw [rowC_at HKM.out, HU.out.1]] at hown8
          have hf8 := FmC.row HF.out (by obtain ⟨_, _, _, _, _, _, _, _, q6⟩ := HF.out; exact q6) HO5.out HG8.out HL8.out
          have HF8 := Lib.hid hf8
          have hb8 : Below w8.heap.size w8 w8.drew := below_drewN (Below.refl _ w8) 1
          have hf9 := hf8.chg hb8
          have ho9 := own_chg (S := fun _ _ => False) hown8 (Chg.of_new hb8) (fun _ _ _ _ => id)
          obtain ⟨Af, cf, rows, q1, q2, q3, q4, q5, q6⟩ := hf9
          obtain ⟨W9, hW9⟩ : ∃ W9, w8.drew = W9 := ⟨_, rfl⟩
          rw [hW9] at q1 q2 q3 q4 q5 ho9
          obtain ⟨L, hL⟩ : ∃ L, L0 ++ nextC n m i k = L := ⟨_, rfl⟩
          obtain ⟨nl, hnl⟩ : ∃ nl, L.length = nl := ⟨_, rfl⟩
          have hnl2 : nl ≤ 100 := by
            rw [← hnl, ← hL, List.length_append, nextC_len, HL0.out.2]
            have h1 : i * (m + 1) ≤ 12 * 4 := Nat.mul_le_mul (by have := HYN.out; have := HN.out; omega) (by have := HN.out; omega)
            omega
          rw [hL] at q2 q3 q4
          rw [hnl] at q2 q3
          have HQ1 := Lib.hid q1
          have HQ2 := Lib.hid q2
          have HQ3 := Lib.hid q3
          have HQ4 := Lib.hid q4
          have HQ5 := Lib.hid (And.intro q5 q6)
          have HO9 := Lib.hid ho9
          have HL := Lib.hid (And.intro hL hnl)
          have HW9 := Lib.hid hW9
          have c1 := q2.cell 1
          clear hown8 hf8 hb8 ho9 q1 q2 q3 q4 q5 q6 hL hnl HO8 HG8 HL8 HO5 HSZ HF HO hk5 hW9
          refine wp_region_mv (S := fun w' => w'.cell? ⟨g, 1, none⟩ = some (.slice Af nl cf)) 21 [.f 0, .f 1, .f 2, .f 3, .f 4, .f 5, .f 6, .f 7, .f 8, .f 9, .f 10, .f 11, .f 12, .f 13, .f 14, .f 15, .f 16, .t 17, .t 18, .t 19, .f 20, .t 21] (by kernel_rfl) (by kernel_rfl) (by kernel_rfl) (by rw [HW9.out]; exact c1) ?_
          iterate 17 (refine mv_take _ _ rfl (by kernel_rfl) (fun wv hv => by have hv1 := hv; clear hv; go_simp; try with_reducible rfl) ?_; simp only [Act.put, List.getElem_toArray, List.getElem_cons_zero, List.getElem_cons_succ, List.setIfInBounds_toArray, List.set_cons_zero, List.set_cons_succ])
          rw [HW9.out]
          refine mv_act _ rfl (fun K hK => ?_)
          go_simp
          go_simp
          refine hK _ _ (.inr (((HQ2.out.alloc (.cells #[.int .i64 (-(u1 : Int)), .int .i64 (-(u2 : Int))] 3)).cell 1))) ?_
          clear hK K
          refine mv_act _ rfl (fun K hK => ?_)
          go_simp
          go_simp
          refine hK _ _ (.inr ((((HQ2.out.alloc (.cells #[.int .i64 (-(u1 : Int)), .int .i64 (-(u2 : Int))] 3)).alloc (.cells #[.slice (some ⟨W9.heap.size, 0, none⟩) 2 2] 26)).cell 1))) ?_
          clear hK K
          refine mv_act _ rfl (fun K hK => ?_)
          refine step_append_sl _ rfl (.tmp 55) (.tmp 72) _ rfl (g + 1) 26 ic _ 1 24 Tryd.underlying22 HIC.out.1 HIC.out.2.1 HIC.out.2.2.1 HIC.out.2.2.2 rfl (by omega) _ nl _ rfl ((HQ3.out.alloc _).alloc _) (W9.heap.size + 2) (some ⟨W9.heap.size + 1, 0, none⟩) 1 1 [.slice (some ⟨W9.heap.size, 0, none⟩) 2 2] rfl (reads_new (w := W9.alloc (.cells #[.int .i64 (-(u1 : Int)), .int .i64 (-(u2 : Int))] 3)) (xs := [.slice (some ⟨W9.heap.size, 0, none⟩) 2 2]) (g := W9.heap.size + 1) (by simp) (by omega) rfl) (fun u hu => by rw [List.mem_singleton.1 hu]; rfl) (le_maxLen (by omega)) (le_bytes (by omega) (by omega)) (by have := HQ5.out.1; simp; omega) ?_
          intro A10 c10 w10 hown10 hg10
          have k10 := blk_grown ((HQ2.out.alloc _).alloc _) ((HQ3.out.alloc _).alloc _) (by decide) hg10
          have d1 := k10.cell 1
          have f1 := k10.frozen 1
          have HP := Lib.hid (FmC.push (l := [-(u1 : Int), -(u2 : Int)]) HL.out.2 (HQ1.out.alloc HQ1.out.size _) (HQ2.out.alloc _) (HQ3.out.alloc _) (fun j l hl => by obtain ⟨u, y1, y2, y3⟩ := HQ4.out j l hl; exact ⟨u, y1, y2.alloc _, y3⟩) (own_full0 (xs := [.int .i64 (-(u1 : Int)), .int .i64 (-(u2 : Int))]) HQ5.out.1 rfl (by simp)) (by
            right
            intro e
            exact absurd (own_lt HO9.out e.symm) (Nat.lt_irrefl _)) (HO9.out.alloc _) (by have := HQ5.out.1; simp; omega) HQ5.out.2 (by have := HG.out; omega) hg10 hown10)
          clear hown10 hg10 k10 c1
          refine hK _ _ (.inr (d1)) ?_
          clear hK K
          try simp only [Act.put, List.getElem_toArray, List.getElem_cons_zero, List.getElem_cons_succ, List.setIfInBounds_toArray, List.set_cons_zero, List.set_cons_succ]
          iterate 1 (refine mv_take _ _ rfl (by kernel_rfl) (fun wv hv => by have hv1 := hv; clear hv; go_simp; try with_reducible rfl) ?_; simp only [Act.put, List.getElem_toArray, List.getElem_cons_zero, List.getElem_cons_succ, List.setIfInBounds_toArray, List.set_cons_zero, List.set_cons_succ])
          refine mv_act _ rfl (fun K hK => ?_)
          go_simp
          go_simp
          refine hK _ _ (.inl rfl) ?_
          clear hK K
          refine mv_nil ?_
          clear d1 f1
          have HN8 := Lib.hid (show RcC w1 g V (g + 1) n m i L0 (.int .i64 (k2 : Nat)) (.slice A8 (k + 1) c8) (w10.setCell ⟨g, 1, none⟩ (.slice A10 (nl + 1) c10)) from
            ⟨k + 1, A8, c8, HKM.out, by have h1 := HK1.out; have h2 := HK2.out; rw [← h2, ← h1], rfl, by rw [nextC_succ, HU.out.1, HU.out.2, ← List.append_assoc, HL.out.1]; exact HP.out.1, HP.out.2⟩)
          go_wp2_with fail
          go_roundw
          case rel => exact HN8.out
          case measure => have := HK2.out; have := HK1.out; have := HKM.out; simp [intOf]; omega
        · obtain rfl : k = m := by have := HK.out; omega
          have hkI : ¬ (k1 : Int) ≤ (k : Int) := by omega
          have hb0 := HF.out.toA
          obtain ⟨Af, cf, hb1, hkk, ⟨rows, hrow, hcl⟩, hsz, hbase⟩ := hb0
          obtain ⟨L, hL⟩ : ∃ L, L0 ++ nextC n k i k = L := ⟨_, rfl⟩
          obtain ⟨nl, hnl⟩ : ∃ nl, L.length = nl := ⟨_, rfl⟩
          have hnl2 : nl ≤ 100 := by
            rw [← hnl, ← hL, List.length_append, nextC_len, HL0.out.2]
            have h1 : i * (k + 1) ≤ 12 * 4 := Nat.mul_le_mul (by have := HYN.out; have := HN.out; omega) (by have := HN.out; omega)
            have := HN.out
            omega
          rw [hL] at hkk hrow hcl
          rw [hnl] at hkk hrow
          have ho2 := HO.out
          rw [List.take_of_length_le (by rw [rowC_len]; exact Nat.le_refl _)] at ho2
          have hu : wr.ownsRow (g + 1) 3 1 (.slice A k c) (rowC k i).length (litVals (rowC k i)) := by rw [rowC_len]; exact ho2
          have d1 := hkk.cell 1
          have HKF := Lib.hid hkk
          have HROW := Lib.hid hrow
          have HCL := Lib.hid hcl
          have HUU := Lib.hid hu
          have HL := Lib.hid (And.intro hL hnl)
          have HSB := Lib.hid (And.intro hb1 (And.intro hsz hbase))
          have HRD := Lib.hid (show Reads (wr.alloc (.cells #[.slice A k c] 26)) (wr.heap.size + 1) 1 (some ⟨wr.heap.size, 0, none⟩) 1 [.slice A k c] from reads_new (by simp) (by simp) rfl)
          have hi13 : i ≤ 13 := by have := HN.out; have := HYN.out; omega
          have w1' : IntKind.i64.wrap ((i : Int) + 1) = (i : Int) + 1 := by rw [IntKind.wrap_i64]; omega
          clear hb1 hkk hrow hcl hu ho2 hsz hbase hkm hk1 hL hnl
          go_wp2_with (first | (at_builtin; go_loud (refine wpList_append_sl _ rfl (.tmp 76) (.tmp 78) _ rfl (g + 1) 26 ic _ 1 24 Tryd.underlying22 HIC.out.1 HIC.out.2.1 HIC.out.2.2.1 HIC.out.2.2.2 rfl (by omega) _ nl _ rfl (HROW.out.alloc _) (wr.heap.size + 1) (some ⟨wr.heap.size, 0, none⟩) 1 1 [.slice A k c] rfl HRD.out (fun u hu => by rw [List.mem_singleton.1 hu]; rfl) (le_maxLen (by omega)) (le_bytes (by omega) (by omega)) (by have := HSB.out.2.1; simp; omega) ?_; intro A9 c9 w9 hown9 hg9; have k9 := blk_grown (HKF.out.alloc _) (HROW.out.alloc _) (by decide) hg9; have e1 := k9.cell 1; have f1 := k9.frozen 1; have HP9 := Lib.hid (FmA.push HL.out.2 HSB.out.1 HKF.out HROW.out HCL.out HUU.out HSB.out.2.1 (by have := HG.out; omega) (by have := HG.out; omega) hg9 hown9); clear hown9 hg9 k9)) | fail)
          clear d1 e1 f1
          have HN9 := Lib.hid (show FmA w1 g V (g + 1) (allC n k (i + 1)) (w9.setCell ⟨g, 1, none⟩ (.slice A9 (nl + 1) c9)) from by rw [allC_succ, HL0.out.1, HL.out.1]; exact HP9.out)
          go_wp2_with fail
          go_roundw
          case rel => exact ⟨i + 1, HYN.out, by go_num, HN9.out⟩
          case measure => have := HYN.out; simp [intOf]; omega
    · obtain rfl : i = n := by have := HI.out; omega
      obtain ⟨s0, a, s1, e0, hsr, hres⟩ := colors_run HN.out.1 HN.out.2.1 HN.out.2.2.1 HN.out.2.2.2
      have hlit := colors_lit HN.out.1 HN.out.2.2.2
      have hf := HF.out
      have hlen := allC_len i m i
      rw [show allC i m i = colorsF i m from rfl] at hf hlen
      rw [HV.out.1] at e0 hsr hlit
      obtain ⟨F, hF⟩ : ∃ F, colorsF i m = F := ⟨_, rfl⟩
      rw [hF] at hf e0 hlen hlit
      obtain ⟨nl, hnl⟩ : ∃ nl, F.length = nl := ⟨_, rfl⟩
      have hnl2 : nl ≤ 52 := by
        rw [← hnl, hlen]
        exact Nat.mul_le_mul HN.out.2.1 (show m + 1 ≤ 4 by have := HN.out; omega)
      obtain ⟨Af, cf, hb1, hkk, hcs, _, _⟩ := hf
      rw [hnl] at hkk hcs
      have hes := HES.out.below (HB1.out.trans (hb1.mono HB1.out.size))
      have CC := Lib.hid (solve_run (w := wr) (c := cf) (effort := 100000) e0 hsr hes.s (by have := HV.out.2; omega) hnl (CsO.of_at hcs) (fun d hd => ⟨by have := (hlit d hd).1; omega, (hlit d hd).2⟩) (by omega) (by omega))
      have d0 := hkk.cell 0
      have d1 := hkk.cell 1
      have HBW := Lib.hid (HB1.out.trans (hb1.mono HB1.out.size))
      have HKF := Lib.hid hkk
      have HCS := Lib.hid hcs
      have HRUN := Lib.hid (And.intro e0 (And.intro hsr (And.intro hlit hnl)))
      have HML := Lib.hid hnl2
      have HRES := Lib.hid hres
      clear hb1 hkk hcs e0 hsr hlit HF hin hes hF hnl hlen hnl2 hres
      go_wp2_with fail
      refine CC.out.mono ?_
      rintro e w5 ⟨v, rfl, hb5, hv⟩
      have HB5 := Lib.hid (HBW.out.trans (hb5.mono HBW.out.size))
      have HK5 := Lib.hid (HKF.out.below hb5 HKF.out.lt)
      have HC5 := Lib.hid (HCS.out.chg hb5)
      have heven : ∀ b, noC i m = b → ((m : Int) == 2 && (i : Int).tmod 2 == 1) = b := fun b hb => by
        rw [← hb]
        unfold noC
        rw [show (i : Int).tmod 2 = ((i % 2 : Nat) : Int) by rw [Int.tmod_eq_emod_of_nonneg (by omega)]; omega]
        have hm : m = 2 ∨ m = 3 := by have := HN.out; omega
        rcases hm with rfl | rfl
        · rcases Nat.mod_two_eq_zero_or_one i with h | h <;> rw [h] <;> rfl
        · rfl
      rcases HRES.out with ⟨hno, pf, rfl⟩ | ⟨hno, mo, rfl⟩
      · obtain ⟨pv, tag, rfl, hpr⟩ := hv
        have hform : ∃ A2 c2, pv = .slice A2 pf.length c2 := by
          obtain ⟨rows, q1, q2, _⟩ := hpr
          obtain ⟨A2, c2, e⟩ := q1.form
          exact ⟨A2, c2, by rw [e, q2]⟩
        obtain ⟨A2, c2, rfl⟩ := hform
        obtain ⟨n2, hn2⟩ : ∃ n2, pf.length = n2 := ⟨_, rfl⟩
        rw [hn2] at hpr ⊢
        obtain ⟨W6, hW6⟩ : ∃ W6, W6 = w5.alloc (.cells #[.string ⟨#[110, 111]⟩, .slice none 0 0, .slice A2 n2 c2] 49) := ⟨_, rfl⟩
        have hb6 : Below w5.heap.size w5 W6 := by rw [hW6]; exact (Below.refl _ _).alloc (Nat.le_refl _) _
        have k6 : Blk W6 w5.heap.size 49 #[.string ⟨#[110, 111]⟩, .slice none 0 0, .slice A2 n2 c2] := by rw [hW6]; exact Blk.new w5 _ _
        have HB6 := Lib.hid (HB5.out.trans (hb6.mono HB5.out.size))
        have k7 := HK5.out.below hb6 HK5.out.lt
        obtain ⟨r1, r2, r3, r4⟩ := HRUN.out
        have CK := Lib.hid (check_no (w := W6) (c := cf) (c2 := c2) (HES.out.below HB6.out) (by have := HV.out.2; omega) (HC5.out.chg hb6) r4 (by have := HML.out; omega) (fun d hd => ⟨by have := (r3 d hd).1; omega, (r3 d hd).2⟩) r1 (by omega) r2 (hpr.new hb6) hn2)
        have x0 := k6.cell 0
        have x1 := k6.cell 1
        have x2 := k6.cell 2
        have y0 := k7.cell 0
        have y1 := k7.cell 1
        have hm2 : m = 2 := by unfold noC at hno; have := (Bool.and_eq_true_iff.1 hno).1; simpa using this
        have ho2 : i % 2 = 1 := by unfold noC at hno; have := (Bool.and_eq_true_iff.1 hno).2; simpa using this
        have t1 : ((m : Int) == 2) = true := by rw [hm2]; rfl
        have t2 : ((i : Int).tmod 2 == 1) = true := by
          rw [show (i : Int).tmod 2 = ((i % 2 : Nat) : Int) by rw [Int.tmod_eq_emod_of_nonneg (by omega)]; omega, ho2]; rfl
        have t3 : ((i : Int) % 2 == 1) = true := by rw [show (i : Int) % 2 = ((i % 2 : Nat) : Int) by omega, ho2]; rfl
        have t4 : (i % 2 == 1) = true := by rw [ho2]; rfl
        have HW6 := Lib.hid hW6
        clear hb6 k6 k7 r1 r2 r3 r4 hW6 hb5 d0 d1 CC hpr hn2 heven hno hm2 ho2
        go_upto_region 16 with fail
        rw [← HW6.out]
        go_wp2_with fail
        refine CK.out.mono ?_
        rintro e w7 ⟨rfl, hb7⟩
        have HB7 := Lib.hid (HB6.out.trans (hb7.mono HB6.out.size))
        clear hb7 x0 x1 x2 y0 y1 CK
        go_wp2_with fail
        go_ret
        exact ⟨rfl, HB7.out⟩
      · obtain ⟨Am, cm, rfl, hom⟩ := hv
        obtain ⟨r1, r2, r3, r4⟩ := HRUN.out
        obtain ⟨hml, hfor⟩ := yes_forH (by have := HV.out.2; omega) (fun d hd => (r3 d hd).2) (by have := HML.out; omega) (by omega) r1 r2
        obtain ⟨W6, hW6⟩ : ∃ W6, W6 = w5.alloc (.cells #[.string ⟨#[121, 101, 115]⟩, .slice Am V cm, .slice none 0 0] 49) := ⟨_, rfl⟩
        have hb6 : Below w5.heap.size w5 W6 := by rw [hW6]; exact (Below.refl _ _).alloc (Nat.le_refl _) _
        have k6 : Blk W6 w5.heap.size 49 #[.string ⟨#[121, 101, 115]⟩, .slice Am V cm, .slice none 0 0] := by rw [hW6]; exact Blk.new w5 _ _
        have HB6 := Lib.hid (HB5.out.trans (hb6.mono HB5.out.size))
        have k7 := HK5.out.below hb6 HK5.out.lt
        have hcs6 := HC5.out.chg hb6
        have hrd := Reads.of_own (own_chg (S := fun _ _ => False) hom (Chg.of_new hb6) (fun _ _ _ _ => id))
        rw [← hml] at hrd
        rw [← r4] at hcs6
        have CH := holds_any (w := W6) (cc := cf) (cv := cm) (q := V) (clsr_of_own hcs6) hrd (Nat.le_refl _) (by have := HML.out; omega) (by have := HV.out.2; omega) (fun d hd => ⟨(r3 d hd).1, fun x hx => by have := (r3 d hd).2 x hx; unfold Lit at this; omega⟩)
        rw [hfor, hml, r4] at CH
        have CH := Lib.hid CH
        have x0 := k6.cell 0
        have x1 := k6.cell 1
        have x2 := k6.cell 2
        have y0 := k7.cell 0
        have y1 := k7.cell 1
        have hcase : ((m : Int) == 2) = false ∨ (((m : Int) == 2) = true ∧ ((i : Int).tmod 2 == 1) = false ∧ ((i : Int) % 2 == 1) = false ∧ (i % 2 == 1) = false) := by
          have h := heven false hno
          cases h1 : ((m : Int) == 2) with
          | false => exact .inl rfl
          | true =>
            rw [h1, Bool.true_and] at h
            have e : (i : Int).tmod 2 = ((i % 2 : Nat) : Int) := by rw [Int.tmod_eq_emod_of_nonneg (by omega)]; omega
            have e2 : (i : Int) % 2 = ((i % 2 : Nat) : Int) := by omega
            refine .inr ⟨rfl, h, by rw [e2, ← e]; exact h, ?_⟩
            rw [e] at h
            rcases Nat.mod_two_eq_zero_or_one i with q | q
            · rw [q]; rfl
            · rw [q] at h; cases h
        have HW6 := Lib.hid hW6
        clear hb6 k6 k7 r1 r2 r3 r4 hW6 hb5 d0 d1 CC hom heven hno hml hfor hcs6 hrd
        go_upto_region 16 with fail
        rw [← HW6.out]
        rcases hcase with t1 | ⟨t1, t2, t3, t4⟩
        all_goals
          go_wp2_with fail
          refine CH.out.mono ?_
          rintro e w7 ⟨rfl, hb7⟩
          have HB7 := Lib.hid (HB6.out.trans (hb7.mono HB6.out.size))
          clear hb7 x0 x1 x2 y0 y1 CH
          go_wp2_with fail
          go_ret
          exact ⟨rfl, HB7.out⟩
end Go.Proofs.YtchpfdppfelmkaaDoor.slv
