/-
  WALKS of the reference's model of a graph (lustrumref3.Model): Has, Input, Turn, And, Or, Xor, If: what they do, as the plain model (Gm) says.
-/
import Derived.Test.YtmbjhpgemphmmaaDoorGo
namespace Go.Proofs.YtmbjhpgemphmmaaDoor
open Go.RowKit

def mCells : List Gm.Gate → List Value
  | [] => []
  | g :: r => .int .i64 g.a :: .int .i64 g.b :: .bool g.inp :: mCells r
theorem mCells_length (l : List Gm.Gate) : (mCells l).length = l.length * 3 := by
  induction l with
  | nil => rfl
  | cons g r ih => simp only [mCells, List.length_cons, ih]; omega
theorem mCells_append (l r : List Gm.Gate) : mCells (l ++ r) = mCells l ++ mCells r := by
  induction l with
  | nil => rfl
  | cons g l ih => simp only [List.cons_append, mCells, ih]
theorem mCells_at (l : List Gm.Gate) (i : Nat) (g : Gm.Gate) (h : l[i]? = some g) :
    (mCells l)[i * 3]? = some (.int .i64 g.a) ∧ (mCells l)[i * 3 + 1]? = some (.int .i64 g.b) ∧ (mCells l)[i * 3 + 2]? = some (.bool g.inp) := by
  induction l generalizing i with
  | nil => simp at h
  | cons x l ih =>
    cases i with
    | zero =>
      simp only [List.getElem?_cons_zero, Option.some.injEq] at h
      subst h
      simp [mCells]
    | succ i =>
      have := ih i (by simpa using h)
      have e : (i + 1) * 3 = i * 3 + 1 + 1 + 1 := by omega
      simpa only [e, mCells, List.getElem?_cons_succ] using this
/-- the model behind the pointer to block b -/
structure ModelAt (w : World) (base b : Nat) (gs : List Gm.Gate) : Prop where
  len : gs.length < 100000
  hb : base ≤ b
  ex : ∃ sv, Blk w b 80 #[sv, .int .i64 (Gm.ins gs : Int)] ∧ w.ownsRow base 126 3 sv gs.length (mCells gs)
/-- what a method of a model may change -/
def MS (base b : Nat) (k : Nat) (o : Obj) : Prop := k = b ∨ (base ≤ k ∧ elemOf o = some 126)
theorem ModelAt.chg {w w' : World} {base b : Nat} {gs : List Gm.Gate} {S : Nat → Obj → Prop} (h : ModelAt w base b gs) (hc : Chg S w w')
    (h1 : ∀ cs, ¬ S b (.cells cs 80 (0, 0))) (h2 : ∀ k cs, base ≤ k → ¬ S k (.cells cs 126 (0, 0))) : ModelAt w' base b gs := by
  obtain ⟨sv, hblk, hrow⟩ := h.ex
  exact ⟨h.len, h.hb, sv, hblk.chg hc (h1 _), own_chg hrow hc fun g cur hg _ => h2 g cur hg⟩
theorem ModelAt.new {w w' : World} {base b : Nat} {gs : List Gm.Gate} (h : ModelAt w base b gs) (hb : Below w.heap.size w w') : ModelAt w' base b gs :=
  h.chg (S := fun _ _ => False) (.of_new hb) (by simp) (by simp)
theorem ModelAt.drewN {w : World} {base b : Nat} {gs : List Gm.Gate} (h : ModelAt w base b gs) (n : Nat) : ModelAt (w.drewN n) base b gs :=
  h.chg (S := fun _ _ => False) ((Chg.refl _ _).drewN n) (by simp) (by simp)
theorem ModelAt.low {w : World} {base b : Nat} {gs : List Gm.Gate} (h : ModelAt w base b gs) : base ≤ w.heap.size := by
  obtain ⟨sv, h1, _⟩ := h.ex
  have := h1.lt
  have := h.hb
  omega
/-- the cells of a row of the call's own, all that are read -/
theorem row_cells {w : World} {base : Nat} {t : TypeId} {size n : Nat} {v : Value} {xs : List Value} (h : w.ownsRow base t size v n xs) (hn : 0 < n) :
    ∃ g c, v = .slice (some ⟨g, 0, none⟩) n c ∧ ∀ j u, xs[j]? = some u → w.cell? ⟨g, j, none⟩ = some u := by
  obtain ⟨g, cap, hv, _, _⟩ := h.form hn
  refine ⟨g, cap, hv, fun j u hu => ?_⟩
  have := h.cells (g := g) (by rw [hv]; rfl) j u hu
  have hadd : (⟨g, 0, none⟩ : Addr).add j = ⟨g, j, none⟩ := by unfold Addr.add; split <;> simp_all
  rw [hadd] at this
  exact this

theorem mhas_at {w : World} {base b : Nat} {gs : List Gm.Gate} (hm : ModelAt w base b gs) (a : Int) (ha : (Lit.int .i64 a).wf = true) :
    Calls Tryd.prog 26 #[.pointer (some ⟨b, 0, none⟩), .int .i64 a] w fun e w' => e = .returned (.bool (hasB gs.length a)) ∧ w = w' := by
  have hbd : -9223372036854775808 ≤ a ∧ a ≤ 9223372036854775807 := by simpa [Lit.wf, IntKind.min, IntKind.max, IntKind.signed, IntKind.bits] using ha
  obtain ⟨sv, hblk, hrow⟩ := hm.ex
  obtain ⟨A, c, rfl⟩ := own_form hrow
  have hl := hm.len
  have c0 : w.cell? ⟨b, 0, none⟩ = some (.slice A gs.length c) := hblk.cell 0
  by_cases h0 : 0 ≤ a
  · have he : decide (a < 2 * (gs.length : Int) + 2) = hasB gs.length a := by unfold hasB; rw [decide_eq_true h0, Bool.true_and]
    have He := Lib.hid he
    clear ha hm hblk hrow he
    go_enter Tryd.func26, Tryd.ntmps26
    go_wp2
    go_ret
    exact ⟨by rw [← He.out]; rfl, rfl⟩
  · have hf : hasB gs.length a = false := by unfold hasB; simp; omega
    have Hf := Lib.hid hf
    clear hf ha hm hblk hrow
    go_enter Tryd.func26, Tryd.ntmps26
    go_wp2
    go_ret
    exact ⟨by rw [Hf.out]; rfl, rfl⟩
theorem turn_any (a : Nat) (w : World) (ha : a ≤ 1000000) : Calls Tryd.prog 91 #[.int .i64 a] w fun e w' => e = .returned (.int .i64 (Gm.notL a : Nat)) ∧ w = w' := by
  by_cases h : a % 2 = 0
  · have e0 : (((a : Int) % 2) == 0) = true := by simp; omega
    have hx : ((Gm.notL a : Nat) : Int) = (a : Int) + 1 := by unfold Gm.notL; rw [if_pos h]; omega
    have Hx := Lib.hid hx
    clear h hx
    go_enter Tryd.func91, Tryd.ntmps91
    go_wp2
    go_ret
    exact ⟨by rw [Hx.out]; rfl, rfl⟩
  · have e0 : (((a : Int) % 2) == 0) = false := by simp; omega
    have h1 : 1 ≤ a := by omega
    have hx : ((Gm.notL a : Nat) : Int) = (a : Int) - 1 := by unfold Gm.notL; rw [if_neg h]; omega
    have Hx := Lib.hid hx
    clear h hx
    go_enter Tryd.func91, Tryd.ntmps91
    go_wp2
    go_ret
    exact ⟨by rw [Hx.out]; rfl, rfl⟩

theorem infoMGate : (Tryd.prog.info? 126).map (fun i => (i.zero, i.size, i.bytes)) = some (some (.agg #[.int .i64 0, .int .i64 0, .bool false]), 3, 24) := by kernel_rfl
def MPost (w : World) (base b : Nat) (r : List Gm.Gate × Nat) (e : Ending) (w' : World) : Prop :=
  e = .returned (.int .i64 (r.2 : Nat)) ∧ ModelAt w' base b r.1 ∧ Chg (MS base b) w w'
theorem own_MS {w : World} {base b n : Nat} {v : Value} {xs : List Value} (h : w.ownsRow base 126 3 v n xs) : ∀ k o, v.ownBlock = some k → w.heap[k]? = some o → MS base b k o := by
  intro k o hk ho
  rcases h.2 with ⟨rfl, _⟩ | ⟨g, cap, cur, rfl, hb, hg, _⟩
  · simp [Value.ownBlock] at hk
  · simp only [Value.ownBlock, Option.some.injEq] at hk
    subst hk
    rw [hg] at ho
    injection ho with ho
    subst ho
    exact .inr ⟨hb, rfl⟩
theorem sl_of_own {w : World} {base : Nat} {e : TypeId} {size n : Nat} {A : Option Addr} {m c : Nat} {xs : List Value} (h : w.ownsRow base e size (.slice A m c) n xs) : m = n := by
  rcases h.2 with ⟨h, h0⟩ | ⟨g, cap, _, h, _⟩
  · simp only [Value.slice.injEq] at h; omega
  · simp only [Value.slice.injEq] at h; exact h.2.1
theorem madd_end {w w1 : World} {base b : Nat} {gs : List Gm.Gate} {sv1 sv y : Value} {g : Gm.Gate} {o : Obj} (hrow : w.ownsRow base 126 3 sv gs.length (mCells gs))
    (hB : Blk w1 b 80 #[sv, y]) (hO : w1.ownsRow base 126 3 sv1 (gs.length + 1) (mCells gs ++ [.int .i64 g.a, .int .i64 g.b, .bool g.inp])) (hG : (w.alloc o).grownBy w1 sv.ownBlock) :
    Blk (w1.setCell ⟨b, 0, none⟩ sv1) b 80 #[sv1, y] ∧ (w1.setCell ⟨b, 0, none⟩ sv1).ownsRow base 126 3 sv1 (gs ++ [g]).length (mCells (gs ++ [g])) ∧ Chg (MS base b) w (w1.setCell ⟨b, 0, none⟩ sv1) := by
  refine ⟨by simpa using hB.set_ 0 sv1, ?_, ?_⟩
  · have hne := own_blk_ne hO hB (by decide)
    have h2 := hO.kept (w' := w1.setCell ⟨b, 0, none⟩ sv1) (row := some b) ⟨rfl, rfl, rfl, by simp [World.setCell], fun k hk hn => Below.heap_setCell _ _ _ _ (fun e => hn (by rw [e]))⟩ (.inr hne)
    simpa [mCells_append, mCells] using h2
  · exact Chg.setCell (((Chg.refl _ w).alloc o).grown hG (own_MS hrow)) (p := ⟨b, 0, none⟩) (.inr fun o => .inl rfl) _
theorem minput_end {w w2 : World} {base b : Nat} {gs : List Gm.Gate} {sv : Value} (hn : gs.length < 99999) (hb : base ≤ b) (h1 : Blk w2 b 80 #[sv, .int .i64 (Gm.ins gs : Int)])
    (h2 : w2.ownsRow base 126 3 sv (gs ++ [(⟨0, 0, true⟩ : Gm.Gate)]).length (mCells (gs ++ [(⟨0, 0, true⟩ : Gm.Gate)]))) (h3 : Chg (MS base b) w w2) :
    MPost w base b (Gm.inpG gs) (.returned (.int .i64 (2 * ((gs.length : Int) + 1)))) (w2.setCell ⟨b, 1, none⟩ (.int .i64 ((Gm.ins gs : Int) + 1))) := by
  have hc : Chg (MS base b) w (w2.setCell ⟨b, 1, none⟩ (.int .i64 ((Gm.ins gs : Int) + 1))) := Chg.setCell h3 (p := ⟨b, 1, none⟩) (.inr fun o => .inl rfl) _
  refine ⟨by simp [Gm.inpG]; omega, ⟨by simp [Gm.inpG]; omega, hb, sv, ?_, ?_⟩, hc⟩
  · rw [Gm.ins_inp]
    simpa using h1.set_ 1 (.int .i64 ((Gm.ins gs : Int) + 1))
  · have hne := own_blk_ne h2 h1 (by decide)
    exact h2.kept (w' := w2.setCell ⟨b, 1, none⟩ (.int .i64 ((Gm.ins gs : Int) + 1))) (row := some b) ⟨rfl, rfl, rfl, by simp [World.setCell], fun k hk hn => Below.heap_setCell _ _ _ _ (fun e => hn (by rw [e]))⟩ (.inr hne)
set_option maxHeartbeats 400000 in
theorem minput_any {w : World} {base b : Nat} {gs : List Gm.Gate} (hm : ModelAt w base b gs) (hn : gs.length < 99999) :
    Calls Tryd.prog 55 #[.pointer (some ⟨b, 0, none⟩)] w (MPost w base b (Gm.inpG gs)) := by
  obtain ⟨i0, hi, hz0, hz1, hz2⟩ := info_parts infoMGate
  obtain ⟨sv, hblk, hrow⟩ := hm.ex
  obtain ⟨A, c, rfl⟩ := own_form hrow
  have hlow := hm.low
  have hil := Gm.ins_le gs
  have hbb := hm.hb
  have c0 : w.cell? ⟨b, 0, none⟩ = some (.slice A gs.length c) := hblk.cell 0
  have c1 : w.cell? ⟨b, 1, none⟩ = some (.int .i64 (Gm.ins gs : Int)) := hblk.cell 1
  have hlt := hblk.lt
  obtain ⟨ni, hni⟩ : ∃ ni, ni = Gm.ins gs := ⟨_, rfl⟩
  rw [← hni] at c1 hblk hil
  have HI := Lib.hid (show _ ∧ _ ∧ _ ∧ _ from ⟨hi, hz0, hz1, hz2⟩)
  have HB := Lib.hid hblk
  have HR := Lib.hid hrow
  have HN := Lib.hid hn
  have HNI := Lib.hid hni
  have hbd : (ni : Int) ≤ 1000000 := by omega
  clear hm hblk hrow hi hz0 hz1 hz2 hni hil
  go_enter Tryd.func55, Tryd.ntmps55
  go_wp2_with (at_builtin; refine wpList_append_sl _ rfl (.tmp 7) (.tmp 9) _ rfl base 126 i0 _ 3 24 Tryd.underlying78 HI.out.1 HI.out.2.1 HI.out.2.2.1 HI.out.2.2.2 rfl (by omega) _ gs.length _ rfl (HR.out.alloc _) (w.heap.size + 1) (some ⟨w.heap.size, 0, none⟩) 1 1 [.int .i64 0, .int .i64 0, .bool true] rfl (reads_new rfl (by omega) rfl) (by simp [Value.oneCell']) (le_maxLen (by have := HN.out; omega)) (le_bytes (by have := HN.out; omega) (by omega)) (by simp; omega) ?_; intro A1 c1' w1 hown1 hg1; have hg2 : (w.alloc (.cells #[.int .i64 0, .int .i64 0, .bool true] 126)).grownBy w1 (Value.slice A gs.length c).ownBlock := hg1; have hB1 := (HB.out.alloc _).grown hg2 (own_blk_ne HR.out HB.out (by decide)).symm; have k0 : w1.cell? ⟨b, 0, none⟩ = some (.slice A gs.length c) := hB1.cell 0; have k1 : w1.cell? ⟨b, 1, none⟩ = some (.int .i64 (ni : Int)) := hB1.cell 1; have k2 : ∀ i, w1.frozen? ⟨b, i, none⟩ = false := fun i => hB1.frozen i; have HB1 := Lib.hid hB1; have HO1 := Lib.hid hown1; have HG1 := Lib.hid hg2; clear hB1 hown1 hg1 hg2)
  go_ret
  have hni := HNI.out
  subst hni
  obtain ⟨e1, e2, e3⟩ := madd_end (g := ⟨0, 0, true⟩) HR.out HB1.out HO1.out HG1.out
  exact minput_end HN.out hbb e1 e2 e3
/-- And of two literals, the lesser one ahead: whichever of the five ways it goes -/
def MEnd (w : World) (base b : Nat) (gs : List Gm.Gate) (lo hi : Nat) (e : Ending) (w' : World) : Prop := MPost w base b (Gm.andG gs lo hi) e w'
theorem mand_same {w : World} {base b : Nat} {gs : List Gm.Gate} {x y r : Nat} (hm : ModelAt w base b gs) (h : Gm.andG gs x y = (gs, r)) (v : Int) (hv : v = (r : Int)) : MPost w base b (Gm.andG gs x y) (.returned (.int .i64 v)) w := by
  rw [h, hv]; exact ⟨rfl, hm, Chg.refl _ _⟩
theorem mand_new {w w1 : World} {base b : Nat} {gs : List Gm.Gate} {sv1 sv : Value} {lo hi x y : Nat} {o : Obj} (hm : ModelAt w base b gs) (hn : gs.length < 99999) (h : Gm.andG gs x y = (gs ++ [⟨lo, hi, false⟩], 2 * gs.length + 2))
    (hrow : w.ownsRow base 126 3 sv gs.length (mCells gs)) (hB : Blk w1 b 80 #[sv, .int .i64 (Gm.ins gs : Int)])
    (hO : w1.ownsRow base 126 3 sv1 (gs.length + 1) (mCells gs ++ [.int .i64 lo, .int .i64 hi, .bool false])) (hG : (w.alloc o).grownBy w1 sv.ownBlock) (v : Int) (hv : v = 2 * ((gs.length : Int) + 1)) :
    MPost w base b (Gm.andG gs x y) (.returned (.int .i64 v)) (w1.setCell ⟨b, 0, none⟩ sv1) := by
  obtain ⟨e1, e2, e3⟩ := madd_end (g := ⟨lo, hi, false⟩) hrow hB hO hG
  rw [h, hv]
  refine ⟨by simp; omega, ⟨by simp; omega, hm.hb, sv1, ?_, e2⟩, e3⟩
  have hi : Gm.ins (gs ++ [(⟨lo, hi, false⟩ : Gm.Gate)]) = Gm.ins gs := by simp [Gm.ins_append, Gm.ins]
  rw [hi]; exact e1
/-! ### And -/
def NoneTo (lo hi : Nat) (gs : List Gm.Gate) (k : Nat) : Prop := Gm.find lo hi (gs.take k) = none
theorem take_at {gs : List Gm.Gate} {k : Nat} {g : Gm.Gate} (hk : gs[k]? = some g) : gs.take (k + 1) = gs.take k ++ [g] := by
  rw [List.take_add_one, hk]; rfl
theorem NoneTo.step {lo hi k : Nat} {gs : List Gm.Gate} {g : Gm.Gate} (h : NoneTo lo hi gs k) (hk : gs[k]? = some g) (hg : ¬ (g.inp = false ∧ g.a = lo ∧ g.b = hi)) : NoneTo lo hi gs (k + 1) := by
  unfold NoneTo at *
  rw [take_at hk, Gm.find_append, h]
  simp [Gm.find, hg]
theorem NoneTo.found {lo hi k : Nat} {gs : List Gm.Gate} {g : Gm.Gate} (h : NoneTo lo hi gs k) (hk : gs[k]? = some g) (hg : g.inp = false ∧ g.a = lo ∧ g.b = hi) : Gm.find lo hi gs = some k := by
  have hl := (List.getElem?_eq_some_iff.1 hk).1
  have e : gs = gs.take (k + 1) ++ gs.drop (k + 1) := (List.take_append_drop _ _).symm
  unfold NoneTo at h
  rw [e, Gm.find_append, take_at hk, Gm.find_append, h]
  simp [Gm.find, hg]
  omega
theorem NoneTo.all {lo hi : Nat} {gs : List Gm.Gate} (h : NoneTo lo hi gs gs.length) : Gm.find lo hi gs = none := by
  unfold NoneTo at h; rwa [List.take_length] at h
set_option maxHeartbeats 1000000 in
theorem mand_zero_a {w : World} {base b : Nat} {gs : List Gm.Gate} (hm : ModelAt w base b gs) {lo hi : Nat} (hle : lo ≤ hi) (hhi : hi ≤ 1000000) (h0 : lo = 0) :
    Calls Tryd.prog 57 #[.pointer (some ⟨b, 0, none⟩), .int .i64 lo, .int .i64 hi] w (MPost w base b (Gm.andG gs lo hi)) := by
  have hmin : min lo hi = lo := by omega
  have hmax : max lo hi = hi := by omega
  have hr := andG_zero (gs := gs) (x := lo) (y := hi) (by rw [hmin]; exact .inl h0)
  have HM := Lib.hid hm
  have HR := Lib.hid hr
  have e0 : ((lo : Int) == 0) = true := by simp; omega
  have eo : decide ((hi : Int) < (lo : Int)) = false := decide_eq_false (by omega)
  clear hm hr h0 hmin hmax
  go_enter Tryd.func57, Tryd.ntmps57
  go_wp2
  go_ret
  exact mand_same HM.out HR.out _ rfl
set_option maxHeartbeats 1000000 in
theorem mand_turned_a {w : World} {base b : Nat} {gs : List Gm.Gate} (hm : ModelAt w base b gs) {lo hi : Nat} (hle : lo ≤ hi) (hhi : hi ≤ 1000000) (h0 : 0 < lo) (h1 : hi = lo + 1) (h2 : lo % 2 = 0) :
    Calls Tryd.prog 57 #[.pointer (some ⟨b, 0, none⟩), .int .i64 lo, .int .i64 hi] w (MPost w base b (Gm.andG gs lo hi)) := by
  have hmin : min lo hi = lo := by omega
  have hmax : max lo hi = hi := by omega
  have hr := andG_zero (gs := gs) (x := lo) (y := hi) (by rw [hmin, hmax]; exact .inr ⟨h1, h2⟩)
  have HM := Lib.hid hm
  have HR := Lib.hid hr
  have e0 : ((lo : Int) == 0) = false := by simp; omega
  have e1 : ((hi : Int) == (lo : Int) + 1) = true := by simp; omega
  have e2 : ((lo : Int) % 2 == 0) = true := by simp; omega
  have eo : decide ((hi : Int) < (lo : Int)) = false := decide_eq_false (by omega)
  have hb0 : (0 : Int) ≤ lo ∧ (lo : Int) ≤ 1000000 := by omega
  clear hm hr h0 h1 h2 hmin hmax
  go_enter Tryd.func57, Tryd.ntmps57
  go_wp2
  go_ret
  exact mand_same HM.out HR.out _ rfl
set_option maxHeartbeats 1000000 in
theorem mand_one_a {w : World} {base b : Nat} {gs : List Gm.Gate} (hm : ModelAt w base b gs) {lo hi : Nat} (hle : lo ≤ hi) (hhi : hi ≤ 1000000) (h0 : lo = 1) (_h1 : ¬ (hi = lo + 1 ∧ lo % 2 = 0)) :
    Calls Tryd.prog 57 #[.pointer (some ⟨b, 0, none⟩), .int .i64 lo, .int .i64 hi] w (MPost w base b (Gm.andG gs lo hi)) := by
  have hmin : min lo hi = lo := by omega
  have hmax : max lo hi = hi := by omega
  have hr := andG_one (gs := gs) (x := lo) (y := hi) (by rw [hmin, hmax]; omega) (by rw [hmin]; exact .inl h0)
  rw [hmax] at hr
  have HM := Lib.hid hm
  have HR := Lib.hid hr
  have e0 : ((lo : Int) == 0) = false := by simp; omega
  have e1 : ((lo : Int) % 2 == 0) = false := by simp; omega
  have e2 : ((lo : Int) == 1) = true := by simp; omega
  have eo : decide ((hi : Int) < (lo : Int)) = false := decide_eq_false (by omega)
  have hb0 : (0 : Int) ≤ lo ∧ (lo : Int) ≤ 1000000 := by omega
  clear hm hr h0 _h1 hmin hmax
  by_cases h2 : (hi : Int) = (lo : Int) + 1
  · have e3 : ((hi : Int) == (lo : Int) + 1) = true := by simpa using h2
    clear h2
    go_enter Tryd.func57, Tryd.ntmps57
    go_wp2
    go_ret
    exact mand_same HM.out HR.out _ rfl
  · have e3 : ((hi : Int) == (lo : Int) + 1) = false := by simpa using h2
    clear h2
    go_enter Tryd.func57, Tryd.ntmps57
    go_wp2
    go_ret
    exact mand_same HM.out HR.out _ rfl
set_option maxHeartbeats 1000000 in
theorem mand_same_a {w : World} {base b : Nat} {gs : List Gm.Gate} (hm : ModelAt w base b gs) {lo hi : Nat} (hle : lo ≤ hi) (hhi : hi ≤ 1000000) (h0 : 1 < lo) (h1 : lo = hi) :
    Calls Tryd.prog 57 #[.pointer (some ⟨b, 0, none⟩), .int .i64 lo, .int .i64 hi] w (MPost w base b (Gm.andG gs lo hi)) := by
  have hmin : min lo hi = lo := by omega
  have hmax : max lo hi = hi := by omega
  have hr := andG_one (gs := gs) (x := lo) (y := hi) (by rw [hmin, hmax]; omega) (by rw [hmin, hmax]; exact .inr h1)
  rw [hmax] at hr
  have HM := Lib.hid hm
  have HR := Lib.hid hr
  have e0 : ((lo : Int) == 0) = false := by simp; omega
  have e1 : ((hi : Int) == (lo : Int) + 1) = false := by simp; omega
  have e2 : ((lo : Int) == 1) = false := by simp; omega
  have e3 : ((lo : Int) == (hi : Int)) = true := by simp; omega
  have eo : decide ((hi : Int) < (lo : Int)) = false := decide_eq_false (by omega)
  clear hm hr h0 h1 hmin hmax
  go_enter Tryd.func57, Tryd.ntmps57
  go_wp2
  go_ret
  exact mand_same HM.out HR.out _ rfl
set_option maxHeartbeats 1000000 in
theorem mand_find_a {w : World} {base b : Nat} {gs : List Gm.Gate} (hm : ModelAt w base b gs) {lo hi : Nat} (hle : lo ≤ hi) (hhi : hi ≤ 1000000) (hn : gs.length < 99999) (h0 : 1 < lo) (_hne : lo < hi) (h1 : ¬ (hi = lo + 1 ∧ lo % 2 = 0)) :
    Calls Tryd.prog 57 #[.pointer (some ⟨b, 0, none⟩), .int .i64 lo, .int .i64 hi] w (MPost w base b (Gm.andG gs lo hi)) := by
  have hmin : min lo hi = lo := by omega
  have hmax : max lo hi = hi := by omega
  have g0 : ¬ (min lo hi = 0 ∨ (max lo hi = min lo hi + 1 ∧ min lo hi % 2 = 0)) := by rw [hmin, hmax]; omega
  have g1 : ¬ (min lo hi = 1 ∨ min lo hi = max lo hi) := by rw [hmin, hmax]; omega
  have hs : ∀ k, Gm.find lo hi gs = some k → Gm.andG gs lo hi = (gs, 2 * k + 2) := fun k hk => andG_some g0 g1 (by rw [hmin, hmax]; exact hk)
  have hz : Gm.find lo hi gs = none → Gm.andG gs lo hi = (gs ++ [⟨lo, hi, false⟩], 2 * gs.length + 2) := fun hk => by
    have := andG_none (gs := gs) (x := lo) (y := hi) g0 g1 (by rw [hmin, hmax]; exact hk)
    rw [hmin, hmax] at this
    exact this
  obtain ⟨i0, hi0, hz0, hz1, hz2⟩ := info_parts infoMGate
  obtain ⟨sv, hblk, hrow⟩ := hm.ex
  obtain ⟨A, c, rfl⟩ := own_form hrow
  have hlow := hm.low
  have c0 : w.cell? ⟨b, 0, none⟩ = some (.slice A gs.length c) := hblk.cell 0
  have hlt := hblk.lt
  have hl2 := hm.len
  have HI := Lib.hid (show _ ∧ _ ∧ _ ∧ _ from ⟨hi0, hz0, hz1, hz2⟩)
  have HM := Lib.hid hm
  have HB := Lib.hid hblk
  have HR := Lib.hid hrow
  have HN := Lib.hid hn
  have HS := Lib.hid hs
  have HZ := Lib.hid hz
  have e0 : ((lo : Int) == 0) = false := by simp; omega
  have e2 : ((lo : Int) == 1) = false := by simp; omega
  have e3 : ((lo : Int) == (hi : Int)) = false := by simp; omega
  have eo : decide ((hi : Int) < (lo : Int)) = false := decide_eq_false (by omega)
  have hb0 : (0 : Int) ≤ lo ∧ (lo : Int) ≤ 1000000 := by omega
  have hcases : ((hi : Int) == (lo : Int) + 1) = false ∨ (((hi : Int) == (lo : Int) + 1) = true ∧ ((lo : Int) % 2 == 0) = false) := by
    by_cases h2 : hi = lo + 1
    · exact .inr ⟨by simp; omega, by simp; omega⟩
    · exact .inl (by simp; omega)
  clear hm hblk hrow hi0 hz0 hz1 hz2 hn hs hz h0 h1 g0 g1 hmin hmax _hne
  rcases hcases with e4 | ⟨e4, e5⟩
  all_goals
    go_enter Tryd.func57, Tryd.ntmps57
    go_wp2
    go_loop [8] (fun i => ∃ k : Nat, k ≤ gs.length ∧ NoneTo lo hi gs k ∧ i = .int .i64 k) (fun i => gs.length - (intOf i).toNat)
    case atStart => exact ⟨0, Nat.zero_le _, rfl, rfl⟩
    case round =>
      obtain ⟨k, hk, hno, rfl⟩ := hrel
      have HK := Lib.hid hno
      clear hno
      by_cases hkl : k < gs.length
      · obtain ⟨⟨ga, gb, gi⟩, hg⟩ : ∃ g, gs[k]? = some g := ⟨gs[k], List.getElem?_eq_getElem hkl⟩
        obtain ⟨q0, q1, q2⟩ := mCells_at gs k _ hg
        obtain ⟨blk, c', hv, hcell⟩ := row_cells HR.out (by omega)
        have hA : A = some ⟨blk, 0, none⟩ := by simp only [Value.slice.injEq] at hv; exact hv.1
        subst hA
        have d0 := hcell _ _ q0
        have d1 := hcell _ _ q1
        have d2 := hcell _ _ q2
        have HG := Lib.hid hg
        clear hg q0 q1 q2 hcell hv
        cases gi with
        | true =>
          go_wp2
          go_round
          case rel => exact ⟨k + 1, by omega, HK.out.step HG.out (by simp), by go_num⟩
          case measure => simp [intOf]; omega
        | false =>
          by_cases ha : ga = lo
          · have f0 : ((ga : Int) == (lo : Int)) = true := by simp; omega
            by_cases hb : gb = hi
            · have f1 : ((gb : Int) == (hi : Int)) = true := by simp; omega
              have hf := HK.out.found HG.out ⟨rfl, ha, hb⟩
              have HF := Lib.hid (HS.out k hf)
              clear ha hb hf
              go_wp2
              go_ret
              exact mand_same HM.out HF.out _ (by omega)
            · have f1 : ((gb : Int) == (hi : Int)) = false := by simp; omega
              have hf := HK.out.step HG.out (fun h => hb h.2.2)
              have HF := Lib.hid hf
              clear ha hb hf
              go_wp2
              go_round
              case rel => exact ⟨k + 1, by omega, HF.out, by go_num⟩
              case measure => simp [intOf]; omega
          · have f0 : ((ga : Int) == (lo : Int)) = false := by simp; omega
            have hf := HK.out.step HG.out (fun h => ha h.2.1)
            have HF := Lib.hid hf
            clear ha hf
            go_wp2
            go_round
            case rel => exact ⟨k + 1, by omega, HF.out, by go_num⟩
            case measure => simp [intOf]; omega
      · obtain rfl : k = gs.length := by omega
        have HF := Lib.hid (HZ.out HK.out.all)
        go_wp2_with (at_builtin; refine wpList_append_sl _ rfl (.tmp 85) (.tmp 89) _ rfl base 126 i0 _ 3 24 Tryd.underlying78 HI.out.1 HI.out.2.1 HI.out.2.2.1 HI.out.2.2.2 rfl (by omega) _ gs.length _ rfl (HR.out.alloc _) (w.heap.size + 1) (some ⟨w.heap.size, 0, none⟩) 1 1 [.int .i64 (lo : Int), .int .i64 (hi : Int), .bool false] rfl (reads_new rfl (by omega) rfl) (by simp [Value.oneCell']) (le_maxLen (by have := HN.out; omega)) (le_bytes (by have := HN.out; omega) (by omega)) (by simp; omega) ?_; intro A1 c1' w1 hown1 hg1; have hg2 : (w.alloc (.cells #[.int .i64 (lo : Int), .int .i64 (hi : Int), .bool false] 126)).grownBy w1 (Value.slice A gs.length c).ownBlock := hg1; have hB1 := (HB.out.alloc _).grown hg2 (own_blk_ne HR.out HB.out (by decide)).symm; have k0 : w1.cell? ⟨b, 0, none⟩ = some (.slice A gs.length c) := hB1.cell 0; have k2 : ∀ i, w1.frozen? ⟨b, i, none⟩ = false := fun i => hB1.frozen i; have HB1 := Lib.hid hB1; have HO1 := Lib.hid hown1; have HG1 := Lib.hid hg2; clear hB1 hown1 hg1 hg2)
        go_ret
        exact mand_new HM.out HN.out HF.out HR.out HB1.out HO1.out HG1.out _ (by omega)
set_option maxHeartbeats 1000000 in
theorem mand_zero_b {w : World} {base b : Nat} {gs : List Gm.Gate} (hm : ModelAt w base b gs) {lo hi : Nat} (hle : lo < hi) (hhi : hi ≤ 1000000) (h0 : lo = 0) :
    Calls Tryd.prog 57 #[.pointer (some ⟨b, 0, none⟩), .int .i64 hi, .int .i64 lo] w (MPost w base b (Gm.andG gs hi lo)) := by
  have hmin : min hi lo = lo := by omega
  have hmax : max hi lo = hi := by omega
  have hr := andG_zero (gs := gs) (x := hi) (y := lo) (by rw [hmin]; exact .inl h0)
  have HM := Lib.hid hm
  have HR := Lib.hid hr
  have e0 : ((lo : Int) == 0) = true := by simp; omega
  have eo : decide ((lo : Int) < (hi : Int)) = true := decide_eq_true (by omega)
  clear hm hr h0 hmin hmax
  go_enter Tryd.func57, Tryd.ntmps57
  go_wp2
  go_ret
  exact mand_same HM.out HR.out _ rfl
set_option maxHeartbeats 1000000 in
theorem mand_turned_b {w : World} {base b : Nat} {gs : List Gm.Gate} (hm : ModelAt w base b gs) {lo hi : Nat} (hle : lo < hi) (hhi : hi ≤ 1000000) (h0 : 0 < lo) (h1 : hi = lo + 1) (h2 : lo % 2 = 0) :
    Calls Tryd.prog 57 #[.pointer (some ⟨b, 0, none⟩), .int .i64 hi, .int .i64 lo] w (MPost w base b (Gm.andG gs hi lo)) := by
  have hmin : min hi lo = lo := by omega
  have hmax : max hi lo = hi := by omega
  have hr := andG_zero (gs := gs) (x := hi) (y := lo) (by rw [hmin, hmax]; exact .inr ⟨h1, h2⟩)
  have HM := Lib.hid hm
  have HR := Lib.hid hr
  have e0 : ((lo : Int) == 0) = false := by simp; omega
  have e1 : ((hi : Int) == (lo : Int) + 1) = true := by simp; omega
  have e2 : ((lo : Int) % 2 == 0) = true := by simp; omega
  have eo : decide ((lo : Int) < (hi : Int)) = true := decide_eq_true (by omega)
  have hb0 : (0 : Int) ≤ lo ∧ (lo : Int) ≤ 1000000 := by omega
  clear hm hr h0 h1 h2 hmin hmax
  go_enter Tryd.func57, Tryd.ntmps57
  go_wp2
  go_ret
  exact mand_same HM.out HR.out _ rfl
set_option maxHeartbeats 1000000 in
theorem mand_one_b {w : World} {base b : Nat} {gs : List Gm.Gate} (hm : ModelAt w base b gs) {lo hi : Nat} (hle : lo < hi) (hhi : hi ≤ 1000000) (h0 : lo = 1) (_h1 : ¬ (hi = lo + 1 ∧ lo % 2 = 0)) :
    Calls Tryd.prog 57 #[.pointer (some ⟨b, 0, none⟩), .int .i64 hi, .int .i64 lo] w (MPost w base b (Gm.andG gs hi lo)) := by
  have hmin : min hi lo = lo := by omega
  have hmax : max hi lo = hi := by omega
  have hr := andG_one (gs := gs) (x := hi) (y := lo) (by rw [hmin, hmax]; omega) (by rw [hmin]; exact .inl h0)
  rw [hmax] at hr
  have HM := Lib.hid hm
  have HR := Lib.hid hr
  have e0 : ((lo : Int) == 0) = false := by simp; omega
  have e1 : ((lo : Int) % 2 == 0) = false := by simp; omega
  have e2 : ((lo : Int) == 1) = true := by simp; omega
  have eo : decide ((lo : Int) < (hi : Int)) = true := decide_eq_true (by omega)
  have hb0 : (0 : Int) ≤ lo ∧ (lo : Int) ≤ 1000000 := by omega
  clear hm hr h0 _h1 hmin hmax
  by_cases h2 : (hi : Int) = (lo : Int) + 1
  · have e3 : ((hi : Int) == (lo : Int) + 1) = true := by simpa using h2
    clear h2
    go_enter Tryd.func57, Tryd.ntmps57
    go_wp2
    go_ret
    exact mand_same HM.out HR.out _ rfl
  · have e3 : ((hi : Int) == (lo : Int) + 1) = false := by simpa using h2
    clear h2
    go_enter Tryd.func57, Tryd.ntmps57
    go_wp2
    go_ret
    exact mand_same HM.out HR.out _ rfl
set_option maxHeartbeats 1000000 in
theorem mand_find_b {w : World} {base b : Nat} {gs : List Gm.Gate} (hm : ModelAt w base b gs) {lo hi : Nat} (hle : lo < hi) (hhi : hi ≤ 1000000) (hn : gs.length < 99999) (h0 : 1 < lo) (_hne : lo < hi) (h1 : ¬ (hi = lo + 1 ∧ lo % 2 = 0)) :
    Calls Tryd.prog 57 #[.pointer (some ⟨b, 0, none⟩), .int .i64 hi, .int .i64 lo] w (MPost w base b (Gm.andG gs hi lo)) := by
  have hmin : min hi lo = lo := by omega
  have hmax : max hi lo = hi := by omega
  have g0 : ¬ (min hi lo = 0 ∨ (max hi lo = min hi lo + 1 ∧ min hi lo % 2 = 0)) := by rw [hmin, hmax]; omega
  have g1 : ¬ (min hi lo = 1 ∨ min hi lo = max hi lo) := by rw [hmin, hmax]; omega
  have hs : ∀ k, Gm.find lo hi gs = some k → Gm.andG gs hi lo = (gs, 2 * k + 2) := fun k hk => andG_some g0 g1 (by rw [hmin, hmax]; exact hk)
  have hz : Gm.find lo hi gs = none → Gm.andG gs hi lo = (gs ++ [⟨lo, hi, false⟩], 2 * gs.length + 2) := fun hk => by
    have := andG_none (gs := gs) (x := hi) (y := lo) g0 g1 (by rw [hmin, hmax]; exact hk)
    rw [hmin, hmax] at this
    exact this
  obtain ⟨i0, hi0, hz0, hz1, hz2⟩ := info_parts infoMGate
  obtain ⟨sv, hblk, hrow⟩ := hm.ex
  obtain ⟨A, c, rfl⟩ := own_form hrow
  have hlow := hm.low
  have c0 : w.cell? ⟨b, 0, none⟩ = some (.slice A gs.length c) := hblk.cell 0
  have hlt := hblk.lt
  have hl2 := hm.len
  have HI := Lib.hid (show _ ∧ _ ∧ _ ∧ _ from ⟨hi0, hz0, hz1, hz2⟩)
  have HM := Lib.hid hm
  have HB := Lib.hid hblk
  have HR := Lib.hid hrow
  have HN := Lib.hid hn
  have HS := Lib.hid hs
  have HZ := Lib.hid hz
  have e0 : ((lo : Int) == 0) = false := by simp; omega
  have e2 : ((lo : Int) == 1) = false := by simp; omega
  have e3 : ((lo : Int) == (hi : Int)) = false := by simp; omega
  have eo : decide ((lo : Int) < (hi : Int)) = true := decide_eq_true (by omega)
  have hb0 : (0 : Int) ≤ lo ∧ (lo : Int) ≤ 1000000 := by omega
  have hcases : ((hi : Int) == (lo : Int) + 1) = false ∨ (((hi : Int) == (lo : Int) + 1) = true ∧ ((lo : Int) % 2 == 0) = false) := by
    by_cases h2 : hi = lo + 1
    · exact .inr ⟨by simp; omega, by simp; omega⟩
    · exact .inl (by simp; omega)
  clear hm hblk hrow hi0 hz0 hz1 hz2 hn hs hz h0 h1 g0 g1 hmin hmax _hne
  rcases hcases with e4 | ⟨e4, e5⟩
  all_goals
    go_enter Tryd.func57, Tryd.ntmps57
    go_wp2
    go_loop [8] (fun i => ∃ k : Nat, k ≤ gs.length ∧ NoneTo lo hi gs k ∧ i = .int .i64 k) (fun i => gs.length - (intOf i).toNat)
    case atStart => exact ⟨0, Nat.zero_le _, rfl, rfl⟩
    case round =>
      obtain ⟨k, hk, hno, rfl⟩ := hrel
      have HK := Lib.hid hno
      clear hno
      by_cases hkl : k < gs.length
      · obtain ⟨⟨ga, gb, gi⟩, hg⟩ : ∃ g, gs[k]? = some g := ⟨gs[k], List.getElem?_eq_getElem hkl⟩
        obtain ⟨q0, q1, q2⟩ := mCells_at gs k _ hg
        obtain ⟨blk, c', hv, hcell⟩ := row_cells HR.out (by omega)
        have hA : A = some ⟨blk, 0, none⟩ := by simp only [Value.slice.injEq] at hv; exact hv.1
        subst hA
        have d0 := hcell _ _ q0
        have d1 := hcell _ _ q1
        have d2 := hcell _ _ q2
        have HG := Lib.hid hg
        clear hg q0 q1 q2 hcell hv
        cases gi with
        | true =>
          go_wp2
          go_round
          case rel => exact ⟨k + 1, by omega, HK.out.step HG.out (by simp), by go_num⟩
          case measure => simp [intOf]; omega
        | false =>
          by_cases ha : ga = lo
          · have f0 : ((ga : Int) == (lo : Int)) = true := by simp; omega
            by_cases hb : gb = hi
            · have f1 : ((gb : Int) == (hi : Int)) = true := by simp; omega
              have hf := HK.out.found HG.out ⟨rfl, ha, hb⟩
              have HF := Lib.hid (HS.out k hf)
              clear ha hb hf
              go_wp2
              go_ret
              exact mand_same HM.out HF.out _ (by omega)
            · have f1 : ((gb : Int) == (hi : Int)) = false := by simp; omega
              have hf := HK.out.step HG.out (fun h => hb h.2.2)
              have HF := Lib.hid hf
              clear ha hb hf
              go_wp2
              go_round
              case rel => exact ⟨k + 1, by omega, HF.out, by go_num⟩
              case measure => simp [intOf]; omega
          · have f0 : ((ga : Int) == (lo : Int)) = false := by simp; omega
            have hf := HK.out.step HG.out (fun h => ha h.2.1)
            have HF := Lib.hid hf
            clear ha hf
            go_wp2
            go_round
            case rel => exact ⟨k + 1, by omega, HF.out, by go_num⟩
            case measure => simp [intOf]; omega
      · obtain rfl : k = gs.length := by omega
        have HF := Lib.hid (HZ.out HK.out.all)
        go_wp2_with (at_builtin; refine wpList_append_sl _ rfl (.tmp 85) (.tmp 89) _ rfl base 126 i0 _ 3 24 Tryd.underlying78 HI.out.1 HI.out.2.1 HI.out.2.2.1 HI.out.2.2.2 rfl (by omega) _ gs.length _ rfl (HR.out.alloc _) (w.heap.size + 1) (some ⟨w.heap.size, 0, none⟩) 1 1 [.int .i64 (lo : Int), .int .i64 (hi : Int), .bool false] rfl (reads_new rfl (by omega) rfl) (by simp [Value.oneCell']) (le_maxLen (by have := HN.out; omega)) (le_bytes (by have := HN.out; omega) (by omega)) (by simp; omega) ?_; intro A1 c1' w1 hown1 hg1; have hg2 : (w.alloc (.cells #[.int .i64 (lo : Int), .int .i64 (hi : Int), .bool false] 126)).grownBy w1 (Value.slice A gs.length c).ownBlock := hg1; have hB1 := (HB.out.alloc _).grown hg2 (own_blk_ne HR.out HB.out (by decide)).symm; have k0 : w1.cell? ⟨b, 0, none⟩ = some (.slice A gs.length c) := hB1.cell 0; have k2 : ∀ i, w1.frozen? ⟨b, i, none⟩ = false := fun i => hB1.frozen i; have HB1 := Lib.hid hB1; have HO1 := Lib.hid hown1; have HG1 := Lib.hid hg2; clear hB1 hown1 hg1 hg2)
        go_ret
        exact mand_new HM.out HN.out HF.out HR.out HB1.out HO1.out HG1.out _ (by omega)
end Go.Proofs.YtmbjhpgemphmmaaDoor
