/-
  WALKS of package graph (chapter 9): what its methods do, as the plain model (Gm) says. Each is a contract over the program's own functions.
-/
import Derived.Test.YtmbjhpgemphmmaaDoorProg
import Derived.Test.YtmbjhpgemphmmaaDoorGm
import Derived.Test.YtmbjhpgemphmmaaDoorBa
import Derived.Test.YtmbjhpgemphmmaaDoorFa
namespace Go.Proofs.YtmbjhpgemphmmaaDoor
open Go.RowKit

/-! ### errors -/
def errV (ea : Nat → Addr) (k : Nat) : Value := if k = 0 then .nilIface else .iface 220 (.pointer (some (ea k)))
/-- the package-level variable of an error's number -/
def gvar : Nat → Nat
  | 1 => 5
  | 2 => 2
  | 3 => 0
  | 4 => 6
  | 5 => 1
  | 6 => 7
  | 7 => 8
  | 8 => 9
  | _ => 3
structure Errs (w : World) (ea : Nat → Addr) (B : Nat) : Prop where
  var : ∀ k, 1 ≤ k → k ≤ 9 → w.cell? ⟨gvar k, 0, none⟩ = some (errV ea k)
  low : ∀ k, gvar k < B
  held : ∀ k, 1 ≤ k → k ≤ 9 → (ea k).block < B ∧ ∃ c t, w.heap[(ea k).block]? = some (.cells c t (0, 0))
  apart : ∀ j k, 1 ≤ j → j ≤ 9 → 1 ≤ k → k ≤ 9 → j ≠ k → ea j ≠ ea k
  et : w.cell? ⟨10, 0, none⟩ = some (.iface 190 (.agg #[.pointer (some ⟨14, 31, none⟩)]))
  etlow : 10 < B
theorem Errs.chg {S : Nat → Obj → Prop} {w w' : World} {ea : Nat → Addr} {B : Nat} (h : Errs w ea B) (hc : Chg S w w') (hS : ∀ k o, k < B → ¬ S k o) : Errs w' ea B := by
  have key : ∀ g v, g < B → w.cell? ⟨g, 0, none⟩ = some v → w'.cell? ⟨g, 0, none⟩ = some v := fun g v hg hv => by
    have hlt := World.block_lt_of_cell? w _ hv
    have ho : w.heap[g]? = some (w.heap[g]'hlt) := Array.getElem?_eq_getElem hlt
    have := hc.keep _ _ ho (hS _ _ hg)
    exact (World.cell?_of_block (a := ⟨g, 0, none⟩) (this.trans ho.symm)).trans hv
  refine ⟨fun k h1 h2 => key _ _ (h.low k) (h.var k h1 h2), h.low, fun k h1 h2 => ?_, h.apart, key _ _ h.etlow h.et, h.etlow⟩
  obtain ⟨hl, c, t, hh⟩ := h.held k h1 h2
  exact ⟨hl, c, t, hc.keep _ _ hh (hS _ _ hl)⟩
theorem Errs.below {w w' : World} {ea : Nat → Addr} {B : Nat} (h : Errs w ea B) (hb : Below B w w') : Errs w' ea B :=
  h.chg (S := fun k _ => B ≤ k) (.of_below hb fun _ _ hk _ => hk) (fun k _ hk h => by omega)

/-! ### a graph in memory -/
/-- cells of gates, n inputs being ahead of them -/
def gateCells : Nat → List Gm.Gate → List Value
  | _, [] => []
  | n, g :: r => .int .i64 g.a :: .int .i64 g.b :: .int .i64 ((if g.inp then n + 1 else 0 : Nat) : Int) :: gateCells (if g.inp then n + 1 else n) r
theorem gateCells_length (n : Nat) (l : List Gm.Gate) : (gateCells n l).length = l.length * 3 := by
  induction l generalizing n with
  | nil => rfl
  | cons g r ih => simp only [gateCells, List.length_cons, ih]; omega
theorem gateCells_append (n : Nat) (l r : List Gm.Gate) : gateCells n (l ++ r) = gateCells n l ++ gateCells (n + Gm.ins l) r := by
  induction l generalizing n with
  | nil => simp [gateCells, Gm.ins]
  | cons g l ih =>
    simp only [List.cons_append, gateCells, ih, Gm.ins]
    congr 5
    split <;> omega
theorem gateCells_at (n : Nat) (l : List Gm.Gate) (i : Nat) (g : Gm.Gate) (h : l[i]? = some g) :
    (gateCells n l)[i * 3]? = some (.int .i64 g.a) ∧ (gateCells n l)[i * 3 + 1]? = some (.int .i64 g.b) ∧
      (gateCells n l)[i * 3 + 2]? = some (.int .i64 ((if g.inp then n + Gm.ins (l.take i) + 1 else 0 : Nat) : Int)) := by
  induction l generalizing n i with
  | nil => simp at h
  | cons x l ih =>
    cases i with
    | zero =>
      simp only [List.getElem?_cons_zero, Option.some.injEq] at h
      subst h
      simp [gateCells, Gm.ins]
    | succ i =>
      have := ih (if x.inp then n + 1 else n) i (by simpa using h)
      have e : (i + 1) * 3 = i * 3 + 1 + 1 + 1 := by omega
      simp only [e, gateCells, List.getElem?_cons_succ, List.take_succ_cons, Gm.ins]
      refine ⟨this.1, this.2.1, ?_⟩
      have h3 := this.2.2
      rw [h3]
      congr 3
      split <;> (try split) <;> omega


def MapAt (w : World) (base : Nat) (gs : List Gm.Gate) : Option Nat → Prop
  | none => ∀ a b, Gm.find a b gs = none
  | some m => base ≤ m ∧ ∃ D : DataW Unit, w.ownsMap Tryd.prog 164 (plainElem Tryd.prog 3) m gs.length D ∧
      ∀ a b : Nat, a ≤ 1000000 → b ≤ 1000000 →
        (Gm.find a b gs = none → Maps.has D (kl a b) = false) ∧
        (∀ k, Gm.find a b gs = some k → Maps.has D (kl a b) = true ∧ D.atKey (kl a b) (.lit (.int .i64 0)) = .lit (.int .i64 ((k : Int) + 1)))

/-- the graph behind the pointer to block b: its gates lie in blocks from base on; mb: its map's block -/
structure GraphAt (w : World) (base b : Nat) (mb : Option Nat) (gs : List Gm.Gate) : Prop where
  wf : Gm.Wf gs
  len : gs.length < 100000
  hb : base ≤ b
  ex : ∃ sv, Blk w b 27 #[sv, .int .i64 (Gm.ins gs : Int), .map mb] ∧ w.ownsRow base 89 3 sv gs.length (gateCells 0 gs)
  hm : MapAt w base gs mb

/-- what a method of a graph may change -/
def GS (base b : Nat) (mb : Option Nat) (k : Nat) (o : Obj) : Prop := k = b ∨ some k = mb ∨ (base ≤ k ∧ elemOf o = some 89)

theorem GraphAt.chg {w w' : World} {base b : Nat} {mb : Option Nat} {gs : List Gm.Gate} {S : Nat → Obj → Prop} (h : GraphAt w base b mb gs) (hc : Chg S w w')
    (h1 : ∀ cs, ¬ S b (.cells cs 27 (0, 0))) (h2 : ∀ k cs, base ≤ k → ¬ S k (.cells cs 89 (0, 0))) (h3 : ∀ m es c, mb = some m → ¬ S m (.map es c)) : GraphAt w' base b mb gs := by
  refine ⟨h.wf, h.len, h.hb, ?_, ?_⟩
  · obtain ⟨sv, hblk, hrow⟩ := h.ex
    exact ⟨sv, hblk.chg hc (h1 _), own_chg hrow hc fun g cur hg _ => h2 g cur hg⟩
  · cases mb with
    | none => exact h.hm
    | some m =>
      obtain ⟨hm, D, hD, hf⟩ := h.hm
      exact ⟨hm, D, ownsMap_chg hD hc (fun es c => h3 m es c rfl), hf⟩
theorem GraphAt.new {w w' : World} {base b : Nat} {mb : Option Nat} {gs : List Gm.Gate} (h : GraphAt w base b mb gs) (hb : Below w.heap.size w w') : GraphAt w' base b mb gs :=
  h.chg (S := fun _ _ => False) (.of_new hb) (by simp) (by simp) (by simp)
theorem GraphAt.drewN {w : World} {base b : Nat} {mb : Option Nat} {gs : List Gm.Gate} (h : GraphAt w base b mb gs) (n : Nat) : GraphAt (w.drewN n) base b mb gs :=
  h.chg (S := fun _ _ => False) ((Chg.refl _ _).drewN n) (by simp) (by simp) (by simp)

/-! ### the small methods -/
theorem xor_one (a : Nat) : a ^^^ 1 = Gm.notL a := by
  have h := Nat.xor_div_two (a := a) (b := 1)
  rw [show (1 : Nat) / 2 = 0 from rfl, Nat.xor_zero] at h
  have h2 := Nat.xor_mod_two_eq_one (a := a) (b := 1)
  unfold Gm.notL
  split
  · omega
  · omega
theorem not_any (a : Nat) (w : World) (ha : a ≤ 1000000) : Calls Tryd.prog 12 #[.int .i64 a] w fun e w' => e = .returned (.int .i64 (Gm.notL a : Nat)) ∧ w = w' := by
  have hx : bits BinOp.xor IntKind.i64 (a : Int) 1 = ((Gm.notL a : Nat) : Int) := by
    rw [← xor_one]; exact i64_xor_nat a 1 (by omega) (by omega)
  have Hx := Lib.hid hx
  clear hx
  go_enter Tryd.func12, Tryd.ntmps12
  go_wp2
  go_ret
  exact ⟨by rw [← Hx.out]; rfl, rfl⟩

def hasB (n : Nat) (a : Int) : Bool := decide (0 ≤ a) && decide (a < 2 * n + 2)

theorem gates_at {w : World} {b l c : Nat} {g : Option Addr} {x y : Value} (hl : l < 100000) (h : Blk w b 27 #[.slice g l c, x, y]) :
    Calls Tryd.prog 30 #[.pointer (some ⟨b, 0, none⟩)] w fun e w' => e = .returned (.int .i64 (1 + (l : Int))) ∧ w = w' := by
  have h0 : w.cell? ⟨b, 0, none⟩ = some (.slice g l c) := h.cell 0
  clear h
  go_enter Tryd.func30, Tryd.ntmps30
  go_wp2
  go_ret
  exact ⟨rfl, rfl⟩
theorem inputs_at {w : World} {b : Nat} {n : Int} {x y : Value} (h : Blk w b 27 #[x, .int .i64 n, y]) :
    Calls Tryd.prog 64 #[.pointer (some ⟨b, 0, none⟩)] w fun e w' => e = .returned (.int .i64 n) ∧ w = w' := by
  have h0 : w.cell? ⟨b, 1, none⟩ = some (.int .i64 n) := h.cell 1
  clear h
  go_enter Tryd.func64, Tryd.ntmps64
  go_wp2
  go_ret
  exact ⟨rfl, rfl⟩
theorem hasB_eq {l : Nat} {a : Int} (h : 0 ≤ a) : decide (a / 2 < 1 + (l : Int)) = hasB l a := by
  unfold hasB
  have : decide (0 ≤ a) = true := by simpa using h
  rw [this, Bool.true_and]
  by_cases h1 : a < 2 * (l : Int) + 2
  · rw [decide_eq_true h1, decide_eq_true (by omega)]
  · rw [decide_eq_false h1, decide_eq_false (by omega)]
theorem has_at {w : World} {b l c : Nat} {g : Option Addr} {x y : Value} (a : Int) (ha : (Lit.int .i64 a).wf = true) (hl : l < 100000) (h : Blk w b 27 #[.slice g l c, x, y]) :
    Calls Tryd.prog 34 #[.pointer (some ⟨b, 0, none⟩), .int .i64 a] w fun e w' => e = .returned (.bool (hasB l a)) ∧ w = w' := by
  have hbd : -9223372036854775808 ≤ a ∧ a ≤ 9223372036854775807 := by simpa [Lit.wf, IntKind.min, IntKind.max, IntKind.signed, IntKind.bits] using ha
  by_cases h0 : 0 ≤ a
  · have hg := gates_at hl h
    have He := Lib.hid (hasB_eq (l := l) h0)
    clear ha h
    go_enter Tryd.func34, Tryd.ntmps34
    go_wp2_with (go_at_call 30; refine hg.mono ?_; rintro e w' ⟨rfl, rfl⟩)
    go_ret
    exact ⟨by rw [← He.out]; rfl, rfl⟩
  · have hf : hasB l a = false := by unfold hasB; simp; omega
    have Hf := Lib.hid hf
    clear hf ha h
    go_enter Tryd.func34, Tryd.ntmps34
    go_wp2
    go_ret
    exact ⟨by rw [Hf.out]; rfl, rfl⟩

theorem infoGate : (Tryd.prog.info? 89).map (fun i => (i.zero, i.size, i.bytes)) = some (some (.agg #[.int .i64 0, .int .i64 0, .int .i64 0]), 3, 24) := by kernel_rfl
theorem own_GS {w : World} {base b n : Nat} {mb : Option Nat} {v : Value} {xs : List Value} (h : w.ownsRow base 89 3 v n xs) : ∀ k o, v.ownBlock = some k → w.heap[k]? = some o → GS base b mb k o := by
  intro k o hk ho
  rcases h.2 with ⟨rfl, _⟩ | ⟨g, cap, cur, rfl, hb, hg, _⟩
  · simp [Value.ownBlock] at hk
  · simp only [Value.ownBlock, Option.some.injEq] at hk
    subst hk
    rw [hg] at ho
    injection ho with ho
    subst ho
    exact .inr (.inr ⟨hb, rfl⟩)
theorem add_end {w w1 : World} {base b n : Nat} {cells news : List Value} {sv sv1 y z : Value} {o1 o2 : Obj} (hrow : w.ownsRow base 89 3 sv n cells) (hB : Blk w1 b 27 #[sv, y, z])
    (hO : w1.ownsRow base 89 3 sv1 (n + 1) (cells ++ news)) (hG : (((w.alloc o1).alloc o2).drew).grownBy w1 sv.ownBlock) :
    ∃ sv', Blk (w1.setCell ⟨b, 0, none⟩ sv1) b 27 #[sv', y, z] ∧ (w1.setCell ⟨b, 0, none⟩ sv1).ownsRow base 89 3 sv' (n + 1) (cells ++ news) ∧ Chg (GS base b none) w (w1.setCell ⟨b, 0, none⟩ sv1) := by
  refine ⟨sv1, by simpa using hB.set_ 0 sv1, ?_, ?_⟩
  · have hne := own_blk_ne hO hB (by decide)
    refine hO.kept (row := some b) ⟨rfl, rfl, rfl, by simp [World.setCell], fun k hk hn => Below.heap_setCell _ _ _ _ (fun e => hn (by rw [e]))⟩ ?_
    exact .inr hne
  · refine Chg.setCell ?_ (.inr fun o => .inl rfl) _
    exact ((((Chg.refl _ w).alloc o1).alloc o2).drew).grown hG (own_GS hrow)
theorem add_room {w : World} {base b : Nat} {n : Nat} {cells : List Value} {sv y z : Value} (x0 x1 x2 : Int) (hb : base ≤ b) (hblk : Blk w b 27 #[sv, y, z]) (hrow : w.ownsRow base 89 3 sv n cells) (hn : n < 99999) :
    Calls Tryd.prog 33 #[.pointer (some ⟨b, 0, none⟩), .agg #[.int .i64 x0, .int .i64 x1, .int .i64 x2]] w fun e w' =>
      e = .returned (.tuple #[.int .i64 (2 * (n + 1 : Nat)), .nilIface]) ∧ ∃ sv', Blk w' b 27 #[sv', y, z] ∧ w'.ownsRow base 89 3 sv' (n + 1) (cells ++ [.int .i64 x0, .int .i64 x1, .int .i64 x2]) ∧ Chg (GS base b none) w w' := by
  obtain ⟨i0, hi, hz0, hz1, hz2⟩ := info_parts infoGate
  obtain ⟨ga, gl, gc, rfl⟩ : ∃ ga gl gc, sv = .slice ga gl gc := by
    rcases hrow.2 with ⟨h, _⟩ | ⟨g, cap, _, h, _⟩
    · exact ⟨_, _, _, h⟩
    · exact ⟨_, _, _, h⟩
  obtain rfl : gl = n := by
    rcases hrow.2 with ⟨h, h0⟩ | ⟨g, cap, _, h, _⟩
    · simp only [Value.slice.injEq] at h; omega
    · simp only [Value.slice.injEq] at h; exact h.2.1
  have h0 : w.cell? ⟨b, 0, none⟩ = some (.slice ga gl gc) := hblk.cell 0
  have hf0 : w.frozen? ⟨b, 0, none⟩ = false := hblk.frozen 0
  have hlt := hblk.lt
  have HB := Lib.hid hblk
  have HR := Lib.hid hrow
  have ht : decide ((100000 : Int) ≤ 1 + (gl : Int)) = false := decide_eq_false (by omega)
  have hl2 : gl < 100000 := by omega
  have HN := Lib.hid hl2
  have HW : Hid (wrap64 (2 * ((gl : Int) + 1)) = 2 * ((gl + 1 : Nat) : Int)) := (wrap64_id (by omega) (by omega)).trans (by omega)
  clear hblk hrow hn hl2
  go_enter Tryd.func33, Tryd.ntmps33
  go_wp2_with (go_at_call 30; refine (gates_at HN.out (HB.out.alloc _)).mono ?_; rintro e w' ⟨rfl, rfl⟩)
  have Hm : Hid (gl + 1 ≤ maxLen ∧ (gl + 1) * 24 ≤ 140737488355328) := ⟨by have := HN.out; unfold maxLen; omega, by have := HN.out; omega⟩
  go_region_law (
    refine step_append_sl _ rfl (.tmp 14) (.tmp 16) _ rfl base 89 i0 _ 3 24 Tryd.underlying24 hi hz0 hz1 hz2 rfl (by omega) (.slice ga gl gc) gl cells rfl ((HR.out.alloc _).alloc _) (w.heap.size + 2) (some ⟨w.heap.size + 1, 0, none⟩) 1 1 [.int .i64 x0, .int .i64 x1, .int .i64 x2] rfl ?_ ?_ Hm.out.1 Hm.out.2 ?_ ?_
    · exact (reads_new (by simp) (by omega) rfl).drew
    · exact ints_one (by simp)
    · simp; omega
    intro A1 c1 w1 hown1 hg1
    have hB1 := (((HB.out.alloc _).alloc _).drew).grown hg1 (own_blk_ne HR.out HB.out (by decide)).symm
    have k0 : w1.cell? ⟨b, 0, none⟩ = some (.slice ga gl gc) := hB1.cell 0
    have k1 : w1.frozen? ⟨b, 0, none⟩ = false := hB1.frozen 0
    have HB1 := Lib.hid hB1
    have HO1 := Lib.hid hown1
    have HG1 := Lib.hid hg1
    clear hB1 hown1 hg1)
  all_goals
    go_wp2
    go_ret2
    exact ⟨by rw [← HW.out]; rfl, add_end HR.out HB1.out HO1.out HG1.out⟩

def GPost (w : World) (base b : Nat) (mb : Option Nat) (r : List Gm.Gate × Nat) (e : Ending) (w' : World) : Prop :=
  e = .returned (.tuple #[.int .i64 (r.2 : Nat), .nilIface]) ∧ ∃ mb', GraphAt w' base b mb' r.1 ∧ Chg (GS base b mb) w w' ∧ (mb' = mb ∨ ∃ m, mb' = some m ∧ w.heap.size ≤ m)
theorem GS_trans {w w1 w2 : World} {base b : Nat} {mb mb1 : Option Nat} (h : Chg (GS base b mb) w w1) (h1 : mb1 = mb ∨ ∃ m, mb1 = some m ∧ w.heap.size ≤ m) (k : Chg (GS base b mb1) w1 w2) : Chg (GS base b mb) w w2 := by
  refine h.trans' k fun i o hi hs => ?_
  rcases hs with hs | hs | hs
  · exact .inl hs
  · rcases h1 with rfl | ⟨m, rfl, hm⟩
    · exact .inr (.inl hs)
    · have := lt_of_heap hi
      injection hs with hs
      omega
  · exact .inr (.inr hs)
theorem mb_trans {w w1 : World} {mb mb1 mb2 : Option Nat} (hs : w.heap.size ≤ w1.heap.size) (h1 : mb1 = mb ∨ ∃ m, mb1 = some m ∧ w.heap.size ≤ m) (h2 : mb2 = mb1 ∨ ∃ m, mb2 = some m ∧ w1.heap.size ≤ m) : mb2 = mb ∨ ∃ m, mb2 = some m ∧ w.heap.size ≤ m := by
  rcases h2 with rfl | ⟨m, rfl, hm⟩
  · exact h1
  · exact .inr ⟨m, rfl, by omega⟩

theorem input_end {w w1 : World} {base b : Nat} {mb : Option Nat} {gs : List Gm.Gate} {sv' : Value} (hg : GraphAt w base b mb gs) (hn : gs.length < 99999)
    (h1 : Blk w1 b 27 #[sv', .int .i64 (Gm.ins gs : Int), .map mb]) (h2 : w1.ownsRow base 89 3 sv' (gs.length + 1) (gateCells 0 gs ++ [.int .i64 0, .int .i64 0, .int .i64 ((Gm.ins gs : Int) + 1)])) (h3 : Chg (GS base b none) w w1) :
    GPost w base b mb (Gm.inpG gs) (.returned (.tuple #[.int .i64 (2 * (gs.length + 1 : Nat)), .nilIface])) (w1.setCell ⟨b, 1, none⟩ (.int .i64 ((Gm.ins gs : Int) + 1))) := by
  have hb := hg.hb
  have hc : Chg (GS base b mb) w (w1.setCell ⟨b, 1, none⟩ (.int .i64 ((Gm.ins gs : Int) + 1))) :=
    (h3.mono fun k o _ hs => by
      rcases hs with hs | hs | hs
      · exact .inl hs
      · cases hs
      · exact .inr (.inr hs)).setCell (.inr fun o => .inl rfl) _
  refine ⟨by simp [Gm.inpG]; omega, mb, ⟨hg.wf.inp, by simp [Gm.inpG]; omega, hb, ⟨sv', ?_, ?_⟩, ?_⟩, hc, .inl rfl⟩
  · rw [Gm.ins_inp]
    have := h1.set_ 1 (.int .i64 ((Gm.ins gs : Int) + 1))
    simpa using this
  · have hne := own_blk_ne h2 h1 (by decide)
    have h2' : (w1.setCell ⟨b, 1, none⟩ (.int .i64 ((Gm.ins gs : Int) + 1))).ownsRow base 89 3 sv' (gs.length + 1) (gateCells 0 gs ++ [.int .i64 0, .int .i64 0, .int .i64 ((Gm.ins gs : Int) + 1)]) :=
      h2.kept (row := some b) ⟨rfl, rfl, rfl, by simp [World.setCell], fun k hk hn => Below.heap_setCell _ _ _ _ (fun e => hn (by rw [e]))⟩ (.inr hne)
    simpa [Gm.inpG, gateCells_append, gateCells] using h2'
  · have hm := hg.hm
    have hf : ∀ a b, Gm.find a b (Gm.inpG gs).1 = Gm.find a b gs := fun a b => by
      unfold Gm.inpG
      rw [Gm.find_append]
      cases Gm.find a b gs <;> simp [Gm.find]
    cases mb with
    | none => intro a b; rw [hf]; exact hm a b
    | some m =>
      obtain ⟨h4, D, hD, hh⟩ := hm
      refine ⟨h4, D, ?_, fun a b ha hb => by rw [hf]; exact hh a b ha hb⟩
      have hD1 := ownsMap_chg hD h3 (fun es c hs => by
        rcases hs with hs | hs | hs
        · subst hs
          obtain ⟨es', c', hh', _⟩ := hD
          obtain ⟨sv0, hb0, _⟩ := hg.ex
          unfold Blk at hb0
          rw [hh'] at hb0
          cases hb0
        · cases hs
        · cases hs.2)
      have hne : m ≠ b := fun e => by
        subst e
        obtain ⟨es', c', hh', _⟩ := hD1
        unfold Blk at h1
        rw [hh'] at h1
        cases h1
      exact (hD1.setCell (a := ⟨b, 1, none⟩) hne _).mono (by simp [Gm.inpG])

theorem input_room {w : World} {base b : Nat} {mb : Option Nat} {gs : List Gm.Gate} (hg : GraphAt w base b mb gs) (hn : gs.length < 99999) :
    Calls Tryd.prog 10 #[.pointer (some ⟨b, 0, none⟩)] w (GPost w base b mb (Gm.inpG gs)) := by
  obtain ⟨sv, hblk, hrow⟩ := hg.ex
  have hil := Gm.ins_le gs
  have c1 : w.cell? ⟨b, 1, none⟩ = some (.int .i64 (Gm.ins gs : Int)) := hblk.cell 1
  obtain ⟨ni, hni⟩ : ∃ ni, ni = Gm.ins gs := ⟨_, rfl⟩
  rw [← hni] at c1 hblk hil
  have hbd : (ni : Int) ≤ 1000000 := by omega
  have HB := Lib.hid hblk
  have HR := Lib.hid hrow
  have HN := Lib.hid hn
  have HI := Lib.hid hni
  have HG := Lib.hid hg
  clear hblk hrow hn hni hil hg
  go_enter Tryd.func10, Tryd.ntmps10
  go_wp2_with fail
  refine (add_room 0 0 _ HG.out.hb HB.out HR.out HN.out).mono ?_
  rintro e w1 ⟨rfl, sv', h1, h2, h3⟩
  have k1 : w1.cell? ⟨b, 1, none⟩ = some (.int .i64 (ni : Int)) := h1.cell 1
  have k2 : w1.frozen? ⟨b, 1, none⟩ = false := h1.frozen 1
  have H1 := Lib.hid h1
  have H2 := Lib.hid h2
  have H3 := Lib.hid h3
  clear h1 h2 h3
  go_wp2
  go_ret2
  have hi := HI.out
  subst hi
  exact input_end HG.out HN.out H1.out H2.out H3.out
end Go.Proofs.YtmbjhpgemphmmaaDoor
