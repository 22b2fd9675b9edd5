/-
  WALKS of slices.Grow of nothing and of slices.Concat of two rows of clauses.
  WALK of rup.Trim.
  WALK of rup.Trim: its body.
  WALK: SameInts of the reference: the same numbers?
  THE WALK of the law RupTrims.
  THE LAW RupTrims, called with whatever can be read.
  THE CARD of the law RupTrims: for every input the law answers true, and what it was handed reads as before; the listed package-level variables are tied to the program's text by the given tie.
-/
import Derived.Test.YtgchepkcjkhmmaaGreatDoorRo
import Derived.Test.YtgchepkcjkhmmaaGreatDoorHs
import Derived.Lib.AppendZerosOnto
import Derived.Test.YtgchepkcjkhmmaaGreatDoorZd
import Derived.Test.YtgchepkcjkhmmaaGreatDoorZp
import Derived.Test.YtgchepkcjkhmmaaGreatDoorRk
import Derived.Test.YtgchepkcjkhmmaaGreatDoorLp
import Derived.BigQuiet
import Derived.Test.YtgchepkcjkhmmaaGreatDoorPa
import Derived.Test.YtgchepkcjkhmmaaGreatDoorLn
import Derived.ChangeMaps5
import Derived.Deep.Matrix
import Derived.Lib.SmallJoins
import Derived.Test.YtgchepkcjkhmmaaGreatDoorSk
import Derived.Lay
import Derived.MakeChecks
namespace Go.Proofs.YtgchepkcjkhmmaaGreatDoor
open Go.RowKit Go.Lib
def GwP (w : World) (e : Ending) (w' : World) : Prop := ∃ g c, e = .returned (.slice (some ⟨g, 0, none⟩) 0 c) ∧ w'.ownsRow w.heap.size 28 1 (.slice (some ⟨g, 0, none⟩) 0 c) 0 [] ∧ Below w.heap.size w w'
theorem gwP_new {w : World} {cap : Nat} {cur : Array Value} (hm : cap ≤ maxLen) (hs : cur.size = cap) : GwP w (.returned (.slice (some ⟨w.heap.size, 0, none⟩) 0 cap)) ((w.alloc (.cells cur 28)).drew) :=
  ⟨w.heap.size, cap, rfl, ⟨by simp, .inr ⟨w.heap.size, cap, cur, rfl, Nat.le_refl _, heap_alloc_new w (.cells cur 28), Nat.zero_le _, hm, by omega, by simp⟩⟩, below_drewN ((Below.refl _ w).alloc (Nat.le_refl _) _) 1⟩
set_option maxHeartbeats 4000000 in
set_option maxRecDepth 100000 in
theorem grow_nil {w : World} {n : Nat} (h0 : 0 < n) (hn : n ≤ 1000000) : Calls Tryz.prog 32 #[.slice none 0 0, .int .i64 (n : Nat)] w (GwP w) := by
  obtain ⟨i0, hi, hz0, hz1, hz2⟩ := info_parts infoClause_
  have h1 : ¬ ((n : Int) < 0) := by omega
  have h4 : (0 : Int) < (n : Int) := by omega
  have h5 : IntKind.i64.wrap (n : Int) = (n : Int) := by rw [IntKind.wrap_i64]; omega
  have hold : (Builtin.firstCells i0.size 0 (.slice none 0 0)).run Tryz.prog w.drew = .ok (#[] : Array Value) w.drew := run_firstCells_none w.drew i0.size 0 0 0
  have hrz : ∀ ty, (Builtin.append_ #[22, 3] ty #[.slice none 0 0, .int .i64 (n : Int)]).run Tryz.prog w =
      .ok (.slice (some ⟨w.heap.size, 0, none⟩) n (grownCap w n 0 28)) (w.drew.alloc (.cells (#[] ++ Builtin.zeroCells (Value.slice none 0 0).cells n ++ Builtin.zeroCells (Value.slice none 0 0).cells (grownCap w n 0 28 - n)) 28)) := fun ty => by
    have h := Lib.run_append_grow_zeros w 22 3 ty 28 i0 (.slice none 0 0) .i64 .i64 Tryz.underlying22 Tryz.underlying3 hi hz0 none 0 0 [] hold n (by omega) (by rw [hz1]; omega) (by omega) (by omega)
      (by rw [hz2]; omega) (by rw [Nat.zero_add]; exact growslice_fits (by omega) (by rw [hz2]; omega))
    rw [Nat.zero_add] at h
    exact h
  have hGn : n ≤ grownCap w n 0 28 := grownCap_ge w _ _ _
  have hGm : grownCap w n 0 28 ≤ maxLen := grownCap_le_maxLen w n 0 _ (by unfold maxLen; omega)
  obtain ⟨G, hG⟩ : ∃ G, G = grownCap w n 0 28 := ⟨_, rfl⟩
  rw [← hG] at hrz hGn hGm
  have HE := Lib.hid (show GwP w (.returned (.slice (some ⟨w.heap.size, 0, none⟩) 0 G)) _ from gwP_new (cur := Builtin.zeroCells #[Value.slice none 0 0] n ++ Builtin.zeroCells #[Value.slice none 0 0] (G - n)) hGm (by simp [Builtin.zeroCells]; omega))
  have hG63 : G ≤ 9223372036854775807 := by unfold maxLen at hGm; omega
  clear hold hG
  go_enter Tryz.func32, Tryz.ntmps32
  go_wp2_with (at_builtin; refine Lib.wpList_append_run _ rfl _ _ _ _ rfl _ _ rfl rfl _ _ (hrz _) ?_)
  all_goals (go_ret; exact HE.out)
theorem own_grown_belowN {W wr w1 : World} {base n : Nat} {e : TypeId} {v : Value} {xs : List Value} (hb : Below W.heap.size W wr) (ho : wr.ownsRow base e 1 v n xs) (hbs : W.heap.size ≤ base) (hg : wr.grownBy w1 v.ownBlock) : Below W.heap.size W w1 := by
  refine hb.trans ⟨hg.os, hg.tape, hg.output, hg.size, fun k hk => hg.block k (by have := hb.size; omega) fun h => ?_⟩
  have := (ho.lt k h.symm).1
  omega
def CtR (w : World) (N n1 : Nat) (r1 r12 : List Value) (iv v : Value) (wr : World) : Prop := Below w.heap.size w wr ∧ ∃ A c m rows, v = .slice A m c ∧ wr.ownsRow w.heap.size 28 1 (.slice A m c) m rows ∧ ((iv = .int .i64 0 ∧ m = 0 ∧ rows = []) ∨ (iv = .int .i64 1 ∧ m = n1 ∧ rows = r1) ∨ (iv = .int .i64 2 ∧ m = N ∧ rows = r12))
/-- what Concat gives -/
def CtP (w : World) (n : Nat) (rows : List Value) (e : Ending) (w' : World) : Prop := ∃ A c, e = .returned (.slice A n c) ∧ w'.ownsRow w.heap.size 28 1 (.slice A n c) n rows ∧ Below w.heap.size w w'
set_option maxHeartbeats 4000000 in
set_option maxRecDepth 100000 in
theorem concat_two {w : World} {b B n1 c1 n2 c2 : Nat} {A1 A2 : Option Addr} {r1 r2 : List Value} (hc0 : w.cell? ⟨b, 0, none⟩ = some (.slice A1 n1 c1)) (hc1 : w.cell? ⟨b, 1, none⟩ = some (.slice A2 n2 c2))
    (hr1 : Reads w B 1 A1 n1 r1) (hr2 : Reads w B 1 A2 n2 r2) (ho1 : ∀ u ∈ r1, u.oneCell' = true) (ho2 : ∀ u ∈ r2, u.oneCell' = true) (hB : B ≤ w.heap.size) (h0 : 0 < n1 + n2) (hn : n1 + n2 ≤ 1000000) :
    Calls Tryz.prog 22 #[.slice (some ⟨b, 0, none⟩) 2 2] w (CtP w (n1 + n2) (r1 ++ r2)) := by
  obtain ⟨ic, hic, hcz0, hcz1, hcz2⟩ := info_parts infoClause_
  have HIC := Lib.hid (And.intro hic (And.intro hcz0 (And.intro hcz1 hcz2)))
  clear hic hcz0 hcz1 hcz2
  have w1 : IntKind.i64.wrap (n1 : Int) = (n1 : Int) := by rw [IntKind.wrap_i64]; omega
  have w2 : IntKind.i64.wrap ((n1 : Int) + (n2 : Int)) = ((n1 + n2 : Nat) : Int) := by rw [IntKind.wrap_i64]; omega
  have d1 : decide ((n1 : Int) < 0) = false := decide_eq_false (by omega)
  have d2 : decide (((n1 + n2 : Nat) : Int) < 0) = false := decide_eq_false (by omega)
  have d3 : decide (n1 + n2 < 0) = false := decide_eq_false (by omega)
  have HR := Lib.hid (And.intro hr1 hr2)
  have HO := Lib.hid (And.intro ho1 ho2)
  have HB := Lib.hid hB
  have CG := Lib.hid (grow_nil (w := w) h0 hn)
  have HL := Lib.hid (show b < w.heap.size from World.block_lt_of_cell? _ _ hc0)
  obtain ⟨N, hN⟩ : ∃ N, N = n1 + n2 := ⟨_, rfl⟩
  rw [← hN] at w2 d2 d3 CG
  have HN := Lib.hid hN
  have HNN := Lib.hid (And.intro h0 hn)
  rw [← hN]
  clear hr1 hr2 ho1 ho2 hB hN h0 hn
  go_enter Tryz.func22, Tryz.ntmps22
  go_wp2_with fail
  go_loopw [11, 3] (fun iv sv wr => wr = w ∧ ((iv = .int .i64 0 ∧ sv = .int .i64 0) ∨ (iv = .int .i64 1 ∧ sv = .int .i64 (n1 : Nat)) ∨ (iv = .int .i64 2 ∧ sv = .int .i64 (N : Nat)))) (fun iv _ _ => 2 - (intOf iv).toNat)
  case atStart => exact ⟨rfl, .inl ⟨rfl, rfl⟩⟩
  case round =>
    obtain ⟨e0, hcase⟩ := hrel
    have e0 := e0.symm
    subst e0
    rcases hcase with ⟨rfl, rfl⟩ | ⟨rfl, rfl⟩ | ⟨rfl, rfl⟩
    · go_wp2_with fail
      go_roundw
      case rel => exact ⟨trivial, .inr (.inl ⟨rfl, rfl⟩)⟩
      case measure => simp [intOf]
    · go_wp2_with fail
      go_roundw
      case rel => exact ⟨trivial, .inr (.inr ⟨rfl, rfl⟩)⟩
      case measure => simp [intOf]
    · go_wp2_with fail
      refine CG.out.mono ?_
      rintro e w4 ⟨g, c, rfl, hown, hb4⟩
      have k0 : w4.cell? ⟨b, 0, none⟩ = some (.slice A1 n1 c1) := (hb4.cell (p := ⟨b, 0, none⟩) HL.out).trans hc0
      have k1 : w4.cell? ⟨b, 1, none⟩ = some (.slice A2 n2 c2) := (hb4.cell (p := ⟨b, 1, none⟩) HL.out).trans hc1
      have HST := Lib.hid (show CtR w N n1 r1 (r1 ++ r2) (.int .i64 0) (.slice (some ⟨g, 0, none⟩) 0 c) w4 from ⟨hb4, _, _, 0, [], rfl, hown, .inl ⟨rfl, rfl, rfl⟩⟩)
      have HC := Lib.hid (show ∀ wr, Below w.heap.size w wr → wr.cell? ⟨b, 0, none⟩ = some (.slice A1 n1 c1) ∧ wr.cell? ⟨b, 1, none⟩ = some (.slice A2 n2 c2) from fun wr h => ⟨(h.cell (p := ⟨b, 0, none⟩) HL.out).trans hc0, (h.cell (p := ⟨b, 1, none⟩) HL.out).trans hc1⟩)
      clear hown hb4 hc0 hc1 k0 k1 CG d1 d2 d3
      go_wp2_with fail
      go_loopw [27, 6] (fun iv v wr => CtR w N n1 r1 (r1 ++ r2) iv v wr) (fun iv _ _ => 2 - (intOf iv).toNat)
      case atStart => exact HST.out
      case round =>
        clear HST
        obtain ⟨hb, A, c, m, rows, rfl, hown, hcase⟩ := hrel
        obtain ⟨q0, q1⟩ := HC.out wr hb
        have HB5 := Lib.hid hb
        have HOW := Lib.hid hown
        clear hb hown
        rcases hcase with ⟨rfl, rfl, rfl⟩ | ⟨rfl, rfl, rfl⟩ | ⟨rfl, rfl, rfl⟩
        · go_wp2_with (first | (at_builtin; refine wpList_append_sl _ rfl (.tmp 31) (.tmp 32) _ rfl w.heap.size 28 ic _ 1 24 Tryz.underlying22 HIC.out.1 HIC.out.2.1 HIC.out.2.2.1 HIC.out.2.2.2 rfl (by omega) (.slice A 0 c) 0 [] rfl HOW.out B A1 n1 c1 r1 rfl (HR.out.1.below (HB5.out.mono HB.out)) HO.out.1 (le_maxLen (by have := HNN.out; omega)) (le_bytes (by have := HNN.out; omega) (by omega)) HB5.out.size ?_; rw [Nat.zero_add, List.nil_append]; intro A6 c6 w6 hown6 hg6; have HN6 := Lib.hid (show CtR w N n1 r1 (r1 ++ r2) (.int .i64 1) (.slice A6 n1 c6) w6 from ⟨own_grown_belowN HB5.out HOW.out (Nat.le_refl _) hg6, _, _, n1, _, rfl, hown6, .inr (.inl ⟨rfl, rfl, rfl⟩)⟩); clear hown6 hg6) | fail)
          go_roundw
          case rel => exact HN6.out
          case measure => simp [intOf]
        · go_wp2_with (first | (at_builtin; refine wpList_append_sl _ rfl (.tmp 31) (.tmp 32) _ rfl w.heap.size 28 ic _ 1 24 Tryz.underlying22 HIC.out.1 HIC.out.2.1 HIC.out.2.2.1 HIC.out.2.2.2 rfl (by omega) (.slice A m c) m rows rfl HOW.out B A2 n2 c2 r2 rfl (HR.out.2.below (HB5.out.mono HB.out)) HO.out.2 (le_maxLen (by have := HNN.out; omega)) (le_bytes (by have := HNN.out; omega) (by omega)) HB5.out.size ?_; intro A6 c6 w6 hown6 hg6; have HN6 := Lib.hid (show CtR w N m rows (rows ++ r2) (.int .i64 2) (.slice A6 (m + n2) c6) w6 from ⟨own_grown_belowN HB5.out HOW.out (Nat.le_refl _) hg6, _, _, m + n2, _, rfl, hown6, .inr (.inr ⟨rfl, HN.out.symm, rfl⟩)⟩); clear hown6 hg6) | fail)
          go_roundw
          case rel => exact HN6.out
          case measure => simp [intOf]
        · go_wp2_with fail
          go_ret
          exact ⟨_, _, rfl, HOW.out, HB5.out⟩
end Go.Proofs.YtgchepkcjkhmmaaGreatDoor
namespace Go.Proofs.YtgchepkcjkhmmaaGreatDoor
open Go.RowKit
/-- a row of clauses cut out of others -/
def OutIs (w : World) (base : Nat) (v : Value) (cs : List (List Int)) : Prop :=
  ∃ (g c : Nat) (rows : List Value), v = .slice (some ⟨g, 0, none⟩) cs.length c ∧ cs.length ≤ c ∧ c ≤ maxLen ∧ g < w.heap.size ∧ rows.length = cs.length ∧ (∀ (j : Nat) (u : Value), rows[j]? = some u → w.cell? ⟨g, j, none⟩ = some u) ∧
    ∀ (i : Nat) (l : List Int), cs[i]? = some l → ∃ u, rows[i]? = some u ∧ w.ownsRow base 3 1 u l.length (litVals l)
theorem OutIs.chg {w w' : World} {base : Nat} {v : Value} {cs : List (List Int)} (h : OutIs w base v cs) (hb : Below w.heap.size w w') : OutIs w' base v cs := by
  obtain ⟨g, c, rows, h1, h2, h2m, h3, h4, h5, h6⟩ := h
  refine ⟨g, c, rows, h1, h2, h2m, Nat.lt_of_lt_of_le h3 hb.size, h4, fun j u hu => (hb.cell (p := ⟨g, j, none⟩) h3).trans (h5 j u hu), fun i l hl => ?_⟩
  obtain ⟨u, h7, h8⟩ := h6 i l hl
  exact ⟨u, h7, own_chg (S := fun _ _ => False) h8 (Chg.of_new hb) (fun _ _ _ _ hs => hs)⟩
theorem OutIs.in_ {w : World} {base g n c : Nat} {cs : List (List Int)} (h : OutIs w base (.slice (some ⟨g, 0, none⟩) n c) cs) : CsIn w base (some ⟨g, 0, none⟩) cs := fun i l hl => by
  obtain ⟨g', c', rows, h1, h2, h2m, h3, h4, h5, h6⟩ := h
  injection h1 with e1 e2 e3
  injection e1 with e1
  injection e1 with e1
  subst e1
  obtain ⟨u, h7, h8⟩ := h6 i l hl
  exact ⟨g, u, rfl, h5 i u h7, h8⟩
theorem OutIs.of_cut {w : World} {base k n c : Nat} {A : Option Addr} {cs : List (List Int)} (h : CsAt w base (.slice A n c) cs) (hn : cs.length = n) (hk : k < n) : OutIs w base (.slice A (k + 1) (k + 1)) (cs.take (k + 1)) := by
  obtain ⟨rows, h1, h2⟩ := h
  rw [hn] at h1
  obtain ⟨g, cap, hv, _, hlt⟩ := h1.form (by omega)
  have hA : A = some ⟨g, 0, none⟩ := by simp only [Value.slice.injEq] at hv; exact hv.1
  subst hA
  have hl := h1.1
  have hnm : n ≤ maxLen := by
    rcases h1.2 with ⟨e, e2⟩ | ⟨_, cap, _, _, _, _, e1, e2, _⟩
    · omega
    · omega
  have hl2 : (cs.take (k + 1)).length = k + 1 := by rw [List.length_take]; omega
  refine ⟨g, k + 1, rows.take (k + 1), by rw [hl2], by omega, by omega, hlt, by rw [hl2, List.length_take]; omega, fun j u hu => ?_, fun i l hi => ?_⟩
  · rw [List.getElem?_take] at hu
    split at hu
    · have h5 := h1.cells (g := g) rfl j _ hu
      have e : (⟨g, 0, none⟩ : Addr).add j = ⟨g, j, none⟩ := by
        unfold Addr.add; split
        · rename_i h0; rw [h0]
        · simp
      rwa [e] at h5
    · cases hu
  · rw [List.getElem?_take] at hi
    split at hi
    · rename_i hlt2
      obtain ⟨u, h3, h4⟩ := h2 i l hi
      exact ⟨u, by rw [List.getElem?_take, if_pos hlt2]; exact h3, h4⟩
    · cases hi
/-- what Concat gave, of parts of a row -/
theorem OutIs.joined {w w' : World} {base b2 at_ k m : Nat} {A : Option Addr} {cap : Nat} {cs : List (List Int)} {rows : List Value} (hrl : rows.length = cs.length) (h6 : ∀ (i : Nat) (l : List Int), cs[i]? = some l → ∃ u, rows[i]? = some u ∧ w.ownsRow base 3 1 u l.length (litVals l))
    (hb : Below w.heap.size w w') (ho : w'.ownsRow b2 28 1 (.slice A m cap) m (rows.take at_ ++ rows.drop k)) (hm : 0 < m) (hk : at_ ≤ k) (hkc : k ≤ cs.length) : OutIs w' base (.slice A m cap) (cs.take at_ ++ cs.drop k) ∧ (cs.take at_ ++ cs.drop k).length = m := by
  have hl : (cs.take at_ ++ cs.drop k).length = m := by
    have := ho.1
    rw [List.length_append, List.length_take, List.length_drop] at this ⊢
    omega
  refine ⟨?_, hl⟩
  obtain ⟨g, cap', hv, _, hlt⟩ := ho.form hm
  have hA : A = some ⟨g, 0, none⟩ := by simp only [Value.slice.injEq] at hv; exact hv.1
  subst hA
  obtain ⟨hc1, hc2⟩ : m ≤ cap ∧ cap ≤ maxLen := by
    rcases ho.2 with ⟨e, e2⟩ | ⟨_, cap, _, e0, _, _, e1, e2, _⟩
    · omega
    · injection e0 with _ _ e3; subst e3; exact ⟨e1, e2⟩
  refine ⟨g, cap, rows.take at_ ++ rows.drop k, by rw [hl], by omega, hc2, hlt, by rw [hl]; have := ho.1; omega, fun j u hu => ?_, fun i l hi => ?_⟩
  · have h5 := ho.cells (g := g) rfl j _ hu
    have e : (⟨g, 0, none⟩ : Addr).add j = ⟨g, j, none⟩ := by
      unfold Addr.add; split
      · rename_i h0; rw [h0]
      · simp
    rwa [e] at h5
  · have key : ∀ (i : Nat) (l : List Int), cs[i]? = some l → ∃ u, rows[i]? = some u ∧ w'.ownsRow base 3 1 u l.length (litVals l) := fun i l hi => by
      obtain ⟨u, h7, h8⟩ := h6 i l hi
      exact ⟨u, h7, own_chg (S := fun _ _ => False) h8 (Chg.of_new hb) (fun _ _ _ _ hs => hs)⟩
    have t1 : (rows.take at_).length = (cs.take at_).length := by rw [List.length_take, List.length_take, hrl]
    rcases Nat.lt_or_ge i (cs.take at_).length with h | h
    · rw [List.getElem?_append_left h] at hi
      rw [List.getElem?_append_left (by omega)]
      rw [List.getElem?_take] at hi
      split at hi
      · rename_i hlt2
        rw [List.getElem?_take, if_pos hlt2]
        exact key i l hi
      · cases hi
    · rw [List.getElem?_append_right h, List.getElem?_drop] at hi
      rw [List.getElem?_append_right (by omega), List.getElem?_drop, t1]
      exact key _ l hi
theorem rows_oneCell {w : World} {base : Nat} {cs : List (List Int)} {rows : List Value} (hrl : rows.length = cs.length) (h6 : ∀ (i : Nat) (l : List Int), cs[i]? = some l → ∃ u, rows[i]? = some u ∧ w.ownsRow base 3 1 u l.length (litVals l)) : ∀ u ∈ rows, u.oneCell' = true := fun u hu => by
  obtain ⟨j, hj⟩ := List.mem_iff_getElem?.1 hu
  have hlt : j < cs.length := by have := (List.getElem?_eq_some_iff.1 hj).1; omega
  obtain ⟨u', h1, h2⟩ := h6 j _ (List.getElem?_eq_getElem hlt)
  rw [hj] at h1
  injection h1 with h1
  subst h1
  obtain ⟨A, c, rfl⟩ := own_form h2
  rfl
theorem sub_joined {cs : List (List Int)} {at_ k : Nat} (hk : at_ ≤ k) : (cs.take at_ ++ cs.drop k).Sublist cs := by
  have h : (cs.drop k).Sublist (cs.drop at_) := by
    have e : cs.drop k = (cs.drop at_).drop (k - at_) := by rw [List.drop_drop]; congr 1; omega
    rw [e]; exact List.drop_sublist _ _
  have h2 := (List.Sublist.refl (cs.take at_)).append h
  rwa [List.take_append_drop] at h2
/-- a clause of one's own -/
theorem clone_any {w : World} {base n : Nat} {u : Value} {l : List Int} (h : w.ownsRow base 3 1 u n (litVals l)) (hn : l.length = n) (hn5 : n ≤ 100000) :
    Calls Tryz.prog 23 #[u] w fun e w' => ∃ v, e = .returned v ∧ w'.ownsRow w.heap.size 3 1 v n (litVals l) ∧ Below w.heap.size w w' := by
  obtain ⟨i0, hi, hz0, hz1, hz2⟩ := info_parts info_int
  rcases h.2 with ⟨rfl, h0⟩ | ⟨g, cap, cur, rfl, hb, hh, hle, hm, hs, ht⟩
  · subst h0
    refine (Tryz.slices_Clone_own_nil 0 0 w).mono ?_
    rintro e w' ⟨rfl, rfl⟩
    have hl0 : l = [] := List.eq_nil_of_length_eq_zero hn
    subst hl0
    exact ⟨_, rfl, World.ownsRow_nil _ _ _ _, Below.refl _ _⟩
  · have hr : ∀ (j : Nat) u, (litVals l)[j]? = some u → w.cell? ⟨g, 0 + j, none⟩ = some u := fun j u hu => by
      rw [Nat.zero_add]
      have h5 := h.cells (g := g) rfl j _ hu
      have e : (⟨g, 0, none⟩ : Addr).add j = ⟨g, j, none⟩ := by
        unfold Addr.add; split
        · rename_i h0; rw [h0]
        · simp
      rwa [e] at h5
    refine (Tryz.slices_Clone_own i0 _ 1 8 hi hz0 hz1 hz2 rfl (by omega) Tryz.sizeOf3 g 0 n cap (litVals l) w (by rw [litVals_len, hn, Nat.mul_one]) (le_maxLen (by omega)) (le_bytes (by omega) (by omega)) hr (lits1 l)).mono ?_
    rintro e w' ⟨v', rfl, h1, _, h3⟩
    exact ⟨v', rfl, h1, h3⟩
/-- Trim's answer -/
def TmP (w : World) (ea : Nat → Addr) (v : Int) (cs pf : List (List Int)) (e : Ending) (w' : World) : Prop :=
  ∃ ov ev c at_, e = .returned (.tuple #[ov, ev]) ∧ Below w.heap.size w w' ∧ PfIs v cs pf c at_ ∧ EvC w' ea ev c at_ ∧
    ((c ≠ 0 ∧ ov = .slice none 0 0) ∨ (c = 0 ∧ ∃ (outs : List (List Int)) (A : Option Addr) (cp q : Nat), ov = .slice A outs.length cp ∧ CsAt w' w.heap.size ov outs ∧ PfIs v cs outs 0 (-1) ∧ FirstE pf q ∧ outs.Sublist (pf.take (q + 1))))
/-- what is left of a proof -/
def TrR (w : World) (base : Nat) (fv : Value) (v : Int) (cs pfq : List (List Int)) (ov : Value) (wr : World) : Prop := Below w.heap.size w wr ∧ Blk wr w.heap.size 33 #[.int .i64 v, fv] ∧ ∃ outs : List (List Int), OutIs wr base ov outs ∧ PfIs v cs outs 0 (-1) ∧ outs.Sublist pfq
def lenV : Value → Nat
  | .slice _ n _ => n
  | _ => 0
end Go.Proofs.YtgchepkcjkhmmaaGreatDoor
namespace Go.Proofs.YtgchepkcjkhmmaaGreatDoor
open Go.RowKit
theorem pfR_zero {v : Int} : ∀ {pf L : List (List Int)} {i : Nat} {fin : Bool}, (pfR v L i fin pf).1 = 0 → pfR v L i fin pf = (0, -1)
  | [], L, i, fin, h => by unfold pfR at h ⊢; split at h <;> simp_all
  | c :: r, L, i, fin, h => by
    unfold pfR at h ⊢
    by_cases h1 : okC v c = true
    · rw [if_pos h1] at h ⊢
      by_cases h2 : Ref L c
      · rw [if_pos h2] at h ⊢
        exact pfR_zero h
      · rw [if_neg h2] at h; simp at h
    · rw [if_neg h1] at h; simp at h
theorem pfR_take {v : Int} : ∀ {pf L : List (List Int)} {i k : Nat} {fin : Bool}, (fin = true ∨ ∃ j, j < k ∧ pf[j]? = some []) → (pfR v L i fin pf).1 = 0 → (pfR v L i fin (pf.take k)).1 = 0
  | [], L, i, k, fin, h0, h => by
    rw [List.take_nil]; exact h
  | c :: r, L, i, 0, fin, h0, h => by
    rcases h0 with h0 | ⟨j, hj, _⟩
    · rw [List.take_zero]; unfold pfR; rw [if_pos h0]
    · omega
  | c :: r, L, i, k + 1, fin, h0, h => by
    rw [List.take_succ_cons]
    unfold pfR at h ⊢
    by_cases h1 : okC v c = true
    · rw [if_pos h1] at h ⊢
      by_cases h2 : Ref L c
      · rw [if_pos h2] at h ⊢
        refine pfR_take ?_ h
        rcases h0 with h0 | ⟨j, hj, hjc⟩
        · exact .inl (by rw [h0]; rfl)
        · match j, hjc, hj with
          | 0, hjc, _ =>
            have : c = [] := by simpa using hjc
            subst this
            exact .inl (by simp)
          | j + 1, hjc, hj => exact .inr ⟨j, by omega, by simpa using hjc⟩
      · rw [if_neg h2] at h; simp at h
    · rw [if_neg h1] at h; simp at h
theorem pfIs_take {v : Int} {cs pf : List (List Int)} {q : Nat} {a : Int} (h : PfIs v cs pf 0 a) (hq : FirstE pf q) : PfIs v cs (pf.take (q + 1)) 0 (-1) := by
  rcases h with ⟨h, _⟩ | ⟨h1, h2⟩
  · exact absurd rfl h
  · refine .inr ⟨h1, ?_⟩
    exact (pfR_zero (pfR_take (.inr ⟨q, by omega, hq.1⟩) (by rw [← h2]))).symm
theorem pfIs_pos {v : Int} {cs outs : List (List Int)} (h : PfIs v cs outs 0 (-1)) : 0 < outs.length := by
  rcases h with ⟨h, _⟩ | ⟨_, h2⟩
  · exact absurd rfl h
  · cases outs with
    | nil => unfold pfR at h2; simp at h2
    | cons a r => simp
theorem firstE_lt {pf : List (List Int)} {q : Nat} (h : FirstE pf q) : q < pf.length := (List.getElem?_eq_some_iff.1 h.1).1
attribute [local irreducible] wpSeq
set_option maxRecDepth 100000 in
set_option maxHeartbeats 4000000 in
theorem trim_any {w : World} {ea : Nat → Addr} {v : Int} {A A2 : Option Addr} {n c n2 c2 base base2 : Nat} {cs pf : List (List Int)} (hes : Sen3 w ea) (hcs : CsAt w base (.slice A n c) cs) (hn : cs.length = n) (hpf : CsAt w base2 (.slice A2 n2 c2) pf) (hn2 : pf.length = n2) (hp4 : n2 ≤ 1000)
    (hls : cs.length ≤ 500000 → ∀ x ∈ cs, x.length ≤ 100000) (hls2 : ∀ x ∈ pf, x.length ≤ 100000) :
    Calls Tryz.prog 12 #[.agg #[.int .i64 v, .slice A n c], .slice A2 n2 c2] w (TmP w ea v cs pf) := by
  obtain ⟨W0, hW0⟩ : ∃ W0, W0 = w.alloc (.cells #[.int .i64 v, .slice A n c] 33) := ⟨_, rfl⟩
  have hb0 : Below w.heap.size w W0 := by rw [hW0]; exact (Below.refl _ _).alloc (Nat.le_refl _) _
  have k0 : Blk W0 w.heap.size 33 #[.int .i64 v, .slice A n c] := by rw [hW0]; exact Blk.new w _ _
  have CS := Lib.hid (steps_any (v := v) (c := c) (c2 := c2) (hes.below hb0) (hcs.chg hb0) hn (hpf.in_.chg hb0) hn2 (by omega) hls hls2)
  have c00 := k0.cell 0
  have c01 := k0.cell 1
  have HW0 := Lib.hid hW0
  have HB0 := Lib.hid hb0
  have K0 := Lib.hid k0
  have HES := Lib.hid hes
  have HCS := Lib.hid hcs
  have HPF := Lib.hid hpf
  have HN := Lib.hid hn
  have HN2 := Lib.hid hn2
  have HLS := Lib.hid hls
  have HLS2 := Lib.hid hls2
  clear hW0 hb0 k0 hes hcs hn hpf hn2 hls hls2
  go_enter Tryz.func12, Tryz.ntmps12
  go_upto_region 1 with fail
  rw [← HW0.out]
  go_wp2_with fail
  refine CS.out.mono ?_
  rintro e w1 ⟨cv, en, ev, cd, pl, rfl, hb1, hpi, hev, hfe⟩
  have HB1 := Lib.hid (HB0.out.trans (hb1.mono HB0.out.size))
  have K1 := Lib.hid (K0.out.below hb1 K0.out.lt)
  have HPI := Lib.hid hpi
  have HEV := Lib.hid hev
  have HFE := Lib.hid hfe
  clear hb1 hpi hfe c00 c01 CS
  rcases hev.nil_iff with ⟨hc0, he0⟩ | ⟨hc0, t, a, he0⟩
  · subst hc0
    subst he0
    obtain ⟨q, hq, hfq⟩ := HFE.out rfl
    subst hq
    have hq2 : q < n2 := by have := firstE_lt hfq; have := HN2.out; omega
    have w1q : IntKind.i64.wrap ((q : Int) + 1) = ((q + 1 : Nat) : Int) := by rw [IntKind.wrap_i64]; omega
    have hout := OutIs.of_cut (HPF.out.chg HB1.out) HN2.out hq2
    have HOUT := Lib.hid (show TrR w base2 (.slice A n c) v cs (pf.take (q + 1)) (.slice A2 (q + 1) (q + 1)) w1 from ⟨HB1.out, K1.out, _, hout, pfIs_take HPI.out hfq, List.Sublist.refl _⟩)
    obtain ⟨hcap, hA2⟩ : n2 ≤ c2 ∧ ∃ g, A2 = some ⟨g, 0, none⟩ := by
      obtain ⟨rows, h1, _⟩ := HPF.out
      rw [HN2.out] at h1
      obtain ⟨g, cap, hv, _, hlt⟩ := h1.form (by omega)
      rcases h1.2 with ⟨e, e2⟩ | ⟨_, cap, _, e0, _, _, e1, e2, _⟩
      · omega
      · injection e0 with _ _ e3; subst e3; simp only [Value.slice.injEq] at hv; exact ⟨e1, g, hv.1⟩
    obtain ⟨g2, hA2⟩ := hA2
    subst hA2
    have hq1 : q + 1 ≤ c2 := by omega
    have hq1I : ((q + 1 : Nat) : Int) ≤ (c2 : Int) := by omega
    have HFQ := Lib.hid hfq
    obtain ⟨m0, hm0⟩ : ∃ m0, q + 1 = m0 := ⟨_, rfl⟩
    have HM0 := Lib.hid hm0
    rw [hm0] at hq1 hq1I w1q HOUT
    have hm1 : m0 ≤ 1000 := by omega
    have HSZ := Lib.hid (show m0 / 2 ≤ 1000 by omega)
    clear hev hout hfq HFE hm0
    go_wp2_with fail
    go_loopw [10, 9] (fun sv ov wr => (∃ sz : Nat, sv = .int .i64 (sz : Nat) ∧ sz ≤ 1000) ∧ TrR w base2 (.slice A n c) v cs (pf.take m0) ov wr) (fun sv _ _ => (intOf sv).toNat)
    case atStart => exact ⟨⟨m0 / 2, by go_num, HSZ.out⟩, HOUT.out⟩
    case round =>
      clear HOUT HSZ
      obtain ⟨⟨sz, e1, hsz⟩, hb2, hkf, outs, hout, hval, hsub⟩ := hrel
      subst e1
      obtain ⟨m, hm⟩ : ∃ m, outs.length = m := ⟨_, rfl⟩
      have hmle : m ≤ 1000 := by
        have h1 := hsub.length_le
        rw [List.length_take] at h1
        omega
      have HTO := Lib.hid hout
      have HOUT := Lib.hid (show TrR w base2 (.slice A n c) v cs (pf.take m0) u9 wr from ⟨hb2, hkf, outs, hout, hval, hsub⟩)
      obtain ⟨g, cc, rows, e2, hmc, hcm, hg, hrl, hrc, hcl⟩ := hout
      rw [hm] at e2 hmc hrl
      subst e2
      have HM := Lib.hid hm
      have HVAL := Lib.hid hval
      have HSUB := Lib.hid hsub
      have HBW := Lib.hid hb2
      have HKF := Lib.hid hkf
      clear hb2 hkf hval hsub hm hrc hcl hrl
      obtain ⟨b1, b2, hd1, hd2, hbb⟩ : ∃ b1 b2 : Bool, decide (0 < sz) = b1 ∧ decide (m < 200) = b2 ∧ ((b1 = true ∧ b2 = true) ∨ b1 = false ∨ (b1 = true ∧ b2 = false)) := ⟨_, _, rfl, rfl, by cases decide (0 < sz) <;> cases decide (m < 200) <;> simp⟩
      have hd1i : decide ((0 : Int) < (sz : Int)) = b1 := by rw [← hd1]; exact decide_eq_decide.2 (by omega)
      have hd2i : decide ((m : Int) < 200) = b2 := by rw [← hd2]; exact decide_eq_decide.2 (by omega)
      rcases hbb with ⟨rfl, rfl⟩ | hbb
      · have hsz1 : 0 < sz := of_decide_eq_true hd1
        go_wp2_with fail
        go_loopw [11, 9] (fun av ov wr => (∃ at_ : Nat, av = .int .i64 (at_ : Nat) ∧ at_ ≤ lenV ov) ∧ TrR w base2 (.slice A n c) v cs (pf.take m0) ov wr) (fun av ov _ => lenV ov - (intOf av).toNat)
        case atStart => exact ⟨⟨0, rfl, Nat.zero_le _⟩, HOUT.out⟩
        case round =>
          clear HOUT HTO HKF HM HVAL HSUB HBW hmle hmc hcm hg hd1 hd2 hd1i hd2i
          obtain ⟨⟨at_, e1, hat⟩, hb2, hkf, outs, hout, hval, hsub⟩ := hrel
          subst e1
          obtain ⟨m, hm⟩ : ∃ m, outs.length = m := ⟨_, rfl⟩
          have hmle : m ≤ 1000 := by
            have h1 := hsub.length_le
            rw [List.length_take] at h1
            omega
          have HTO := Lib.hid hout
          have HTR := Lib.hid (show TrR w base2 (.slice A n c) v cs (pf.take m0) u9 wr from ⟨hb2, hkf, outs, hout, hval, hsub⟩)
          obtain ⟨g, cc, rows, e2, hmc, hcm, hg, hrl, hrc, hcl⟩ := hout
          have HONE := Lib.hid (rows_oneCell hrl hcl)
          have HCL := Lib.hid (And.intro hrl hcl)
          rw [hm] at e2 hmc hrl
          subst e2
          have HM := Lib.hid hm
          have HVAL := Lib.hid hval
          have HSUB := Lib.hid hsub
          have HBW := Lib.hid hb2
          have HRC := Lib.hid hrc
          have hat2 : at_ ≤ m := hat
          have HKF := Lib.hid hkf
          clear hb2 hkf hval hsub hm hrc hcl hrl hat
          have w3 : IntKind.i64.wrap ((at_ : Int) + (sz : Int)) = ((at_ + sz : Nat) : Int) := by rw [IntKind.wrap_i64]; omega
          by_cases hlt : at_ + sz < m
          · have hltI : ((at_ + sz : Nat) : Int) < (m : Int) := by omega
            obtain ⟨kk, hkk⟩ : ∃ kk, at_ + sz = kk := ⟨_, rfl⟩
            rw [hkk] at w3 hlt hltI
            have l1 : (at_ : Int) ≤ (cc : Int) := by omega
            have l2 : at_ ≤ cc := by omega
            have l3 : (kk : Int) ≤ (m : Int) := by omega
            have l4 : (m : Int) ≤ (cc : Int) := by omega
            have HKK := Lib.hid hkk
            have HKm := Lib.hid hlt
            clear hkk
            go_upto_region 10 with fail
            refine wp_region_seq (S := fun w' => True) [(0, false), (1, false), (2, false), (3, false), (4, false), (5, false), (6, false), (7, false), (8, true), (9, true), (10, false)] (by kernel_rfl) (by kernel_rfl) (by kernel_rfl) trivial ?_
            iterate 8 (refine seq_take _ _ rfl (by kernel_rfl) (fun wv hv => by go_simp; try with_reducible rfl) ?_; simp only [Act.put, List.getElem_toArray, List.getElem_cons_zero, List.getElem_cons_succ, List.setIfInBounds_toArray, List.set_cons_zero, List.set_cons_succ])
            refine seq_act _ rfl (fun K hK => ?_)
            go_simp
            go_simp
            refine hK _ _ (trivial) ?_
            clear hK K
            obtain ⟨Ab, hAb⟩ : ∃ Ab, (if cc = kk then some (⟨g, 0, none⟩ : Addr) else some ⟨g, kk, none⟩) = Ab := ⟨_, rfl⟩
            rw [hAb]
            rw [if_neg (by omega)] at hAb
            obtain ⟨W4, hW4⟩ : ∃ W4, W4 = (wr.alloc (.cells #[.slice (some ⟨g, 0, none⟩) at_ cc, .slice Ab (m - kk) (cc - kk)] 22)).drew := ⟨_, rfl⟩
            have hb4 : Below wr.heap.size wr W4 := by rw [hW4]; exact below_drewN ((Below.refl _ wr).alloc (Nat.le_refl _) _) 1
            have k4 : Blk W4 wr.heap.size 22 #[.slice (some ⟨g, 0, none⟩) at_ cc, .slice Ab (m - kk) (cc - kk)] := by rw [hW4]; exact (Blk.new wr _ _).drew
            have hr1 : Reads wr wr.heap.size 1 (some ⟨g, 0, none⟩) at_ (rows.take at_) := ⟨by rw [List.length_take, HCL.out.1, HM.out]; omega, fun _ => ⟨_, rfl, hg, fun j u hu => by
              rw [List.getElem?_take] at hu
              split at hu
              · have e : (⟨g, 0, none⟩ : Addr).add j = ⟨g, j, none⟩ := by
                  unfold Addr.add; split
                  · rename_i h0; rw [h0]
                  · simp
                rw [e]; exact HRC.out j u hu
              · cases hu⟩⟩
            have hr2 : Reads wr wr.heap.size 1 Ab (m - kk) (rows.drop kk) := ⟨by rw [List.length_drop, HCL.out.1, HM.out]; omega, fun _ => ⟨_, hAb.symm, hg, fun j u hu => by
              rw [List.getElem?_drop] at hu
              have e : (⟨g, kk, none⟩ : Addr).add j = ⟨g, kk + j, none⟩ := by
                unfold Addr.add; split
                · rename_i h0; rw [h0]; rfl
                · simp
              rw [e]; exact HRC.out _ u hu⟩⟩
            have CT := Lib.hid (concat_two (w := W4) (b := wr.heap.size) (n1 := at_) (n2 := m - kk) (k4.cell 0) (k4.cell 1) (hr1.below hb4) (hr2.below hb4) (fun u hu => HONE.out u (List.mem_of_mem_take hu)) (fun u hu => HONE.out u (List.mem_of_mem_drop hu)) hb4.size (by omega) (by omega))
            have HB4 := Lib.hid hb4
            have HW4 := Lib.hid hW4
            rw [← HW4.out]
            clear hr1 hr2 hb4 k4 hAb hW4
            refine seq_act _ rfl (fun K hK => ?_)
            go_simp
            refine CT.out.mono ?_
            rintro e w5 ⟨A5, c5, rfl, hown5, hb5⟩
            have hb45 := HB4.out.trans (hb5.mono HB4.out.size)
            obtain ⟨hout5, hl5⟩ := OutIs.joined HCL.out.1 HCL.out.2 hb45 hown5 (by omega) (by have := HKK.out; omega) (by have := HM.out; omega)
            obtain ⟨m2, hm2⟩ : ∃ m2, at_ + (m - kk) = m2 := ⟨_, rfl⟩
            rw [hm2] at hl5 hout5 ⊢
            have hm2lt : m2 < m := by have := HKK.out; omega
            have hat3 : at_ ≤ m2 := by omega
            have HM2 := Lib.hid hl5
            have HB45 := Lib.hid hb5
            have HOUT5 := Lib.hid hout5
            have HB5 := Lib.hid (HBW.out.trans (hb45.mono HBW.out.size))
            have HKF5 := Lib.hid (HKF.out.below hb45 HKF.out.lt)
            have kf0 := HKF5.out.cell 0
            have kf1 := HKF5.out.cell 1
            have hg5 := hout5
            obtain ⟨g5, cc5, _, e5, _⟩ := hg5
            rw [hl5] at e5
            injection e5 with e5 _ e5c
            subst e5
            subst e5c
            have CR := Lib.hid (rcheck_any (v := v) (c := c) (c2 := c5) (HES.out.below HB5.out) (HCS.out.chg HB5.out) HN.out hout5.in_ hl5 (by omega) HLS.out (fun x hx => HLS2.out x (by
              have h1 := (sub_joined (cs := outs) (at_ := at_) (k := kk) (by have := HKK.out; omega)).mem hx
              exact List.mem_of_mem_take (HSUB.out.mem h1))))
            clear hown5 hb5 hb45 hout5 hl5 hm2 CT
            go_simp
            refine hK _ _ (trivial) ?_
            clear hK K
            iterate 1 (refine seq_take _ _ rfl (by kernel_rfl) (fun wv hv => by go_simp; try with_reducible rfl) ?_; simp only [Act.put, List.getElem_toArray, List.getElem_cons_zero, List.getElem_cons_succ, List.setIfInBounds_toArray, List.set_cons_zero, List.set_cons_succ])
            refine seq_nil ?_
            go_wp2_with fail
            refine CR.out.mono ?_
            rintro e w6 ⟨ev6, cd6, pl6, rfl, hb6, hpi6, hev6⟩
            have HB6 := Lib.hid (HB5.out.trans (hb6.mono HB5.out.size))
            have hb46 := HB4.out.trans ((HB45.out.trans (hb6.mono HB45.out.size)).mono HB4.out.size)
            have HKF6 := Lib.hid (HKF5.out.below hb6 HKF5.out.lt)
            have HOUT6 := Lib.hid (HOUT5.out.chg hb6)
            clear kf0 kf1 CR
            rcases hev6.nil_iff with ⟨hc0, he0⟩ | ⟨hc0, t, a, he0⟩
            · subst hc0
              subst he0
              obtain ⟨_, hpl6⟩ : (0 : Int) = 0 ∧ pl6 = -1 := by
                rcases hpi6 with ⟨h, _⟩ | ⟨_, h2⟩
                · exact absurd rfl h
                · have := pfR_zero (by rw [← h2] : (pfR v cs 0 false (outs.take at_ ++ outs.drop kk)).1 = 0)
                  rw [this] at h2
                  injection h2 with e1 e2
                  exact ⟨rfl, e2⟩
              subst hpl6
              have HNX := Lib.hid (show TrR w base2 (.slice A n c) v cs (pf.take m0) (.slice (some ⟨g5, 0, none⟩) m2 c5) w6 from ⟨HB6.out, HKF6.out, _, HOUT6.out, hpi6, (sub_joined (by have := HKK.out; omega)).trans HSUB.out⟩)
              clear hev6 hb6 hb46 hpi6
              go_wp2_with fail
              go_roundw
              case rel => exact ⟨⟨at_, by go_num, by simp only [lenV]; exact hat3⟩, HNX.out⟩
              case measure => simp only [lenV, intOf]; have := HKK.out; omega
            · subst he0
              clear hev6 hb6 hpi6
              go_wp2_with fail
              go_roundw
              case rel => exact ⟨⟨kk, by go_num, by simp only [lenV]; omega⟩, HB6.out, HKF6.out, outs, HTO.out.chg hb46, HVAL.out, HSUB.out⟩
              case measure => simp only [lenV, intOf]; have := HKK.out; omega
          · have hltI : decide (((at_ + sz : Nat) : Int) < (m : Int)) = false := decide_eq_false (by omega)
            have hltN : decide (at_ + sz < m) = false := decide_eq_false hlt
            go_wp2_with fail
            go_roundw
            case rel => exact ⟨⟨sz / 2, by go_num, by omega⟩, HTR.out⟩
            case measure => simp [intOf]; omega
      · obtain ⟨ic, hic, hcz0, hcz1, hcz2⟩ := info_parts infoClause_
        have HIC := Lib.hid (And.intro hic (And.intro hcz0 (And.intro hcz1 hcz2)))
        clear hic hcz0 hcz1 hcz2
        obtain ⟨wz, rfl⟩ : ∃ wz, wz = wr := ⟨_, rfl⟩
        rcases hbb with rfl | ⟨rfl, rfl⟩
        all_goals
          go_wp2_with fail
          go_loopw [70, 13] (fun iv ov wx => CaR wz outs ov iv wx) (fun iv _ _ => outs.length - (intOf iv).toNat)
          case atStart => exact ⟨0, none, 0, Nat.zero_le _, rfl, rfl, CsAt.nil _ _, Below.refl _ _⟩
          case round =>
            clear hd1 hd2 hd1i hd2i
            obtain ⟨k, Ao, co, hk, e3, e4, hcs, hb⟩ := hrel
            subst e3
            subst e4
            rw [HM.out] at hk
            have HCS3 := Lib.hid hcs
            have HB3 := Lib.hid hb
            clear hcs hb
            by_cases hk2 : k < m
            · obtain ⟨l, hl⟩ : ∃ l, outs[k]? = some l := ⟨_, List.getElem?_eq_getElem (by have := HM.out; omega)⟩
              obtain ⟨g', u, hA, hu, hrow⟩ := (HTO.out.chg HB3.out).in_ k l hl
              injection hA with hA
              injection hA with hA
              subst hA
              obtain ⟨ml, hml⟩ : ∃ ml, l.length = ml := ⟨_, rfl⟩
              have hl5 : ml ≤ 100000 := by rw [← hml]; exact HLS2.out l (List.mem_of_mem_take (HSUB.out.mem (List.mem_of_getElem? hl)))
              rw [hml] at hrow
              have CC := Lib.hid (clone_any hrow hml hl5)
              have hkI : (k : Int) < (m : Int) := by omega
              have HL := Lib.hid (And.intro hl hml)
              have hsz3 : wz.heap.size ≤ wr.heap.size := HB3.out.size
              clear hl hml hrow
              go_wp2_with fail
              refine CC.out.mono ?_
              rintro e w5 ⟨v5, rfl, hown5, hb5⟩
              obtain ⟨A5, c5, hv5⟩ := own_form hown5
              subst hv5
              have HCS5 := HCS3.out.chg hb5
              have HB5 := Lib.hid (HB3.out.trans (hb5.mono hsz3))
              have HOX := Lib.hid (own_base hown5 hsz3)
              have hs5 : wr.heap.size ≤ w5.heap.size := hb5.size
              obtain ⟨rows5, hrow5, hcl5⟩ := HCS5
              have htl : (outs.take k).length = k := by rw [List.length_take]; have := HM.out; omega
              rw [htl] at hrow5
              have HROW := Lib.hid hrow5
              have HCL := Lib.hid hcl5
              have HTL := Lib.hid htl
              clear hown5 hb5 hrow5 hcl5 htl CC
              go_wp2_with (first | (at_builtin; refine wpList_append_sl _ rfl (.tmp 74) (.tmp 77) _ rfl wz.heap.size 28 ic _ 1 24 Tryz.underlying22 HIC.out.1 HIC.out.2.1 HIC.out.2.2.1 HIC.out.2.2.2 rfl (by omega) _ k _ rfl (HROW.out.alloc _) (w5.heap.size + 1) (some ⟨w5.heap.size, 0, none⟩) 1 1 [.slice A5 ml c5] rfl (reads_new rfl (by omega) rfl) (fun u hu => by rw [List.mem_singleton.1 hu]; rfl) (le_maxLen (by omega)) (le_bytes (by omega) (by omega)) (by simp; omega) ?_; intro A6 c6 w6 hown6 hg6) | fail)
              have hg7 : (w5.alloc (.cells #[.slice A5 ml c5] 28)).grownBy w6 (Value.slice Ao k co).ownBlock := hg6
              have HB6 := Lib.hid (own_grown_below0 HB5.out HROW.out (Nat.le_refl _) hg7)
              have HC6 := Lib.hid (CsAt.more (new := [l]) (news := [.slice A5 ml c5]) (by rw [HTL.out]; exact HROW.out) HCL.out (fun i x hx => by
                match i, hx with
                | 0, hx => obtain rfl : l = x := by simpa using hx
                           exact ⟨_, rfl, by rw [HL.out.2]; exact HOX.out⟩) hg7 (by rw [HTL.out]; exact hown6))
              clear hown6 hg6 hg7
              go_wp2_with fail
              go_roundw
              case rel => exact ⟨k + 1, A6, c6, by have := HM.out; omega, by go_num, rfl, by rw [take_atP HL.out.1]; exact HC6.out, HB6.out⟩
              case measure => have := HM.out; simp [intOf]; omega
            · obtain rfl : k = m := by omega
              have hcs := HCS3.out
              rw [List.take_of_length_le (by have := HM.out; omega)] at hcs
              have HE := Lib.hid (show TmP w ea v cs pf (.returned (.tuple #[.slice Ao k co, .nilIface])) wr from
                ⟨_, _, 0, _, rfl, HBW.out.trans (HB3.out.mono HBW.out.size), HPI.out, .inl ⟨rfl, rfl⟩, .inr ⟨rfl, outs, Ao, co, q, by rw [HM.out], csat_base hcs HBW.out.size, HVAL.out, HFQ.out, by rw [HM0.out]; exact HSUB.out⟩⟩)
              clear hcs
              go_wp2_with fail
              exact bodyPost_ret (v := .tuple #[.slice Ao k co, .nilIface]) (by simp [results, Tryz.results12, go_sem]) rfl HE.out
  · have HE := Lib.hid (show TmP w ea v cs pf (.returned (.tuple #[.slice none 0 0, ev])) w1 from ⟨_, _, cd, pl, rfl, HB1.out, HPI.out, HEV.out, .inl ⟨by omega, rfl⟩⟩)
    subst he0
    clear hev
    go_wp2_with fail
    exact bodyPost_ret (v := .tuple #[.slice none 0 0, .iface t (.pointer (some a))]) (by simp [results, Tryz.results12, go_sem]) rfl HE.out
end Go.Proofs.YtgchepkcjkhmmaaGreatDoor
namespace Go.Proofs.YtgchepkcjkhmmaaGreatDoor
open Go.RowKit
theorem litVals_at {l : List Int} {k : Nat} {a : Int} (h : l[k]? = some a) : (litVals l)[k]? = some (.int .i64 a) := by unfold litVals; simp [h]
theorem quiet_some {P : Program} {f : FuncId} {args : Array Value} {w : World} {n : Nat} {v : Value} (h : Calls P f args (w.drewN n) fun e w' => e = .returned v ∧ ∃ m, w' = (w.drewN n).drewN m) :
    Calls P f args (w.drewN n) fun e w'' => e = .returned v ∧ ∃ m, w'' = w.drewN m := h.mono fun _ _ ⟨he, m, hm⟩ => ⟨he, n + m, by rw [hm, World.drewN_drewN]⟩
theorem take_ne {xs ys : List Int} {k : Nat} {x y : Int} (hx : xs[k]? = some x) (hy : ys[k]? = some y) (h : x ≠ y) : xs ≠ ys := fun e => by
  subst e; rw [hx] at hy; injection hy with hy; exact h hy
theorem take_eq {xs ys : List Int} {k : Nat} {x : Int} (h : xs.take k = ys.take k) (hx : xs[k]? = some x) (hy : ys[k]? = some x) : xs.take (k + 1) = ys.take (k + 1) := by
  rw [List.take_add_one, List.take_add_one, h, hx, hy]
def SiR (w : World) (xs ys : List Int) (iv : Value) (wr : World) : Prop := ∃ k : Nat, k ≤ xs.length ∧ iv = .int .i64 k ∧ xs.take k = ys.take k ∧ ∃ n, wr = w.drewN n
set_option maxRecDepth 100000 in
set_option maxHeartbeats 1000000 in
theorem sameInts_any {w : World} {B1 B2 : Nat} {A1 A2 : Option Addr} {c1 c2 : Nat} {xs ys : List Int} (hx : Reads w B1 1 A1 xs.length (litVals xs)) (hy : Reads w B2 1 A2 ys.length (litVals ys)) (hl : xs.length ≤ 1000000) :
    Calls Tryz.prog 13 #[.slice A1 xs.length c1, .slice A2 ys.length c2] w fun e w' => e = .returned (.bool (xs == ys)) ∧ ∃ n, w' = w.drewN n := by
  by_cases hll : xs.length = ys.length
  · have hne : ((xs.length : Int) != (ys.length : Int)) = false := by simp [hll]
    have HX := Lib.hid hx
    have HY := Lib.hid hy
    have HLL := Lib.hid hll
    clear hx hy hll
    go_enter Tryz.func13, Tryz.ntmps13
    go_wp2_with fail
    go_loopw [5] (fun iv wr => SiR w xs ys iv wr) (fun iv _ => xs.length - (intOf iv).toNat)
    case atStart => exact ⟨0, Nat.zero_le _, rfl, rfl, 0, rfl⟩
    case round =>
      obtain ⟨k, hk, rfl, ht, n, rfl⟩ := hrel
      by_cases hkl : k < xs.length
      · obtain ⟨x, hxk⟩ : ∃ x, xs[k]? = some x := ⟨_, List.getElem?_eq_getElem hkl⟩
        obtain ⟨y, hyk⟩ : ∃ y, ys[k]? = some y := ⟨_, List.getElem?_eq_getElem (by have := HLL.out; omega)⟩
        obtain ⟨ad, rfl, _, cx⟩ := HX.out.2 (by omega)
        obtain ⟨ad2, rfl, _, cy⟩ := HY.out.2 (by have := HLL.out; omega)
        have cx := cx k _ (litVals_at hxk)
        have cy := cy k _ (litVals_at hyk)
        have hky : (k : Int) < (ys.length : Int) := by have := HLL.out; omega
        have HT := Lib.hid ht
        have HXK := Lib.hid hxk
        have HYK := Lib.hid hyk
        clear ht hxk hyk
        by_cases hxy : x = y
        · have hb : (x != y) = false := by simp [hxy]
          have HXY := Lib.hid hxy
          clear hxy
          go_wp2_with fail
          go_quiet (fail)
          all_goals
            go_wp2_with fail
            go_roundw
            case rel => exact ⟨k + 1, by omega, by go_num, take_eq HT.out HXK.out (by rw [HXY.out]; exact HYK.out), _, rfl⟩
            case measure => simp [intOf]; omega
        · have hb : (x != y) = true := by simp [hxy]
          have HXY := Lib.hid hxy
          clear hxy
          go_wp2_with fail
          go_quiet (fail)
          all_goals
            go_wp2
            go_ret
            exact ⟨by rw [beq_eq_false_iff_ne.2 (take_ne HXK.out HYK.out HXY.out)]; rfl, _, World.drewN_drewN _ _ _⟩
      · obtain rfl : k = xs.length := by omega
        have he : (xs == ys) = true := by
          rw [List.take_length, List.take_of_length_le (by have := HLL.out; omega)] at ht
          rw [ht]; simp
        have HE := Lib.hid he
        clear he
        go_wp2
        go_ret
        exact ⟨by rw [HE.out]; rfl, n, rfl⟩
  · have hne : ((xs.length : Int) != (ys.length : Int)) = true := by simp; omega
    have he : (xs == ys) = false := beq_eq_false_iff_ne.2 fun e => hll (by rw [e])
    have HE := Lib.hid he
    clear hll he hx hy
    go_enter Tryz.func13, Tryz.ntmps13
    go_wp2
    go_ret
    exact ⟨by rw [HE.out]; rfl, 0, rfl⟩
end Go.Proofs.YtgchepkcjkhmmaaGreatDoor
namespace Go.Proofs.YtgchepkcjkhmmaaGreatDoor
open Go.RowKit
theorem sub_step {outs pf : List (List Int)} {i a : Nat} {x y : List Int} (h : (outs.drop i).Sublist (pf.drop a)) (hx : outs[i]? = some x) (hy : pf[a]? = some y) : (x = y → (outs.drop (i + 1)).Sublist (pf.drop (a + 1))) ∧ (x ≠ y → (outs.drop i).Sublist (pf.drop (a + 1))) := by
  rw [drop_at hx, drop_at hy] at h
  constructor
  · intro e
    subst e
    exact List.cons_sublist_cons.1 h
  · intro e
    rw [drop_at hx]
    cases h with
    | cons _ h => exact h
    | cons_cons _ h => exact absurd rfl e
theorem sub_lt {outs pf : List (List Int)} {i a : Nat} {x : List Int} (h : (outs.drop i).Sublist (pf.drop a)) (hx : outs[i]? = some x) : a < pf.length := by
  have h1 := h.length_le
  rw [drop_at hx] at h1
  simp only [List.length_cons, List.length_drop] at h1
  omega
set_option maxRecDepth 100000 in
theorem fld_code (c a : Int) (w : World) : (Instr.field 37 (.agg #[.int .i64 c, .int .i64 a]) 0).run Tryz.prog w = .ok (.int .i64 c) w := by
  simp [Instr.field, go_sem, asAgg]
def TlR (pf outs : List (List Int)) (iv av : Value) : Prop := ∃ i a : Nat, iv = .int .i64 (i : Nat) ∧ av = .int .i64 (a : Nat) ∧ i ≤ outs.length ∧ a ≤ pf.length ∧ (outs.drop i).Sublist (pf.drop a)
attribute [local irreducible] wpSeq
set_option maxRecDepth 100000 in
set_option maxHeartbeats 16000000 in
theorem rupTrims_any {w : World} {B B2 : Nat} {ea : Nat → Addr} {EB : Nat} {v : Int} {A A2 : Option Addr} {n c n2 c2 : Nat} {cs pf : List (List Int)} (hn : cs.length = n) (hn2 : pf.length = n2) (hes : Errs w ea EB) (hE : EB ≤ w.heap.size) (hwt : Fits cs) (hr : ClsR w B A cs) (hB : B ≤ w.heap.size) (hr2 : ClsR w B2 A2 pf) (hB2 : B2 ≤ w.heap.size) :
    Calls Tryz.prog 4 #[.agg #[.int .i64 v, .slice A n c], .slice A2 n2 c2] w fun e w' => e = .returned (.bool true) ∧ Below w.heap.size w w' := by
  obtain ⟨W1, hW1⟩ : ∃ W1, W1 = w.alloc (.cells #[.int .i64 v, .slice A n c] 24) := ⟨_, rfl⟩
  have hb1 : Below w.heap.size w W1 := by rw [hW1]; exact (Below.refl _ _).alloc (Nat.le_refl _) _
  have k1 : Blk W1 w.heap.size 24 #[.int .i64 v, .slice A n c] := by rw [hW1]; exact Blk.new w _ _
  have C0 := Lib.hid (slv.holds_true (errs_sen (hes.below (hb1.mono hE))).s)
  have HX := Lib.hid (show ∀ w', Below w.heap.size w w' → Errs w' ea EB ∧ EB ≤ w'.heap.size ∧ ClsR w' B A cs ∧ B ≤ w'.heap.size ∧ ClsR w' B2 A2 pf ∧ B2 ≤ w'.heap.size from fun w' hb =>
    ⟨hes.below (hb.mono hE), Nat.le_trans hE hb.size, hr.below (hb.mono hB), Nat.le_trans hB hb.size, hr2.below (hb.mono hB2), Nat.le_trans hB2 hb.size⟩)
  have HW1 := Lib.hid hW1
  have HB1 := Lib.hid hb1
  have HK1 := Lib.hid k1
  have HWT := Lib.hid hwt
  have HN := Lib.hid hn
  have HN2 := Lib.hid hn2
  clear hn hn2 hes hE hwt hr hB hr2 hB2 hW1 hb1 k1
  go_enter Tryz.func4, Tryz.ntmps4
  go_upto_region 1 with fail
  rw [← HW1.out]
  go_wp2_with fail
  refine C0.out.mono ?_
  rintro e w2 ⟨rfl, hb2⟩
  have HB2 := Lib.hid (HB1.out.trans (hb2.mono HB1.out.size))
  have HK2 := Lib.hid (HK1.out.below hb2 HK1.out.lt)
  clear hb2
  have c0 := HK2.out.cell 0
  have c1 := HK2.out.cell 1
  obtain ⟨_, _, r2, z2, _, _⟩ := HX.out w2 HB2.out
  have CS := Lib.hid (slight_any (v := v) (c := c) HN.out HWT.out r2 z2)
  clear r2 z2
  go_wp2_with fail
  refine CS.out.mono ?_
  rintro e w3 ⟨rfl, hb3⟩
  obtain ⟨q, hq⟩ : ∃ q, decide (IntKind.i64.wrap ((wtC cs : Nat) : Int) ≤ 500) = q := ⟨_, rfl⟩
  rw [hq]
  have HQ := Lib.hid hq
  have HB3 := Lib.hid (HB2.out.trans (hb3.mono HB2.out.size))
  have HK3 := Lib.hid (HK2.out.below hb3 HK2.out.lt)
  clear hb3 hq c0 c1
  cases q with
  | false =>
    go_wp2_with fail
    go_ret
    exact ⟨rfl, HB3.out⟩
  | true =>
  have HW5 := Lib.hid (fits_says HWT.out HQ.out)
  have HLS := Lib.hid (show cs.length ≤ 500000 → ∀ x ∈ cs, x.length ≤ 500 from fun h5 x hx => by have := HW5.out h5; have := wtC_mem hx; omega)
  have HN5 := Lib.hid (show cs.length ≤ 500000 → n ≤ 500 from fun h5 => by have := HW5.out h5; have := wtC_len cs; have := HN.out; omega)
  have c0 := HK3.out.cell 0
  have c1 := HK3.out.cell 1
  by_cases h60 : 60 < n2
  · have e1 : decide ((60 : Int) < (n2 : Int)) = true := decide_eq_true (by omega)
    have e2 : decide (60 < n2) = true := decide_eq_true h60
    go_wp2_with fail
    all_goals (go_ret; exact ⟨rfl, HB3.out⟩)
  have e1 : decide ((60 : Int) < (n2 : Int)) = false := decide_eq_false (by omega)
  have e2 : decide (60 < n2) = false := decide_eq_false h60
  have HP60 := Lib.hid h60
  clear h60
  by_cases hv3 : 300 < v ∧ v ≤ 150000
  · have e3 : decide (300 < v) = true := decide_eq_true hv3.1
    have e4 : decide (v ≤ 150000) = true := decide_eq_true hv3.2
    clear hv3
    go_wp2_with fail
    go_ret
    exact ⟨rfl, HB3.out⟩
  have HV3 := Lib.hid hv3
  clear hv3
  obtain ⟨b3, b4, e3, e4, hbb⟩ : ∃ b3 b4 : Bool, decide (300 < v) = b3 ∧ decide (v ≤ 150000) = b4 ∧ (b3 = false ∨ (b3 = true ∧ b4 = false)) := by
    refine ⟨_, _, rfl, rfl, ?_⟩
    have := HV3.out
    by_cases h1 : 300 < v
    · exact .inr ⟨decide_eq_true h1, decide_eq_false (by omega)⟩
    · exact .inl (decide_eq_false h1)
  rcases hbb with rfl | ⟨rfl, rfl⟩
  all_goals
    go_wp2_with fail
    go_loopw [6] (fun iv wx => RbR pf iv ∧ wx = w3) (fun iv _ => pf.length - (intOf iv).toNat)
    case atStart => exact ⟨⟨0, Nat.zero_le _, rfl, fun x hx => by simp at hx⟩, rfl⟩
    case round =>
      obtain ⟨⟨i, hi, ei, hall⟩, ew⟩ := hrel
      subst ei
      subst ew
      clear e3 e4 e1 e2
      by_cases hlt : i < pf.length
      · obtain ⟨x, hx⟩ : ∃ x, pf[i]? = some x := ⟨_, List.getElem?_eq_getElem hlt⟩
        obtain ⟨_, _, _, _, r3, z3⟩ := HX.out wr HB3.out
        obtain ⟨ad, hA, hadb, hc⟩ := r3 (by omega)
        subst hA
        obtain ⟨Ax, cx, hcell, hrx⟩ := hc i x hx
        obtain ⟨m, hm⟩ : ∃ m, x.length = m := ⟨_, rfl⟩
        rw [hm] at hcell
        have hN2 := HN2.out
        have iI : (i : Int) < (n2 : Int) := by omega
        have w1 : IntKind.i64.wrap ((i : Int) + 1) = (i : Int) + 1 := by have := HP60.out; rw [IntKind.wrap_i64]; omega
        have HM := Lib.hid hm
        have HXX := Lib.hid hx
        have HALL := Lib.hid hall
        have HLT := Lib.hid hlt
        clear hadb hc hrx hx hm hall hlt hN2 r3 z3 hi
        by_cases h6 : 60 < m
        · have g1 : decide ((60 : Int) < (m : Int)) = true := decide_eq_true (by omega)
          have g2 : decide (60 < m) = true := decide_eq_true h6
          go_wp2_with fail
          go_ret
          exact ⟨rfl, HB3.out⟩
        · have g1 : decide ((60 : Int) < (m : Int)) = false := decide_eq_false (by omega)
          have g2 : decide (60 < m) = false := decide_eq_false h6
          have H6 := Lib.hid h6
          clear h6
          go_wp2_with fail
          go_roundw
          case rel =>
            refine ⟨⟨i + 1, HLT.out, by go_num, fun y hy => ?_⟩, trivial⟩
            rw [take_atP HXX.out] at hy
            rcases List.mem_append.1 hy with hy | hy
            · exact HALL.out y hy
            · obtain rfl : y = x := by simpa using hy
              have := H6.out
              have := HM.out
              omega
          case measure => have := HLT.out; simp [intOf]; omega
      · obtain rfl : i = pf.length := by omega
        have HL2 := Lib.hid (show ∀ x ∈ pf, x.length ≤ 60 from fun x hx => hall x (by rw [List.take_length]; exact hx))
        have nI : ((pf.length : Nat) : Int) = (n2 : Int) := by rw [HN2.out]
        clear hall hlt hi
        have CF := fun w' (hb : Below w.heap.size w w') => formulaOf_any (w := w') (v := v) (c := c) HN.out (by have := HWT.out.1; have := HN.out; omega) HWT.out.2 (HX.out w' hb).2.2.1 (HX.out w' hb).2.2.2.1
        have CF := Lib.hid (CF wr HB3.out)
        have k30 := HK3.out.cell 0
        have k31 := HK3.out.cell 1
        go_wp2_with fail
        refine CF.out.mono ?_
        rintro e w8 ⟨A8, c8, rfl, hcs8, hb8⟩
        have HB8 := Lib.hid (HB3.out.trans (hb8.mono HB3.out.size))
        have HK8 := Lib.hid (HK3.out.below hb8 HK3.out.lt)
        have HCS8 := Lib.hid hcs8
        clear hb8 hcs8 CF k30 k31 c0 c1
        have CL := Lib.hid (clauses_any (c := c2) HN2.out (by have := HP60.out; omega) (fun x hx => by have := HL2.out x hx; omega) (HX.out w8 HB8.out).2.2.2.2.1 (HX.out w8 HB8.out).2.2.2.2.2)
        go_wp2_with fail
        refine CL.out.mono ?_
        rintro e w9 ⟨A9, c9, rfl, hcs9, hb9⟩
        have HB9 := Lib.hid (HB8.out.trans (hb9.mono HB8.out.size))
        have HK9 := Lib.hid (HK8.out.below hb9 HK8.out.lt)
        have HCS9 := Lib.hid (HCS8.out.chg hb9)
        have CT := Lib.hid (trim_any (v := v) (c := c8) (c2 := c9) (errs_sen (HX.out w9 HB9.out).1) HCS9.out HN.out hcs9 HN2.out (by have := HP60.out; omega) (fun h5 x hx => by have := HLS.out h5 x hx; omega) (fun x hx => by have := HL2.out x hx; omega))
        clear hb9 hcs9 CL
        go_wp2_with fail
        refine CT.out.mono ?_
        rintro e w10 ⟨ov, ev, cd, pl, rfl, hb10, hpi, hev, hout⟩
        have HB10 := Lib.hid (HB9.out.trans (hb10.mono HB9.out.size))
        have HK10 := Lib.hid (HK9.out.below hb10 HK9.out.lt)
        have HPI := Lib.hid hpi
        have HEV := Lib.hid hev
        have HOUT := Lib.hid hout
        clear hb10 hpi hev hout CT
        have CP := Lib.hid (proofFault_any (v := v) (c := c) (c2 := c2) (HX.out w10 HB10.out).2.2.1 HN.out (HX.out w10 HB10.out).2.2.2.1 (HX.out w10 HB10.out).2.2.2.2.1 HN2.out (HX.out w10 HB10.out).2.2.2.2.2 (by have := HP60.out; omega) (fun h5 x hx => by have := HLS.out h5 x hx; omega) (fun x hx => by have := HL2.out x hx; omega))
        have k0 := HK10.out.cell 0
        have k1 := HK10.out.cell 1
        go_wp2_with fail
        refine CP.out.mono ?_
        rintro e w11 ⟨cd2, pl2, rfl, hb11, hpf2⟩
        obtain ⟨hcd, hpl⟩ := pfIs_eq hpf2 HPI.out
        subst hcd hpl
        have HB11 := Lib.hid (HB10.out.trans (hb11.mono HB10.out.size))
        have HK11 := Lib.hid (HK10.out.below hb11 HK10.out.lt)
        have HEV11 := Lib.hid (HEV.out.below hb11)
        have HB1011 := Lib.hid hb11
        clear hb11 hpf2 k0 k1 CP
        go_upto_region 11 with fail
        obtain ⟨W12, hW12⟩ : ∃ W12, W12 = w11.alloc (.cells #[.int .i64 cd2, .int .i64 pl2] 37) := ⟨_, rfl⟩
        have hb12 : Below w11.heap.size w11 W12 := by rw [hW12]; exact (Below.refl _ _).alloc (Nat.le_refl _) _
        have HBF := Lib.hid (show Blk W12 w11.heap.size 37 #[.int .i64 cd2, .int .i64 pl2] by rw [hW12]; exact Blk.new w11 _ _)
        have HB12 := Lib.hid (HB11.out.trans (hb12.mono HB11.out.size))
        have HK12 := Lib.hid (HK11.out.below hb12 HK11.out.lt)
        have HEV12 := Lib.hid (HEV11.out.below hb12)
        have HB1012 := Lib.hid (HB1011.out.trans (hb12.mono HB1011.out.size))
        have HW12 := Lib.hid hW12
        clear hb12 hW12
        rw [← HW12.out]
        have kf0 := HBF.out.cell 0
        have kf1 := HBF.out.cell 1
        have hev := HEV12.out
        rcases hev.nil_iff with ⟨hc0, he0⟩ | ⟨hc0, tt, aa, he0⟩
        · subst hc0
          subst he0
          obtain ⟨outs, A10, c10, q, hov, hcs10, hval, hfq, hsub⟩ := HOUT.out.resolve_left (fun h => h.1 rfl) |>.2
          subst hov
          obtain ⟨no, hno⟩ : ∃ no, outs.length = no := ⟨_, rfl⟩
          have hq2 : q < n2 := by have := firstE_lt hfq; have := HN2.out; omega
          have hno60 : no ≤ q + 1 := by
            have h1 := hsub.length_le
            rw [List.length_take] at h1
            omega
          have hl60 : ∀ x ∈ outs, x.length ≤ 60 := fun x hx => HL2.out x (List.mem_of_mem_take (hsub.mem hx))
          have hcr := (clsr_of_own hcs10).below HB1012.out
          rw [hno]
          have CP := Lib.hid (proofFault_any (v := v) (c := c) (c2 := c10) (HX.out W12 HB12.out).2.2.1 HN.out (HX.out W12 HB12.out).2.2.2.1 hcr hno HB1012.out.size (by have := HP60.out; omega) (fun h5 x hx => by have := HLS.out h5 x hx; omega) (fun x hx => by have := hl60 x hx; omega))
          have k0 := HK12.out.cell 0
          have k1 := HK12.out.cell 1
          have hfld := fld_code 0 (-1)
          have HVAL := Lib.hid hval
          have HFQ := Lib.hid hfq
          have HSUB := Lib.hid hsub
          have HNO := Lib.hid hno
          have HL60 := Lib.hid hl60
          have HCR := Lib.hid hcr
          clear hev hcs10 hval hfq hsub hno hl60 hcr
          go_wp2_with fail
          refine CP.out.mono ?_
          rintro e w13 ⟨cd3, pl3, rfl, hb13, hpf3⟩
          obtain ⟨hcd3, _⟩ := pfIs_eq hpf3 HVAL.out
          subst hcd3
          have HB13 := Lib.hid (HB12.out.trans (hb13.mono HB12.out.size))
          have HCR13 := Lib.hid (HCR.out.below (hb13.mono HB1012.out.size))
          clear hb13 hpf3 k0 k1 kf0 kf1 CP
          go_wp2_with fail
          go_loopw [11, 10] (fun iv av wx => TlR pf outs iv av ∧ ∃ k, wx = w13.drewN k) (fun iv _ _ => outs.length - (intOf iv).toNat)
          case atStart => exact ⟨⟨0, 0, rfl, rfl, Nat.zero_le _, Nat.zero_le _, by rw [List.drop_zero, List.drop_zero]; exact HSUB.out.trans (List.take_sublist _ _)⟩, 0, rfl⟩
          case round =>
            obtain ⟨⟨i, a, e1, e2, hi, ha, hs⟩, kw, hwr⟩ := hrel
            subst e1
            subst e2
            have HS := Lib.hid hs
            have HI := Lib.hid hi
            have HA := Lib.hid ha
            have HWR := Lib.hid hwr
            have hi60 : (i : Int) ≤ 61 := by have := HP60.out; have := HNO.out; omega
            have w4 : IntKind.i64.wrap ((i : Int) + 1) = ((i + 1 : Nat) : Int) := by rw [IntKind.wrap_i64]; omega
            clear hs hi ha hwr
            by_cases hin : i < no
            · have hinI : (i : Int) < (no : Int) := by omega
              obtain ⟨x, hx⟩ : ∃ x, outs[i]? = some x := ⟨_, List.getElem?_eq_getElem (by have := HNO.out; omega)⟩
              have HXO := Lib.hid hx
              clear hx
              go_wp2_with fail
              go_loopw [10] (fun av wx => (∃ a : Nat, av = .int .i64 (a : Nat) ∧ a ≤ pf.length ∧ (outs.drop i).Sublist (pf.drop a)) ∧ ∃ k, wx = w13.drewN k) (fun av _ => pf.length - (intOf av).toNat)
              case atStart => exact ⟨⟨a, rfl, HA.out, HS.out⟩, kw, HWR.out⟩
              case round =>
                clear HS HA HWR
                obtain ⟨⟨b, e1, hb, hs⟩, kx, hwr⟩ := hrel
                subst e1
                have hbl := sub_lt hs HXO.out
                obtain ⟨y, hy⟩ : ∃ y, pf[b]? = some y := ⟨_, List.getElem?_eq_getElem hbl⟩
                have hst := sub_step hs HXO.out hy
                have hrw : ClsR wr B2 A2 pf := by rw [hwr]; exact (HX.out w13 HB13.out).2.2.2.2.1
                have hro : ClsR wr w10.heap.size A10 outs := by rw [hwr]; exact HCR13.out
                obtain ⟨ad1, e3, _, r1⟩ := hrw (by omega)
                obtain ⟨ad2, e4, _, r2⟩ := hro (by have := HNO.out; omega)
                obtain ⟨X1, d1, x1, y1⟩ := r1 b y hy
                obtain ⟨X2, d2, x2, y2⟩ := r2 i x HXO.out
                have hbn : b < n2 := by have := HN2.out; omega
                have hbnI : (b : Int) < (n2 : Int) := by omega
                have hdb : decide ((b : Int) < (n2 : Int)) = true := decide_eq_true hbnI
                have hdb2 : decide (b < n2) = true := decide_eq_true hbn
                obtain ⟨q1, hq1⟩ : ∃ q1, (y == x) = q1 := ⟨_, rfl⟩
                have hly := HL2.out y (List.mem_of_getElem? hy)
                have CS := Lib.hid (show ∀ j, Calls Tryz.prog 13 #[.slice X1 y.length d1, .slice X2 x.length d2] (wr.drewN j) fun e w' => e = .returned (.bool q1) ∧ ∃ m, w' = (wr.drewN j).drewN m from fun j => by
                  have h := sameInts_any (c1 := d1) (c2 := d2) (y1.drewN j) (y2.drewN j) (by omega)
                  rw [hq1] at h
                  exact h)
                have HQ1 := Lib.hid hq1
                have HST := Lib.hid hst
                have HWR := Lib.hid hwr
                have HBL := Lib.hid hbl
                have HS := Lib.hid hs
                have w3 : IntKind.i64.wrap ((b : Int) + 1) = ((b + 1 : Nat) : Int) := by have := HP60.out; rw [IntKind.wrap_i64]; omega
                subst e3
                subst e4
                clear hbl hy hst hrw hro r1 r2 y1 y2 hq1 hwr hb hs
                go_upto_region 19 with fail
                go_quiet ((go_at_call 13; with_reducible exact quiet_some (CS.out _)))
                rename_i nq
                have HWQ := Lib.hid (show ∃ k, wr.drewN nq = w13.drewN k from ⟨_, by rw [HWR.out]; exact World.drewN_drewN _ _ _⟩)
                cases q1 with
                | true =>
                  have hyx : y = x := eq_of_beq HQ1.out
                  have hne : ((b : Int) == (n2 : Int)) = false := by simp; omega
                  have HN1 := Lib.hid (HST.out.1 hyx.symm)
                  clear hyx
                  go_wp2_with fail
                  go_roundw
                  case rel => exact ⟨⟨i + 1, b + 1, by go_num, by go_num, by have := HNO.out; omega, HBL.out, HN1.out⟩, HWQ.out⟩
                  case measure => have := HNO.out; simp [intOf]; omega
                | false =>
                  have hyx : x ≠ y := fun e => by have h := HQ1.out; rw [e] at h; simp at h
                  have HN1 := Lib.hid (HST.out.2 hyx)
                  clear hyx
                  go_wp2_with fail
                  go_roundw
                  case rel => exact ⟨⟨b + 1, by go_num, HBL.out, HN1.out⟩, HWQ.out⟩
                  case measure => have := HBL.out; simp [intOf]; omega
            · have hin2 : decide ((i : Int) < (no : Int)) = false := decide_eq_false (by omega)
              have hin3 : decide (i < no) = false := decide_eq_false hin
              obtain ⟨hfe, hfl⟩ := HFQ.out
              have hql := firstE_lt HFQ.out
              have HFF := Lib.hid (And.intro hfe hfl)
              have HQL := Lib.hid hql
              clear hfe hfl hql HS HI HA
              go_wp2_with fail
              go_loopw [12] (fun fv wx => (∃ f : Nat, fv = .int .i64 (f : Nat) ∧ f ≤ q) ∧ ∃ k, wx = w13.drewN k) (fun fv _ => q - (intOf fv).toNat)
              case atStart => exact ⟨⟨0, rfl, Nat.zero_le _⟩, kw, HWR.out⟩
              case round =>
                clear HWR
                obtain ⟨⟨f, e1, hf⟩, kx, hwr⟩ := hrel
                subst e1
                have HWR := Lib.hid hwr
                have HRW := Lib.hid (show ClsR wr B2 A2 pf by rw [hwr]; exact (HX.out w13 HB13.out).2.2.2.2.1)
                clear hwr
                obtain ⟨y, hy⟩ : ∃ y, pf[f]? = some y := ⟨_, List.getElem?_eq_getElem (by have := HQL.out; omega)⟩
                obtain ⟨ad1, e3, _, r1⟩ := HRW.out (by have := HQL.out; omega)
                obtain ⟨X1, d1, x1, y1⟩ := r1 f y hy
                have hfn : f < n2 := by omega
                have hfnI : (f : Int) < (n2 : Int) := by omega
                obtain ⟨ly, hly⟩ : ∃ ly, y.length = ly := ⟨_, rfl⟩
                rw [hly] at x1
                have HY := Lib.hid (And.intro hy hly)
                subst e3
                clear r1 y1 hy hly
                by_cases h0 : 0 < ly
                · have hfq' : f < q := by
                    rcases Nat.lt_or_ge f q with h | h
                    · exact h
                    · have hfq2 : f = q := by omega
                      have h1 := HY.out.1
                      rw [hfq2, HFF.out.1] at h1
                      injection h1 with h1
                      have h2 := HY.out.2
                      rw [← h1] at h2
                      simp at h2
                      omega
                  have hd : decide ((0 : Int) < (ly : Int)) = true := decide_eq_true (by omega)
                  have hd2 : decide (0 < ly) = true := decide_eq_true h0
                  have w3 : IntKind.i64.wrap ((f : Int) + 1) = ((f + 1 : Nat) : Int) := by have := HP60.out; rw [IntKind.wrap_i64]; omega
                  go_wp2_with fail
                  go_roundw
                  case rel => exact ⟨⟨f + 1, by go_num, hfq'⟩, kx, HWR.out⟩
                  case measure => simp [intOf]; omega
                · have hfq' : f = q := by
                    rcases Nat.lt_or_ge f q with h | h
                    · exfalso
                      have h1 := HFF.out.2 y (by
                        have h3 := HY.out.1
                        exact List.mem_of_getElem? (i := f) (by rw [List.getElem?_take, if_pos h]; exact h3))
                      refine h1 (List.eq_nil_of_length_eq_zero (by rw [HY.out.2]; omega))
                    · omega
                  subst hfq'
                  have hl0 : ly = 0 := by omega
                  subst hl0
                  have w3 : IntKind.i64.wrap ((f : Int) + 1) = ((f + 1 : Nat) : Int) := by have := HP60.out; rw [IntKind.wrap_i64]; omega
                  have hd3 : decide ((no : Int) ≤ ((f + 1 : Nat) : Int)) = true := decide_eq_true (by omega)
                  have hd4 : decide (no ≤ f + 1) = true := decide_eq_true (by omega)
                  have hd5 : decide ((no : Int) ≤ (f : Int) + 1) = true := decide_eq_true (by omega)
                  have HBE := Lib.hid (show Below w.heap.size w wr by rw [HWR.out]; exact below_drewN HB13.out _)
                  go_wp2_with fail
                  go_ret
                  exact ⟨by first | rfl | (show Ending.returned (.bool (decide ((no : Int) ≤ (f : Int) + 1))) = _; rw [hd5]), HBE.out⟩
        · have hov : ov = .slice none 0 0 := by
            rcases HOUT.out with ⟨_, h⟩ | ⟨h, _⟩
            · exact h
            · omega
          subst hov
          have CFA := Lib.hid (faulted_evc (HX.out W12 HB12.out).1 (HX.out W12 HB12.out).2.1 hev)
          subst he0
          clear hev
          go_wp2_with fail
          refine CFA.out.mono ?_
          rintro e w13 ⟨rfl, hb13⟩
          have HB13 := Lib.hid (HB12.out.trans (hb13.mono HB12.out.size))
          clear hb13 kf0 kf1
          go_wp2_with fail
          go_ret
          exact ⟨rfl, HB13.out⟩
end Go.Proofs.YtgchepkcjkhmmaaGreatDoor
namespace Go.Proofs.YtgchepkcjkhmmaaGreatDoor
open Go.ChangeShapes Go.WideShapes Go.ChangeAt Go.RowKit
section
theorem intRow_fits {H : Type} {P : Program} {t q : TypeId} (ht : P.underlying t = some (.slice q)) (hb : P.bytesOf q = 8) (k : IntKind) (A : Option Addr) (L : Nat) (zs : List Int) (hA : A = none → zs.length = 0)
    (hw : ∀ z ∈ DataW.weights P t (Go.Deep.intRow (H := H) k A L zs), z ≤ reachBytes) : (zs.take L).length ≤ 17592186043904 := by
  cases A with
  | none =>
    have := hA rfl
    rw [List.length_take]; omega
  | some a =>
    have h := hw (((lits (H := H) k (zs.take L)).length + (lits (H := H) k (zs.drop L)).length) * P.bytesOf q) (by
      simp only [Go.Deep.intRow, DataW.weights, ht]
      exact List.mem_cons_self)
    rw [hb] at h
    unfold lits reachBytes at h
    simp only [List.length_map] at h
    omega
theorem rows_fit {H : Type} {P : Program} {t q : TypeId} (ht : P.underlying t = some (.slice q)) (hb : P.bytesOf q = 8) (k : IntKind) (A : Nat → Option Addr) (L : Nat → Nat) (Z : Nat → List Int) : ∀ (l : List Nat), (∀ r ∈ l, A r = none → (Z r).length = 0) →
    (∀ z ∈ DataW.weightsAll P t (l.map fun r => Go.Deep.intRow (H := H) k (A r) (L r) (Z r)), z ≤ reachBytes) → ∀ x ∈ l.map (fun r => (Z r).take (L r)), x.length ≤ 17592186043904
  | [], _, _ => fun x hx => by cases hx
  | y :: r, h, hw => fun x hx => by
    simp only [List.map_cons, DataW.weightsAll] at hw
    rw [List.map_cons] at hx
    rcases List.mem_cons.1 hx with e | hx
    · rw [e]
      exact intRow_fits ht hb k (A y) (L y) (Z y) (h y (by simp)) fun z hz => hw z (List.mem_append_left _ hz)
    · exact rows_fit ht hb k A L Z r (fun u hu => h u (List.mem_cons_of_mem _ hu)) (fun z hz => hw z (List.mem_append_right _ hz)) x hx
theorem weights_first {H : Type} {P : Program} {t : TypeId} {ts : List TypeId} {d : DataW H} {ds : List (DataW H)} (h : (DataW.weightsEach P (t :: ts) (d :: ds)).all (· ≤ reachBytes) = true) : ∀ z ∈ DataW.weights P t d, z ≤ reachBytes := fun z hz => by
  have := List.all_eq_true.1 h z (by simp only [DataW.weightsEach]; exact List.mem_append_left _ hz)
  simpa using this
end
set_option maxRecDepth 100000 in
/-- what a reading of rows gives -/
theorem open_cls {H : Type} {enc : TypeId × Value → H} {W : World} {v : Value} {y : DataW H × List MemPlace} {fuel : Nat} {cs0 : List Value} (hcs : cs0 = [v])
    (h : DataW.trod enc Tryz.prog W 0 (fun _ => true) true fuel 22 cs0 = some y) :
    ∃ (A : Option Addr) (n c : Nat) (cs : List (List Int)), v = .slice A n c ∧ cs.length = n ∧ ClsR W W.heap.size A cs ∧ ((∀ z ∈ DataW.weights Tryz.prog 22 y.1, z ≤ reachBytes) → Fits cs) := by
  rcases Go.Deep.open_int_rows Tryz.underlying22 Tryz.underlying28 Tryz.underlying3 (by kernel_rfl) (by kernel_rfl) h with ⟨e1, _⟩ | ⟨a, len, cap, A, L, C, Z, e1, _, hlc, _, hy, hr⟩
  · rw [hcs] at e1
    obtain rfl : v = .slice none 0 0 := by simpa using e1
    exact ⟨none, 0, 0, [], rfl, rfl, fun h => absurd h (by simp), fun _ => ⟨by simp, by simp⟩⟩
  · rw [hcs] at e1
    obtain rfl : v = .slice (some a) len cap := by simpa using e1
    refine ⟨some a, len, cap, (List.range len).map fun r => (Z r).take (L r), rfl, by simp, fun hn => ?_, ?_⟩
    · have hn : 0 < len := by simpa using hn
      refine ⟨a, rfl, ?_, fun i l hl => ?_⟩
      · have := World.block_lt_of_cell? W _ (hr 0 (by omega)).1
        simpa [block_of_add] using this
      · obtain ⟨hi, rfl⟩ : i < len ∧ (Z i).take (L i) = l := by
          rw [List.getElem?_map] at hl
          cases hri : (List.range len)[i]? with
          | none => rw [hri] at hl; cases hl
          | some j =>
            rw [hri] at hl
            obtain ⟨hi, e⟩ := List.getElem?_eq_some_iff.1 hri
            rw [List.getElem_range] at e
            subst e
            exact ⟨by simpa using hi, by simpa using hl⟩
        obtain ⟨k1, k2, k3, k4, _, k6, k7⟩ := hr i (by omega)
        have hlen : ((Z i).take (L i)).length = L i := by rw [List.length_take]; omega
        refine ⟨A i, C i, by rw [hlen]; exact k1, ?_, fun hp => ?_⟩
        · unfold litVals; simp
        · rw [hlen] at hp
          cases hA : A i with
          | none => have := k6 hA; omega
          | some a' =>
            have k8 := (k7 a' hA).2
            refine ⟨a', rfl, ?_, fun j u hu => ?_⟩
            · have := World.block_lt_of_cell? W _ (k8 0 (by omega))
              simpa [block_of_add] using this
            · unfold litVals at hu
              rw [List.getElem?_map] at hu
              cases hz : ((Z i).take (L i))[j]? with
              | none => rw [hz] at hu; cases hu
              | some z =>
                rw [hz] at hu
                obtain rfl : Value.int .i64 z = u := by simpa using hu
                obtain ⟨hj, _⟩ := List.getElem?_eq_some_iff.1 hz
                rw [hlen] at hj
                have hz2 : (Z i)[j]? = some z := by
                  rw [List.getElem?_take] at hz
                  simpa [hj] using hz
                have := k8 j (by omega)
                rw [this, List.getD_eq_getElem?_getD, hz2]; rfl
    · intro hw
      rw [hy] at hw
      simp only [DataW.weights, Tryz.underlying22] at hw
      refine ⟨?_, rows_fit Tryz.underlying28 (by kernel_rfl) .i64 A L Z (List.range len) (fun r hr' hA => by
        have hr'' := List.mem_range.1 hr'
        obtain ⟨_, _, _, k4, _, k6, _⟩ := hr r (by omega)
        rw [k4, k6 hA]) (fun z hz => hw z (List.mem_cons_of_mem _ (List.mem_append_left _ hz)))⟩
      have h1 := hw _ List.mem_cons_self
      rw [show Tryz.prog.bytesOf 28 = 24 from by kernel_rfl] at h1
      simp only [List.length_map, List.length_range] at h1 ⊢
      unfold reachBytes at h1
      omega
set_option maxRecDepth 100000 in
/-- WHAT A READING OF A FORMULA GIVES -/
theorem open_form {H : Type} {enc : TypeId × Value → H} {W : World} {base : Nat} {v : Value} {d : DataW H} {p : List MemPlace}
    (hv : Value.okWide Tryz.prog W .any base 24 v) (h : DataW.Trod enc Tryz.prog W 0 (fun _ => true) true 24 v d p) :
    ∃ (x : Int) (A : Option Addr) (n c : Nat) (cs : List (List Int)), v = .agg #[.int .i64 x, .slice A n c] ∧ cs.length = n ∧ ClsR W W.heap.size A cs ∧ ((∀ z ∈ DataW.weights Tryz.prog 24 d, z ≤ reachBytes) → Fits cs) := by
  obtain ⟨v0, v1, y0, y1, m, rfl, rfl, _, h0, h1⟩ := Joins.open_agg2 Tryz.underlying24 (by kernel_rfl) (by kernel_rfl) hv h
  obtain ⟨x, e0, _, _⟩ := DataW.trod_int Tryz.underlying3 h0
  obtain rfl : v0 = .int .i64 x := by simpa using e0
  obtain ⟨A, n, c, cs, rfl, hn, hr, hb⟩ := open_cls rfl h1
  refine ⟨x, A, n, c, cs, rfl, hn, hr, fun hw => hb fun z hz => hw z ?_⟩
  simp only [DataW.weights, Tryz.underlying24]
  show z ∈ DataW.weightsEach Tryz.prog [3, 22] [_, _]
  simp only [DataW.weightsEach]
  exact List.mem_append_right _ (List.mem_append_left _ hz)
set_option maxRecDepth 100000 in
/-- what a reading of a proof gives -/
theorem open_rows {H : Type} {enc : TypeId × Value → H} {W : World} {base : Nat} {v : Value} {d : DataW H} {p : List MemPlace}
    (hv : Value.okWide Tryz.prog W .any base 22 v) (h : DataW.Trod enc Tryz.prog W 0 (fun _ => true) true 22 v d p) :
    ∃ (A : Option Addr) (n c : Nat) (cs : List (List Int)), v = .slice A n c ∧ cs.length = n ∧ ClsR W W.heap.size A cs := by
  obtain ⟨a0, l0, c0, rfl⟩ := okWide_slice Tryz.underlying22 hv
  obtain ⟨fuel, hf⟩ := h
  obtain ⟨A, n, c, cs, h1, h2, h3, _⟩ := open_cls (v := .slice a0 l0 c0) (by simp [Value.cells]) hf
  exact ⟨A, n, c, cs, h1, h2, h3⟩
end Go.Proofs.YtgchepkcjkhmmaaGreatDoor
namespace Go.Proofs.YtgchepkcjkhmmaaGreatDoor
open Go.ChangeShapes Go.WideShapes Go.ChangeAt Go.RowKit
/-- the handle's cell -/
theorem handle_any {P : Program} {W : World} {l : List (String × DataW Unit)} (h : laidMetH P l W) {u ty size : Nat} {d : DataW Unit} (hd : d = .iface "internal/reflectlite.rtype" (.agg [.ptr (.lit (.string [101, 114, 114, 111, 114]))])) (hm : ("errors.errorType", d) ∈ l)
    (hs : P.types.size = size) (hrt : (P.cutTypes.find? (·.1 == "internal/reflectlite.rtype")).map (·.2) = some u) (hone : ((List.range size).filter fun t => P.rowNamed t [101, 114, 114, 111, 114]) = [ty]) {g : Nat} (hg : P.globalNamed "errors.errorType" = some g) :
    W.cell? ⟨g, 0, none⟩ = some (.iface u (.agg #[typeHandle P ty])) := by
  have hf : d.funcsIn? = none := by rw [hd]; rfl
  have hn : d.handleName? = some [101, 114, 114, 111, 114] := by rw [hd]; rfl
  have h2 := (laidMetH_iff.1 h).2 ("errors.errorType", d) (List.mem_filter.2 ⟨hm, by rw [hn]; rfl⟩)
  simp only [hf] at h2
  obtain ⟨name, u', ty', e1, e2, e3, e4, e5⟩ := h2
  obtain rfl := Option.some.inj (hn.symm.trans e1)
  obtain rfl := Option.some.inj (hrt.symm.trans e2)
  have hm : ty' ∈ (List.range size).filter fun t => P.rowNamed t [101, 114, 114, 111, 114] := List.mem_filter.2 ⟨List.mem_range.2 (by rw [← hs]; exact e3), e4⟩
  rw [hone] at hm
  obtain rfl := List.mem_singleton.1 hm
  simpa using World.var?_cell hg e5 0
/-- the sentinels' texts -/
def errText : Nat → List UInt8
  | 1 => [108, 117, 115, 116, 114, 117, 109, 58, 32, 116, 101, 120, 116]
  | 2 => [108, 117, 115, 116, 114, 117, 109, 58, 32, 98, 111, 117, 110, 100]
  | 3 => [108, 117, 115, 116, 114, 117, 109, 58, 32, 115, 104, 97, 112, 101]
  | 4 => [108, 117, 115, 116, 114, 117, 109, 58, 32, 110, 97, 109, 101]
  | 5 => [108, 117, 115, 116, 114, 117, 109, 58, 32, 116, 121, 112, 101]
  | 6 => [108, 117, 115, 116, 114, 117, 109, 58, 32, 99, 121, 99, 108, 101]
  | 7 => [108, 117, 115, 116, 114, 117, 109, 58, 32, 102, 105, 114, 115, 116]
  | 8 => [108, 117, 115, 116, 114, 117, 109, 58, 32, 112, 114, 111, 111, 102]
  | _ => [108, 117, 115, 116, 114, 117, 109, 58, 32, 110, 111, 110, 101]
theorem errText_ne : ∀ j k : Fin 10, 1 ≤ j.val → 1 ≤ k.val → j ≠ k → errText j.val ≠ errText k.val := by decide +kernel
def errList : List (String × DataW Unit) := [("errors.errorType", Rows.laid_errors_errorType), ("lustrum/api.ErrText", Rows.laid_lustrum_api_ErrText), ("lustrum/api.ErrBound", Rows.laid_lustrum_api_ErrBound), ("lustrum/api.ErrShape", Rows.laid_lustrum_api_ErrShape), ("lustrum/api.ErrName", Rows.laid_lustrum_api_ErrName), ("lustrum/api.ErrType", Rows.laid_lustrum_api_ErrType), ("lustrum/api.ErrCycle", Rows.laid_lustrum_api_ErrCycle), ("lustrum/api.ErrFirst", Rows.laid_lustrum_api_ErrFirst), ("lustrum/api.ErrProof", Rows.laid_lustrum_api_ErrProof), ("lustrum/api.ErrNone", Rows.laid_lustrum_api_ErrNone)]
theorem et_g : Tryz.prog.globalNamed "errors.errorType" = some 9 := by kernel_rfl
theorem et_rt : (Tryz.prog.cutTypes.find? (·.1 == "internal/reflectlite.rtype")).map (·.2) = some 117 := by kernel_rfl
theorem et_one : ((List.range Tryz.prog.types.size).filter fun t => Tryz.prog.rowNamed t [101, 114, 114, 111, 114]) = [31] := by kernel_rfl
theorem et_handle : typeHandle Tryz.prog 31 = .pointer (some ⟨10, 31, none⟩) := by kernel_rfl
theorem api_g : ∀ k, 1 ≤ k → k ≤ 9 → Tryz.prog.globalNamed ("lustrum/api." ++ (["", "ErrText", "ErrBound", "ErrShape", "ErrName", "ErrType", "ErrCycle", "ErrFirst", "ErrProof", "ErrNone"].getD k "")) = some (gvar k) ∧ (Tryz.prog.globals[gvar k]?).map (·.type) = some 31 := by
  intro k h1 h2
  have : k = 1 ∨ k = 2 ∨ k = 3 ∨ k = 4 ∨ k = 5 ∨ k = 6 ∨ k = 7 ∨ k = 8 ∨ k = 9 := by omega
  rcases this with rfl | rfl | rfl | rfl | rfl | rfl | rfl | rfl | rfl <;> exact ⟨by kernel_rfl, by kernel_rfl⟩
theorem api_in : ∀ k, 1 ≤ k → k ≤ 9 → ("lustrum/api." ++ (["", "ErrText", "ErrBound", "ErrShape", "ErrName", "ErrType", "ErrCycle", "ErrFirst", "ErrProof", "ErrNone"].getD k ""), sentD (errText k)) ∈ errList := by
  intro k h1 h2
  have : k = 1 ∨ k = 2 ∨ k = 3 ∨ k = 4 ∨ k = 5 ∨ k = 6 ∨ k = 7 ∨ k = 8 ∨ k = 9 := by omega
  have key : ∀ (i : Nat) (x : String × DataW Unit), errList[i]? = some x → x ∈ errList := fun i x h => List.mem_of_getElem? h
  rcases this with rfl | rfl | rfl | rfl | rfl | rfl | rfl | rfl | rfl
  · exact key 1 _ rfl
  · exact key 2 _ rfl
  · exact key 3 _ rfl
  · exact key 4 _ rfl
  · exact key 5 _ rfl
  · exact key 6 _ rfl
  · exact key 7 _ rfl
  · exact key 8 _ rfl
  · exact key 9 _ rfl
/-- WHAT THE LIST GIVES A WALK. -/
theorem errs_of_laid {W : World} {l : List (String × DataW Unit)} (h : laidMetH Tryz.prog l W) (hsub : ∀ x ∈ errList, x ∈ l) : ∃ ea, Errs W ea W.heap.size := by
  have all : ∀ k : Nat, ∃ a : Addr, 1 ≤ k → k ≤ 9 → W.cell? ⟨gvar k, 0, none⟩ = some (.iface 159 (.pointer (some a))) ∧ (∃ s : ByteArray, W.cell? a = some (.string s) ∧ s.data.toList = errText k) ∧ ∃ c t, W.heap[a.block]? = some (.cells c t (0, 0)) := by
    intro k
    by_cases hk : 1 ≤ k ∧ k ≤ 9
    · obtain ⟨h1, h2⟩ := api_g k hk.1 hk.2
      obtain ⟨a, s, e1, e2, e3, e4⟩ := sent_of_laid h (hsub _ (api_in k hk.1 hk.2)) h1 h2
      exact ⟨a, fun _ _ => ⟨e1, ⟨s, e2, e3⟩, e4⟩⟩
    · exact ⟨⟨0, 0, none⟩, fun h1 h2 => absurd ⟨h1, h2⟩ hk⟩
  obtain ⟨ea, hea⟩ := Classical.axiomOfChoice all
  have hvar : ∀ k, 1 ≤ k → k ≤ 9 → W.cell? ⟨gvar k, 0, none⟩ = some (errV ea k) := fun k h1 h2 => by
    rw [(hea k h1 h2).1]
    match k, h1 with
    | k + 1, _ => rfl
  have het := handle_any h rfl (hsub _ (List.mem_of_getElem? (i := 0) rfl)) rfl et_rt et_one et_g
  rw [et_handle] at het
  refine ⟨ea, hvar, fun k => ?_, fun k h1 h2 => ?_, fun j k j1 j2 k1 k2 hne he => ?_, het, World.block_lt_of_cell? _ _ het⟩
  · by_cases hk : 1 ≤ k ∧ k ≤ 9
    · exact World.block_lt_of_cell? _ _ (hvar k hk.1 hk.2)
    · have e : gvar k = gvar 9 := by
        match k, hk with
        | 0, _ => rfl
        | k + 9, hk =>
          match k, hk with
          | 0, _ => rfl
          | k + 1, _ => rfl
      rw [e]
      exact World.block_lt_of_cell? _ _ (hvar 9 (by decide) (by decide))
  · obtain ⟨_, ⟨s, hc, _⟩, h3⟩ := hea k h1 h2
    exact ⟨World.block_lt_of_cell? _ _ hc, h3⟩
  · obtain ⟨_, ⟨s, hc, hs⟩, _⟩ := hea j j1 j2
    obtain ⟨_, ⟨s', hc', hs'⟩, _⟩ := hea k k1 k2
    rw [he, hc'] at hc
    obtain rfl : s' = s := by simpa using hc
    exact errText_ne ⟨j, by omega⟩ ⟨k, by omega⟩ j1 k1 (by simpa using hne) (hs.symm.trans hs')
end Go.Proofs.YtgchepkcjkhmmaaGreatDoor
namespace Go.Proofs.YtgchepkcjkhmmaaGreatDoor.rupTrims
open Go.ChangeShapes Go.WideShapes Go.ChangeAt Go.RowKit
theorem errs_in {W : World} (hL : laidMetH Tryz.prog Rows.rupTrimsRow.laid W) : ∃ ea, Errs W ea W.heap.size :=
  errs_of_laid hL fun _ hx => hx
set_option maxRecDepth 100000 in
theorem calls (H : Type) (enc : TypeId × Value → H) (W : World) (base : Nat) (args : Array Value) (ds gs : List (DataW H)) (before : List MemPlace)
    (hval : ∀ (j : Nat) t v, Tryz.f4.params[j]? = some t → args[j]? = some v → Value.okWide Tryz.prog W .any base t v)
    (hW : DataW.Whole enc Tryz.prog Tryz.f4.params.toList Rows.rupTrimsSpec.vars false W args.toList ds gs before) (hz : (DataW.weightsEach Tryz.prog (Tryz.f4.params.toList ++ (OpenSpec.ofChange Rows.rupTrimsSpec).bare.plain.varTypes Tryz.prog) (ds ++ gs)).all (· ≤ reachBytes) = true) (hL : laidMetH Tryz.prog Rows.rupTrimsRow.laid W) :
    Calls Tryz.prog 4 args W fun e W' => e = .returned (.bool true) ∧ Below W.heap.size W W' := by
  obtain ⟨p, q, hA0, hV, rfl, hfz, hnd⟩ := hW
  have hA : DataW.TrodAll enc Tryz.prog W 0 (fun _ => true) true Tryz.f4.params.toList args.toList ds p := hA0
  rw [Tryz.params4] at hA hval hz
  obtain ⟨v0, vs0, d0, ds0, p0, q0, hargs, rfl, rfl, h0, r0⟩ := trodAll_cons hA
  obtain ⟨v1, vs1, d1, ds1, p1, q1, rfl, rfl, rfl, h1, r1⟩ := trodAll_cons r0
  obtain ⟨rfl, rfl, rfl⟩ := trodAll_nil r1
  obtain rfl : args = #[v0, v1] := by cases args; simp_all
  obtain ⟨x, A, n, c, cs, rfl, hn, hr, hb⟩ := open_form (hval 0 24 v0 rfl rfl) h0
  obtain ⟨A2, n2, c2, pf, rfl, hn2, hr2⟩ := open_rows (hval 1 22 v1 rfl rfl) h1
  have hbd : Fits cs := hb (weights_first hz)
  obtain ⟨ea, hes⟩ := errs_in hL
  exact rupTrims_any hn hn2 hes (Nat.le_refl _) hbd hr (Nat.le_refl _) hr2 (Nat.le_refl _)
end Go.Proofs.YtgchepkcjkhmmaaGreatDoor.rupTrims
namespace Go.Proofs.YtgchepkcjkhmmaaGreatDoor.rupTrims
open Go.ChangeShapes Go.WideShapes Go.ChangeAt Go.RowKit
set_option maxRecDepth 100000

theorem k1 : Rows.rupTrimsRow.wf (OpenSpec.ofChange Rows.rupTrimsSpec) = true := by kernel_rfl
theorem k4 : (Tryz.f4.params.all (Tryz.prog.readableRec ·)) = true := by kernel_rfl
theorem k5 : namedTie Tryz.prog Rows.rupTrimsRow.named Rows.rupTrimsSpec.vars = true := by kernel_rfl
theorem k10 : (Rows.rupTrimsRow.inPlace == Tryz.prog.inPlace 4) = true := by kernel_rfl
theorem k11 : (Rows.rupTrimsRow.unfollowed == Tryz.prog.unfollowed 4) = true := by kernel_rfl
theorem k12 : (Rows.rupTrimsRow.recurses == Tryz.prog.recurses 4) = true := by kernel_rfl
theorem k13 : (Rows.rupTrimsRow.named == Tryz.prog.varsNamed 4) = true := by kernel_rfl
theorem types : Tryz.f4.params.toList ++ Rows.rupTrimsSpec.plain.varTypes Tryz.prog = Tryz.f4.params.toList := by kernel_rfl
theorem k14 : (Rows.rupTrimsRow.maps == Tryz.f4.params.toList.any (Tryz.prog.mapsRec ·)) = true := by kernel_rfl
theorem k15 : (Rows.rupTrimsRow.ifaces == Tryz.f4.params.toList.any (Tryz.prog.ifacesRec ·)) = true := by kernel_rfl
theorem k16 : (Rows.rupTrimsRow.mapsOut == Tryz.prog.mapsAmong Tryz.f4.resultTypes.toList) = true := by kernel_rfl
theorem k17 : (Rows.rupTrimsRow.loops == Tryz.f4.params.toList.any (Tryz.prog.loopsFrom ·)) = true := by kernel_rfl
theorem k17b : (Rows.rupTrimsRow.wideKeys == (Tryz.f4.params.toList ++ Tryz.f4.resultTypes.toList).any (Tryz.prog.wideKeysFrom ·)) = true := by kernel_rfl
theorem k18 : Rows.rupTrimsSpec.vars.all (Tryz.prog.varReadable ·) = true := by kernel_rfl
theorem k19 : (Tryz.f4.resultTypes.all fun t => Tryz.prog.readableRec t && decide (t < Tryz.prog.types.size)) = true := by kernel_rfl
theorem k20 : (Rows.rupTrimsRow.ifacesOut == Tryz.f4.resultTypes.toList.any (Tryz.prog.ifacesRec ·)) = true := by kernel_rfl
theorem k21 : (Rows.rupTrimsRow.loopsOut == Tryz.f4.resultTypes.toList.any (Tryz.prog.loopsFrom ·)) = true := by kernel_rfl
theorem k25 : (Rows.rupTrimsRow.kinds == (if Rows.rupTrimsRow.domain.isEmpty then [] else Tryz.f4.params.toList.map fun t => match Tryz.prog.underlying t with | some (.int k) => some k | _ => none)) = true := by kernel_rfl
theorem k26 : (Rows.rupTrimsRow.pinned == Rows.rupTrimsRow.pinnedBy) = true := by kernel_rfl
theorem k27 : (Rows.rupTrimsRow.veiled == (Tryz.f4.params.toList ++ Tryz.f4.resultTypes.toList).any (Tryz.prog.veiledRec ·)) = true := by kernel_rfl
theorem k28 : Rows.rupTrimsRow.veiledFits Tryz.prog Tryz.f4.params.toList (Tryz.f4.params.toList ++ Tryz.f4.resultTypes.toList) = true := by kernel_rfl
set_option maxRecDepth 100000 in
theorem closed : joinedFacts Tryz.prog 4 Tryz.f4 Rows.rupTrimsSpec Rows.rupTrimsRow = true :=
  joined_of types k1 laidOut sf.mapsRowed_ k4 k5 rfl sf.stops_ rfl sf.knobs_ k10 k11 k12 k13 k14 k15 k16 k17 k17b k18 k19 k20 k21 sf.plainKeys_ rfl sf.heard_ sf.enters_ sf.lifts_ sf.make_ k25 k26 k27 k28
theorem named_f : Tryz.prog.funcNamed "lustrum/lustrumlaw3.RupTrims" = some 4 := by kernel_rfl
theorem apart_ : Tryz.f4.isInstance Tryz.prog Rows.rupTrimsRow.origin Rows.rupTrimsRow.targs := of_decide_eq_true (by kernel_rfl)
theorem wrapper_ : Tryz.f4.isWrapper Tryz.prog Rows.rupTrimsRow.wrapper Rows.rupTrimsRow.mainSum := by unfold Func.isWrapper; first | (rw [if_pos (by decide +kernel)]; kernel_rfl) | (rw [if_neg (by decide +kernel)]; exact ⟨rfl, rfl⟩)

theorem looks (f : FuncId) (fn : Func) (hf : Tryz.pinned.checked.prog.funcNamed "lustrum/lustrumlaw3.RupTrims" = some f) (hfn : Tryz.pinned.checked.prog.funcs[f]? = some fn) :
    true = Tryz.pinned.checked.prog.looks [] ∧ ∀ (j : Nat) t, fn.params[j]? = some t → Tryz.pinned.checked.prog.wantsStandIn t = false := by
  obtain rfl : f = 4 := Option.some.inj (named_f.symm.trans hf) |>.symm
  obtain rfl : fn = Tryz.f4 := (Option.some.inj (Tryz.func4.symm.trans hfn)).symm
  refine ⟨sf.looks_, fun j t ht => ?_⟩
  have hm : t ∈ Tryz.f4.params.toList := Array.mem_toList_iff.2 (Array.mem_of_getElem? ht)
  have ha : (Tryz.f4.params.toList.all fun t => !Tryz.prog.wantsStandIn t) = true := by kernel_rfl
  have h1 := List.all_eq_true.1 ha t hm
  have h2 : Tryz.prog.wantsStandIn t = false := by simpa using h1
  exact h2
theorem pars : ∀ t ∈ Tryz.f4.params.toList, Tryz.prog.readableRec t = true ∧ t < Tryz.prog.types.size := fun t ht => by
  have ha : (Tryz.f4.params.toList.all fun t => Tryz.prog.readableRec t && decide (t < Tryz.prog.types.size)) = true := by kernel_rfl
  have := List.all_eq_true.1 ha t ht
  simpa using this
set_option maxRecDepth 100000 in
theorem contract (H : Type) (enc : TypeId × Value → H) (W : World) (base : Nat) (args : Array Value) (ds gs : List (DataW H)) (before : List MemPlace)
    (hval : ∀ (j : Nat) t v, Tryz.f4.params[j]? = some t → args[j]? = some v → Value.okWide Tryz.prog W .any base t v)
    (hW : DataW.Whole enc Tryz.prog Tryz.f4.params.toList Rows.rupTrimsSpec.vars false W args.toList ds gs before) (hz : (DataW.weightsEach Tryz.prog (Tryz.f4.params.toList ++ (OpenSpec.ofChange Rows.rupTrimsSpec).bare.plain.varTypes Tryz.prog) (ds ++ gs)).all (· ≤ reachBytes) = true) (hL : laidMetH Tryz.prog Rows.rupTrimsRow.laid W) :
    Calls Tryz.prog 4 args W fun e W' => ∃ v, e = .returned v ∧ Rows.rupTrimsSpec.post enc Tryz.prog Tryz.f4 false true false false W args v W' :=
  (calls H enc W base args ds gs before hval hW hz hL).mono fun e W' h => ⟨.bool true, h.1, post_true laidOut pars rfl rfl Tryz.underlying4 (fun ds hd => by
    match ds, hd with
    | [d1, d2], _ => rfl) hW h.2⟩
noncomputable def wArgs : Array Value := #[.agg #[.int .i64 0, .slice none 0 0], .slice none 0 0]
/-- the world with the handle laid -/
noncomputable def hWorld (os : Os) : World := (World.holding Tryz.prog os ⟨#[], #[], []⟩).setCell ⟨9, 0, none⟩ (.iface 117 (.agg #[.pointer (some ⟨10, 31, none⟩)]))
def plainLaid : List (String × DataW Unit) := Rows.rupTrimsRow.laid.filter fun x => x.2.handleName?.isNone
noncomputable def wWorld (os : Os) : World := (hWorld os).layVars Tryz.prog plainLaid
theorem wWorld_os (os : Os) : (wWorld os).os = os := World.layVars_os _ _ _
theorem met_plain (os : Os) : laidMet Tryz.prog plainLaid (wWorld os) := by
  have e1 : (plainLaid.filter fun x => (plainLaid.map (·.1)).contains x.1) = plainLaid := List.filter_eq_self.2 fun x hx => List.contains_iff_mem.2 (List.mem_map.2 ⟨x, hx, rfl⟩)
  have e2 : (plainLaid.filter fun x => !(plainLaid.map (·.1)).contains x.1) = [] := List.filter_eq_nil_iff.2 fun x hx => by rw [List.contains_iff_mem.2 (List.mem_map.2 ⟨x, hx, rfl⟩)]; simp
  exact laidMet_layVars (w0 := hWorld os) (plainLaid.map (·.1)) [] (by rw [e1]; rfl) (by rw [e1]; kernel_rfl) (by rw [e1]; kernel_rfl) (by rw [e2]; exact LaidIn.none)
theorem met (os : Os) (args : Array Value) : laidMetH Tryz.prog Rows.rupTrimsRow.laid ((wWorld os).forCall (fun _ _ => 0) ⟨#[], args, []⟩).memory :=
  laidMetH_of_parts ((met_plain os).of_heap (by simp [World.memory, World.forCall, Input.heap])) (by kernel_rfl)
theorem reads (os : Os) {H : Type} (enc : TypeId × Value → H) : ∃ places, DataW.whole enc Tryz.prog ((wWorld os).forCall (fun _ _ => 0) ⟨#[], wArgs, []⟩).memory Tryz.f4.params.toList Rows.rupTrimsSpec.vars false wArgs.toList 8 = some ([.agg [.lit (.int .i64 0), .nil], .nil], [], places) :=
  ⟨[], by kernel_rfl⟩
set_option maxRecDepth 100000 in
theorem lifted (os : Os) (started : os.Started) (H : Type) (enc : TypeId × Value → H) (F : Stop.Interp) :
    ReturnsInHanded {} Tryz.checked os 4 .any ((OpenSpec.ofChange Rows.rupTrimsSpec).preRow enc Tryz.prog Tryz.f4 Rows.rupTrimsRow.domain false Rows.rupTrimsRow.laid) (((OpenSpec.ofChange Rows.rupTrimsSpec).at F).post enc Tryz.prog Tryz.f4 false true false false) := by
  obtain ⟨places, hx⟩ := reads os enc
  refine returnsInHanded_of_row (C := Tryz.checked) (s := OpenSpec.ofChange Rows.rupTrimsSpec) own started (by kernel_rfl) Tryz.func4
    (witness_row_atRef (enc := enc) (C := Tryz.checked) false (wWorld os) wArgs (wWorld_os os) (by kernel_rfl) (by kernel_rfl) (by kernel_rfl)
      (OpenSpec.preRow_of_cond 8 hx (by kernel_rfl) (fun k hk => by cases hk) (by kernel_rfl) (met os wArgs))) ?_
  intro W base args ds gs before hval hW _ _ hz hL _ _
  exact contract H enc W base args ds gs before hval hW hz hL
theorem said : Rows.RupTrimsSaid :=
  OpenClaim.holds_of_cond 4 Tryz.f4 rfl rfl rfl rfl rfl rfl rfl ⟨rfl, rfl, rfl, rfl, rfl⟩ rfl rfl rfl rfl rfl named_f Tryz.func4 closed apart_ wrapper_
    (fun os started H enc _ F => by rw [OpenClaim.pre_eq_preRow]; exact lifted os started H enc F)
theorem t1 : Rows.rupTrimsRow.wfByText (OpenSpec.ofChange Rows.rupTrimsSpec) = true := by kernel_rfl
theorem t2 : Tryz.pinned.checked.prog.mainIs = some (Rows.rupTrimsCard.stood.harness.1, Rows.rupTrimsCard.stood.harness.2.toList) := by kernel_rfl
theorem t3 : false = Rows.rupTrimsRow.goesBy Tryz.pinned.checked.prog := by kernel_rfl
/-- THE CARD -/
theorem card : Rows.RupTrimsCardSaid :=
  Claim7.holds_tied_plain_at .later [] _ _ _ _ said (fun _ h => by cases h) t1 (fun _ h => by cases h) rupTrims_row_tie rfl ⟨rfl, rfl⟩ t2 rfl looks t3
end Go.Proofs.YtgchepkcjkhmmaaGreatDoor.rupTrims
namespace Go.Proofs.YtgchepkcjkhmmaaGreatDoor
/-- for every input the law RupTrims answers true -/
theorem rupTrims_holds : Rows.RupTrimsCardSaid := rupTrims.card
end Go.Proofs.YtgchepkcjkhmmaaGreatDoor
