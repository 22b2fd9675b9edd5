/-
  WALKS of flat.KindOf: of a name; of an operator of two names (a division).
  WALKS of package flow: Right; Apply of a division of two ints.
-/
import Derived.Test.YtmbjhpgemphmmaaDoorFp
import Derived.Test.YtmbjhpgemphmmaaDoorOm
import Derived.BigQuiet
import Derived.Deep.DeepCutAuto
import Derived.Test.YtmbjhpgemphmmaaDoorYn
import Derived.Laws.IdiomStrings
import Derived.Outline
namespace Go.Proofs.YtmbjhpgemphmmaaDoor
open Go.RowKit
def Kinds (w : World) (b : Nat) (D : DataW Unit) : Prop := w.ownsMap Tryd.prog 9 (plainElem Tryd.prog 3) b 10 D
theorem kinds_at {w : World} {b : Nat} {D : DataW Unit} {s : ByteArray} (h : Kinds w b D) (hs : s.size ≤ maxLen) (hD : D.atKey (.string s.data.toList) (.lit (.int .i64 0)) = .lit (.int .i64 2)) :
    (Instr.lookup 99 (.map (some b)) (.string s) false).run Tryd.prog w = .ok (.int .i64 2) w := by
  obtain ⟨c, h1, h2, _⟩ := World.ownsMap.lookup_int h KS Tryd.underlying99 Tryd.underlying3 (zeroInt w) (keyStr hs)
  rw [hD] at h2
  simp only [DataW.lit.injEq, Lit.int.injEq, true_and] at h2
  rw [← h2] at h1
  exact h1
set_option maxRecDepth 100000 in
set_option maxHeartbeats 2000000 in
theorem kname_any {w : World} {b : Nat} {D : DataW Unit} {s : ByteArray} (h : Kinds w b D) (hs : s.size ≤ maxLen) (hD : D.atKey (.string s.data.toList) (.lit (.int .i64 0)) = .lit (.int .i64 2)) :
    Calls Tryd.prog 39 #[.agg #[.string ⟨#[110, 97, 109, 101]⟩, .int .i64 0, .string s, .slice none 0 0], .map (some b)] w fun e w' => e = .returned (.int .i64 2) ∧ Below w.heap.size w w' := by
  obtain ⟨W1, hW1⟩ : ∃ W1, W1 = w.alloc (.cells #[.string ⟨#[110, 97, 109, 101]⟩, .int .i64 0, .string s, .slice none 0 0] 98) := ⟨_, rfl⟩
  have hb1 : Below w.heap.size w W1 := by rw [hW1]; exact (Below.refl _ _).alloc (Nat.le_refl _) _
  have x1 : Blk W1 w.heap.size 98 #[.string ⟨#[110, 97, 109, 101]⟩, .int .i64 0, .string s, .slice none 0 0] := by rw [hW1]; exact Blk.new w _ _
  have hm1 : Kinds W1 b D := by rw [hW1]; exact World.ownsMap.alloc h _
  have hL : ∀ n, (Instr.lookup 99 (.map (some b)) (.string s) false).run Tryd.prog (W1.drewN n) = .ok (.int .i64 2) (W1.drewN n) := fun n => kinds_at (show Kinds (W1.drewN n) b D from hm1) hs hD
  have c0 := x1.cell 0
  have c2 := x1.cell 2
  have c3 := x1.cell 3
  have HW1 := Lib.hid hW1
  have HB1 := Lib.hid hb1
  clear h hs hD hW1 hb1 x1 hm1
  go_enter Tryd.func39, Tryd.ntmps39
  go_upto_region 1 with fail
  rw [← HW1.out]
  go_wp2_with fail
  go_loop [5, 13] (fun lv iv => lv = .slice none 0 0 ∧ iv = .int .i64 0) (fun _ _ => 0)
  case atStart => exact ⟨rfl, rfl⟩
  case round =>
    obtain ⟨rfl, rfl⟩ := hrel
    have hd : decide ((0 : Int) < 0) = false := by decide
    go_wp2_with fail
    go_quiet (fail)
    all_goals
      go_wp2_with fail
      go_ret
      exact ⟨rfl, below_drewN HB1.out _⟩
def exprs : List Value := [.string ⟨#[110, 97, 109, 101]⟩, .int .i64 0, .string ⟨#[97]⟩, .slice none 0 0, .string ⟨#[110, 97, 109, 101]⟩, .int .i64 0, .string ⟨#[98]⟩, .slice none 0 0]
def KtR (w : World) (op : ByteArray) (g c : Nat) (lv iv : Value) (wr : World) : Prop :=
  ∃ k : Nat, k ≤ 2 ∧ iv = .int .i64 k ∧ (∃ A c, lv = .slice A k c) ∧ Below w.heap.size w wr ∧ Blk wr w.heap.size 98 #[.string op, .int .i64 0, .string ⟨#[]⟩, .slice (some ⟨g, 0, none⟩) 2 c] ∧ wr.ownsRow w.heap.size 3 1 lv k (List.replicate k (.int .i64 2))
theorem infoInt9 : (Tryd.prog.info? 3).map (fun i => (i.zero, i.size, i.bytes)) = some (some (.int .i64 0), 1, 8) := by kernel_rfl
set_option maxRecDepth 100000 in
set_option maxHeartbeats 4000000 in
theorem kind_two {w : World} {b g c : Nat} {D : DataW Unit} {op : ByteArray} (hop : op = ⟨#[47]⟩ ∨ op = ⟨#[109, 111, 100]⟩) (h : Kinds w b D) (hDa : D.atKey (.string [97]) (.lit (.int .i64 0)) = .lit (.int .i64 2)) (hDb : D.atKey (.string [98]) (.lit (.int .i64 0)) = .lit (.int .i64 2))
    (hg : g < w.heap.size) (hc : ∀ j u, exprs[j]? = some u → w.cell? ⟨g, j, none⟩ = some u) :
    Calls Tryd.prog 39 #[.agg #[.string op, .int .i64 0, .string ⟨#[]⟩, .slice (some ⟨g, 0, none⟩) 2 c], .map (some b)] w fun e w' => e = .returned (.int .i64 2) ∧ Below w.heap.size w w' := by
  obtain ⟨i0, hi0, hz0, hz1, hz2⟩ := info_parts infoInt9
  have HIN := Lib.hid (show _ ∧ _ ∧ _ ∧ _ from ⟨hi0, hz0, hz1, hz2⟩)
  obtain ⟨W1, hW1⟩ : ∃ W1, W1 = w.alloc (.cells #[.string op, .int .i64 0, .string ⟨#[]⟩, .slice (some ⟨g, 0, none⟩) 2 c] 98) := ⟨_, rfl⟩
  have hb1 : Below w.heap.size w W1 := by rw [hW1]; exact (Below.refl _ _).alloc (Nat.le_refl _) _
  have x1 : Blk W1 w.heap.size 98 #[.string op, .int .i64 0, .string ⟨#[]⟩, .slice (some ⟨g, 0, none⟩) 2 c] := by rw [hW1]; exact Blk.new w _ _
  have x13 := x1.cell 3
  have HM := Lib.hid h
  have HDA := Lib.hid hDa
  have HDB := Lib.hid hDb
  have HG := Lib.hid hg
  have HC := Lib.hid hc
  have HW1 := Lib.hid hW1
  have HB1 := Lib.hid hb1
  have HX1 := Lib.hid x1
  have HOP := Lib.hid hop
  clear h hDa hDb hg hc hop hW1 hb1 x1 hi0 hz0 hz1 hz2
  go_enter Tryd.func39, Tryd.ntmps39
  go_upto_region 1 with fail
  rw [← HW1.out]
  go_wp2_with fail
  go_loopw [5, 13] (fun lv iv wr => KtR w op g c lv iv wr) (fun _ iv _ => 2 - (intOf iv).toNat)
  case atStart => exact ⟨0, by omega, rfl, ⟨none, 0, rfl⟩, HB1.out, HX1.out, World.ownsRow_nil _ _ _ _⟩
  case round =>
    clear x13
    obtain ⟨k, hk, rfl, ⟨At, ct, rfl⟩, hb, hbx, hon⟩ := hrel
    rcases (by omega : k = 0 ∨ k = 1 ∨ k = 2) with rfl | rfl | rfl
    · have c0 := (hb.cell (p := ⟨g, 0, none⟩) HG.out).trans (HC.out 0 _ rfl)
      have c1 := (hb.cell (p := ⟨g, 1, none⟩) HG.out).trans (HC.out 1 _ rfl)
      have c2 := (hb.cell (p := ⟨g, 2, none⟩) HG.out).trans (HC.out 2 _ rfl)
      have c3 := (hb.cell (p := ⟨g, 3, none⟩) HG.out).trans (HC.out 3 _ rfl)
      obtain ⟨W2, hW2⟩ : ∃ W2, W2 = wr.alloc (.cells #[.string ⟨#[110, 97, 109, 101]⟩, .int .i64 0, .string ⟨#[97]⟩, .slice none 0 0] 98) := ⟨_, rfl⟩
      have hb2 : Below w.heap.size w W2 := by rw [hW2]; exact hb.alloc hb.size _
      have hbx2 : Blk W2 w.heap.size 98 #[.string op, .int .i64 0, .string ⟨#[]⟩, .slice (some ⟨g, 0, none⟩) 2 c] := by rw [hW2]; exact hbx.alloc _
      have hon2 : W2.ownsRow w.heap.size 3 1 (.slice At 0 ct) 0 (List.replicate 0 (.int .i64 2)) := by rw [hW2]; exact hon.alloc _
      have CN := Lib.hid (kname_any (s := ⟨#[97]⟩) (HM.out.kept (only_of_below hb2 none) (by simp)) (by decide) HDA.out)
      have HB2 := Lib.hid hb2
      have HBX2 := Lib.hid hbx2
      have HON2 := Lib.hid hon2
      have n2 : Blk W2 wr.heap.size 98 #[.string ⟨#[110, 97, 109, 101]⟩, .int .i64 0, .string ⟨#[97]⟩, .slice none 0 0] := by rw [hW2]; exact Blk.new wr _ _
      have z0 := n2.cell 0
      have z1 := n2.cell 1
      have z2 := n2.cell 2
      have z3 := n2.cell 3
      have HW2 := Lib.hid hW2
      clear hb hbx hon hW2 hb2 hbx2 hon2 n2
      go_upto_region 5 with fail
      rw [← HW2.out]
      go_wp2_with fail
      refine CN.out.mono ?_
      rintro e w3 ⟨rfl, hb3⟩
      have HB3 := Lib.hid (HB2.out.trans (hb3.mono HB2.out.size))
      have HBX3 := Lib.hid (HBX2.out.below hb3 HBX2.out.lt)
      have HON3 := Lib.hid (show w3.ownsRow w.heap.size 3 1 (.slice At 0 ct) 0 (List.replicate 0 (.int .i64 2)) from own_chg (S := fun _ _ => False) HON2.out (Chg.of_new hb3) (fun _ _ _ _ hs => hs))
      have hs3 : w.heap.size ≤ w3.heap.size := HB3.out.size
      clear hb3
      go_wp2_with (at_builtin; refine wpList_append_sl _ rfl (.tmp 22) (.tmp 24) _ rfl w.heap.size 3 i0 _ 1 8 Tryd.underlying37 HIN.out.1 HIN.out.2.1 HIN.out.2.2.1 HIN.out.2.2.2 rfl (by omega) _ 0 _ rfl (HON3.out.alloc _) (w3.heap.size + 1) (some ⟨w3.heap.size, 0, none⟩) 1 1 [.int .i64 2] rfl (reads_new rfl (by omega) rfl) (ints_one (by simp)) (le_maxLen (by omega)) (le_bytes (by omega) (by omega)) (by simp; omega) ?_; intro A5 c5 w5 hown5 hg5)
      have hg6 : (w3.alloc (.cells #[.int .i64 2] 3)).grownBy w5 (Value.slice At 0 ct).ownBlock := hg5
      have HB5 := Lib.hid (own_grown_below HB3.out HON3.out (Nat.le_refl _) hg6)
      have HBX5 := Lib.hid ((HBX3.out.alloc _).grown hg6 (own_blk_ne HON3.out HBX3.out (by decide)).symm)
      have HON5 := Lib.hid hown5
      clear hown5 hg5 hg6
      go_wp2_with fail
      go_roundw
      case rel => exact ⟨0 + 1, by omega, by go_num, ⟨_, _, rfl⟩, HB5.out, HBX5.out, HON5.out⟩
      case measure => simp [intOf]
    · have c0 := (hb.cell (p := ⟨g, 4, none⟩) HG.out).trans (HC.out 4 _ rfl)
      have c1 := (hb.cell (p := ⟨g, 5, none⟩) HG.out).trans (HC.out 5 _ rfl)
      have c2 := (hb.cell (p := ⟨g, 6, none⟩) HG.out).trans (HC.out 6 _ rfl)
      have c3 := (hb.cell (p := ⟨g, 7, none⟩) HG.out).trans (HC.out 7 _ rfl)
      obtain ⟨W2, hW2⟩ : ∃ W2, W2 = wr.alloc (.cells #[.string ⟨#[110, 97, 109, 101]⟩, .int .i64 0, .string ⟨#[98]⟩, .slice none 0 0] 98) := ⟨_, rfl⟩
      have hb2 : Below w.heap.size w W2 := by rw [hW2]; exact hb.alloc hb.size _
      have hbx2 : Blk W2 w.heap.size 98 #[.string op, .int .i64 0, .string ⟨#[]⟩, .slice (some ⟨g, 0, none⟩) 2 c] := by rw [hW2]; exact hbx.alloc _
      have hon2 : W2.ownsRow w.heap.size 3 1 (.slice At 1 ct) 1 (List.replicate 1 (.int .i64 2)) := by rw [hW2]; exact hon.alloc _
      have CN := Lib.hid (kname_any (s := ⟨#[98]⟩) (HM.out.kept (only_of_below hb2 none) (by simp)) (by decide) HDB.out)
      have HB2 := Lib.hid hb2
      have HBX2 := Lib.hid hbx2
      have HON2 := Lib.hid hon2
      have n2 : Blk W2 wr.heap.size 98 #[.string ⟨#[110, 97, 109, 101]⟩, .int .i64 0, .string ⟨#[98]⟩, .slice none 0 0] := by rw [hW2]; exact Blk.new wr _ _
      have z0 := n2.cell 0
      have z1 := n2.cell 1
      have z2 := n2.cell 2
      have z3 := n2.cell 3
      have HW2 := Lib.hid hW2
      clear hb hbx hon hW2 hb2 hbx2 hon2 n2
      go_upto_region 5 with fail
      rw [← HW2.out]
      go_wp2_with fail
      refine CN.out.mono ?_
      rintro e w3 ⟨rfl, hb3⟩
      have HB3 := Lib.hid (HB2.out.trans (hb3.mono HB2.out.size))
      have HBX3 := Lib.hid (HBX2.out.below hb3 HBX2.out.lt)
      have HON3 := Lib.hid (show w3.ownsRow w.heap.size 3 1 (.slice At 1 ct) 1 (List.replicate 1 (.int .i64 2)) from own_chg (S := fun _ _ => False) HON2.out (Chg.of_new hb3) (fun _ _ _ _ hs => hs))
      have hs3 : w.heap.size ≤ w3.heap.size := HB3.out.size
      clear hb3
      go_wp2_with (at_builtin; refine wpList_append_sl _ rfl (.tmp 22) (.tmp 24) _ rfl w.heap.size 3 i0 _ 1 8 Tryd.underlying37 HIN.out.1 HIN.out.2.1 HIN.out.2.2.1 HIN.out.2.2.2 rfl (by omega) _ 1 _ rfl (HON3.out.alloc _) (w3.heap.size + 1) (some ⟨w3.heap.size, 0, none⟩) 1 1 [.int .i64 2] rfl (reads_new rfl (by omega) rfl) (ints_one (by simp)) (le_maxLen (by omega)) (le_bytes (by omega) (by omega)) (by simp; omega) ?_; intro A5 c5 w5 hown5 hg5)
      have hg6 : (w3.alloc (.cells #[.int .i64 2] 3)).grownBy w5 (Value.slice At 1 ct).ownBlock := hg5
      have HB5 := Lib.hid (own_grown_below HB3.out HON3.out (Nat.le_refl _) hg6)
      have HBX5 := Lib.hid ((HBX3.out.alloc _).grown hg6 (own_blk_ne HON3.out HBX3.out (by decide)).symm)
      have HON5 := Lib.hid hown5
      clear hown5 hg5 hg6
      go_wp2_with fail
      go_roundw
      case rel => exact ⟨1 + 1, by omega, by go_num, ⟨_, _, rfl⟩, HB5.out, HBX5.out, HON5.out⟩
      case measure => simp [intOf]
    · obtain ⟨gl, rfl, _, _⟩ := own_some hon (by omega)
      obtain ⟨u0, hu0, l0⟩ := own_cell (k := 0) hon (by omega)
      obtain ⟨u1, hu1, l1⟩ := own_cell (k := 1) hon (by omega)
      obtain rfl : Value.int .i64 2 = u0 := by simpa using hu0
      obtain rfl : Value.int .i64 2 = u1 := by simpa using hu1
      have x0 := hbx.cell 0
      have HB := Lib.hid hb
      clear hb hbx hon hu0 hu1
      have hd : decide ((0 : Int) < 2) = true := by decide
      rcases HOP.out with rfl | rfl
      all_goals
        go_wp2_with fail
        go_quiet (fail)
        all_goals
          go_wp2_with fail
          go_ret
          exact ⟨rfl, below_drewN HB.out _⟩
end Go.Proofs.YtmbjhpgemphmmaaDoor
namespace Go.Proofs.YtmbjhpgemphmmaaDoor
open Go.RowKit
set_option maxHeartbeats 1000000 in
theorem fright_any {n : Int} (h : small8 n) (w : World) : Calls Tryd.prog 38 #[.agg #[.int .i64 2, .int .i64 n], .int .i64 2] w fun e w' => e = .returned (.bool true) ∧ Below w.heap.size w w' := by
  have e0 : decide ((-128 : Int) ≤ n) = true := decide_eq_true h.1
  have e1 : decide (n ≤ 127) = true := decide_eq_true h.2
  have hb := (Below.refl w.heap.size w).alloc (Nat.le_refl _) (.cells #[.int .i64 2, .int .i64 n] 45)
  have HB := Lib.hid hb
  clear h hb
  go_enter Tryd.func38, Tryd.ntmps38
  go_wp2_with fail
  go_ret
  exact ⟨rfl, HB.out⟩
theorem own_map_ne {w : World} {base e size n : Nat} {v : Value} {xs : List Value} {P : Program} {k b m : Nat} {R : Value → Option (DataW Unit × List MemPlace)} {D : DataW Unit} (h : w.ownsRow base e size v n xs) (hm : w.ownsMap P k R b m D) : v.ownBlock ≠ some b := by
  obtain ⟨es, clock, hb, _⟩ := hm
  rcases h.2 with ⟨rfl, _⟩ | ⟨g, cap, cur, rfl, _, hh, _⟩
  · simp [Value.ownBlock]
  · intro he
    have : g = b := by simpa [Value.ownBlock] using he
    subst this
    rw [hb] at hh
    injection hh with hh
    cases hh
theorem conv1 (w : World) (u : UInt8) : (convert 100 9 (.slice (some ⟨w.heap.size, 0, none⟩) 1 1)).run Tryd.prog (w.alloc (.cells #[.int .u8 (u.toNat : Int)] 5)) = .ok (.string ⟨#[u]⟩) (w.alloc (.cells #[.int .u8 (u.toNat : Int)] 5)) :=
  run_convert_bytes_back (P := Tryd.prog) _ 100 9 5 ⟨w.heap.size, 0, none⟩ 1 [u] Tryd.underlying100 Tryd.underlying5 Tryd.underlying9 (fun j hj => by
    obtain rfl : j = 0 := by simpa using hj
    exact (Blk.new w _ _).cell 0)
theorem ownBlock_geF {w : World} {base : Nat} {e : TypeId} {size n : Nat} {v : Value} {xs : List Value} (h : w.ownsRow base e size v n xs) : ∀ g, v.ownBlock = some g → base ≤ g := fun g hg => (h.lt g hg).1
theorem below_grownF {w w' : World} {B : Nat} {r : Option Nat} (hg : w.grownBy w' r) (hB : B ≤ w.heap.size) (hr : ∀ g, r = some g → B ≤ g) : Below B w w' :=
  ⟨hg.os, hg.tape, hg.output, hg.size, fun k hk => hg.block k (by omega) (fun e => by have := hr k e.symm; omega)⟩
theorem own_far4 {w : World} {base e size n g k : Nat} {v : Value} {xs : List Value} (h : w.ownsRow base e size v n xs) (u : Value) (hg : v.ownBlock ≠ some g) : (w.setCell ⟨g, k, none⟩ u).ownsRow base e size v n xs := by
  refine ⟨h.1, ?_⟩
  rcases h.2 with h0 | ⟨g', cap, cur, rfl, hb, hh, rest⟩
  · exact .inl h0
  · refine .inr ⟨g', cap, cur, rfl, hb, ?_, rest⟩
    exact (Below.heap_setCell _ _ _ _ (fun e => hg (by simp [Value.ownBlock]; exact e))).trans hh
def kD : Nat → DataW Unit
  | 0 => .map []
  | 1 => (DataW.map []).put (.string [97]) (.lit (.int .i64 2))
  | _ => ((DataW.map []).put (.string [97]) (.lit (.int .i64 2))).put (.string [98]) (.lit (.int .i64 2))
theorem kD_a : (kD 2).atKey (.string [97]) (.lit (.int .i64 0)) = .lit (.int .i64 2) := by rfl
theorem kD_b : (kD 2).atKey (.string [98]) (.lit (.int .i64 0)) = .lit (.int .i64 2) := by rfl
theorem infoExpr : (Tryd.prog.info? 98).map (fun i => (i.zero, i.size, i.bytes)) = some (some (.agg #[.string ⟨#[]⟩, .int .i64 0, .string ⟨#[]⟩, .slice none 0 0]), 4, 64) := by kernel_rfl
def fvK (b : Int) : Int := if b = 0 then 0 else 2
def dOf (op : ByteArray) (a b : Int) : Int := if op = ⟨#[47]⟩ then a.tdiv b else a.tmod b
def fvN (op : ByteArray) (a b : Int) : Int := if b = 0 then 0 else i8 (dOf op a b)
def FaR (w : World) (op : ByteArray) (eb mb : Nat) (iv : Value) (wr : World) : Prop :=
  ∃ (k : Nat) (A : Option Addr) (c : Nat), k ≤ 2 ∧ iv = .int .i64 k ∧ Below w.heap.size w wr ∧ Blk wr w.heap.size 45 #[.int .i64 0, .int .i64 0] ∧ Blk wr eb 98 #[.string op, .int .i64 0, .string ⟨#[]⟩, .slice A k c] ∧
    wr.ownsRow mb 98 4 (.slice A k c) k (exprs.take (4 * k)) ∧ wr.ownsMap Tryd.prog 9 (plainElem (H := Unit) Tryd.prog 3) mb k (kD k)
set_option maxRecDepth 100000 in
set_option maxHeartbeats 4000000 in
theorem fApply_two {w : World} {LB g : Nat} {a b : Int} {op : ByteArray} (hop : op = ⟨#[47]⟩ ∨ op = ⟨#[109, 111, 100]⟩) (hL : Lvls w LB) (hLB : LB ≤ w.heap.size) (h : Blk w g 45 #[.int .i64 2, .int .i64 a, .int .i64 2, .int .i64 b]) (ha : small8 a) (hb : small8 b) :
    Calls Tryd.prog 15 #[.string op, .slice (some ⟨g, 0, none⟩) 2 2] w fun e w' => e = .returned (.tuple #[.agg #[.int .i64 (fvK b), .int .i64 (fvN op a b)], .bool (b == 0), .nilIface]) ∧ Below w.heap.size w w' := by
  obtain ⟨ie, hi0, hz0, hz1, hz2⟩ := info_parts infoExpr
  have HIE := Lib.hid (show _ ∧ _ ∧ _ ∧ _ from ⟨hi0, hz0, hz1, hz2⟩)
  have HAR := Lib.hid (show arN op = 2 ∧ arB op = true by rcases hop with rfl | rfl <;> exact ⟨by decide +kernel, by decide +kernel⟩)
  have HE := Lib.hid (show (op.toList == [112, 114, 101]) = false ∧ (op.toList == [45, 62]) = false ∧ (op.toList == [102, 98, 121]) = false by rcases hop with rfl | rfl <;> exact ⟨by decide +kernel, by decide +kernel, by decide +kernel⟩)
  obtain ⟨W1, hW1⟩ : ∃ W1, W1 = w.alloc (.cells #[.int .i64 0, .int .i64 0] 45) := ⟨_, rfl⟩
  have hb1 : Below w.heap.size w W1 := by rw [hW1]; exact (Below.refl _ _).alloc (Nat.le_refl _) _
  have x1 : Blk W1 w.heap.size 45 #[.int .i64 0, .int .i64 0] := by rw [hW1]; exact Blk.new w _ _
  have CA := arity_any (hL.below hb1 hLB) op
  unfold ArP at CA
  rw [HAR.out.1, HAR.out.2] at CA
  have CA := Lib.hid CA
  obtain ⟨W2, hW2⟩ : ∃ W2, W2 = W1.alloc (.cells #[.string op, .int .i64 0, .string ⟨#[]⟩, .slice none 0 0] 98) := ⟨_, rfl⟩
  have hb2 : Below w.heap.size w W2 := by rw [hW2]; exact hb1.alloc hb1.size _
  have x2 : Blk W2 w.heap.size 45 #[.int .i64 0, .int .i64 0] := by rw [hW2]; exact x1.alloc _
  have y2 : Blk W2 W1.heap.size 98 #[.string op, .int .i64 0, .string ⟨#[]⟩, .slice none 0 0] := by rw [hW2]; exact Blk.new W1 _ _
  have hmk := run_makeMap_no (P := Tryd.prog) 99 W2
  have HV := Lib.hid h
  have HW1 := Lib.hid hW1
  have HW2 := Lib.hid hW2
  have HB1 := Lib.hid hb1
  have HB2 := Lib.hid hb2
  have HX2 := Lib.hid x2
  have HY2 := Lib.hid y2
  have HA := Lib.hid (And.intro ha hb)
  have HOP := Lib.hid hop
  obtain ⟨e1, e2, e3⟩ := HE.out
  clear h ha hb hop hL hLB hi0 hz0 hz1 hz2 hW1 hW2 hb1 hb2 x1 x2 y2
  go_enter Tryd.func15, Tryd.ntmps15
  go_upto_region 1 with fail
  rw [← HW1.out]
  go_wp2_with fail
  refine CA.out.mono ?_
  rintro e w' ⟨rfl, rfl⟩
  go_upto_region 5 with fail
  rw [← HW2.out]
  obtain ⟨eb, heb⟩ : ∃ eb, W1.heap.size = eb := ⟨_, rfl⟩
  rw [heb] at HY2
  rw [heb]
  have HEB := Lib.hid heb
  clear heb
  go_wp2_with fail
  go_loopw [50] (fun iv wr => FaR w op eb W2.heap.size iv wr) (fun iv _ => 2 - (intOf iv).toNat)
  case atStart => exact ⟨0, none, 0, by omega, rfl, HB2.out.alloc HB2.out.size _, HX2.out.alloc _, HY2.out.alloc _, World.ownsRow_nil _ _ _ _, World.ownsMap_made W2 _ _ _⟩
  case round =>
    clear hmk
    obtain ⟨k, At, ct, hk, rfl, hb, hx, hy, hon, hm⟩ := hrel
    rcases (by omega : k = 0 ∨ k = 1 ∨ k = 2) with rfl | rfl | rfl
    · have kv := HV.out.below hb HV.out.lt
      have c0 := kv.cell 0
      have c1 := kv.cell 1
      obtain ⟨W3, hW3⟩ : ∃ W3, W3 = wr.alloc (.cells #[.int .i64 2, .int .i64 a] 45) := ⟨_, rfl⟩
      have hb3 : Below wr.heap.size wr W3 := by rw [hW3]; exact (Below.refl _ _).alloc (Nat.le_refl _) _
      have z3 : Blk W3 wr.heap.size 45 #[.int .i64 2, .int .i64 a] := by rw [hW3]; exact Blk.new wr _ _
      have z30 := z3.cell 0
      have z31 := z3.cell 1
      have CR := Lib.hid (fright_any HA.out.1 W3)
      have HW3 := Lib.hid hW3
      have HB3 := Lib.hid (hb.trans (hb3.mono hb.size))
      have HZ3 := Lib.hid z3
      have HX3 := Lib.hid (hx.below hb3 hx.lt)
      have HY3 := Lib.hid (hy.below hb3 hy.lt)
      have HON3 := Lib.hid (show W3.ownsRow W2.heap.size 98 4 (.slice At 0 ct) 0 (exprs.take (4 * 0)) from own_chg (S := fun _ _ => False) hon (Chg.of_new hb3) (fun _ _ _ _ hs => hs))
      have HM3 := Lib.hid (show W3.ownsMap Tryd.prog 9 (plainElem (H := Unit) Tryd.prog 3) W2.heap.size 0 (kD 0) from hm.kept (only_of_below hb3 none) (by simp))
      obtain ⟨bx, hbx⟩ : ∃ bx, wr.heap.size = bx := ⟨_, rfl⟩
      rw [hbx] at HZ3 z30 z31
      clear hb hx hy hon hm kv hW3 hb3 z3
      go_upto_region 9 with fail
      rw [← HW3.out]
      clear hbx
      go_wp2_with fail
      refine CR.out.mono ?_
      rintro e w4 ⟨rfl, hb4⟩
      have z4 := HZ3.out.below hb4 HZ3.out.lt
      have z40 := z4.cell 0
      have HB4 := Lib.hid (HB3.out.trans (hb4.mono HB3.out.size))
      have HX4 := Lib.hid (HX3.out.below hb4 HX3.out.lt)
      have HY4 := Lib.hid (HY3.out.below hb4 HY3.out.lt)
      have HZ4 := Lib.hid z4
      have HON4 := Lib.hid (show w4.ownsRow W2.heap.size 98 4 (.slice At 0 ct) 0 (exprs.take (4 * 0)) from own_chg (S := fun _ _ => False) HON3.out (Chg.of_new hb4) (fun _ _ _ _ hs => hs))
      have HM4 := Lib.hid (show w4.ownsMap Tryd.prog 9 (plainElem (H := Unit) Tryd.prog 3) W2.heap.size 0 (kD 0) from HM3.out.kept (only_of_below hb4 none) (by simp))
      clear hb4 z4
      have hcv : (convert 100 9 (.slice (some ⟨w4.heap.size, 0, none⟩) 1 1)).run Tryd.prog (w4.alloc (.cells #[.int .u8 97] 5)) = .ok (.string ⟨#[97]⟩) (w4.alloc (.cells #[.int .u8 97] 5)) := conv1 w4 97
      have hbs4 : W2.heap.size ≤ w4.heap.size := by have := HM4.out.lt; omega
      have z50 : (w4.alloc (.cells #[.int .u8 97] 5)).cell? ⟨bx, 0, none⟩ = some (.int .i64 2) := (HZ4.out.alloc (.cells #[.int .u8 97] 5)).cell 0
      obtain ⟨w6, r6, m6, g6⟩ := (HM4.out.alloc (.cells #[.int .u8 97] 5)).update KS Tryd.underlying99 (by decide) (keyStr (s := ⟨#[97]⟩) (by decide)) (plainElem_int Tryd.underlying3 (a := 2) (by decide))
      have hmx : w.heap.size ≠ W2.heap.size := by have := HX2.out.lt; omega
      have hme : eb ≠ W2.heap.size := by have := HY2.out.lt; omega
      have HB6 := Lib.hid ((HB4.out.alloc HB4.out.size (.cells #[.int .u8 97] 5)).trans (grown_own (by simp; have := HB4.out.size; omega) HB2.out.size g6))
      have HX6 := Lib.hid ((HX4.out.alloc (.cells #[.int .u8 97] 5)).grown g6 (by simpa using hmx))
      have HY6 := Lib.hid ((HY4.out.alloc (.cells #[.int .u8 97] 5)).grown g6 (by simpa using hme))
      have HON6 := Lib.hid ((HON4.out.alloc (.cells #[.int .u8 97] 5)).kept g6 (.inr (own_map_ne HON4.out HM4.out)))
      have HM6 := Lib.hid (show w6.ownsMap Tryd.prog 9 (plainElem (H := Unit) Tryd.prog 3) W2.heap.size (0 + 1) (kD (0 + 1)) from m6)
      have hs6 : W2.heap.size ≤ w6.heap.size := by have := HM6.out.lt; omega
      have y63 := HY6.out.cell 3
      clear m6 g6 hmx
      go_upto_region 13 with fail
      clear hcv z50 z40 r6
      go_wp2_with (at_builtin; refine wpList_append_sl _ rfl (.tmp 72) (.tmp 75) _ rfl W2.heap.size 98 ie _ 4 64 Tryd.underlying96 HIE.out.1 HIE.out.2.1 HIE.out.2.2.1 HIE.out.2.2.2 rfl (by omega) _ 0 _ rfl (HON6.out.alloc _) (w6.heap.size + 1) (some ⟨w6.heap.size, 0, none⟩) 1 1 [.string ⟨#[110, 97, 109, 101]⟩, .int .i64 0, .string ⟨#[97]⟩, .slice none 0 0] rfl (reads_new rfl (by omega) rfl) (by simp [Value.oneCell']) (le_maxLen (by omega)) (le_bytes (by omega) (by omega)) (by simp; omega) ?_; intro A8 c8 w8 hown8 hg8; have hnb : (Value.slice At 0 ct).ownBlock ≠ some eb := (fun e => by have := ownBlock_geF HON6.out eb e; have := HY2.out.lt; omega); have hy8 := (HY6.out.alloc (.cells #[.string ⟨#[110, 97, 109, 101]⟩, .int .i64 0, .string ⟨#[97]⟩, .slice none 0 0] 98)).grown hg8 hnb.symm; have y83 := hy8.cell 3; have f83 := hy8.frozen 3; have HOWN8 := Lib.hid hown8; have HG8 := Lib.hid hg8; have HY8 := Lib.hid hy8; clear hown8 hg8 hy8)
      have hb8 : Below w.heap.size w w8 := (HB6.out.alloc HB6.out.size _).trans (below_grownF HG8.out (by simp; have := HB6.out.size; omega) (fun k hk => by have := ownBlock_geF HON6.out k hk; have := HB2.out.size; omega))
      have hx8 := (HX6.out.alloc _).grown HG8.out (fun e => by have := ownBlock_geF HON6.out _ e.symm; have := HX2.out.lt; omega)
      have hm8 := (HM6.out.alloc _).kept HG8.out (own_map_ne HON6.out HM6.out).symm
      have hlt8 : eb < W2.heap.size := HY2.out.lt
      have HF := Lib.hid (And.intro hb8 (And.intro hx8 hm8))
      clear y83 f83 hb8 hx8 hm8
      go_wp2_with fail
      go_roundw
      case rel =>
        obtain ⟨hb8, hx8, hm8⟩ := HF.out
        refine ⟨0 + 1, A8, c8, by omega, by go_num, hb8.setCell (by show w.heap.size ≤ eb; have := HB1.out.size; have := HEB.out; omega) _, hx8.far (p := ⟨eb, 3, none⟩) (Blk.ne_ hx8 HY8.out (by decide)) _, HY8.out.set_ 3 _, ?_, ?_⟩
        · refine own_far4 (by simpa [exprs] using HOWN8.out) _ (fun e => ?_)
          have := ownBlock_geF HOWN8.out eb e
          omega
        · exact hm8.kept (only_setCell (World.grownBy.refl w8 (some eb)) (.inl rfl) _) (by simp; omega)
      case measure => simp [intOf]
    · have kv := HV.out.below hb HV.out.lt
      have c0 := kv.cell 2
      have c1 := kv.cell 3
      obtain ⟨W3, hW3⟩ : ∃ W3, W3 = wr.alloc (.cells #[.int .i64 2, .int .i64 b] 45) := ⟨_, rfl⟩
      have hb3 : Below wr.heap.size wr W3 := by rw [hW3]; exact (Below.refl _ _).alloc (Nat.le_refl _) _
      have z3 : Blk W3 wr.heap.size 45 #[.int .i64 2, .int .i64 b] := by rw [hW3]; exact Blk.new wr _ _
      have z30 := z3.cell 0
      have z31 := z3.cell 1
      have CR := Lib.hid (fright_any HA.out.2 W3)
      have HW3 := Lib.hid hW3
      have HB3 := Lib.hid (hb.trans (hb3.mono hb.size))
      have HZ3 := Lib.hid z3
      have HX3 := Lib.hid (hx.below hb3 hx.lt)
      have HY3 := Lib.hid (hy.below hb3 hy.lt)
      have HON3 := Lib.hid (show W3.ownsRow W2.heap.size 98 4 (.slice At 1 ct) 1 (exprs.take (4 * 1)) from own_chg (S := fun _ _ => False) hon (Chg.of_new hb3) (fun _ _ _ _ hs => hs))
      have HM3 := Lib.hid (show W3.ownsMap Tryd.prog 9 (plainElem (H := Unit) Tryd.prog 3) W2.heap.size 1 (kD 1) from hm.kept (only_of_below hb3 none) (by simp))
      obtain ⟨bx, hbx⟩ : ∃ bx, wr.heap.size = bx := ⟨_, rfl⟩
      rw [hbx] at HZ3 z30 z31
      clear hb hx hy hon hm kv hW3 hb3 z3
      go_upto_region 9 with fail
      rw [← HW3.out]
      clear hbx
      go_wp2_with fail
      refine CR.out.mono ?_
      rintro e w4 ⟨rfl, hb4⟩
      have z4 := HZ3.out.below hb4 HZ3.out.lt
      have z40 := z4.cell 0
      have HB4 := Lib.hid (HB3.out.trans (hb4.mono HB3.out.size))
      have HX4 := Lib.hid (HX3.out.below hb4 HX3.out.lt)
      have HY4 := Lib.hid (HY3.out.below hb4 HY3.out.lt)
      have HZ4 := Lib.hid z4
      have HON4 := Lib.hid (show w4.ownsRow W2.heap.size 98 4 (.slice At 1 ct) 1 (exprs.take (4 * 1)) from own_chg (S := fun _ _ => False) HON3.out (Chg.of_new hb4) (fun _ _ _ _ hs => hs))
      have HM4 := Lib.hid (show w4.ownsMap Tryd.prog 9 (plainElem (H := Unit) Tryd.prog 3) W2.heap.size 1 (kD 1) from HM3.out.kept (only_of_below hb4 none) (by simp))
      clear hb4 z4
      have hcv : (convert 100 9 (.slice (some ⟨w4.heap.size, 0, none⟩) 1 1)).run Tryd.prog (w4.alloc (.cells #[.int .u8 98] 5)) = .ok (.string ⟨#[98]⟩) (w4.alloc (.cells #[.int .u8 98] 5)) := conv1 w4 98
      have hbs4 : W2.heap.size ≤ w4.heap.size := by have := HM4.out.lt; omega
      have z50 : (w4.alloc (.cells #[.int .u8 98] 5)).cell? ⟨bx, 0, none⟩ = some (.int .i64 2) := (HZ4.out.alloc (.cells #[.int .u8 98] 5)).cell 0
      obtain ⟨w6, r6, m6, g6⟩ := (HM4.out.alloc (.cells #[.int .u8 98] 5)).update KS Tryd.underlying99 (by decide) (keyStr (s := ⟨#[98]⟩) (by decide)) (plainElem_int Tryd.underlying3 (a := 2) (by decide))
      have hmx : w.heap.size ≠ W2.heap.size := by have := HX2.out.lt; omega
      have hme : eb ≠ W2.heap.size := by have := HY2.out.lt; omega
      have HB6 := Lib.hid ((HB4.out.alloc HB4.out.size (.cells #[.int .u8 98] 5)).trans (grown_own (by simp; have := HB4.out.size; omega) HB2.out.size g6))
      have HX6 := Lib.hid ((HX4.out.alloc (.cells #[.int .u8 98] 5)).grown g6 (by simpa using hmx))
      have HY6 := Lib.hid ((HY4.out.alloc (.cells #[.int .u8 98] 5)).grown g6 (by simpa using hme))
      have HON6 := Lib.hid ((HON4.out.alloc (.cells #[.int .u8 98] 5)).kept g6 (.inr (own_map_ne HON4.out HM4.out)))
      have HM6 := Lib.hid (show w6.ownsMap Tryd.prog 9 (plainElem (H := Unit) Tryd.prog 3) W2.heap.size (1 + 1) (kD (1 + 1)) from m6)
      have hs6 : W2.heap.size ≤ w6.heap.size := by have := HM6.out.lt; omega
      have y63 := HY6.out.cell 3
      clear m6 g6 hmx
      go_upto_region 13 with fail
      clear hcv z50 z40 r6
      go_wp2_with (at_builtin; refine wpList_append_sl _ rfl (.tmp 72) (.tmp 75) _ rfl W2.heap.size 98 ie _ 4 64 Tryd.underlying96 HIE.out.1 HIE.out.2.1 HIE.out.2.2.1 HIE.out.2.2.2 rfl (by omega) _ 1 _ rfl (HON6.out.alloc _) (w6.heap.size + 1) (some ⟨w6.heap.size, 0, none⟩) 1 1 [.string ⟨#[110, 97, 109, 101]⟩, .int .i64 0, .string ⟨#[98]⟩, .slice none 0 0] rfl (reads_new rfl (by omega) rfl) (by simp [Value.oneCell']) (le_maxLen (by omega)) (le_bytes (by omega) (by omega)) (by simp; omega) ?_; intro A8 c8 w8 hown8 hg8; have hnb : (Value.slice At 1 ct).ownBlock ≠ some eb := (fun e => by have := ownBlock_geF HON6.out eb e; have := HY2.out.lt; omega); have hy8 := (HY6.out.alloc (.cells #[.string ⟨#[110, 97, 109, 101]⟩, .int .i64 0, .string ⟨#[98]⟩, .slice none 0 0] 98)).grown hg8 hnb.symm; have y83 := hy8.cell 3; have f83 := hy8.frozen 3; have HOWN8 := Lib.hid hown8; have HG8 := Lib.hid hg8; have HY8 := Lib.hid hy8; clear hown8 hg8 hy8)
      have hb8 : Below w.heap.size w w8 := (HB6.out.alloc HB6.out.size _).trans (below_grownF HG8.out (by simp; have := HB6.out.size; omega) (fun k hk => by have := ownBlock_geF HON6.out k hk; have := HB2.out.size; omega))
      have hx8 := (HX6.out.alloc _).grown HG8.out (fun e => by have := ownBlock_geF HON6.out _ e.symm; have := HX2.out.lt; omega)
      have hm8 := (HM6.out.alloc _).kept HG8.out (own_map_ne HON6.out HM6.out).symm
      have hlt8 : eb < W2.heap.size := HY2.out.lt
      have HF := Lib.hid (And.intro hb8 (And.intro hx8 hm8))
      clear y83 f83 hb8 hx8 hm8
      go_wp2_with fail
      go_roundw
      case rel =>
        obtain ⟨hb8, hx8, hm8⟩ := HF.out
        refine ⟨1 + 1, A8, c8, by omega, by go_num, hb8.setCell (by show w.heap.size ≤ eb; have := HB1.out.size; have := HEB.out; omega) _, hx8.far (p := ⟨eb, 3, none⟩) (Blk.ne_ hx8 HY8.out (by decide)) _, HY8.out.set_ 3 _, ?_, ?_⟩
        · refine own_far4 (by simpa [exprs] using HOWN8.out) _ (fun e => ?_)
          have := ownBlock_geF HOWN8.out eb e
          omega
        · exact hm8.kept (only_setCell (World.grownBy.refl w8 (some eb)) (.inl rfl) _) (by simp; omega)
      case measure => simp [intOf]
    · obtain ⟨gx, cap, hv, _, hlt⟩ := hon.form (by omega)
      obtain rfl : At = some ⟨gx, 0, none⟩ := by simp only [Value.slice.injEq] at hv; exact hv.1
      have hxs : exprs.take (4 * 2) = exprs := List.take_of_length_le (by decide)
      rw [hxs] at hon
      have CK := Lib.hid (kind_two (c := ct) HOP.out (hm.mono (show 2 ≤ 10 by omega)) kD_a kD_b hlt (fun j u hu => by
        have h1 := hon.cells (g := gx) rfl j u hu
        have e : (⟨gx, 0, none⟩ : Addr).add j = ⟨gx, j, none⟩ := by unfold Addr.add; split <;> simp_all
        rw [← e]; exact h1))
      have HB := Lib.hid hb
      have HX := Lib.hid hx
      have q0 := hy.cell 0
      have q1 := hy.cell 1
      have q2 := hy.cell 2
      have q3 := hy.cell 3
      clear hb hx hy hon hm hv hxs
      go_wp2_with fail
      refine CK.out.mono ?_
      rintro e w5 ⟨rfl, hb5⟩
      have HB5 := Lib.hid (HB.out.trans (hb5.mono HB.out.size))
      have HX5 := Lib.hid (HX.out.below hb5 HX.out.lt)
      have hv5 := HV.out.below HB5.out HV.out.lt
      obtain ⟨vk, hvk⟩ : ∃ vk : Int, fvK b = vk := ⟨_, rfl⟩
      obtain ⟨vn, hvn⟩ : ∃ vn : Int, fvN op a b = vn := ⟨_, rfl⟩
      obtain ⟨tb, htb⟩ : ∃ tb, (b == 0) = tb := ⟨_, rfl⟩
      have CP := Lib.hid (show Calls Tryd.prog 40 #[.string op, .slice (some ⟨g, 0, none⟩) 2 2] w5 fun e w' => e = .returned (.tuple #[.agg #[.int .i64 vk, .int .i64 vn], .bool tb]) ∧ Below w5.heap.size w5 w' by
        rw [← hvk, ← hvn, ← htb]
        unfold fvK fvN dOf
        rcases HOP.out with rfl | rfl
        · rw [if_pos (rfl : (⟨#[47]⟩ : ByteArray) = ⟨#[47]⟩)]; exact fapply_quo hv5 HA.out.1
        · rw [if_neg (show ¬ (⟨#[109, 111, 100]⟩ : ByteArray) = ⟨#[47]⟩ by decide)]; exact fapply_rest hv5 HA.out.1)
      have HVS := Lib.hid (And.intro hvk (And.intro hvn htb))
      clear hb5 hv5 hvk hvn htb
      go_wp2_with fail
      refine CP.out.mono ?_
      rintro e w6 ⟨rfl, hb6⟩
      have x6 := HX5.out.below hb6 HX5.out.lt
      have HB6 := Lib.hid (HB5.out.trans (hb6.mono HB5.out.size))
      have p0 := x6.cell 0
      have p1 := x6.cell 1
      have f0 := x6.frozen 0
      have f1 := x6.frozen 1
      obtain ⟨W9, hW9⟩ : ∃ W9, W9 = (w6.setCell ⟨w.heap.size, 0, none⟩ (.int .i64 vk)).setCell ⟨w.heap.size, 1, none⟩ (.int .i64 vn) := ⟨_, rfl⟩
      have x9 : Blk W9 w.heap.size 45 #[.int .i64 vk, .int .i64 vn] := by rw [hW9]; exact (x6.set_ 0 _).set_ 1 _
      have hb9 : Below w.heap.size w W9 := by rw [hW9]; exact (HB6.out.setCell (Nat.le_refl _) _).setCell (Nat.le_refl _) _
      obtain ⟨W10, hW10⟩ : ∃ W10, W10 = (W9.setCell ⟨w.heap.size, 0, none⟩ (.int .i64 vk)).setCell ⟨w.heap.size, 1, none⟩ (.int .i64 vn) := ⟨_, rfl⟩
      have x10 : Blk W10 w.heap.size 45 #[.int .i64 vk, .int .i64 vn] := by rw [hW10]; exact (x9.set_ 0 _).set_ 1 _
      have HB10 := Lib.hid (show Below w.heap.size w W10 by rw [hW10]; exact (hb9.setCell (Nat.le_refl _) _).setCell (Nat.le_refl _) _)
      have x90 := x9.cell 0
      have x91 := x9.cell 1
      have g90 := x9.frozen 0
      have g91 := x9.frozen 1
      have z100 := x10.cell 0
      have z101 := x10.cell 1
      have HW9 := Lib.hid hW9
      have HW10 := Lib.hid hW10
      clear hb6 x6 hW9 x9 hb9 hW10 x10
      go_upto_region 18 with fail
      rw [← HW9.out]
      clear p0 p1 f0 f1
      go_wp2_with fail
      rw [← HW10.out]
      exact bodyPost_ret (v := .tuple #[.agg #[.int .i64 vk, .int .i64 vn], .bool tb, .nilIface]) (by simp [results, Tryd.results15, go_sem, z100, z101]) rfl ⟨by rw [HVS.out.1, HVS.out.2.1, HVS.out.2.2], HB10.out⟩
end Go.Proofs.YtmbjhpgemphmmaaDoor
