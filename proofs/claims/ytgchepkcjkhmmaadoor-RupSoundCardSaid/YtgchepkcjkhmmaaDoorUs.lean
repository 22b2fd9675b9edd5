/-
  A CHECKER IN MEMORY; walks of (*checker).of, (*checker).set.
-/
import Derived.Test.YtgchepkcjkhmmaaDoorProg
import Derived.Test.YtgchepkcjkhmmaaDoorLp
import Derived.Test.YtgchepkcjkhmmaaDoorRm
import Derived.Test.YtgchepkcjkhmmaaDoorUc
import Derived.Deep.DeepCutAuto
namespace Go.Proofs.YtgchepkcjkhmmaaDoor
open Go.RowKit
def i8Vals (l : List Int) : List Value := l.map (Value.int .i8)
def kVals (l : List Nat) : List Value := l.map fun (k : Nat) => .int .i64 (k : Int)
theorem i8_at {l : List Int} {k : Nat} {x : Int} (h : l[k]? = some x) : (i8Vals l)[k]? = some (.int .i8 x) := by unfold i8Vals; simp [h]
theorem lit_at {l : List Int} {k : Nat} {x : Int} (h : l[k]? = some x) : (litVals l)[k]? = some (.int .i64 x) := by unfold litVals; simp [h]
theorem k_at {l : List Nat} {k x : Nat} (h : l[k]? = some x) : (kVals l)[k]? = some (.int .i64 (x : Int)) := by unfold kVals; simp [h]
theorem i8_set (l : List Int) (k : Nat) (x : Int) : (i8Vals l).set k (.int .i8 x) = i8Vals (l.set k x) := by unfold i8Vals; rw [List.map_set]
theorem lit_set (l : List Int) (k : Nat) (x : Int) : (litVals l).set k (.int .i64 x) = litVals (l.set k x) := by unfold litVals; rw [List.map_set]
theorem litVals_len (l : List Int) : (litVals l).length = l.length := by unfold litVals; simp
theorem kVals_len (l : List Nat) : (kVals l).length = l.length := by unfold kVals; simp
theorem lit_snoc (l : List Int) (x : Int) : litVals l ++ [.int .i64 x] = litVals (l ++ [x]) := by unfold litVals; simp
theorem k_snoc (l : List Nat) (x : Nat) : kVals l ++ [.int .i64 (x : Int)] = kVals (l ++ [x]) := by unfold kVals; simp
/-- where a checker's parts lie -/
structure Lay where
  vC : Value
  rows : List Value
  bm : Nat
  gv : Nat
  gu : Nat
  vt : Value
  wv : Int → Value
structure Chk (w : World) (tag : Nat → Tag) (p V : Nat) (y : Lay) (xs : List (List Int)) (wt : Int → List Nat) (vs tr us : List Int) (fx dd : Int) : Prop where
  blk : Blk w p 56 #[y.vC, .map (some y.bm), .slice (some ⟨y.gv, 0, none⟩) (V + 1) (V + 1), y.vt, .slice (some ⟨y.gu, 0, none⟩) (V + 1) (V + 1), .int .i64 fx, .int .i64 dd]
  tp : tag p = (1, 0)
  hdr : Row w tag (2, 0) 0 27 y.vC y.rows
  rlen : y.rows.length = xs.length
  cls : ∀ (k : Nat) x u, xs[k]? = some x → y.rows[k]? = some u → Row w tag (3, (k : Int)) 0 3 u (litVals x)
  val : Cel w tag (4, 0) y.gv (i8Vals vs)
  usd : Cel w tag (5, 0) y.gu (litVals us)
  ul : us.length = V + 1
  trl : Row w tag (6, 0) 0 3 y.vt (litVals tr)
  tm : tag y.bm = (7, 0)
  map : RawMap Tryd.prog 3 w y.bm V y.wv
  wts : ∀ n : Int, n.natAbs ≤ V → Row w tag (8, n) 0 3 (y.wv n) (kVals (wt n))
/-- tags of a checker's own -/
abbrev Fr (k : Nat) (t : Tag) : Prop := 1 ≤ t.1 ∧ t.1 ≤ k
/-- blocks of a tag keep it -/
def Rt (tag tag' : Nat → Tag) (t : Tag) : Prop := ∀ g, tag g = t → tag' g = t
section
variable {w w' : World} {tag tag' : Nat → Tag} {p V : Nat} {y : Lay} {xs : List (List Int)} {wt : Int → List Nat} {vs tr us : List Int} {fx dd : Int} {S : Tag → Prop} {t : Tag}
theorem Row.rt {base : Nat} {e : TypeId} {v : Value} {l : List Value} (h : Row w tag t base e v l) (hr : Rt tag tag' t) : Row w tag' t base e v l := ⟨h.own, fun g hg => hr g (h.tg g hg)⟩
theorem Cel.rt {g : Nat} {l : List Value} (h : Cel w tag t g l) (hr : Rt tag tag' t) : Cel w tag' t g l := ⟨hr g h.tg, h.has⟩
/-- its tags may be others -/
theorem Chk.rt (h : Chk w tag p V y xs wt vs tr us fx dd) (hr : ∀ t, Fr 8 t → Rt tag tag' t) : Chk w tag' p V y xs wt vs tr us fx dd where
  blk := h.blk
  tp := hr _ ⟨by decide, by decide⟩ _ h.tp
  hdr := h.hdr.rt (hr _ ⟨by decide, by decide⟩)
  rlen := h.rlen
  cls k x u hx hu := (h.cls k x u hx hu).rt (hr _ ⟨by show 1 ≤ 3; decide, by show 3 ≤ 8; decide⟩)
  val := h.val.rt (hr _ ⟨by decide, by decide⟩)
  usd := h.usd.rt (hr _ ⟨by decide, by decide⟩)
  ul := h.ul
  trl := h.trl.rt (hr _ ⟨by decide, by decide⟩)
  tm := hr _ ⟨by decide, by decide⟩ _ h.tm
  map := h.map
  wts n hn := (h.wts n hn).rt (hr _ ⟨by show 1 ≤ 8; decide, by show 8 ≤ 8; decide⟩)
/-- new blocks' tags -/
theorem Chk.re (h : Chk w tag p V y xs wt vs tr us fx dd) (hr : Re w tag tag') : Chk w tag' p V y xs wt vs tr us fx dd where
  blk := h.blk
  tp := (hr _ h.blk.lt).trans h.tp
  hdr := h.hdr.re hr
  rlen := h.rlen
  cls k x u hx hu := (h.cls k x u hx hu).re hr
  val := h.val.re hr
  usd := h.usd.re hr
  ul := h.ul
  trl := h.trl.re hr
  tm := (hr _ h.map.lt).trans h.tm
  map := h.map
  wts n hn := (h.wts n hn).re hr
theorem Blk.tchg {g : Nat} {e : TypeId} {cs : Array Value} (h : Blk w g e cs) (ht : tag g = t) (hc : Cg tag S w w') (hn : ¬ S t) : Blk w' g e cs := h.chg hc (by show ¬ S (tag g); rw [ht]; exact hn)
/-- other blocks turned -/
theorem Chk.keep (h : Chk w tag p V y xs wt vs tr us fx dd) (hc : Cg tag S w w') (hS : ∀ t, Fr 8 t → ¬ S t) : Chk w' tag p V y xs wt vs tr us fx dd where
  blk := h.blk.tchg h.tp hc (hS _ ⟨by decide, by decide⟩)
  tp := h.tp
  hdr := h.hdr.chg hc (hS _ ⟨by decide, by decide⟩)
  rlen := h.rlen
  cls k x u hx hu := (h.cls k x u hx hu).chg hc (hS _ ⟨by show 1 ≤ 3; decide, by show 3 ≤ 8; decide⟩)
  val := h.val.chg hc (hS _ ⟨by decide, by decide⟩)
  usd := h.usd.chg hc (hS _ ⟨by decide, by decide⟩)
  ul := h.ul
  trl := h.trl.chg hc (hS _ ⟨by decide, by decide⟩)
  tm := h.tm
  map := h.map.chg hc fun o => by show ¬ S (tag y.bm); rw [h.tm]; exact hS _ ⟨by decide, by decide⟩
  wts n hn := (h.wts n hn).chg hc (hS _ ⟨by show 1 ≤ 8; decide, by show 8 ≤ 8; decide⟩)
theorem Chk.new (h : Chk w tag p V y xs wt vs tr us fx dd) (hb : Below w.heap.size w w') : Chk w' tag p V y xs wt vs tr us fx dd := h.keep (S := fun _ => False) (cg_new hb) fun _ _ => id
theorem Chk.drewN (h : Chk w tag p V y xs wt vs tr us fx dd) (n : Nat) : Chk (w.drewN n) tag p V y xs wt vs tr us fx dd := h.new (below_drewN (Below.refl _ _) n)
theorem Chk.drew (h : Chk w tag p V y xs wt vs tr us fx dd) : Chk w.drew tag p V y xs wt vs tr us fx dd := h.drewN 1
theorem Chk.alloc (h : Chk w tag p V y xs wt vs tr us fx dd) (o : Obj) : Chk (w.alloc o) tag p V y xs wt vs tr us fx dd := h.new ((Below.refl _ _).alloc (Nat.le_refl _) o)
/-- a value -/
theorem Chk.setVal (h : Chk w tag p V y xs wt vs tr us fx dd) (i : Nat) (u : Int) : Chk (w.setCell ⟨y.gv, i, none⟩ (.int .i8 u)) tag p V y xs wt (vs.set i u) tr us fx dd := by
  have hc : Cg tag (fun s => s = (4, 0)) w (w.setCell ⟨y.gv, i, none⟩ (.int .i8 u)) := cg_store (by show tag y.gv = _; exact h.val.tg) _
  exact ⟨h.blk.tchg h.tp hc (by decide), h.tp, h.hdr.chg hc (by decide), h.rlen, fun k x u hx hu => (h.cls k x u hx hu).chg hc (by simp), by rw [← i8_set]; exact h.val.set_ i _, h.usd.chg hc (by decide), h.ul, h.trl.chg hc (by decide), h.tm,
    h.map.chg hc fun o => (by show ¬ tag y.bm = _; rw [h.tm]; decide), fun n hn => (h.wts n hn).chg hc (by simp)⟩
/-- by which clause -/
theorem Chk.setUsd (h : Chk w tag p V y xs wt vs tr us fx dd) (i : Nat) (u : Int) : Chk (w.setCell ⟨y.gu, i, none⟩ (.int .i64 u)) tag p V y xs wt vs tr (us.set i u) fx dd := by
  have hc : Cg tag (fun s => s = (5, 0)) w (w.setCell ⟨y.gu, i, none⟩ (.int .i64 u)) := cg_store (by show tag y.gu = _; exact h.usd.tg) _
  exact ⟨h.blk.tchg h.tp hc (by decide), h.tp, h.hdr.chg hc (by decide), h.rlen, fun k x u hx hu => (h.cls k x u hx hu).chg hc (by simp), h.val.chg hc (by decide), by rw [← lit_set]; exact h.usd.set_ i _, by rw [List.length_set]; exact h.ul, h.trl.chg hc (by decide), h.tm,
    h.map.chg hc fun o => (by show ¬ tag y.bm = _; rw [h.tm]; decide), fun n hn => (h.wts n hn).chg hc (by simp)⟩
/-- the trail has grown behind an append, and is stored -/
theorem Chk.trail {A : Option Addr} {n c : Nat} {tr' : List Int} (h : Chk w tag p V y xs wt vs tr us fx dd) (ho : w'.ownsRow 0 3 1 (.slice A n c) n (litVals tr')) (hl : tr'.length = n) (hg : w.grownBy w' y.vt.ownBlock)
    (hloc : (Value.slice A n c).ownBlock = y.vt.ownBlock ∨ (Value.slice A n c).ownBlock = some w.heap.size) :
    ∃ tag', Re w tag tag' ∧ Cg tag (Fr 8) w (w'.setCell ⟨p, 3, none⟩ (.slice A n c)) ∧ Chk (w'.setCell ⟨p, 3, none⟩ (.slice A n c)) tag' p V { y with vt := .slice A n c } xs wt vs tr' us fx dd := by
  obtain ⟨tag', hr, hrow, hc⟩ := h.trl.grown ho (by rw [litVals_len]; exact hl) hg hloc
  have hp' : tag' p = (1, 0) := (hr _ h.blk.lt).trans h.tp
  have hc' := hc.re_ hr
  have h' := h.re hr
  have hk : Cg tag' (fun s => s = (1, 0)) w' (w'.setCell ⟨p, 3, none⟩ (.slice A n c)) := cg_store (by show tag' p = _; exact hp') _
  refine ⟨tag', hr, (hc.mono_ (S' := Fr 8) fun t e => by subst e; exact ⟨by decide, by decide⟩).trans_ (hk.mono_ (S' := Fr 8) fun t e => by subst e; exact ⟨by decide, by decide⟩) hr, ?_⟩
  exact ⟨(h'.blk.tchg h'.tp hc' (by decide)).set_ 3 _, hp', (h'.hdr.chg hc' (by decide)).chg hk (by decide), h.rlen, fun k x u hx hu => ((h'.cls k x u hx hu).chg hc' (by simp)).chg hk (by simp), (h'.val.chg hc' (by decide)).chg hk (by decide),
    (h'.usd.chg hc' (by decide)).chg hk (by decide), h.ul, hrow.chg hk (by decide), h'.tm, (h'.map.chg hc' fun o => (by show ¬ tag' y.bm = _; rw [h'.tm]; decide)).chg hk fun o => (by show ¬ tag' y.bm = _; rw [h'.tm]; decide),
    fun n hn => ((h'.wts n hn).chg hc' (by simp)).chg hk (by simp)⟩
/-! ### of -/
theorem lv_cases (n : Int) (vs : List Int) : lv (va vs) n = if n < 0 then -(vs.getD n.natAbs 0) else vs.getD n.natAbs 0 := by unfold lv va; rfl
set_option maxRecDepth 100000 in
theorem of_raw {w : World} {p V g : Nat} {n x : Int} (c2 : w.cell? ⟨p, 2, none⟩ = some (.slice (some ⟨g, 0, none⟩) (V + 1) (V + 1))) (cv : w.cell? ⟨g, n.natAbs, none⟩ = some (.int .i8 x)) (hx : x = -1 ∨ x = 0 ∨ x = 1) (hn : n.natAbs ≤ V) (hV : V ≤ 1000000) :
    Calls Tryd.prog 36 #[.pointer (some ⟨p, 0, none⟩), .int .i64 n] w fun e w' => e = .returned (.int .i8 (if n < 0 then -x else x)) ∧ w = w' := by
  by_cases h : n < 0
  · rw [if_pos h]
    obtain ⟨k, hk⟩ : ∃ k : Nat, n = -(k : Int) := ⟨n.natAbs, by omega⟩
    subst hk
    rw [show (-(k : Int)).natAbs = k by omega] at cv hn
    have w1 : IntKind.i64.wrap (- -(k : Int)) = (k : Int) := by rw [IntKind.wrap_i64]; omega
    have w2 : IntKind.i8.wrap (-x) = -x := by rcases hx with e | e | e <;> subst e <;> rfl
    have hk0 : (0 : Int) < (k : Int) := by omega
    have hkV : (k : Int) < (V : Int) + 1 := by omega
    go_enter Tryd.func36, Tryd.ntmps36
    go_wp2_with fail
    go_ret
    exact ⟨rfl, rfl⟩
  · rw [if_neg h]
    obtain ⟨k, hk⟩ : ∃ k : Nat, n = (k : Int) := ⟨n.natAbs, by omega⟩
    subst hk
    rw [show ((k : Int)).natAbs = k by omega] at cv hn
    have hkV : (k : Int) < (V : Int) + 1 := by omega
    go_enter Tryd.func36, Tryd.ntmps36
    go_wp2_with fail
    go_ret
    exact ⟨rfl, rfl⟩
theorem of_any (h : Chk w tag p V y xs wt vs tr us fx dd) (hl : vs.length = V + 1) (hok : ∀ x ∈ vs, x = -1 ∨ x = 0 ∨ x = 1) {n : Int} (hn : n.natAbs ≤ V) (hV : V ≤ 1000000) :
    Calls Tryd.prog 36 #[.pointer (some ⟨p, 0, none⟩), .int .i64 n] w fun e w' => e = .returned (.int .i8 (lv (va vs) n)) ∧ w = w' := by
  obtain ⟨x, hx⟩ : ∃ x, vs[n.natAbs]? = some x := ⟨_, List.getElem?_eq_getElem (by omega)⟩
  have := of_raw (n := n) (h.blk.cell 2) (h.val.cell (i8_at hx)) (hok x (List.mem_of_getElem? hx)) hn hV
  rw [lv_cases, show vs.getD n.natAbs 0 = x by rw [List.getD_eq_getElem?_getD, hx]; rfl]
  exact this
/-! ### set -/
theorem info_int : (Tryd.prog.info? 3).map (fun i => (i.zero, i.size, i.bytes)) = some (some (.int .i64 0), 1, 8) := by kernel_rfl
def StP (w : World) (tag : Nat → Tag) (p V : Nat) (y : Lay) (xs : List (List Int)) (wt : Int → List Nat) (vs tr us : List Int) (fx dd : Int) (e : Ending) (w' : World) : Prop :=
  e = .returned (.tuple #[]) ∧ ∃ tag' vt, Re w tag tag' ∧ Cg tag (Fr 8) w w' ∧ Chk w' tag' p V { y with vt := vt } xs wt vs tr us fx dd
set_option maxRecDepth 100000 in
set_option maxHeartbeats 1000000 in
theorem set_any (h : Chk w tag p V y xs wt vs tr us fx dd) (hl : vs.length = V + 1) (ht : tr.length ≤ V) {n by_ : Int} (hn : Lit V n) (hV : V ≤ 500000) :
    Calls Tryd.prog 37 #[.pointer (some ⟨p, 0, none⟩), .int .i64 n, .int .i64 by_] w (StP w tag p V y xs wt (vs.set n.natAbs (sg n)) (tr ++ [n]) (us.set n.natAbs by_) fx dd) := by
  obtain ⟨i0, hi, hz0, hz1, hz2⟩ := info_parts info_int
  have HI := Lib.hid (And.intro hi (And.intro hz0 (And.intro hz1 hz2)))
  clear hi hz0 hz1 hz2
  obtain ⟨hn0, hn1⟩ := hn
  obtain ⟨k, hk⟩ : ∃ k, n.natAbs = k := ⟨_, rfl⟩
  rw [hk] at hn1 ⊢
  obtain ⟨vC, rows, bm, gv, gu, vt, wv⟩ := y
  obtain ⟨A, c, hvt⟩ := h.trl.form
  rw [litVals_len] at hvt
  dsimp only at hvt
  subst hvt
  have hpv : p ≠ gv := fun e => by have h1 := h.tp; have h2 := h.val.tg; dsimp only at h2; rw [e, h2] at h1; cases h1
  have hpu : p ≠ gu := fun e => by have h1 := h.tp; have h2 := h.usd.tg; dsimp only at h2; rw [e, h2] at h1; cases h1
  have huv : gu ≠ gv := fun e => by have h1 := h.val.tg; have h2 := h.usd.tg; dsimp only at h1 h2; rw [e, h1] at h2; cases h2
  have sv : ∀ (w' : World) (u : Int), Cg tag (Fr 8) w' (w'.setCell ⟨gv, k, none⟩ (.int .i8 u)) := fun w' u => cg_store (by show Fr 8 (tag gv); rw [show tag gv = _ from h.val.tg]; exact ⟨by decide, by decide⟩) _
  have su : ∀ (w' : World) (u : Int), Cg tag (Fr 8) w' (w'.setCell ⟨gu, k, none⟩ (.int .i64 u)) := fun w' u => cg_store (by show Fr 8 (tag gu); rw [show tag gu = _ from h.usd.tg]; exact ⟨by decide, by decide⟩) _
  obtain ⟨x, hx⟩ : ∃ x, vs[k]? = some x := ⟨_, List.getElem?_eq_getElem (by rw [hl]; omega)⟩
  obtain ⟨u, hu⟩ : ∃ u, us[k]? = some u := ⟨_, List.getElem?_eq_getElem (by rw [h.ul]; omega)⟩
  have cv : w.cell? ⟨gv, k, none⟩ = some (.int .i8 x) := h.val.cell (i8_at hx)
  have fv : w.frozen? ⟨gv, k, none⟩ = false := h.val.frozen k
  have cu : w.cell? ⟨gu, k, none⟩ = some (.int .i64 u) := h.usd.cell (lit_at hu)
  have fu : w.frozen? ⟨gu, k, none⟩ = false := h.usd.frozen k
  have c2 : w.cell? ⟨p, 2, none⟩ = some (.slice (some ⟨gv, 0, none⟩) (V + 1) (V + 1)) := h.blk.cell 2
  have c4 : w.cell? ⟨p, 4, none⟩ = some (.slice (some ⟨gu, 0, none⟩) (V + 1) (V + 1)) := h.blk.cell 4
  have hkV : (k : Int) < (V : Int) + 1 := by omega
  have hk1 : 1 ≤ k := by omega
  have HT := Lib.hid ht
  by_cases hneg : n < 0
  · have hnk : n = -(k : Int) := by omega
    subst hnk
    have w1 : IntKind.i64.wrap (- -(k : Int)) = (k : Int) := by rw [IntKind.wrap_i64]; omega
    have HSG := Lib.hid (show sg (-(k : Int)) = -1 from if_pos hneg)
    obtain ⟨W3, hW3⟩ : ∃ W3, W3 = ((w.setCell ⟨gv, k, none⟩ (.int .i8 1)).setCell ⟨gv, k, none⟩ (.int .i8 (-1))).setCell ⟨gu, k, none⟩ (.int .i64 by_) := ⟨_, rfl⟩
    have h3 := ((h.setVal k 1).setVal k (-1)).setUsd k by_
    rw [List.set_set] at h3
    have a3 : Cg tag (Fr 8) w W3 := by rw [hW3]; exact ((sv _ 1).trans (sv _ (-1))).trans (su _ by_)
    rw [← hW3] at h3
    have e3 : W3.cell? ⟨p, 3, none⟩ = some (.slice A tr.length c) := h3.blk.cell 3
    have f3 : W3.frozen? ⟨p, 3, none⟩ = false := h3.blk.frozen 3
    have l3 : p < W3.heap.size := h3.blk.lt
    have H3 := Lib.hid h3
    have A3 := Lib.hid a3
    have HW3 := Lib.hid hW3
    clear hW3 h3 a3 h hl ht hx hu sv su hk
    go_enter Tryd.func37, Tryd.ntmps37
    go_upto_region 5 with fail
    rw [← HW3.out]
    clear c2 c4 cv fv cu fu
    go_wp2_with (at_builtin; refine wpList_append_loc _ rfl (.tmp 36) (.tmp 38) _ rfl 0 3 i0 _ 1 8 Tryd.underlying27 HI.out.1 HI.out.2.1 HI.out.2.2.1 HI.out.2.2.2 rfl (by omega) (.slice A tr.length c) tr.length _ rfl (by have := (H3.out.alloc (.cells #[.int .i64 (-(k : Int))] 3)).trl.own; rw [litVals_len] at this; exact this) (W3.heap.size + 1) (some ⟨W3.heap.size, 0, none⟩) 1 1 [.int .i64 (-(k : Int))] rfl (reads_new (by simp) (by simp) rfl) (by intro u hu; rw [List.mem_singleton.1 hu]; rfl) (le_maxLen (by have := HT.out; omega)) (le_bytes (by have := HT.out; omega) (by omega)) (by simp) ?_; intro A6 c6 w6 hown6 hg6 hl6; have hb6 := (H3.out.alloc (.cells #[.int .i64 (-(k : Int))] 3)).blk.grown hg6 (own_blk_ne (H3.out.alloc (.cells #[.int .i64 (-(k : Int))] 3)).trl.own (H3.out.alloc (.cells #[.int .i64 (-(k : Int))] 3)).blk (by decide)).symm; have c63 : w6.cell? ⟨p, 3, none⟩ = some (.slice A tr.length c) := hb6.cell 3; have f63 : w6.frozen? ⟨p, 3, none⟩ = false := hb6.frozen 3; have HOWN6 := Lib.hid hown6; have HG6 := Lib.hid hg6; have HL6 := Lib.hid hl6; clear hown6 hg6 hl6 hb6)
    go_end0
    have hown6 := HOWN6.out
    rw [lit_snoc] at hown6
    obtain ⟨tag', hr, hcg, hchk⟩ := (H3.out.alloc (.cells #[.int .i64 (-(k : Int))] 3)).trail hown6 (by simp) HG6.out HL6.out
    exact ⟨rfl, tag', _, fun g hg => hr g (by have := A3.out.size; simp; omega), (A3.out.trans (cg_new ((Below.refl _ _).alloc (Nat.le_refl _) _))).trans hcg, by rw [HSG.out]; first | exact hchk | (rw [List.set_set] at hchk; exact hchk)⟩
  · have hnk : n = (k : Int) := by omega
    subst hnk
    have w1 : IntKind.i64.wrap (-(k : Int)) = -(k : Int) := by rw [IntKind.wrap_i64]; omega
    have HSG := Lib.hid (show sg (k : Int) = 1 from if_neg hneg)
    obtain ⟨W3, hW3⟩ : ∃ W3, W3 = (w.setCell ⟨gv, k, none⟩ (.int .i8 1)).setCell ⟨gu, k, none⟩ (.int .i64 by_) := ⟨_, rfl⟩
    have h3 := (h.setVal k 1).setUsd k by_
    have a3 : Cg tag (Fr 8) w W3 := by rw [hW3]; exact (sv _ 1).trans (su _ by_)
    rw [← hW3] at h3
    have e3 : W3.cell? ⟨p, 3, none⟩ = some (.slice A tr.length c) := h3.blk.cell 3
    have f3 : W3.frozen? ⟨p, 3, none⟩ = false := h3.blk.frozen 3
    have l3 : p < W3.heap.size := h3.blk.lt
    have H3 := Lib.hid h3
    have A3 := Lib.hid a3
    have HW3 := Lib.hid hW3
    clear hW3 h3 a3 h hl ht hx hu sv su hk
    go_enter Tryd.func37, Tryd.ntmps37
    go_upto_region 5 with fail
    rw [← HW3.out]
    clear c2 c4 cv fv cu fu
    go_wp2_with (at_builtin; refine wpList_append_loc _ rfl (.tmp 36) (.tmp 38) _ rfl 0 3 i0 _ 1 8 Tryd.underlying27 HI.out.1 HI.out.2.1 HI.out.2.2.1 HI.out.2.2.2 rfl (by omega) (.slice A tr.length c) tr.length _ rfl (by have := (H3.out.alloc (.cells #[.int .i64 (k : Int)] 3)).trl.own; rw [litVals_len] at this; exact this) (W3.heap.size + 1) (some ⟨W3.heap.size, 0, none⟩) 1 1 [.int .i64 (k : Int)] rfl (reads_new (by simp) (by simp) rfl) (by intro u hu; rw [List.mem_singleton.1 hu]; rfl) (le_maxLen (by have := HT.out; omega)) (le_bytes (by have := HT.out; omega) (by omega)) (by simp) ?_; intro A6 c6 w6 hown6 hg6 hl6; have hb6 := (H3.out.alloc (.cells #[.int .i64 (k : Int)] 3)).blk.grown hg6 (own_blk_ne (H3.out.alloc (.cells #[.int .i64 (k : Int)] 3)).trl.own (H3.out.alloc (.cells #[.int .i64 (k : Int)] 3)).blk (by decide)).symm; have c63 : w6.cell? ⟨p, 3, none⟩ = some (.slice A tr.length c) := hb6.cell 3; have f63 : w6.frozen? ⟨p, 3, none⟩ = false := hb6.frozen 3; have HOWN6 := Lib.hid hown6; have HG6 := Lib.hid hg6; have HL6 := Lib.hid hl6; clear hown6 hg6 hl6 hb6)
    go_end0
    have hown6 := HOWN6.out
    rw [lit_snoc] at hown6
    obtain ⟨tag', hr, hcg, hchk⟩ := (H3.out.alloc (.cells #[.int .i64 (k : Int)] 3)).trail hown6 (by simp) HG6.out HL6.out
    exact ⟨rfl, tag', _, fun g hg => hr g (by have := A3.out.size; simp; omega), (A3.out.trans (cg_new ((Below.refl _ _).alloc (Nat.le_refl _) _))).trans hcg, by rw [HSG.out]; first | exact hchk | (rw [List.set_set] at hchk; exact hchk)⟩
end
end Go.Proofs.YtgchepkcjkhmmaaDoor
