/-
  A CHECKER IN MEMORY: what each store, append, map's write of (*checker).spread leaves.
-/
import Derived.Test.YtgchepkcjkhmmaaDoorUv
namespace Go.Proofs.YtgchepkcjkhmmaaDoor
open Go.RowKit
section
variable {w w' w1 : World} {tag tag' : Nat → Tag} {p V : Nat} {y : Lay} {xs : List (List Int)} {wt : Int → List Nat} {vs tr us : List Int} {fx dd : Int}
/-- a clause's number -/
theorem Chk.setX {k g m c : Nat} {x : List Int} (h : Chk w tag p V y xs wt vs tr us fx dd) (hx : xs[k]? = some x) (hu : y.rows[k]? = some (.slice (some ⟨g, 0, none⟩) m c)) (hm : x.length = m) (j : Nat) (z : Int) :
    Chk (w.setCell ⟨g, j, none⟩ (.int .i64 z)) tag p V y (xs.set k (x.set j z)) wt vs tr us fx dd := by
  subst hm
  have hr := h.cls k x _ hx hu
  have hr' : Row w tag (3, (k : Int)) 0 3 (.slice (some ⟨g, 0, none⟩) (litVals x).length c) (litVals x) := by rw [litVals_len]; exact hr
  have hc : Cg tag (fun s => s = (3, (k : Int))) w (w.setCell ⟨g, j, none⟩ (.int .i64 z)) := cg_store (by show tag g = _; exact hr.tg g rfl) _
  refine ⟨h.blk.tchg h.tp hc (by simp), h.tp, h.hdr.chg hc (by simp), by rw [List.length_set]; exact h.rlen, fun k' x' u' hx' hu' => ?_, h.val.chg hc (by simp), h.usd.chg hc (by simp), h.ul, h.trl.chg hc (by simp), h.tm,
    h.map.chg hc fun o => (by show ¬ tag y.bm = _; rw [h.tm]; simp), fun n hn => (h.wts n hn).chg hc (by simp)⟩
  rw [List.getElem?_set] at hx'
  by_cases e : k = k'
  · subst e
    rw [if_pos rfl, if_pos (List.getElem?_eq_some_iff.1 hx).1] at hx'
    injection hx' with hx'
    rw [hu] at hu'
    injection hu' with hu'
    subst hx'; subst hu'
    have := hr'.set_ j (.int .i64 z)
    rw [lit_set, litVals_len] at this
    exact this
  · rw [if_neg e] at hx'
    exact (h.cls k' x' u' hx' hu').chg hc (by simp; omega)
abbrev mapT : TypeId := 52
theorem zero_sl (w : World) : (zeroValue 27).run Tryd.prog w = .ok (.slice none 0 0) w := by kernel_rfl
set_option maxRecDepth 100000 in
theorem Chk.look (h : Chk w tag p V y xs wt vs tr us fx dd) (hV : V ≤ 500000) {n : Int} (hn : n.natAbs ≤ V) : (Instr.lookup mapT (.map (some y.bm)) (.int .i64 n) false).run Tryd.prog w = .ok (y.wv n) w :=
  h.map.look Tryd.underlying3 Tryd.underlying52 (zero_sl w) (by omega) hn
theorem codeS_own {w : World} {base : Nat} {e : TypeId} {size n : Nat} {v : Value} {l : List Value} (h : w.ownsRow base e size v n l) : ∃ d, codeS v = some (d, []) := by
  rcases h.2 with ⟨rfl, _⟩ | ⟨g, c, cur, rfl, _⟩
  · exact ⟨_, rfl⟩
  · exact ⟨_, rfl⟩
abbrev updV (f : Int → Value) (n : Int) (v : Value) : Int → Value := fun z => if z = n then v else f z
set_option maxRecDepth 100000 in
/-- a slice that bears the tag of n's row is laid into the map -/
theorem Chk.lay {v : Value} {l : List Nat} (h : Chk w tag p V y xs wt vs tr us fx dd) (hV : V ≤ 500000) {n : Int} (hn : n.natAbs ≤ V) (hr : Row w tag (8, n) 0 3 v (kVals l)) :
    ∃ w2, (Instr.mapUpdate mapT (.map (some y.bm)) (.int .i64 n) v).run Tryd.prog w = .ok () w2 ∧ Cg tag (fun s => s = (7, 0)) w w2 ∧ Chk w2 tag p V { y with wv := updV y.wv n v } xs (upd wt n l) vs tr us fx dd := by
  obtain ⟨d, hd⟩ := codeS_own hr.own
  obtain ⟨w2, hrun, hmap, hg⟩ := h.map.put Tryd.underlying3 Tryd.underlying52 (by omega) hn hd
  have hc : Cg tag (fun s => s = (7, 0)) w w2 := cg_grown hg fun g hg => by injection hg with hg; rw [← hg]; exact h.tm
  refine ⟨w2, hrun, hc, ?_⟩
  refine ⟨h.blk.tchg h.tp hc (by simp), h.tp, h.hdr.chg hc (by simp), h.rlen, fun k' x' u' hx' hu' => (h.cls k' x' u' hx' hu').chg hc (by simp), h.val.chg hc (by simp), h.usd.chg hc (by simp), h.ul, h.trl.chg hc (by simp), h.tm, hmap, fun m hm => ?_⟩
  show Row w2 tag (8, m) 0 3 (if m = n then v else y.wv m) (kVals (if m = n then l else wt m))
  by_cases e : m = n
  · subst e; rw [if_pos rfl, if_pos rfl]; exact hr.chg hc (by simp)
  · rw [if_neg e, if_neg e]; exact (h.wts m hm).chg hc (by simp)
set_option maxRecDepth 100000 in
/-- a watched row has grown, and is laid into the map -/
theorem Chk.push {A : Option Addr} {m c : Nat} {l' : List Nat} (h : Chk w tag p V y xs wt vs tr us fx dd) (hV : V ≤ 500000) {n : Int} (hn : n.natAbs ≤ V) (ho : w1.ownsRow 0 3 1 (.slice A m c) m (kVals l')) (hl : l'.length = m)
    (hg : w.grownBy w1 (y.wv n).ownBlock) (hloc : (Value.slice A m c).ownBlock = (y.wv n).ownBlock ∨ (Value.slice A m c).ownBlock = some w.heap.size) :
    ∃ w2 tag', (Instr.mapUpdate mapT (.map (some y.bm)) (.int .i64 n) (.slice A m c)).run Tryd.prog w1 = .ok () w2 ∧ Re w tag tag' ∧ Cg tag (Fr 8) w w2 ∧ Chk w2 tag' p V { y with wv := updV y.wv n (.slice A m c) } xs (upd wt n l') vs tr us fx dd := by
  obtain ⟨tag', hr, hrow, hc⟩ := (h.wts n hn).grown ho (by rw [kVals_len]; exact hl) hg hloc
  have h' := h.re hr
  have hc' := hc.re_ hr
  -- the map is as it was
  have hmap : RawMap Tryd.prog 3 w1 y.bm V y.wv := h'.map.chg hc' fun o => by show ¬ tag' y.bm = _; rw [h'.tm]; simp
  obtain ⟨d, hd⟩ := codeS_own ho
  obtain ⟨w2, hrun, hmap2, hg2⟩ := hmap.put Tryd.underlying3 Tryd.underlying52 (by omega) hn hd
  have hc2 : Cg tag' (fun s => s = (7, 0)) w1 w2 := cg_grown hg2 fun g hg => by injection hg with hg; rw [← hg]; exact h'.tm
  refine ⟨w2, tag', hrun, hr, (hc.mono_ (S' := Fr 8) fun t e => by subst e; exact ⟨by show 1 ≤ 8; decide, by show 8 ≤ 8; decide⟩).trans_ (hc2.mono_ (S' := Fr 8) fun t e => by subst e; exact ⟨by decide, by decide⟩) hr, ?_⟩
  refine ⟨(h'.blk.tchg h'.tp hc' (by simp)).tchg h'.tp hc2 (by simp), h'.tp, (h'.hdr.chg hc' (by simp)).chg hc2 (by simp), h.rlen, fun k' x' u' hx' hu' => ((h'.cls k' x' u' hx' hu').chg hc' (by simp)).chg hc2 (by simp), (h'.val.chg hc' (by simp)).chg hc2 (by simp),
    (h'.usd.chg hc' (by simp)).chg hc2 (by simp), h.ul, (h'.trl.chg hc' (by simp)).chg hc2 (by simp), h'.tm, hmap2, fun z hz => ?_⟩
  show Row w2 tag' (8, z) 0 3 (if z = n then .slice A m c else y.wv z) (kVals (if z = n then l' else wt z))
  by_cases e : z = n
  · subst e; rw [if_pos rfl, if_pos rfl]; exact hrow.chg hc2 (by simp)
  · rw [if_neg e, if_neg e]; exact ((h'.wts z hz).chg hc' (by simp; omega)).chg hc2 (by simp)
set_option maxRecDepth 100000 in
/-- what is kept is laid into the map -/
theorem Chk.shelve {B : Nat} {v : Value} {l : List Nat} (h : Chk w tag p V y xs wt vs tr us fx dd) (hV : V ≤ 500000) {n : Int} (hn : n.natAbs ≤ V) (hr : Row w tag (9, 0) B 3 v (kVals l)) :
    ∃ w2 tag', (Instr.mapUpdate mapT (.map (some y.bm)) (.int .i64 n) v).run Tryd.prog w = .ok () w2 ∧ (∀ g, g < B → tag' g = tag g) ∧ Cg tag (Fr 8) w w2 ∧ Chk w2 tag' p V { y with wv := updV y.wv n v } xs (upd wt n l) vs tr us fx dd := by
  obtain ⟨tag', htag⟩ : ∃ tag' : Nat → Tag, tag' = fun g => if v.ownBlock = some g then (8, n) else tag g := ⟨_, rfl⟩
  have h1 : Chk w tag' p V y xs wt vs tr us fx dd := h.rt fun t ht g hg => by
    rw [htag]
    show (if v.ownBlock = some g then ((8, n) : Tag) else tag g) = t
    rw [if_neg, hg]
    intro e
    have := hr.tg g e
    rw [this] at hg
    have h2 : t.1 ≤ 8 := ht.2
    rw [← hg] at h2
    exact absurd h2 (by decide)
  have h2 : Row w tag' (8, n) 0 3 v (kVals l) := ⟨own_base hr.own (Nat.zero_le _), fun g hg => by rw [htag]; exact if_pos hg⟩
  obtain ⟨w2, hrun, hc, hk⟩ := h1.lay hV hn h2
  refine ⟨w2, tag', hrun, fun g hg => ?_, ?_, hk⟩
  · rw [htag]
    exact if_neg fun e => by have := (hr.own.lt g e).1; omega
  · refine hc.mono fun g o ho hS => ?_
    have hS : tag' g = (7, 0) := hS
    rw [htag] at hS
    have hS : (if v.ownBlock = some g then ((8, n) : Tag) else tag g) = (7, 0) := hS
    split at hS
    · injection hS with h1; exact absurd h1 (by decide)
    · show Fr 8 (tag g); rw [hS]; exact ⟨by decide, by decide⟩
end
end Go.Proofs.YtgchepkcjkhmmaaDoor
