/-
  (*checker).spread: what holds in memory between its rounds, and what each round leaves.
-/
import Derived.Test.YtgchepkcjkhmmaaDoorUt
namespace Go.Proofs.YtgchepkcjkhmmaaDoor
open Go.RowKit
structure SpW (w : World) (tag : Nat → Tag) (p V : Nat) (L : List (List Int)) (c tr0 : List Int) (s0 : St) (fx dd : Int) (hd : Nat) (n : Int) (l : List Nat) (lw : Value) (kept rest : List Nat) (kv : Value) (tag' : Nat → Tag) (y : Lay) (s : St) (us : List Int) (wr : World) : Prop where
  kr : Row wr tag' (9, 0) w.heap.size 3 kv (kVals kept)
  re : Re w tag tag'
  cg : Cg tag (Fr 9) w wr
  ck : Chk wr tag' p V y s.xs (upd s.wt n l) s.vs s.tr us fx dd
  lw : y.wv n = lw
  pl : SpJ V L c tr0 s0 s hd n kept rest
/-- what spread leaves -/
def SpP (w : World) (tag : Nat → Tag) (p V : Nat) (L : List (List Int)) (c tr0 : List Int) (s0 : St) (fx dd : Int) (e : Ending) (w' : World) : Prop :=
  ∃ tag' y s us, Re w tag tag' ∧ Cg tag (Fr 9) w w' ∧ Chk w' tag' p V y s.xs s.wt s.vs s.tr us fx dd ∧ SI V L s ∧ Wi s.xs tr0 tr0 ∧ Same1 s0.xs s.xs ∧ s.xs.length = s0.xs.length ∧ (∃ new, s.tr = s0.tr ++ new) ∧ (∀ m ∈ s.tr, Imp L c m) ∧
    ((e = .returned (.int .i64 (-1)) ∧ Wi s.xs s.tr s.tr) ∨ ∃ k : Nat, e = .returned (.int .i64 (k : Nat)) ∧ k < L.length ∧ Ref L c)
theorem grown_tr {a b d : World} {row : Option Nat} (h : a.grownBy b row) (k : b.grownBy d row) : a.grownBy d row :=
  ⟨k.os.trans h.os, k.tape.trans h.tape, k.output.trans h.output, Nat.le_trans h.size k.size, fun i hi hn => (k.block i (Nat.lt_of_lt_of_le hi h.size) hn).trans (h.block i hi hn)⟩
theorem upd_back (wt : Int → List Nat) (n : Int) : upd wt n (wt n) = wt := by
  funext m; unfold upd; split
  · rename_i e; rw [e]
  · rfl
theorem upd_upd (wt : Int → List Nat) (n : Int) (l l' : List Nat) : upd (upd wt n l) n l' = upd wt n l' := by
  funext m; unfold upd; split <;> rfl
theorem upd_comm (wt : Int → List Nat) {n m : Int} (h : m ≠ n) (l l' : List Nat) : upd (upd wt n l) m l' = upd (upd wt m l') n l := by
  funext z; unfold upd
  by_cases e1 : z = m
  · subst e1; rw [if_pos rfl, if_neg h, if_pos rfl]
  · by_cases e2 : z = n
    · subst e2; rw [if_neg e1, if_pos rfl, if_pos rfl]
    · rw [if_neg e1, if_neg e2, if_neg e2, if_neg e1]
theorem nodup_lit_le {V : Nat} {x : List Int} (hn : x.Nodup) (hl : ∀ n ∈ x, Lit V n) : x.length ≤ 2 * V := by
  have hsub : x ⊆ ((List.range V).map fun i : Nat => (i : Int) + 1) ++ ((List.range V).map fun i : Nat => -((i : Int) + 1)) := fun n hx => by
    obtain ⟨h0, h1⟩ := hl n hx
    by_cases h : 0 < n
    · exact List.mem_append_left _ (List.mem_map.2 ⟨n.natAbs - 1, List.mem_range.2 (by omega), by omega⟩)
    · exact List.mem_append_right _ (List.mem_map.2 ⟨n.natAbs - 1, List.mem_range.2 (by omega), by omega⟩)
  have := hn.length_le_of_subset hsub
  simp at this
  omega
section
variable {V : Nat} {L : List (List Int)} {s : St}
theorem SI.xle (h : SI V L s) {k : Nat} {x : List Int} (hx : s.xs[k]? = some x) : x.length ≤ 2 * V := nodup_lit_le (h.xnd _ (List.mem_of_getElem? hx)) (h.xlit _ (List.mem_of_getElem? hx))
theorem SI.wle (h : SI V L s) (n : Int) : (s.wt n).length ≤ L.length := by
  have hsub : s.wt n ⊆ List.range L.length := fun k hk => by
    obtain ⟨a, b, r, hx, _⟩ := (h.wiff n k).1 hk
    have := (List.getElem?_eq_some_iff.1 hx).1
    rw [h.xlen] at this
    exact List.mem_range.2 this
  have := (h.wnd n).length_le_of_subset hsub
  simpa using this
end
section
variable {w wr wr2 wr3 : World} {tag tag' : Nat → Tag} {p V hd : Nat} {L : List (List Int)} {c tr0 : List Int} {s0 s : St} {fx dd n : Int} {l kept rest : List Nat} {lw kv : Value} {y : Lay} {us : List Int} {k g m cx : Nat} {a b z : Int} {r : List Int}
theorem SpW.row (h : SpW w tag p V L c tr0 s0 fx dd hd n l lw kept (k :: rest) kv tag' y s us wr) {x : List Int} (hx : s.xs[k]? = some x) (h2 : 0 < x.length) :
    ∃ gc cc gx c, y.vC = .slice (some ⟨gc, 0, none⟩) L.length cc ∧ k < L.length ∧ wr.cell? ⟨gc, k, none⟩ = some (.slice (some ⟨gx, 0, none⟩) x.length c) ∧ y.rows[k]? = some (.slice (some ⟨gx, 0, none⟩) x.length c) ∧ Row wr tag' (3, (k : Int)) 0 3 (.slice (some ⟨gx, 0, none⟩) (litVals x).length c) (litVals x) := by
  have hk := (List.getElem?_eq_some_iff.1 hx).1
  have hkr : k < y.rows.length := by rw [h.ck.rlen]; exact hk
  have hu : y.rows[k]? = some y.rows[k] := List.getElem?_eq_getElem hkr
  have hrow := h.ck.cls k x _ hx hu
  obtain ⟨gx, c, hv, _, hcel⟩ := hrow.at_ (by rw [litVals_len]; exact h2)
  obtain ⟨gc, cc, hvc, _, hcc⟩ := h.ck.hdr.at_ (by omega)
  have hl : y.rows.length = L.length := by rw [h.ck.rlen, h.pl.si.xlen]
  rw [hv] at hu hrow
  refine ⟨gc, cc, gx, c, by rw [hvc, hl], by rw [← h.pl.si.xlen]; exact hk, ?_, by rw [hu, litVals_len], hrow⟩
  rw [hcc.cell hu, litVals_len]
/-- the first two change places -/
theorem SpW.swap (h : SpW w tag p V L c tr0 s0 fx dd hd n l lw kept (k :: rest) kv tag' y s us wr) (hx : s.xs[k]? = some (a :: b :: r)) (hu : y.rows[k]? = some (.slice (some ⟨g, 0, none⟩) m cx)) (hm : r.length + 2 = m)
    (hw : wr2 = ((wr.setCell ⟨g, 0, none⟩ (.int .i64 b)).setCell ⟨g, 1, none⟩ (.int .i64 a)).drew ∨ wr2 = ((wr.setCell ⟨g, 1, none⟩ (.int .i64 a)).setCell ⟨g, 0, none⟩ (.int .i64 b)).drew) :
    SpW w tag p V L c tr0 s0 fx dd hd n l lw kept (k :: rest) kv tag' y { s with xs := s.xs.set k (b :: a :: r) } us wr2 := by
  have hk := (List.getElem?_eq_some_iff.1 hx).1
  have hrow := h.ck.cls k _ _ hx hu
  have hs : ∀ (w' : World) (j : Nat) (u : Int), Cg tag' (fun s => s = (3, (k : Int))) w' (w'.setCell ⟨g, j, none⟩ (.int .i64 u)) := fun w' j u => cg_store (by show tag' g = _; exact hrow.tg g rfl) _
  have fin : ∀ w3 : World, Cg tag' (fun s => s = (3, (k : Int))) wr w3 → Chk w3 tag' p V y (s.xs.set k (b :: a :: r)) (upd s.wt n l) s.vs s.tr us fx dd → SpW w tag p V L c tr0 s0 fx dd hd n l lw kept (k :: rest) kv tag' y { s with xs := s.xs.set k (b :: a :: r) } us w3.drew := fun w3 hc hk3 =>
    ⟨h.kr.chg (S := fun s => s = (3, (k : Int))) hc.drew (by simp), h.re, h.cg.trans_ ((hc.mono_ (S' := Fr 9) fun t e => by subst e; exact ⟨by show 1 ≤ 3; decide, by show 3 ≤ 9; decide⟩).drew) h.re, hk3.drew, h.lw, h.pl.swap hx⟩
  rcases hw with rfl | rfl
  · refine fin _ ((hs _ 0 b).trans (hs _ 1 a)) ?_
    have h1 := h.ck.setX hx hu (by simp; omega) 0 b
    have h2 := h1.setX (k := k) (g := g) (m := m) (c := cx) (x := b :: b :: r) (by rw [List.getElem?_set, if_pos rfl, if_pos hk]; rfl) hu (by simp; omega) 1 a
    rw [List.set_set] at h2
    exact h2
  · refine fin _ ((hs _ 1 a).trans (hs _ 0 b)) ?_
    have h1 := h.ck.setX hx hu (by simp; omega) 1 a
    have h2 := h1.setX (k := k) (g := g) (m := m) (c := cx) (x := a :: a :: r) (by rw [List.getElem?_set, if_pos rfl, if_pos hk]; rfl) hu (by simp; omega) 0 b
    rw [List.set_set] at h2
    exact h2
/-- amid the move: the clause is turned, its watchers are not yet -/
structure SpM (w : World) (tag : Nat → Tag) (p V : Nat) (L : List (List Int)) (c tr0 : List Int) (s0 : St) (fx dd : Int) (hd : Nat) (n : Int) (l : List Nat) (lw : Value) (kept rest : List Nat) (kv : Value) (tag' : Nat → Tag) (y : Lay) (s : St) (us : List Int) (k : Nat) (z : Int) (wr : World) : Prop where
  kr : Row wr tag' (9, 0) w.heap.size 3 kv (kVals kept)
  re : Re w tag tag'
  cg : Cg tag (Fr 9) w wr
  ck : Chk wr tag' p V y s.xs (upd s.wt n l) s.vs s.tr us fx dd
  lw : y.wv n = lw
  zn : z ≠ n
  zl : Lit V z
  wl : (s.wt z).length < L.length
  pl : SpJ V L c tr0 s0 { s with wt := upd (upd s.wt n (kept ++ rest)) z (s.wt z ++ [k]) } hd n kept rest
theorem SpW.move {j : Nat} (h : SpW w tag p V L c tr0 s0 fx dd hd n l lw kept (k :: rest) kv tag' y s us wr) (hx : s.xs[k]? = some (a :: n :: r)) (hu : y.rows[k]? = some (.slice (some ⟨g, 0, none⟩) m cx)) (hm : r.length + 2 = m)
    (hj : r[j]? = some z) (hz : lv (va s.vs) z ≠ -1)
    (hw : wr2 = ((wr.setCell ⟨g, 1, none⟩ (.int .i64 z)).setCell ⟨g, j + 2, none⟩ (.int .i64 n)).drew ∨ wr2 = ((wr.setCell ⟨g, j + 2, none⟩ (.int .i64 n)).setCell ⟨g, 1, none⟩ (.int .i64 z)).drew) :
    SpM w tag p V L c tr0 s0 fx dd hd n l lw kept rest kv tag' y { s with xs := s.xs.set k (a :: z :: r.set j n) } us k z wr2 := by
  have hk := (List.getElem?_eq_some_iff.1 hx).1
  have hrow := h.ck.cls k _ _ hx hu
  have hmem := List.mem_of_getElem? hx
  have hzr : z ∈ r := List.mem_of_getElem? hj
  have hlz : Lit V z := h.pl.si.xlit _ hmem z (by simp [hzr])
  have hzn : z ≠ n := fun e => by subst e; exact hz h.pl.val
  have hs : ∀ (w' : World) (j : Nat) (u : Int), Cg tag' (fun s => s = (3, (k : Int))) w' (w'.setCell ⟨g, j, none⟩ (.int .i64 u)) := fun w' j u => cg_store (by show tag' g = _; exact hrow.tg g rfl) _
  have hwl : (s.wt z).length < L.length := by
    have hp := (h.pl.move hx hj hz).si.wle z
    have e : (upd (upd s.wt n (kept ++ rest)) z (s.wt z ++ [k])) z = s.wt z ++ [k] := upd_same _ _ _
    have hp : ((upd (upd s.wt n (kept ++ rest)) z (s.wt z ++ [k])) z).length ≤ L.length := hp
    rw [e, List.length_append] at hp
    simp at hp
    omega
  have fin : ∀ w3 : World, Cg tag' (fun s => s = (3, (k : Int))) wr w3 → Chk w3 tag' p V y (s.xs.set k (a :: z :: r.set j n)) (upd s.wt n l) s.vs s.tr us fx dd → SpM w tag p V L c tr0 s0 fx dd hd n l lw kept rest kv tag' y { s with xs := s.xs.set k (a :: z :: r.set j n) } us k z w3.drew := fun w3 hc hk3 =>
    ⟨h.kr.chg (S := fun s => s = (3, (k : Int))) hc.drew (by simp), h.re, h.cg.trans_ ((hc.mono_ (S' := Fr 9) fun t e => by subst e; exact ⟨by show 1 ≤ 3; decide, by show 3 ≤ 9; decide⟩).drew) h.re, hk3.drew, h.lw, hzn, hlz, hwl, h.pl.move hx hj hz⟩
  rcases hw with rfl | rfl
  · refine fin _ ((hs _ 1 z).trans (hs _ (j + 2) n)) ?_
    have h1 := h.ck.setX hx hu (by simp; omega) 1 z
    have h2 := h1.setX (k := k) (g := g) (m := m) (c := cx) (x := a :: z :: r) (by rw [List.getElem?_set, if_pos rfl, if_pos hk]; rfl) hu (by simp; omega) (j + 2) n
    rw [List.set_set] at h2
    exact h2
  · refine fin _ ((hs _ (j + 2) n).trans (hs _ 1 z)) ?_
    have h1 := h.ck.setX hx hu (by simp; omega) (j + 2) n
    have h2 := h1.setX (k := k) (g := g) (m := m) (c := cx) (x := a :: n :: r.set j n) (by rw [List.getElem?_set, if_pos rfl, if_pos hk]; rfl) hu (by simp; omega) 1 z
    rw [List.set_set] at h2
    exact h2
/-- new blocks -/
theorem SpM.new (h : SpM w tag p V L c tr0 s0 fx dd hd n l lw kept rest kv tag' y s us k z wr) (hb : Below wr.heap.size wr wr2) : SpM w tag p V L c tr0 s0 fx dd hd n l lw kept rest kv tag' y s us k z wr2 :=
  ⟨h.kr.chg (S := fun _ => False) (cg_new hb) id, h.re, h.cg.trans_ (cg_new hb) h.re, h.ck.new hb, h.lw, h.zn, h.zl, h.wl, h.pl⟩
theorem SpW.new (h : SpW w tag p V L c tr0 s0 fx dd hd n l lw kept rest kv tag' y s us wr) (hb : Below wr.heap.size wr wr2) : SpW w tag p V L c tr0 s0 fx dd hd n l lw kept rest kv tag' y s us wr2 :=
  ⟨h.kr.chg (S := fun _ => False) (cg_new hb) id, h.re, h.cg.trans_ (cg_new hb) h.re, h.ck.new hb, h.lw, h.pl⟩
/-- the other number's watchers have one more -/
theorem SpM.push {A : Option Addr} {q cc : Nat} (h : SpM w tag p V L c tr0 s0 fx dd hd n l lw kept rest kv tag' y s us k z wr) (hV : V ≤ 500000) (ho : wr2.ownsRow 0 3 1 (.slice A q cc) q (kVals (s.wt z ++ [k]))) (hl : (s.wt z).length + 1 = q)
    (hg : wr.grownBy wr2 (y.wv z).ownBlock) (hloc : (Value.slice A q cc).ownBlock = (y.wv z).ownBlock ∨ (Value.slice A q cc).ownBlock = some wr.heap.size) :
    ∃ w2 tag2, (Instr.mapUpdate mapT (.map (some y.bm)) (.int .i64 z) (.slice A q cc)).run Tryd.prog wr2 = .ok () w2 ∧
      SpW w tag p V L c tr0 s0 fx dd hd n l lw kept rest kv tag2 { y with wv := updV y.wv z (.slice A q cc) } { s with wt := upd (upd s.wt n (kept ++ rest)) z (s.wt z ++ [k]) } us w2 := by
  obtain ⟨w2, tag2, hrun, hr, hc, hk⟩ := h.ck.push hV h.zl.2 ho (by simp; exact hl) hg hloc
  have hs := h.cg.size
  refine ⟨w2, tag2, hrun, ⟨(h.kr.re hr).chg (hc.re_ hr) (fun h9 => absurd h9.2 (by decide)), h.re.trans hr hs, h.cg.trans_ (hc.mono_ fun t ht => ⟨ht.1, by have := ht.2; omega⟩) h.re, ?_, ?_, h.pl⟩⟩
  · have e : upd (upd s.wt n l) z (s.wt z ++ [k]) = upd (upd (upd s.wt n (kept ++ rest)) z (s.wt z ++ [k])) n l := by
      rw [upd_comm s.wt h.zn, upd_comm s.wt h.zn, upd_upd]
    rw [e] at hk
    exact hk
  · show (if n = z then _ else y.wv n) = lw
    rw [if_neg (fun e => h.zn e.symm)]; exact h.lw
/-- memory alone: no word of what is kept -/
structure SpX (w : World) (tag : Nat → Tag) (p V : Nat) (fx dd : Int) (n : Int) (l : List Nat) (lw : Value) (kept : List Nat) (kv : Value) (tag' : Nat → Tag) (y : Lay) (s : St) (us : List Int) (wr : World) : Prop where
  kr : Row wr tag' (9, 0) w.heap.size 3 kv (kVals kept)
  re : Re w tag tag'
  cg : Cg tag (Fr 9) w wr
  ck : Chk wr tag' p V y s.xs (upd s.wt n l) s.vs s.tr us fx dd
  lw : y.wv n = lw
theorem SpW.x (h : SpW w tag p V L c tr0 s0 fx dd hd n l lw kept rest kv tag' y s us wr) : SpX w tag p V fx dd n l lw kept kv tag' y s us wr := ⟨h.kr, h.re, h.cg, h.ck, h.lw⟩
theorem SpX.w_ (h : SpX w tag p V fx dd n l lw kept kv tag' y s us wr) (hp : SpJ V L c tr0 s0 s hd n kept rest) : SpW w tag p V L c tr0 s0 fx dd hd n l lw kept rest kv tag' y s us wr := ⟨h.kr, h.re, h.cg, h.ck, h.lw, hp⟩
theorem SpX.new (h : SpX w tag p V fx dd n l lw kept kv tag' y s us wr) (hb : Below wr.heap.size wr wr2) : SpX w tag p V fx dd n l lw kept kv tag' y s us wr2 :=
  ⟨h.kr.chg (S := fun _ => False) (cg_new hb) id, h.re, h.cg.trans_ (cg_new hb) h.re, h.ck.new hb, h.lw⟩
theorem SpX.grown {A : Option Addr} {q cc : Nat} {kept2 : List Nat} (h : SpX w tag p V fx dd n l lw kept kv tag' y s us wr) (ho : wr2.ownsRow w.heap.size 3 1 (.slice A q cc) q (kVals kept2)) (hl : kept2.length = q)
    (hg : wr.grownBy wr2 kv.ownBlock) (hloc : (Value.slice A q cc).ownBlock = kv.ownBlock ∨ (Value.slice A q cc).ownBlock = some wr.heap.size) :
    ∃ tag2, SpX w tag p V fx dd n l lw kept2 (.slice A q cc) tag2 y s us wr2 := by
  obtain ⟨tag2, hr, hrow, hc⟩ := h.kr.grown ho (by rw [kVals_len]; exact hl) hg hloc
  have hs := h.cg.size
  exact ⟨tag2, hrow, h.re.trans hr hs, h.cg.trans_ (hc.mono_ fun t e => by subst e; exact ⟨by decide, by decide⟩) h.re, (h.ck.re hr).keep (hc.re_ hr) (fun t ht e => by subst e; exact absurd ht.2 (by decide)), h.lw⟩
theorem SpX.shelve (h : SpX w tag p V fx dd n l lw kept kv tag' y s us wr) (hV : V ≤ 500000) (hn : n.natAbs ≤ V) (hp : s.wt n = kept) :
    ∃ w2 tag2 y2, (Instr.mapUpdate mapT (.map (some y.bm)) (.int .i64 n) kv).run Tryd.prog wr = .ok () w2 ∧ Re w tag tag2 ∧ Cg tag (Fr 9) w w2 ∧ Chk w2 tag2 p V y2 s.xs s.wt s.vs s.tr us fx dd := by
  obtain ⟨w2, tag2, hrun, hr, hc, hk⟩ := h.ck.shelve hV hn h.kr
  rw [upd_upd, ← hp, upd_back] at hk
  exact ⟨w2, tag2, _, hrun, fun g hg => (hr g hg).trans (h.re g hg), h.cg.trans_ (hc.mono_ fun t ht => ⟨ht.1, by have := ht.2; omega⟩) h.re, hk⟩
theorem SpX.set_ {us2 : List Int} {tag2 : Nat → Tag} {vt : Value} (h : SpX w tag p V fx dd n l lw kept kv tag' y s us wr) (hr : Re wr tag' tag2) (hc : Cg tag' (Fr 8) wr wr2)
    (hk : Chk wr2 tag2 p V { y with vt := vt } s.xs (upd s.wt n l) (s.vs.set a.natAbs (sg a)) (s.tr ++ [a]) us2 fx dd) :
    SpX w tag p V fx dd n l lw kept kv tag2 { y with vt := vt } { s with vs := s.vs.set a.natAbs (sg a), tr := s.tr ++ [a] } us2 wr2 := by
  have hs := h.cg.size
  exact ⟨(h.kr.re hr).chg (hc.re_ hr) (fun h9 => absurd h9.2 (by decide)), h.re.trans hr hs, h.cg.trans_ (hc.mono_ fun t ht => ⟨ht.1, by have := ht.2; omega⟩) h.re, hk, h.lw⟩
theorem SpX.cells (h : SpX w tag p V fx dd n l lw kept kv tag' y s us wr) {x : List Int} (hx : s.xs[k]? = some x) (hu : y.rows[k]? = some (.slice (some ⟨g, 0, none⟩) m cx)) (hm : x.length = m) (j : Nat) {u : Int} (hj : x[j]? = some u) :
    wr.cell? ⟨g, j, none⟩ = some (.int .i64 u) ∧ wr.frozen? ⟨g, j, none⟩ = false := by
  have h1 := h.ck.cls k _ _ hx hu
  have h2 : Row wr tag' (3, (k : Int)) 0 3 (.slice (some ⟨g, 0, none⟩) (litVals x).length cx) (litVals x) := by rw [litVals_len, hm]; exact h1
  exact ⟨Row.cell h2 (lit_at hj), Row.frozen h2 j⟩
set_option maxRecDepth 100000 in
/-- while the other number's row grows, this is seen -/
theorem SpM.seen {x : List Int} {u : Int} (h : SpM w tag p V L c tr0 s0 fx dd hd n l lw kept rest kv tag' y s us k z wr) (hV : V ≤ 500000) (hg : wr.grownBy wr2 (y.wv z).ownBlock) (hx : s.xs[k]? = some x) (hu : y.rows[k]? = some (.slice (some ⟨g, 0, none⟩) m cx)) (hm : x.length = m) (j : Nat) (hj : x[j]? = some u) :
    wr2.cell? ⟨p, 1, none⟩ = some (.map (some y.bm)) ∧ wr2.cell? ⟨g, j, none⟩ = some (.int .i64 u) ∧ (Instr.lookup mapT (.map (some y.bm)) (.int .i64 z) false).run Tryd.prog wr2 = .ok (y.wv z) wr2 := by
  have hc : Cg tag' (fun s => s = (8, z)) wr wr2 := cg_grown hg fun g hg => (h.ck.wts z h.zl.2).tg g hg
  have h1 := (h.ck.cls k _ _ hx hu).chg hc (by simp)
  have h2 : Row wr2 tag' (3, (k : Int)) 0 3 (.slice (some ⟨g, 0, none⟩) (litVals x).length cx) (litVals x) := by rw [litVals_len, hm]; exact h1
  have hmap : RawMap Tryd.prog 3 wr2 y.bm V y.wv := h.ck.map.chg hc fun o => by show ¬ tag' y.bm = _; rw [h.ck.tm]; simp
  exact ⟨(h.ck.blk.tchg h.ck.tp hc (by simp)).cell 1, Row.cell h2 (lit_at hj), hmap.look Tryd.underlying3 Tryd.underlying52 (zero_sl wr2) (by omega) h.zl.2⟩
end
end Go.Proofs.YtgchepkcjkhmmaaDoor
