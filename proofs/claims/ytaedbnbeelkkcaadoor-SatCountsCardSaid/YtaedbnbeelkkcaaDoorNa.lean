/-
  A SOLVER IN MEMORY (package sat): its parts, by tags; what each store leaves.
-/
import Derived.Test.YtaedbnbeelkkcaaDoorUs
import Derived.Test.YtaedbnbeelkkcaaDoorAa
namespace Go.Proofs.YtaedbnbeelkkcaaDoor.slv
open Go.RowKit
def fVals (l : List Nat) : List Value := l.map (Value.float .f64)
theorem f_at {l : List Nat} {k b : Nat} (h : l[k]? = some b) : (fVals l)[k]? = some (.float .f64 b) := by unfold fVals; simp [h]
theorem f_set (l : List Nat) (k b : Nat) : (fVals l).set k (.float .f64 b) = fVals (l.set k b) := by unfold fVals; rw [List.map_set]
structure SLay where
  vC : Value
  rows : List Value
  gw : Nat
  wrows : List Value
  gv : Nat
  gl : Nat
  gr : Nat
  vt : Value
  vL : Value
  gs : Nat
  gp : Nat
  vh : Value
  gP : Nat
  vP : Value
  prows : List Value
structure Slv (w : World) (tag : Nat → Tag) (p V : Nat) (y : SLay) (s : SS) : Prop where
  blk : Blk w p 69 #[.int .i64 (V : Nat), y.vC, .slice (some ⟨y.gw, 0, none⟩) (2 * V + 2) (2 * V + 2), .slice (some ⟨y.gv, 0, none⟩) (V + 1) (V + 1), .slice (some ⟨y.gl, 0, none⟩) (V + 1) (V + 1), .slice (some ⟨y.gr, 0, none⟩) (V + 1) (V + 1), y.vt, y.vL, .int .i64 (s.hd : Nat), .slice (some ⟨y.gs, 0, none⟩) (V + 1) (V + 1), .float .f64 s.gr, .slice (some ⟨y.gp, 0, none⟩) (V + 1) (V + 1), y.vh, .slice (some ⟨y.gP, 0, none⟩) (V + 1) (V + 1), y.vP, .bool s.dead]
  tp : tag p = (1, 0)
  hdr : Row w tag (2, 0) 0 25 y.vC y.rows
  cls : ∀ (k : Nat) x u, s.xs[k]? = some x → y.rows[k]? = some u → Row w tag (3, (k : Int)) 0 3 u (litVals x)
  whd : Cel w tag (4, 0) y.gw y.wrows
  wts : ∀ (i : Nat) u, y.wrows[i]? = some u → Row w tag (5, (i : Int)) 0 3 u (kVals (s.wt i))
  val : Cel w tag (6, 0) y.gv (i8Vals s.vs)
  lev : Cel w tag (7, 0) y.gl (litVals s.lv)
  rea : Cel w tag (8, 0) y.gr (litVals s.rs)
  trl : Row w tag (9, 0) 0 3 y.vt (litVals s.tr)
  lim : Row w tag (10, 0) 0 3 y.vL (kVals s.lm)
  sco : Cel w tag (11, 0) y.gs (fVals s.sc)
  pha : Cel w tag (12, 0) y.gp (boolVals s.ph)
  hea : Row w tag (13, 0) 0 3 y.vh (kVals s.hp)
  pla : Cel w tag (14, 0) y.gP (litVals s.pl)
  prf : Row w tag (15, 0) 0 26 y.vP y.prows
  prc : ∀ (k : Nat) x u, s.pf[k]? = some x → y.prows[k]? = some u → Row w tag (16, (k : Int)) 0 3 u (litVals x)
  rlen : y.rows.length = s.xs.length
  wlen : y.wrows.length = 2 * V + 2
  vl : s.vs.length = V + 1
  ll : s.lv.length = V + 1
  rl : s.rs.length = V + 1
  sl : s.sc.length = V + 1
  phl : s.ph.length = V + 1
  pll : s.pl.length = V + 1
  plen : y.prows.length = s.pf.length
section
variable {w w' : World} {tag tag' : Nat → Tag} {p V : Nat} {y : SLay} {s : SS} {S : Tag → Prop}
theorem bool_set (l : List Bool) (k : Nat) (b : Bool) : (boolVals l).set k (.bool b) = boolVals (l.set k b) := by unfold boolVals; rw [List.map_set]
theorem bool_at {l : List Bool} {k : Nat} {b : Bool} (h : l[k]? = some b) : (boolVals l)[k]? = some (.bool b) := by unfold boolVals; simp [h]
/-- new blocks' tags -/
theorem Slv.re (h : Slv w tag p V y s) (hr : Re w tag tag') : Slv w tag' p V y s where
  blk := h.blk
  tp := (hr _ h.blk.lt).trans h.tp
  hdr := h.hdr.re hr
  cls := fun k x u hx hu => (h.cls k x u hx hu).re hr
  whd := h.whd.re hr
  wts := fun i u hu => (h.wts i u hu).re hr
  val := h.val.re hr
  lev := h.lev.re hr
  rea := h.rea.re hr
  trl := h.trl.re hr
  lim := h.lim.re hr
  sco := h.sco.re hr
  pha := h.pha.re hr
  hea := h.hea.re hr
  pla := h.pla.re hr
  prf := h.prf.re hr
  prc := fun k x u hx hu => (h.prc k x u hx hu).re hr
  rlen := h.rlen
  wlen := h.wlen
  vl := h.vl
  ll := h.ll
  rl := h.rl
  sl := h.sl
  phl := h.phl
  pll := h.pll
  plen := h.plen
/-- tags of a solver's own -/
abbrev Fr (k : Nat) (t : Tag) : Prop := 1 ≤ t.1 ∧ t.1 ≤ k
/-- other blocks turned -/
theorem Slv.keep (h : Slv w tag p V y s) (hc : Cg tag S w w') (hS : ∀ t, Fr 16 t → ¬ S t) : Slv w' tag p V y s where
  blk := h.blk.tchg h.tp hc (hS _ ⟨by decide, by decide⟩)
  tp := h.tp
  hdr := h.hdr.chg hc (hS _ ⟨by show 1 ≤ 2; decide, by show 2 ≤ 16; decide⟩)
  cls := fun k x u hx hu => (h.cls k x u hx hu).chg hc (hS _ ⟨by show 1 ≤ 3; decide, by show 3 ≤ 16; decide⟩)
  whd := h.whd.chg hc (hS _ ⟨by show 1 ≤ 4; decide, by show 4 ≤ 16; decide⟩)
  wts := fun i u hu => (h.wts i u hu).chg hc (hS _ ⟨by show 1 ≤ 5; decide, by show 5 ≤ 16; decide⟩)
  val := h.val.chg hc (hS _ ⟨by show 1 ≤ 6; decide, by show 6 ≤ 16; decide⟩)
  lev := h.lev.chg hc (hS _ ⟨by show 1 ≤ 7; decide, by show 7 ≤ 16; decide⟩)
  rea := h.rea.chg hc (hS _ ⟨by show 1 ≤ 8; decide, by show 8 ≤ 16; decide⟩)
  trl := h.trl.chg hc (hS _ ⟨by show 1 ≤ 9; decide, by show 9 ≤ 16; decide⟩)
  lim := h.lim.chg hc (hS _ ⟨by show 1 ≤ 10; decide, by show 10 ≤ 16; decide⟩)
  sco := h.sco.chg hc (hS _ ⟨by show 1 ≤ 11; decide, by show 11 ≤ 16; decide⟩)
  pha := h.pha.chg hc (hS _ ⟨by show 1 ≤ 12; decide, by show 12 ≤ 16; decide⟩)
  hea := h.hea.chg hc (hS _ ⟨by show 1 ≤ 13; decide, by show 13 ≤ 16; decide⟩)
  pla := h.pla.chg hc (hS _ ⟨by show 1 ≤ 14; decide, by show 14 ≤ 16; decide⟩)
  prf := h.prf.chg hc (hS _ ⟨by show 1 ≤ 15; decide, by show 15 ≤ 16; decide⟩)
  prc := fun k x u hx hu => (h.prc k x u hx hu).chg hc (hS _ ⟨by show 1 ≤ 16; decide, by show 16 ≤ 16; decide⟩)
  rlen := h.rlen
  wlen := h.wlen
  vl := h.vl
  ll := h.ll
  rl := h.rl
  sl := h.sl
  phl := h.phl
  pll := h.pll
  plen := h.plen
theorem Slv.new (h : Slv w tag p V y s) (hb : Below w.heap.size w w') : Slv w' tag p V y s := h.keep (S := fun _ => False) (cg_new hb) fun _ _ => id
theorem Slv.drewN (h : Slv w tag p V y s) (n : Nat) : Slv (w.drewN n) tag p V y s := h.new (below_drewN (Below.refl _ _) n)
theorem Slv.drew (h : Slv w tag p V y s) : Slv w.drew tag p V y s := h.drewN 1
theorem Slv.alloc (h : Slv w tag p V y s) (o : Obj) : Slv (w.alloc o) tag p V y s := h.new ((Below.refl _ _).alloc (Nat.le_refl _) o)
theorem Slv.setVal (h : Slv w tag p V y s) (i : Nat) (u : Int) : Slv (w.setCell ⟨y.gv, i, none⟩ (.int .i8 u)) tag p V y { s with vs := s.vs.set i u } ∧ Cg tag (Fr 16) w (w.setCell ⟨y.gv, i, none⟩ (.int .i8 u)) := by
  have hc : Cg tag (fun s => s = (6, 0)) w (w.setCell ⟨y.gv, i, none⟩ (.int .i8 u)) := cg_store (by show tag y.gv = _; exact h.val.tg) _
  refine ⟨?_, hc.mono_ fun t e => by subst e; exact ⟨by decide, by decide⟩⟩
  exact {
    blk := h.blk.tchg h.tp hc (by simp)
    tp := h.tp
    hdr := h.hdr.chg hc (by simp)
    cls := fun k x u hx hu => (h.cls k x u hx hu).chg hc (by simp)
    whd := h.whd.chg hc (by simp)
    wts := fun i u hu => (h.wts i u hu).chg hc (by simp)
    val := by rw [← i8_set]; exact h.val.set_ i _
    lev := h.lev.chg hc (by simp)
    rea := h.rea.chg hc (by simp)
    trl := h.trl.chg hc (by simp)
    lim := h.lim.chg hc (by simp)
    sco := h.sco.chg hc (by simp)
    pha := h.pha.chg hc (by simp)
    hea := h.hea.chg hc (by simp)
    pla := h.pla.chg hc (by simp)
    prf := h.prf.chg hc (by simp)
    prc := fun k x u hx hu => (h.prc k x u hx hu).chg hc (by simp)
    rlen := h.rlen
    wlen := h.wlen
    vl := by show (List.set _ _ _).length = _; rw [List.length_set]; exact h.vl
    ll := h.ll
    rl := h.rl
    sl := h.sl
    phl := h.phl
    pll := h.pll
    plen := h.plen
  }
theorem Slv.setLev (h : Slv w tag p V y s) (i : Nat) (u : Int) : Slv (w.setCell ⟨y.gl, i, none⟩ (.int .i64 u)) tag p V y { s with lv := s.lv.set i u } ∧ Cg tag (Fr 16) w (w.setCell ⟨y.gl, i, none⟩ (.int .i64 u)) := by
  have hc : Cg tag (fun s => s = (7, 0)) w (w.setCell ⟨y.gl, i, none⟩ (.int .i64 u)) := cg_store (by show tag y.gl = _; exact h.lev.tg) _
  refine ⟨?_, hc.mono_ fun t e => by subst e; exact ⟨by decide, by decide⟩⟩
  exact {
    blk := h.blk.tchg h.tp hc (by simp)
    tp := h.tp
    hdr := h.hdr.chg hc (by simp)
    cls := fun k x u hx hu => (h.cls k x u hx hu).chg hc (by simp)
    whd := h.whd.chg hc (by simp)
    wts := fun i u hu => (h.wts i u hu).chg hc (by simp)
    val := h.val.chg hc (by simp)
    lev := by rw [← lit_set]; exact h.lev.set_ i _
    rea := h.rea.chg hc (by simp)
    trl := h.trl.chg hc (by simp)
    lim := h.lim.chg hc (by simp)
    sco := h.sco.chg hc (by simp)
    pha := h.pha.chg hc (by simp)
    hea := h.hea.chg hc (by simp)
    pla := h.pla.chg hc (by simp)
    prf := h.prf.chg hc (by simp)
    prc := fun k x u hx hu => (h.prc k x u hx hu).chg hc (by simp)
    rlen := h.rlen
    wlen := h.wlen
    vl := h.vl
    ll := by show (List.set _ _ _).length = _; rw [List.length_set]; exact h.ll
    rl := h.rl
    sl := h.sl
    phl := h.phl
    pll := h.pll
    plen := h.plen
  }
theorem Slv.setRea (h : Slv w tag p V y s) (i : Nat) (u : Int) : Slv (w.setCell ⟨y.gr, i, none⟩ (.int .i64 u)) tag p V y { s with rs := s.rs.set i u } ∧ Cg tag (Fr 16) w (w.setCell ⟨y.gr, i, none⟩ (.int .i64 u)) := by
  have hc : Cg tag (fun s => s = (8, 0)) w (w.setCell ⟨y.gr, i, none⟩ (.int .i64 u)) := cg_store (by show tag y.gr = _; exact h.rea.tg) _
  refine ⟨?_, hc.mono_ fun t e => by subst e; exact ⟨by decide, by decide⟩⟩
  exact {
    blk := h.blk.tchg h.tp hc (by simp)
    tp := h.tp
    hdr := h.hdr.chg hc (by simp)
    cls := fun k x u hx hu => (h.cls k x u hx hu).chg hc (by simp)
    whd := h.whd.chg hc (by simp)
    wts := fun i u hu => (h.wts i u hu).chg hc (by simp)
    val := h.val.chg hc (by simp)
    lev := h.lev.chg hc (by simp)
    rea := by rw [← lit_set]; exact h.rea.set_ i _
    trl := h.trl.chg hc (by simp)
    lim := h.lim.chg hc (by simp)
    sco := h.sco.chg hc (by simp)
    pha := h.pha.chg hc (by simp)
    hea := h.hea.chg hc (by simp)
    pla := h.pla.chg hc (by simp)
    prf := h.prf.chg hc (by simp)
    prc := fun k x u hx hu => (h.prc k x u hx hu).chg hc (by simp)
    rlen := h.rlen
    wlen := h.wlen
    vl := h.vl
    ll := h.ll
    rl := by show (List.set _ _ _).length = _; rw [List.length_set]; exact h.rl
    sl := h.sl
    phl := h.phl
    pll := h.pll
    plen := h.plen
  }
theorem Slv.setPha (h : Slv w tag p V y s) (i : Nat) (u : Bool) : Slv (w.setCell ⟨y.gp, i, none⟩ (.bool u)) tag p V y { s with ph := s.ph.set i u } ∧ Cg tag (Fr 16) w (w.setCell ⟨y.gp, i, none⟩ (.bool u)) := by
  have hc : Cg tag (fun s => s = (12, 0)) w (w.setCell ⟨y.gp, i, none⟩ (.bool u)) := cg_store (by show tag y.gp = _; exact h.pha.tg) _
  refine ⟨?_, hc.mono_ fun t e => by subst e; exact ⟨by decide, by decide⟩⟩
  exact {
    blk := h.blk.tchg h.tp hc (by simp)
    tp := h.tp
    hdr := h.hdr.chg hc (by simp)
    cls := fun k x u hx hu => (h.cls k x u hx hu).chg hc (by simp)
    whd := h.whd.chg hc (by simp)
    wts := fun i u hu => (h.wts i u hu).chg hc (by simp)
    val := h.val.chg hc (by simp)
    lev := h.lev.chg hc (by simp)
    rea := h.rea.chg hc (by simp)
    trl := h.trl.chg hc (by simp)
    lim := h.lim.chg hc (by simp)
    sco := h.sco.chg hc (by simp)
    pha := by rw [← bool_set]; exact h.pha.set_ i _
    hea := h.hea.chg hc (by simp)
    pla := h.pla.chg hc (by simp)
    prf := h.prf.chg hc (by simp)
    prc := fun k x u hx hu => (h.prc k x u hx hu).chg hc (by simp)
    rlen := h.rlen
    wlen := h.wlen
    vl := h.vl
    ll := h.ll
    rl := h.rl
    sl := h.sl
    phl := by show (List.set _ _ _).length = _; rw [List.length_set]; exact h.phl
    pll := h.pll
    plen := h.plen
  }
theorem Slv.setSco (h : Slv w tag p V y s) (i : Nat) (u : Nat) : Slv (w.setCell ⟨y.gs, i, none⟩ (.float .f64 u)) tag p V y { s with sc := s.sc.set i u } ∧ Cg tag (Fr 16) w (w.setCell ⟨y.gs, i, none⟩ (.float .f64 u)) := by
  have hc : Cg tag (fun s => s = (11, 0)) w (w.setCell ⟨y.gs, i, none⟩ (.float .f64 u)) := cg_store (by show tag y.gs = _; exact h.sco.tg) _
  refine ⟨?_, hc.mono_ fun t e => by subst e; exact ⟨by decide, by decide⟩⟩
  exact {
    blk := h.blk.tchg h.tp hc (by simp)
    tp := h.tp
    hdr := h.hdr.chg hc (by simp)
    cls := fun k x u hx hu => (h.cls k x u hx hu).chg hc (by simp)
    whd := h.whd.chg hc (by simp)
    wts := fun i u hu => (h.wts i u hu).chg hc (by simp)
    val := h.val.chg hc (by simp)
    lev := h.lev.chg hc (by simp)
    rea := h.rea.chg hc (by simp)
    trl := h.trl.chg hc (by simp)
    lim := h.lim.chg hc (by simp)
    sco := by rw [← f_set]; exact h.sco.set_ i _
    pha := h.pha.chg hc (by simp)
    hea := h.hea.chg hc (by simp)
    pla := h.pla.chg hc (by simp)
    prf := h.prf.chg hc (by simp)
    prc := fun k x u hx hu => (h.prc k x u hx hu).chg hc (by simp)
    rlen := h.rlen
    wlen := h.wlen
    vl := h.vl
    ll := h.ll
    rl := h.rl
    sl := by show (List.set _ _ _).length = _; rw [List.length_set]; exact h.sl
    phl := h.phl
    pll := h.pll
    plen := h.plen
  }
theorem Slv.setPla (h : Slv w tag p V y s) (i : Nat) (u : Int) : Slv (w.setCell ⟨y.gP, i, none⟩ (.int .i64 u)) tag p V y { s with pl := s.pl.set i u } ∧ Cg tag (Fr 16) w (w.setCell ⟨y.gP, i, none⟩ (.int .i64 u)) := by
  have hc : Cg tag (fun s => s = (14, 0)) w (w.setCell ⟨y.gP, i, none⟩ (.int .i64 u)) := cg_store (by show tag y.gP = _; exact h.pla.tg) _
  refine ⟨?_, hc.mono_ fun t e => by subst e; exact ⟨by decide, by decide⟩⟩
  exact {
    blk := h.blk.tchg h.tp hc (by simp)
    tp := h.tp
    hdr := h.hdr.chg hc (by simp)
    cls := fun k x u hx hu => (h.cls k x u hx hu).chg hc (by simp)
    whd := h.whd.chg hc (by simp)
    wts := fun i u hu => (h.wts i u hu).chg hc (by simp)
    val := h.val.chg hc (by simp)
    lev := h.lev.chg hc (by simp)
    rea := h.rea.chg hc (by simp)
    trl := h.trl.chg hc (by simp)
    lim := h.lim.chg hc (by simp)
    sco := h.sco.chg hc (by simp)
    pha := h.pha.chg hc (by simp)
    hea := h.hea.chg hc (by simp)
    pla := by rw [← lit_set]; exact h.pla.set_ i _
    prf := h.prf.chg hc (by simp)
    prc := fun k x u hx hu => (h.prc k x u hx hu).chg hc (by simp)
    rlen := h.rlen
    wlen := h.wlen
    vl := h.vl
    ll := h.ll
    rl := h.rl
    sl := h.sl
    phl := h.phl
    pll := by show (List.set _ _ _).length = _; rw [List.length_set]; exact h.pll
    plen := h.plen
  }
/-- the head -/
theorem Slv.setHd (h : Slv w tag p V y s) (k : Nat) : Slv (w.setCell ⟨p, 8, none⟩ (.int .i64 (k : Nat))) tag p V y { s with hd := k } ∧ Cg tag (Fr 16) w (w.setCell ⟨p, 8, none⟩ (.int .i64 (k : Nat))) := by
  have hc : Cg tag (fun s => s = (1, 0)) w (w.setCell ⟨p, 8, none⟩ (.int .i64 (k : Nat))) := cg_store (by show tag p = _; exact h.tp) _
  refine ⟨?_, hc.mono_ fun t e => by subst e; exact ⟨by decide, by decide⟩⟩
  exact {
    blk := h.blk.set_ 8 _
    tp := h.tp
    hdr := h.hdr.chg hc (by simp)
    cls := fun k x u hx hu => (h.cls k x u hx hu).chg hc (by simp)
    whd := h.whd.chg hc (by simp)
    wts := fun i u hu => (h.wts i u hu).chg hc (by simp)
    val := h.val.chg hc (by simp)
    lev := h.lev.chg hc (by simp)
    rea := h.rea.chg hc (by simp)
    trl := h.trl.chg hc (by simp)
    lim := h.lim.chg hc (by simp)
    sco := h.sco.chg hc (by simp)
    pha := h.pha.chg hc (by simp)
    hea := h.hea.chg hc (by simp)
    pla := h.pla.chg hc (by simp)
    prf := h.prf.chg hc (by simp)
    prc := fun k x u hx hu => (h.prc k x u hx hu).chg hc (by simp)
    rlen := h.rlen
    wlen := h.wlen
    vl := h.vl
    ll := h.ll
    rl := h.rl
    sl := h.sl
    phl := h.phl
    pll := h.pll
    plen := h.plen
  }
/-- the step -/
theorem Slv.setGr (h : Slv w tag p V y s) (g : Nat) : Slv (w.setCell ⟨p, 10, none⟩ (.float .f64 g)) tag p V y { s with gr := g } ∧ Cg tag (Fr 16) w (w.setCell ⟨p, 10, none⟩ (.float .f64 g)) := by
  have hc : Cg tag (fun s => s = (1, 0)) w (w.setCell ⟨p, 10, none⟩ (.float .f64 g)) := cg_store (by show tag p = _; exact h.tp) _
  refine ⟨?_, hc.mono_ fun t e => by subst e; exact ⟨by decide, by decide⟩⟩
  exact {
    blk := h.blk.set_ 10 _
    tp := h.tp
    hdr := h.hdr.chg hc (by simp)
    cls := fun k x u hx hu => (h.cls k x u hx hu).chg hc (by simp)
    whd := h.whd.chg hc (by simp)
    wts := fun i u hu => (h.wts i u hu).chg hc (by simp)
    val := h.val.chg hc (by simp)
    lev := h.lev.chg hc (by simp)
    rea := h.rea.chg hc (by simp)
    trl := h.trl.chg hc (by simp)
    lim := h.lim.chg hc (by simp)
    sco := h.sco.chg hc (by simp)
    pha := h.pha.chg hc (by simp)
    hea := h.hea.chg hc (by simp)
    pla := h.pla.chg hc (by simp)
    prf := h.prf.chg hc (by simp)
    prc := fun k x u hx hu => (h.prc k x u hx hu).chg hc (by simp)
    rlen := h.rlen
    wlen := h.wlen
    vl := h.vl
    ll := h.ll
    rl := h.rl
    sl := h.sl
    phl := h.phl
    pll := h.pll
    plen := h.plen
  }
/-- dead -/
theorem Slv.setDead (h : Slv w tag p V y s) (b : Bool) : Slv (w.setCell ⟨p, 15, none⟩ (.bool b)) tag p V y { s with dead := b } ∧ Cg tag (Fr 16) w (w.setCell ⟨p, 15, none⟩ (.bool b)) := by
  have hc : Cg tag (fun s => s = (1, 0)) w (w.setCell ⟨p, 15, none⟩ (.bool b)) := cg_store (by show tag p = _; exact h.tp) _
  refine ⟨?_, hc.mono_ fun t e => by subst e; exact ⟨by decide, by decide⟩⟩
  exact {
    blk := h.blk.set_ 15 _
    tp := h.tp
    hdr := h.hdr.chg hc (by simp)
    cls := fun k x u hx hu => (h.cls k x u hx hu).chg hc (by simp)
    whd := h.whd.chg hc (by simp)
    wts := fun i u hu => (h.wts i u hu).chg hc (by simp)
    val := h.val.chg hc (by simp)
    lev := h.lev.chg hc (by simp)
    rea := h.rea.chg hc (by simp)
    trl := h.trl.chg hc (by simp)
    lim := h.lim.chg hc (by simp)
    sco := h.sco.chg hc (by simp)
    pha := h.pha.chg hc (by simp)
    hea := h.hea.chg hc (by simp)
    pla := h.pla.chg hc (by simp)
    prf := h.prf.chg hc (by simp)
    prc := fun k x u hx hu => (h.prc k x u hx hu).chg hc (by simp)
    rlen := h.rlen
    wlen := h.wlen
    vl := h.vl
    ll := h.ll
    rl := h.rl
    sl := h.sl
    phl := h.phl
    pll := h.pll
    plen := h.plen
  }
/-- the trail has grown -/
theorem Slv.trail {A : Option Addr} {n c : Nat} {l' : List Int} (h : Slv w tag p V y s) (ho : w'.ownsRow 0 3 1 (.slice A n c) n (litVals l')) (hl : l'.length = n) (hg : w.grownBy w' y.vt.ownBlock)
    (hloc : (Value.slice A n c).ownBlock = y.vt.ownBlock ∨ (Value.slice A n c).ownBlock = some w.heap.size) :
    ∃ tag', Re w tag tag' ∧ Cg tag (Fr 16) w (w'.setCell ⟨p, 6, none⟩ (.slice A n c)) ∧ Slv (w'.setCell ⟨p, 6, none⟩ (.slice A n c)) tag' p V { y with vt := .slice A n c } { s with tr := l' } := by
  obtain ⟨tag', hr, hrow, hc⟩ := h.trl.grown ho (by rw [litVals_len]; exact hl) hg hloc
  have hp' : tag' p = (1, 0) := (hr _ h.blk.lt).trans h.tp
  have hc' := hc.re_ hr
  have h' := h.re hr
  have hk : Cg tag' (fun s => s = (1, 0)) w' (w'.setCell ⟨p, 6, none⟩ (.slice A n c)) := cg_store (by show tag' p = _; exact hp') _
  refine ⟨tag', hr, (hc.mono_ (S' := Fr 16) fun t e => by subst e; exact ⟨by decide, by decide⟩).trans_ (hk.mono_ (S' := Fr 16) fun t e => by subst e; exact ⟨by decide, by decide⟩) hr, ?_⟩
  exact {
    blk := (h'.blk.tchg h'.tp hc' (by simp)).set_ 6 _
    tp := hp'
    hdr := (h'.hdr.chg hc' (by simp)).chg hk (by simp)
    cls := fun k x u hx hu => ((h'.cls k x u hx hu).chg hc' (by simp)).chg hk (by simp)
    whd := (h'.whd.chg hc' (by simp)).chg hk (by simp)
    wts := fun i u hu => ((h'.wts i u hu).chg hc' (by simp)).chg hk (by simp)
    val := (h'.val.chg hc' (by simp)).chg hk (by simp)
    lev := (h'.lev.chg hc' (by simp)).chg hk (by simp)
    rea := (h'.rea.chg hc' (by simp)).chg hk (by simp)
    trl := hrow.chg hk (by simp)
    lim := (h'.lim.chg hc' (by simp)).chg hk (by simp)
    sco := (h'.sco.chg hc' (by simp)).chg hk (by simp)
    pha := (h'.pha.chg hc' (by simp)).chg hk (by simp)
    hea := (h'.hea.chg hc' (by simp)).chg hk (by simp)
    pla := (h'.pla.chg hc' (by simp)).chg hk (by simp)
    prf := (h'.prf.chg hc' (by simp)).chg hk (by simp)
    prc := fun k x u hx hu => ((h'.prc k x u hx hu).chg hc' (by simp)).chg hk (by simp)
    rlen := h'.rlen
    wlen := h'.wlen
    vl := h'.vl
    ll := h'.ll
    rl := h'.rl
    sl := h'.sl
    phl := h'.phl
    pll := h'.pll
    plen := h'.plen
  }
/-- a level more -/
theorem Slv.limit {A : Option Addr} {n c : Nat} {l' : List Nat} (h : Slv w tag p V y s) (ho : w'.ownsRow 0 3 1 (.slice A n c) n (kVals l')) (hl : l'.length = n) (hg : w.grownBy w' y.vL.ownBlock)
    (hloc : (Value.slice A n c).ownBlock = y.vL.ownBlock ∨ (Value.slice A n c).ownBlock = some w.heap.size) :
    ∃ tag', Re w tag tag' ∧ Cg tag (Fr 16) w (w'.setCell ⟨p, 7, none⟩ (.slice A n c)) ∧ Slv (w'.setCell ⟨p, 7, none⟩ (.slice A n c)) tag' p V { y with vL := .slice A n c } { s with lm := l' } := by
  obtain ⟨tag', hr, hrow, hc⟩ := h.lim.grown ho (by rw [kVals_len]; exact hl) hg hloc
  have hp' : tag' p = (1, 0) := (hr _ h.blk.lt).trans h.tp
  have hc' := hc.re_ hr
  have h' := h.re hr
  have hk : Cg tag' (fun s => s = (1, 0)) w' (w'.setCell ⟨p, 7, none⟩ (.slice A n c)) := cg_store (by show tag' p = _; exact hp') _
  refine ⟨tag', hr, (hc.mono_ (S' := Fr 16) fun t e => by subst e; exact ⟨by decide, by decide⟩).trans_ (hk.mono_ (S' := Fr 16) fun t e => by subst e; exact ⟨by decide, by decide⟩) hr, ?_⟩
  exact {
    blk := (h'.blk.tchg h'.tp hc' (by simp)).set_ 7 _
    tp := hp'
    hdr := (h'.hdr.chg hc' (by simp)).chg hk (by simp)
    cls := fun k x u hx hu => ((h'.cls k x u hx hu).chg hc' (by simp)).chg hk (by simp)
    whd := (h'.whd.chg hc' (by simp)).chg hk (by simp)
    wts := fun i u hu => ((h'.wts i u hu).chg hc' (by simp)).chg hk (by simp)
    val := (h'.val.chg hc' (by simp)).chg hk (by simp)
    lev := (h'.lev.chg hc' (by simp)).chg hk (by simp)
    rea := (h'.rea.chg hc' (by simp)).chg hk (by simp)
    trl := (h'.trl.chg hc' (by simp)).chg hk (by simp)
    lim := hrow.chg hk (by simp)
    sco := (h'.sco.chg hc' (by simp)).chg hk (by simp)
    pha := (h'.pha.chg hc' (by simp)).chg hk (by simp)
    hea := (h'.hea.chg hc' (by simp)).chg hk (by simp)
    pla := (h'.pla.chg hc' (by simp)).chg hk (by simp)
    prf := (h'.prf.chg hc' (by simp)).chg hk (by simp)
    prc := fun k x u hx hu => ((h'.prc k x u hx hu).chg hc' (by simp)).chg hk (by simp)
    rlen := h'.rlen
    wlen := h'.wlen
    vl := h'.vl
    ll := h'.ll
    rl := h'.rl
    sl := h'.sl
    phl := h'.phl
    pll := h'.pll
    plen := h'.plen
  }
/-- the heap has grown -/
theorem Slv.heapUp {A : Option Addr} {n c : Nat} {l' : List Nat} (h : Slv w tag p V y s) (ho : w'.ownsRow 0 3 1 (.slice A n c) n (kVals l')) (hl : l'.length = n) (hg : w.grownBy w' y.vh.ownBlock)
    (hloc : (Value.slice A n c).ownBlock = y.vh.ownBlock ∨ (Value.slice A n c).ownBlock = some w.heap.size) :
    ∃ tag', Re w tag tag' ∧ Cg tag (Fr 16) w (w'.setCell ⟨p, 12, none⟩ (.slice A n c)) ∧ Slv (w'.setCell ⟨p, 12, none⟩ (.slice A n c)) tag' p V { y with vh := .slice A n c } { s with hp := l' } := by
  obtain ⟨tag', hr, hrow, hc⟩ := h.hea.grown ho (by rw [kVals_len]; exact hl) hg hloc
  have hp' : tag' p = (1, 0) := (hr _ h.blk.lt).trans h.tp
  have hc' := hc.re_ hr
  have h' := h.re hr
  have hk : Cg tag' (fun s => s = (1, 0)) w' (w'.setCell ⟨p, 12, none⟩ (.slice A n c)) := cg_store (by show tag' p = _; exact hp') _
  refine ⟨tag', hr, (hc.mono_ (S' := Fr 16) fun t e => by subst e; exact ⟨by decide, by decide⟩).trans_ (hk.mono_ (S' := Fr 16) fun t e => by subst e; exact ⟨by decide, by decide⟩) hr, ?_⟩
  exact {
    blk := (h'.blk.tchg h'.tp hc' (by simp)).set_ 12 _
    tp := hp'
    hdr := (h'.hdr.chg hc' (by simp)).chg hk (by simp)
    cls := fun k x u hx hu => ((h'.cls k x u hx hu).chg hc' (by simp)).chg hk (by simp)
    whd := (h'.whd.chg hc' (by simp)).chg hk (by simp)
    wts := fun i u hu => ((h'.wts i u hu).chg hc' (by simp)).chg hk (by simp)
    val := (h'.val.chg hc' (by simp)).chg hk (by simp)
    lev := (h'.lev.chg hc' (by simp)).chg hk (by simp)
    rea := (h'.rea.chg hc' (by simp)).chg hk (by simp)
    trl := (h'.trl.chg hc' (by simp)).chg hk (by simp)
    lim := (h'.lim.chg hc' (by simp)).chg hk (by simp)
    sco := (h'.sco.chg hc' (by simp)).chg hk (by simp)
    pha := (h'.pha.chg hc' (by simp)).chg hk (by simp)
    hea := hrow.chg hk (by simp)
    pla := (h'.pla.chg hc' (by simp)).chg hk (by simp)
    prf := (h'.prf.chg hc' (by simp)).chg hk (by simp)
    prc := fun k x u hx hu => ((h'.prc k x u hx hu).chg hc' (by simp)).chg hk (by simp)
    rlen := h'.rlen
    wlen := h'.wlen
    vl := h'.vl
    ll := h'.ll
    rl := h'.rl
    sl := h'.sl
    phl := h'.phl
    pll := h'.pll
    plen := h'.plen
  }
/-- the heap is cut -/
theorem Slv.cutHeap {A : Option Addr} {n c : Nat} (h : Slv w tag p V y s) (hv : y.vh = .slice A s.hp.length c) (hn : n ≤ s.hp.length) : Slv (w.setCell ⟨p, 12, none⟩ (.slice A n c)) tag p V { y with vh := .slice A n c } { s with hp := s.hp.take n } ∧ Cg tag (Fr 16) w (w.setCell ⟨p, 12, none⟩ (.slice A n c)) := by
  have hc : Cg tag (fun s => s = (1, 0)) w (w.setCell ⟨p, 12, none⟩ (.slice A n c)) := cg_store (by show tag p = _; exact h.tp) _
  have h0 := h.hea
  rw [hv] at h0
  have ht := Row.cut (A := A) (c := c) (n := n) (xs := kVals s.hp) (by rw [kVals_len]; exact h0) (by rw [kVals_len]; exact hn)
  have e : (kVals s.hp).take n = kVals (s.hp.take n) := by unfold kVals; rw [List.map_take]
  rw [e] at ht
  refine ⟨?_, hc.mono_ fun t e => by subst e; exact ⟨by decide, by decide⟩⟩
  exact {
    blk := h.blk.set_ 12 _
    tp := h.tp
    hdr := h.hdr.chg hc (by simp)
    cls := fun k x u hx hu => (h.cls k x u hx hu).chg hc (by simp)
    whd := h.whd.chg hc (by simp)
    wts := fun i u hu => (h.wts i u hu).chg hc (by simp)
    val := h.val.chg hc (by simp)
    lev := h.lev.chg hc (by simp)
    rea := h.rea.chg hc (by simp)
    trl := h.trl.chg hc (by simp)
    lim := h.lim.chg hc (by simp)
    sco := h.sco.chg hc (by simp)
    pha := h.pha.chg hc (by simp)
    hea := ht.chg hc (by simp)
    pla := h.pla.chg hc (by simp)
    prf := h.prf.chg hc (by simp)
    prc := fun k x u hx hu => (h.prc k x u hx hu).chg hc (by simp)
    rlen := h.rlen
    wlen := h.wlen
    vl := h.vl
    ll := h.ll
    rl := h.rl
    sl := h.sl
    phl := h.phl
    pll := h.pll
    plen := h.plen
  }
/-- the trail is cut -/
theorem Slv.cutTrail {A : Option Addr} {n c : Nat} (h : Slv w tag p V y s) (hv : y.vt = .slice A s.tr.length c) (hn : n ≤ s.tr.length) : Slv (w.setCell ⟨p, 6, none⟩ (.slice A n c)) tag p V { y with vt := .slice A n c } { s with tr := s.tr.take n } ∧ Cg tag (Fr 16) w (w.setCell ⟨p, 6, none⟩ (.slice A n c)) := by
  have hc : Cg tag (fun s => s = (1, 0)) w (w.setCell ⟨p, 6, none⟩ (.slice A n c)) := cg_store (by show tag p = _; exact h.tp) _
  have h0 := h.trl
  rw [hv] at h0
  have ht := Row.cut (A := A) (c := c) (n := n) (xs := litVals s.tr) (by rw [litVals_len]; exact h0) (by rw [litVals_len]; exact hn)
  have e : (litVals s.tr).take n = litVals (s.tr.take n) := by unfold litVals; rw [List.map_take]
  rw [e] at ht
  refine ⟨?_, hc.mono_ fun t e => by subst e; exact ⟨by decide, by decide⟩⟩
  exact {
    blk := h.blk.set_ 6 _
    tp := h.tp
    hdr := h.hdr.chg hc (by simp)
    cls := fun k x u hx hu => (h.cls k x u hx hu).chg hc (by simp)
    whd := h.whd.chg hc (by simp)
    wts := fun i u hu => (h.wts i u hu).chg hc (by simp)
    val := h.val.chg hc (by simp)
    lev := h.lev.chg hc (by simp)
    rea := h.rea.chg hc (by simp)
    trl := ht.chg hc (by simp)
    lim := h.lim.chg hc (by simp)
    sco := h.sco.chg hc (by simp)
    pha := h.pha.chg hc (by simp)
    hea := h.hea.chg hc (by simp)
    pla := h.pla.chg hc (by simp)
    prf := h.prf.chg hc (by simp)
    prc := fun k x u hx hu => (h.prc k x u hx hu).chg hc (by simp)
    rlen := h.rlen
    wlen := h.wlen
    vl := h.vl
    ll := h.ll
    rl := h.rl
    sl := h.sl
    phl := h.phl
    pll := h.pll
    plen := h.plen
  }
/-- the levels are cut -/
theorem Slv.cutLimits {A : Option Addr} {n c : Nat} (h : Slv w tag p V y s) (hv : y.vL = .slice A s.lm.length c) (hn : n ≤ s.lm.length) : Slv (w.setCell ⟨p, 7, none⟩ (.slice A n c)) tag p V { y with vL := .slice A n c } { s with lm := s.lm.take n } ∧ Cg tag (Fr 16) w (w.setCell ⟨p, 7, none⟩ (.slice A n c)) := by
  have hc : Cg tag (fun s => s = (1, 0)) w (w.setCell ⟨p, 7, none⟩ (.slice A n c)) := cg_store (by show tag p = _; exact h.tp) _
  have h0 := h.lim
  rw [hv] at h0
  have ht := Row.cut (A := A) (c := c) (n := n) (xs := kVals s.lm) (by rw [kVals_len]; exact h0) (by rw [kVals_len]; exact hn)
  have e : (kVals s.lm).take n = kVals (s.lm.take n) := by unfold kVals; rw [List.map_take]
  rw [e] at ht
  refine ⟨?_, hc.mono_ fun t e => by subst e; exact ⟨by decide, by decide⟩⟩
  exact {
    blk := h.blk.set_ 7 _
    tp := h.tp
    hdr := h.hdr.chg hc (by simp)
    cls := fun k x u hx hu => (h.cls k x u hx hu).chg hc (by simp)
    whd := h.whd.chg hc (by simp)
    wts := fun i u hu => (h.wts i u hu).chg hc (by simp)
    val := h.val.chg hc (by simp)
    lev := h.lev.chg hc (by simp)
    rea := h.rea.chg hc (by simp)
    trl := h.trl.chg hc (by simp)
    lim := ht.chg hc (by simp)
    sco := h.sco.chg hc (by simp)
    pha := h.pha.chg hc (by simp)
    hea := h.hea.chg hc (by simp)
    pla := h.pla.chg hc (by simp)
    prf := h.prf.chg hc (by simp)
    prc := fun k x u hx hu => (h.prc k x u hx hu).chg hc (by simp)
    rlen := h.rlen
    wlen := h.wlen
    vl := h.vl
    ll := h.ll
    rl := h.rl
    sl := h.sl
    phl := h.phl
    pll := h.pll
    plen := h.plen
  }
/-- a place of the heap -/
theorem Slv.setHeap {g c m : Nat} (h : Slv w tag p V y s) (hv : y.vh = .slice (some ⟨g, 0, none⟩) m c) (hm : s.hp.length = m) (i k : Nat) : Slv (w.setCell ⟨g, i, none⟩ (.int .i64 (k : Nat))) tag p V y { s with hp := s.hp.set i k } ∧ Cg tag (Fr 16) w (w.setCell ⟨g, i, none⟩ (.int .i64 (k : Nat))) := by
  subst hm
  have h0 := h.hea
  rw [hv] at h0
  have hc : Cg tag (fun s => s = (13, 0)) w (w.setCell ⟨g, i, none⟩ (.int .i64 (k : Nat))) := cg_store (by show tag g = _; exact h0.tg g rfl) _
  have h1 : Row w tag (13, 0) 0 3 (.slice (some ⟨g, 0, none⟩) (kVals s.hp).length c) (kVals s.hp) := by rw [kVals_len]; exact h0
  have h2 := h1.set_ i (.int .i64 (k : Nat))
  have e : (kVals s.hp).set i (.int .i64 (k : Nat)) = kVals (s.hp.set i k) := by unfold kVals; rw [List.map_set]
  rw [e, kVals_len, ← hv] at h2
  refine ⟨?_, hc.mono_ fun t e => by subst e; exact ⟨by decide, by decide⟩⟩
  exact {
    blk := h.blk.tchg h.tp hc (by simp)
    tp := h.tp
    hdr := h.hdr.chg hc (by simp)
    cls := fun k x u hx hu => (h.cls k x u hx hu).chg hc (by simp)
    whd := h.whd.chg hc (by simp)
    wts := fun i u hu => (h.wts i u hu).chg hc (by simp)
    val := h.val.chg hc (by simp)
    lev := h.lev.chg hc (by simp)
    rea := h.rea.chg hc (by simp)
    trl := h.trl.chg hc (by simp)
    lim := h.lim.chg hc (by simp)
    sco := h.sco.chg hc (by simp)
    pha := h.pha.chg hc (by simp)
    hea := h2
    pla := h.pla.chg hc (by simp)
    prf := h.prf.chg hc (by simp)
    prc := fun k x u hx hu => (h.prc k x u hx hu).chg hc (by simp)
    rlen := h.rlen
    wlen := h.wlen
    vl := h.vl
    ll := h.ll
    rl := h.rl
    sl := h.sl
    phl := h.phl
    pll := h.pll
    plen := h.plen
  }
/-- a row of watchers -/
theorem Slv.setW {v : Value} {l : List Nat} (h : Slv w tag p V y s) (i : Nat) (hr : Row w tag (5, (i : Int)) 0 3 v (kVals l)) : Slv (w.setCell ⟨y.gw, i, none⟩ v) tag p V { y with wrows := y.wrows.set i v } { s with wt := fun j => if j = i then l else s.wt j } ∧ Cg tag (Fr 16) w (w.setCell ⟨y.gw, i, none⟩ v) := by
  have hc : Cg tag (fun s => s = (4, 0)) w (w.setCell ⟨y.gw, i, none⟩ v) := cg_store (by show tag y.gw = _; exact h.whd.tg) _
  refine ⟨?_, hc.mono_ fun t e => by subst e; exact ⟨by decide, by decide⟩⟩
  exact {
    blk := h.blk.tchg h.tp hc (by simp)
    tp := h.tp
    hdr := h.hdr.chg hc (by simp)
    cls := fun k x u hx hu => (h.cls k x u hx hu).chg hc (by simp)
    whd := h.whd.set_ i v
    wts := fun j u hu => by
        show Row _ tag (5, (j : Int)) 0 3 u (kVals (if j = i then l else s.wt j))
        have hu : (y.wrows.set i v)[j]? = some u := hu
        rw [List.getElem?_set] at hu
        by_cases e : i = j
        · subst e
          rw [if_pos rfl] at hu
          split at hu
          · injection hu with hu; subst hu; rw [if_pos rfl]; exact hr.chg hc (by simp)
          · cases hu
        · rw [if_neg e] at hu
          rw [if_neg (fun e2 => e e2.symm)]
          exact (h.wts j u hu).chg hc (by simp)
    val := h.val.chg hc (by simp)
    lev := h.lev.chg hc (by simp)
    rea := h.rea.chg hc (by simp)
    trl := h.trl.chg hc (by simp)
    lim := h.lim.chg hc (by simp)
    sco := h.sco.chg hc (by simp)
    pha := h.pha.chg hc (by simp)
    hea := h.hea.chg hc (by simp)
    pla := h.pla.chg hc (by simp)
    prf := h.prf.chg hc (by simp)
    prc := fun k x u hx hu => (h.prc k x u hx hu).chg hc (by simp)
    rlen := h.rlen
    wlen := by show (List.set _ _ _).length = _; rw [List.length_set]; exact h.wlen
    vl := h.vl
    ll := h.ll
    rl := h.rl
    sl := h.sl
    phl := h.phl
    pll := h.pll
    plen := h.plen
  }
/-- a clause more -/
theorem Slv.attachX {A : Option Addr} {n c : Nat} {x : List Int} {u : Value} (h : Slv w tag p V y s) (hx : Row w tag (3, (s.xs.length : Int)) 0 3 u (litVals x)) (ho : w'.ownsRow 0 25 1 (.slice A n c) n (y.rows ++ [u])) (hl : s.xs.length + 1 = n) (hg : w.grownBy w' y.vC.ownBlock)
    (hloc : (Value.slice A n c).ownBlock = y.vC.ownBlock ∨ (Value.slice A n c).ownBlock = some w.heap.size) :
    ∃ tag', Re w tag tag' ∧ Cg tag (Fr 16) w (w'.setCell ⟨p, 1, none⟩ (.slice A n c)) ∧ Slv (w'.setCell ⟨p, 1, none⟩ (.slice A n c)) tag' p V { y with vC := .slice A n c, rows := y.rows ++ [u] } { s with xs := s.xs ++ [x] } := by
  obtain ⟨tag', hr, hrow, hc⟩ := h.hdr.grown ho (by rw [List.length_append, h.rlen]; exact hl) hg hloc
  have hp' : tag' p = (1, 0) := (hr _ h.blk.lt).trans h.tp
  have hc' := hc.re_ hr
  have h' := h.re hr
  have hx' := hx.re hr
  have hk : Cg tag' (fun s => s = (1, 0)) w' (w'.setCell ⟨p, 1, none⟩ (.slice A n c)) := cg_store (by show tag' p = _; exact hp') _
  refine ⟨tag', hr, (hc.mono_ (S' := Fr 16) fun t e => by subst e; exact ⟨by decide, by decide⟩).trans_ (hk.mono_ (S' := Fr 16) fun t e => by subst e; exact ⟨by decide, by decide⟩) hr, ?_⟩
  exact {
    blk := (h'.blk.tchg h'.tp hc' (by simp)).set_ 1 _
    tp := hp'
    hdr := hrow.chg hk (by simp)
    cls := fun k z v hz hv => by
        have hz : (s.xs ++ [x])[k]? = some z := hz
        have hv : (y.rows ++ [u])[k]? = some v := hv
        have key : Row w tag' (3, (k : Int)) 0 3 v (litVals z) := by
          rcases Nat.lt_or_ge k s.xs.length with hk1 | hk1
          · rw [List.getElem?_append_left hk1] at hz
            rw [List.getElem?_append_left (by rw [h.rlen]; exact hk1)] at hv
            exact h'.cls k z v hz hv
          · have hlt : k < (s.xs ++ [x]).length := (List.getElem?_eq_some_iff.1 hz).1
            rw [List.length_append, List.length_singleton] at hlt
            obtain rfl : k = s.xs.length := by omega
            rw [List.getElem?_append_right (Nat.le_refl _), Nat.sub_self] at hz
            rw [List.getElem?_append_right (by rw [h.rlen]; exact Nat.le_refl _), h.rlen, Nat.sub_self] at hv
            injection hz with hz; injection hv with hv
            subst hz; subst hv
            exact hx'
        exact (key.chg hc' (by simp)).chg hk (by simp)
    whd := (h'.whd.chg hc' (by simp)).chg hk (by simp)
    wts := fun i u hu => ((h'.wts i u hu).chg hc' (by simp)).chg hk (by simp)
    val := (h'.val.chg hc' (by simp)).chg hk (by simp)
    lev := (h'.lev.chg hc' (by simp)).chg hk (by simp)
    rea := (h'.rea.chg hc' (by simp)).chg hk (by simp)
    trl := (h'.trl.chg hc' (by simp)).chg hk (by simp)
    lim := (h'.lim.chg hc' (by simp)).chg hk (by simp)
    sco := (h'.sco.chg hc' (by simp)).chg hk (by simp)
    pha := (h'.pha.chg hc' (by simp)).chg hk (by simp)
    hea := (h'.hea.chg hc' (by simp)).chg hk (by simp)
    pla := (h'.pla.chg hc' (by simp)).chg hk (by simp)
    prf := (h'.prf.chg hc' (by simp)).chg hk (by simp)
    prc := fun k x u hx hu => ((h'.prc k x u hx hu).chg hc' (by simp)).chg hk (by simp)
    rlen := by show (y.rows ++ [u]).length = (s.xs ++ [x]).length; rw [List.length_append, List.length_append, h.rlen]; rfl
    wlen := h'.wlen
    vl := h'.vl
    ll := h'.ll
    rl := h'.rl
    sl := h'.sl
    phl := h'.phl
    pll := h'.pll
    plen := h'.plen
  }
/-- a clause of the proof -/
theorem Slv.proofX {A : Option Addr} {n c : Nat} {x : List Int} {u : Value} (h : Slv w tag p V y s) (hx : Row w tag (16, (s.pf.length : Int)) 0 3 u (litVals x)) (ho : w'.ownsRow 0 26 1 (.slice A n c) n (y.prows ++ [u])) (hl : s.pf.length + 1 = n) (hg : w.grownBy w' y.vP.ownBlock)
    (hloc : (Value.slice A n c).ownBlock = y.vP.ownBlock ∨ (Value.slice A n c).ownBlock = some w.heap.size) :
    ∃ tag', Re w tag tag' ∧ Cg tag (Fr 16) w (w'.setCell ⟨p, 14, none⟩ (.slice A n c)) ∧ Slv (w'.setCell ⟨p, 14, none⟩ (.slice A n c)) tag' p V { y with vP := .slice A n c, prows := y.prows ++ [u] } { s with pf := s.pf ++ [x] } := by
  obtain ⟨tag', hr, hrow, hc⟩ := h.prf.grown ho (by rw [List.length_append, h.plen]; exact hl) hg hloc
  have hp' : tag' p = (1, 0) := (hr _ h.blk.lt).trans h.tp
  have hc' := hc.re_ hr
  have h' := h.re hr
  have hx' := hx.re hr
  have hk : Cg tag' (fun s => s = (1, 0)) w' (w'.setCell ⟨p, 14, none⟩ (.slice A n c)) := cg_store (by show tag' p = _; exact hp') _
  refine ⟨tag', hr, (hc.mono_ (S' := Fr 16) fun t e => by subst e; exact ⟨by decide, by decide⟩).trans_ (hk.mono_ (S' := Fr 16) fun t e => by subst e; exact ⟨by decide, by decide⟩) hr, ?_⟩
  exact {
    blk := (h'.blk.tchg h'.tp hc' (by simp)).set_ 14 _
    tp := hp'
    hdr := (h'.hdr.chg hc' (by simp)).chg hk (by simp)
    cls := fun k x u hx hu => ((h'.cls k x u hx hu).chg hc' (by simp)).chg hk (by simp)
    whd := (h'.whd.chg hc' (by simp)).chg hk (by simp)
    wts := fun i u hu => ((h'.wts i u hu).chg hc' (by simp)).chg hk (by simp)
    val := (h'.val.chg hc' (by simp)).chg hk (by simp)
    lev := (h'.lev.chg hc' (by simp)).chg hk (by simp)
    rea := (h'.rea.chg hc' (by simp)).chg hk (by simp)
    trl := (h'.trl.chg hc' (by simp)).chg hk (by simp)
    lim := (h'.lim.chg hc' (by simp)).chg hk (by simp)
    sco := (h'.sco.chg hc' (by simp)).chg hk (by simp)
    pha := (h'.pha.chg hc' (by simp)).chg hk (by simp)
    hea := (h'.hea.chg hc' (by simp)).chg hk (by simp)
    pla := (h'.pla.chg hc' (by simp)).chg hk (by simp)
    prf := hrow.chg hk (by simp)
    prc := fun k z v hz hv => by
        have hz : (s.pf ++ [x])[k]? = some z := hz
        have hv : (y.prows ++ [u])[k]? = some v := hv
        have key : Row w tag' (16, (k : Int)) 0 3 v (litVals z) := by
          rcases Nat.lt_or_ge k s.pf.length with hk1 | hk1
          · rw [List.getElem?_append_left hk1] at hz
            rw [List.getElem?_append_left (by rw [h.plen]; exact hk1)] at hv
            exact h'.prc k z v hz hv
          · have hlt : k < (s.pf ++ [x]).length := (List.getElem?_eq_some_iff.1 hz).1
            rw [List.length_append, List.length_singleton] at hlt
            obtain rfl : k = s.pf.length := by omega
            rw [List.getElem?_append_right (Nat.le_refl _), Nat.sub_self] at hz
            rw [List.getElem?_append_right (by rw [h.plen]; exact Nat.le_refl _), h.plen, Nat.sub_self] at hv
            injection hz with hz; injection hv with hv
            subst hz; subst hv
            exact hx'
        exact (key.chg hc' (by simp)).chg hk (by simp)
    rlen := h'.rlen
    wlen := h'.wlen
    vl := h'.vl
    ll := h'.ll
    rl := h'.rl
    sl := h'.sl
    phl := h'.phl
    pll := h'.pll
    plen := by show (y.prows ++ [u]).length = (s.pf ++ [x]).length; rw [List.length_append, List.length_append, h.plen]; rfl
  }
/-- a number of a clause -/
theorem Slv.setX {k g m c : Nat} {x : List Int} (h : Slv w tag p V y s) (hx : s.xs[k]? = some x) (hu : y.rows[k]? = some (.slice (some ⟨g, 0, none⟩) m c)) (hm : x.length = m) (i : Nat) (z : Int) :
    Slv (w.setCell ⟨g, i, none⟩ (.int .i64 z)) tag p V y { s with xs := s.xs.set k (x.set i z) } ∧ Cg tag (Fr 16) w (w.setCell ⟨g, i, none⟩ (.int .i64 z)) := by
  subst hm
  have h0 := h.cls k x _ hx hu
  have ht : tag g = (3, (k : Int)) := h0.tg g rfl
  have hc : Cg tag (fun s => s = (3, (k : Int))) w (w.setCell ⟨g, i, none⟩ (.int .i64 z)) := cg_store (by show tag g = _; exact ht) _
  have h1 : Row w tag (3, (k : Int)) 0 3 (.slice (some ⟨g, 0, none⟩) (litVals x).length c) (litVals x) := by rw [litVals_len]; exact h0
  have h2 := h1.set_ i (.int .i64 z)
  rw [lit_set, litVals_len] at h2
  refine ⟨?_, hc.mono_ fun t e => by subst e; exact ⟨by show 1 ≤ 3; decide, by show 3 ≤ 16; decide⟩⟩
  exact {
    blk := h.blk.tchg h.tp hc (by simp)
    tp := h.tp
    hdr := h.hdr.chg hc (by simp)
    cls := fun q z' u hz hu2 => by
        have hz : (s.xs.set k (x.set i z))[q]? = some z' := hz
        rw [List.getElem?_set] at hz
        by_cases e : k = q
        · subst e
          rw [if_pos rfl] at hz
          split at hz
          · injection hz with hz
            subst hz
            rw [hu] at hu2
            injection hu2 with hu2
            subst hu2
            exact h2
          · cases hz
        · rw [if_neg e] at hz
          exact (h.cls q z' u hz hu2).chg hc (by simp; omega)
    whd := h.whd.chg hc (by simp)
    wts := fun i u hu => (h.wts i u hu).chg hc (by simp)
    val := h.val.chg hc (by simp)
    lev := h.lev.chg hc (by simp)
    rea := h.rea.chg hc (by simp)
    trl := h.trl.chg hc (by simp)
    lim := h.lim.chg hc (by simp)
    sco := h.sco.chg hc (by simp)
    pha := h.pha.chg hc (by simp)
    hea := h.hea.chg hc (by simp)
    pla := h.pla.chg hc (by simp)
    prf := h.prf.chg hc (by simp)
    prc := fun k x u hx hu => (h.prc k x u hx hu).chg hc (by simp)
    rlen := by show _ = (List.set _ _ _).length; rw [List.length_set]; exact h.rlen
    wlen := h.wlen
    vl := h.vl
    ll := h.ll
    rl := h.rl
    sl := h.sl
    phl := h.phl
    pll := h.pll
    plen := h.plen
  }
/-- a row of watchers has grown -/
theorem Slv.pushW {A : Option Addr} {n c i : Nat} {l' : List Nat} {u0 : Value} (h : Slv w tag p V y s) (hu0 : y.wrows[i]? = some u0) (ho : w'.ownsRow 0 3 1 (.slice A n c) n (kVals l')) (hl : l'.length = n) (hg : w.grownBy w' u0.ownBlock)
    (hloc : (Value.slice A n c).ownBlock = u0.ownBlock ∨ (Value.slice A n c).ownBlock = some w.heap.size) :
    ∃ tag', Re w tag tag' ∧ Cg tag (Fr 16) w (w'.setCell ⟨y.gw, i, none⟩ (.slice A n c)) ∧ Slv (w'.setCell ⟨y.gw, i, none⟩ (.slice A n c)) tag' p V { y with wrows := y.wrows.set i (.slice A n c) } { s with wt := fun j => if j = i then l' else s.wt j } := by
  obtain ⟨tag', hr, hrow, hc⟩ := (h.wts i u0 hu0).grown ho (by rw [kVals_len]; exact hl) hg hloc
  have hp' : tag' p = (1, 0) := (hr _ h.blk.lt).trans h.tp
  have hc' := hc.re_ hr
  have h' := h.re hr
  have hk : Cg tag' (fun s => s = (4, 0)) w' (w'.setCell ⟨y.gw, i, none⟩ (.slice A n c)) := cg_store (by show tag' y.gw = _; exact h'.whd.tg) _
  refine ⟨tag', hr, (hc.mono_ (S' := Fr 16) fun t e => by subst e; exact ⟨by show 1 ≤ 5; decide, by show 5 ≤ 16; decide⟩).trans_ (hk.mono_ (S' := Fr 16) fun t e => by subst e; exact ⟨by decide, by decide⟩) hr, ?_⟩
  exact {
    blk := (h'.blk.tchg h'.tp hc' (by simp)).tchg h'.tp hk (by simp)
    tp := hp'
    hdr := (h'.hdr.chg hc' (by simp)).chg hk (by simp)
    cls := fun k x u hx hu => ((h'.cls k x u hx hu).chg hc' (by simp)).chg hk (by simp)
    whd := (h'.whd.chg hc' (by simp)).set_ i _
    wts := fun j u hu => by
        show Row _ tag' (5, (j : Int)) 0 3 u (kVals (if j = i then l' else s.wt j))
        have hu : (y.wrows.set i (.slice A n c))[j]? = some u := hu
        rw [List.getElem?_set] at hu
        by_cases e : i = j
        · subst e
          rw [if_pos rfl] at hu
          split at hu
          · injection hu with hu; subst hu; rw [if_pos rfl]; exact hrow.chg hk (by simp)
          · cases hu
        · rw [if_neg e] at hu
          rw [if_neg (fun e2 => e e2.symm)]
          exact ((h'.wts j u hu).chg hc' (by simp; omega)).chg hk (by simp)
    val := (h'.val.chg hc' (by simp)).chg hk (by simp)
    lev := (h'.lev.chg hc' (by simp)).chg hk (by simp)
    rea := (h'.rea.chg hc' (by simp)).chg hk (by simp)
    trl := (h'.trl.chg hc' (by simp)).chg hk (by simp)
    lim := (h'.lim.chg hc' (by simp)).chg hk (by simp)
    sco := (h'.sco.chg hc' (by simp)).chg hk (by simp)
    pha := (h'.pha.chg hc' (by simp)).chg hk (by simp)
    hea := (h'.hea.chg hc' (by simp)).chg hk (by simp)
    pla := (h'.pla.chg hc' (by simp)).chg hk (by simp)
    prf := (h'.prf.chg hc' (by simp)).chg hk (by simp)
    prc := fun k x u hx hu => ((h'.prc k x u hx hu).chg hc' (by simp)).chg hk (by simp)
    rlen := h'.rlen
    wlen := by show (List.set _ _ _).length = _; rw [List.length_set]; exact h.wlen
    vl := h'.vl
    ll := h'.ll
    rl := h'.rl
    sl := h'.sl
    phl := h'.phl
    pll := h'.pll
    plen := h'.plen
  }
end
end Go.Proofs.YtaedbnbeelkkcaaDoor.slv
