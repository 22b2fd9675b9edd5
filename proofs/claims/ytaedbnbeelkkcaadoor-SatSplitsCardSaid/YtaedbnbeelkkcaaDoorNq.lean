/-
  (*solver).spread: what is written to a row of watchers while it is read.
-/
import Derived.Test.YtaedbnbeelkkcaaDoorNp
import Derived.Lib.AppendZeros
import Derived.ArgAppend
namespace Go.Proofs.YtaedbnbeelkkcaaDoor.slv
open Go.RowKit
section
variable {w w' wr : World} {tag tag1 : Nat → Tag} {p V : Nat} {y y1 : SLay} {s s1 : SS}
/-- a place of a row of watchers -/
theorem Slv.setWc {g n c i : Nat} (h : Slv w tag p V y s) (hu : y.wrows[i]? = some (.slice (some ⟨g, 0, none⟩) n c)) (hn : (s.wt i).length = n) (j k : Nat) :
    Slv (w.setCell ⟨g, j, none⟩ (.int .i64 (k : Nat))) tag p V y { s with wt := upd s.wt i ((s.wt i).set j k) } ∧ Cg tag (Fr 16) w (w.setCell ⟨g, j, none⟩ (.int .i64 (k : Nat))) := by
  subst hn
  have h0 := h.wts i _ hu
  have hc : Cg tag (fun s => s = (5, (i : Int))) w (w.setCell ⟨g, j, none⟩ (.int .i64 (k : Nat))) := cg_store (by show tag g = _; exact h0.tg g rfl) _
  have h1 : Row w tag (5, (i : Int)) 0 3 (.slice (some ⟨g, 0, none⟩) (kVals (s.wt i)).length c) (kVals (s.wt i)) := by rw [kVals_len]; exact h0
  have h2 := h1.set_ j (.int .i64 (k : Nat))
  have e : (kVals (s.wt i)).set j (.int .i64 (k : Nat)) = kVals ((s.wt i).set j k) := by unfold kVals; rw [List.map_set]
  rw [e, kVals_len] at h2
  refine ⟨?_, hc.mono_ fun t e => by subst e; exact ⟨by show 1 ≤ 5; decide, by show 5 ≤ 16; decide⟩⟩
  exact {
    blk := h.blk.tchg h.tp hc (by simp)
    tp := h.tp
    hdr := h.hdr.chg hc (by simp)
    cls := fun k x u hx hu => (h.cls k x u hx hu).chg hc (by simp)
    whd := h.whd.chg hc (by simp)
    wts := fun j' u hu' => by
        show Row _ tag (5, (j' : Int)) 0 3 u (kVals (upd s.wt i ((s.wt i).set j k) j'))
        by_cases e : j' = i
        · subst e
          rw [hu] at hu'
          injection hu' with hu'
          subst hu'
          unfold upd
          rw [if_pos rfl]
          exact h2
        · unfold upd
          rw [if_neg e]
          exact (h.wts j' u hu').chg hc (by simp; omega)
    val := h.val.chg hc (by simp)
    lev := h.lev.chg hc (by simp)
    rea := h.rea.chg hc (by simp)
    trl := h.trl.chg hc (by simp)
    lim := h.lim.chg hc (by simp)
    sco := h.sco.chg hc (by simp)
    pha := h.pha.chg hc (by simp)
    hea := h.hea.chg hc (by simp)
    pla := h.pla.chg hc (by simp)
    prf := h.prf.chg hc (by simp)
    prc := fun k x u hx hu => (h.prc k x u hx hu).chg hc (by simp)
    rlen := h.rlen
    wlen := h.wlen
    vl := h.vl
    ll := h.ll
    rl := h.rl
    sl := h.sl
    phl := h.phl
    pll := h.pll
    plen := h.plen
  }
/-- a row of watchers that is being thinned out: `kept` have been written, `l` is what it was -/
structure SpM (w : World) (tag : Nat → Tag) (p V : Nat) (im : Nat) (l : List Nat) (lw : Value) (kept : List Nat) (wr : World) (tag1 : Nat → Tag) (y1 : SLay) (s1 : SS) : Prop where
  slv : Slv wr tag1 p V y1 { s1 with wt := upd s1.wt im (kept ++ l.drop kept.length) }
  row : y1.wrows[im]? = some lw
  re : Re w tag tag1
  cg : Cg tag (Fr 16) w wr
  wl : s1.wt im = l
variable {im : Nat} {l kept : List Nat} {lw : Value}
theorem SpM.new (h : SpM w tag p V im l lw kept wr tag1 y1 s1) (hb : Below wr.heap.size wr w') : SpM w tag p V im l lw kept w' tag1 y1 s1 :=
  ⟨h.slv.new hb, h.row, h.re, h.cg.trans (cg_new hb), h.wl⟩
theorem kept_len (hk : kept.length ≤ l.length) : (kept ++ l.drop kept.length).length = l.length := by rw [List.length_append, List.length_drop]; omega
/-- one is kept -/
theorem SpM.keep_ {g c k : Nat} (h : SpM w tag p V im l lw kept wr tag1 y1 s1) (hlw : lw = .slice (some ⟨g, 0, none⟩) l.length c) (hk : kept.length < l.length) :
    SpM w tag p V im l lw (kept ++ [k]) (wr.setCell ⟨g, kept.length, none⟩ (.int .i64 (k : Nat))) tag1 y1 s1 := by
  have hr := h.row
  rw [hlw] at hr
  obtain ⟨h1, a1⟩ := h.slv.setWc hr (by show (upd s1.wt im _ im).length = _; unfold upd; rw [if_pos rfl]; exact kept_len (by omega)) kept.length k
  refine ⟨?_, h.row, h.re, h.cg.trans_ a1 h.re, h.wl⟩
  have e : upd (upd s1.wt im (kept ++ l.drop kept.length)) im ((upd s1.wt im (kept ++ l.drop kept.length) im).set kept.length k) = upd s1.wt im ((kept ++ [k]) ++ l.drop (kept ++ [k]).length) := by
    funext j
    unfold upd
    by_cases hj : j = im
    · rw [if_pos hj, if_pos hj, if_pos rfl, List.set_append_right _ _ (Nat.le_refl _), Nat.sub_self, List.drop_eq_getElem_cons hk, List.set_cons_zero, List.length_append]
      simp
    · rw [if_neg hj, if_neg hj, if_neg hj]
  have h2 := h1
  dsimp only at h2
  rw [e] at h2
  exact h2
/-- one of the clause's numbers -/
theorem SpM.setX {k g m c : Nat} {x : List Int} (h : SpM w tag p V im l lw kept wr tag1 y1 s1) (hx : s1.xs[k]? = some x) (hu : y1.rows[k]? = some (.slice (some ⟨g, 0, none⟩) m c)) (hm : x.length = m) (i : Nat) (z : Int) :
    SpM w tag p V im l lw kept (wr.setCell ⟨g, i, none⟩ (.int .i64 z)) tag1 y1 { s1 with xs := s1.xs.set k (x.set i z) } := by
  obtain ⟨h1, a1⟩ := h.slv.setX hx hu hm i z
  exact ⟨h1, h.row, h.re, h.cg.trans_ a1 h.re, h.wl⟩
/-- what is read at a place not yet passed -/
theorem SpM.at_ {g c i k : Nat} (h : SpM w tag p V im l lw kept wr tag1 y1 s1) (hlw : lw = .slice (some ⟨g, 0, none⟩) l.length c) (hk : kept.length ≤ i) (hi : l[i]? = some k) : wr.cell? ⟨g, i, none⟩ = some (.int .i64 (k : Nat)) := by
  have hr := h.row
  rw [hlw] at hr
  have hlt := (List.getElem?_eq_some_iff.1 hi).1
  have h1 := h.slv.wts im _ hr
  have e : ({ s1 with wt := upd s1.wt im (kept ++ l.drop kept.length) } : SS).wt im = kept ++ l.drop kept.length := by show upd _ _ _ _ = _; unfold upd; rw [if_pos rfl]
  rw [e] at h1
  obtain ⟨g', c', hv, _, hcel⟩ := h1.at_ (by rw [kVals_len, kept_len (by omega)]; omega)
  injection hv with e1 _ _
  injection e1 with e1
  injection e1 with e1
  subst e1
  exact hcel.cell (k_at (by rw [List.getElem?_append_right hk, List.getElem?_drop, show kept.length + (i - kept.length) = i by omega]; exact hi))
/-- the row's own cells are there to be written -/
theorem SpM.spare {g c j : Nat} (h : SpM w tag p V im l lw kept wr tag1 y1 s1) (hlw : lw = .slice (some ⟨g, 0, none⟩) l.length c) (hk : kept.length ≤ l.length) (hj : j < l.length) : (wr.cell? ⟨g, j, none⟩).isSome = true ∧ wr.frozen? ⟨g, j, none⟩ = false := by
  have hr := h.row
  rw [hlw] at hr
  have h1 := h.slv.wts im _ hr
  have e : ({ s1 with wt := upd s1.wt im (kept ++ l.drop kept.length) } : SS).wt im = kept ++ l.drop kept.length := by show upd _ _ _ _ = _; unfold upd; rw [if_pos rfl]
  rw [e] at h1
  obtain ⟨g', c', hv, _, hcel⟩ := h1.at_ (by rw [kVals_len, kept_len hk]; omega)
  injection hv with e1 _ _
  injection e1 with e1
  injection e1 with e1
  subst e1
  obtain ⟨u, hu⟩ : ∃ u, (kept ++ l.drop kept.length)[j]? = some u := ⟨_, List.getElem?_eq_getElem (by rw [kept_len hk]; exact hj)⟩
  exact ⟨by rw [hcel.cell (k_at hu)]; rfl, hcel.frozen j⟩
/-- the row is laid back, thinned out -/
theorem SpM.lay {A : Option Addr} {c : Nat} (h : SpM w tag p V im l lw kept wr tag1 y1 s1) (hlw : lw = .slice A l.length c) (hk : kept.length ≤ l.length) :
    Slv (wr.setCell ⟨y1.gw, im, none⟩ (.slice A kept.length c)) tag1 p V { y1 with wrows := y1.wrows.set im (.slice A kept.length c) } { s1 with wt := upd s1.wt im kept } ∧ Cg tag (Fr 16) w (wr.setCell ⟨y1.gw, im, none⟩ (.slice A kept.length c)) := by
  have hr := h.row
  rw [hlw] at hr
  have h1 := h.slv.wts im _ hr
  have e : ({ s1 with wt := upd s1.wt im (kept ++ l.drop kept.length) } : SS).wt im = kept ++ l.drop kept.length := by show upd _ _ _ _ = _; unfold upd; rw [if_pos rfl]
  rw [e] at h1
  have h2 := Row.cut (A := A) (c := c) (n := kept.length) (xs := kVals (kept ++ l.drop kept.length)) (by rw [kVals_len, kept_len hk]; exact h1) (by rw [kVals_len, kept_len hk]; exact hk)
  have e2 : (kVals (kept ++ l.drop kept.length)).take kept.length = kVals kept := by unfold kVals; rw [← List.map_take, List.take_left]
  rw [e2] at h2
  obtain ⟨h3, a3⟩ := h.slv.setW im h2
  refine ⟨?_, h.cg.trans_ a3 h.re⟩
  have e3 : (fun j => if j = im then kept else upd s1.wt im (kept ++ l.drop kept.length) j) = upd s1.wt im kept := by
    funext j
    unfold upd
    by_cases hj : j = im
    · rw [if_pos hj, if_pos hj]
    · rw [if_neg hj, if_neg hj, if_neg hj]
  dsimp only at h3
  rw [e3] at h3
  exact h3
/-- the rest is kept -/
theorem SpM.keepAll {g c : Nat} (hlw : lw = .slice (some ⟨g, 0, none⟩) l.length c) : ∀ (r : List Nat) {kept : List Nat} {wr : World}, SpM w tag p V im l lw kept wr tag1 y1 s1 → kept.length + r.length ≤ l.length → SpM w tag p V im l lw (kept ++ r) (wr.setCells g kept.length (kVals r)) tag1 y1 s1
  | [], kept, wr, h, _ => by rw [List.append_nil]; exact h
  | k :: r, kept, wr, h, hl => by
    simp only [List.length_cons] at hl
    have h2 := SpM.keepAll hlw r (h.keep_ hlw (k := k) (by omega)) (by rw [List.length_append, List.length_singleton]; omega)
    rw [List.append_assoc, List.length_append] at h2
    exact h2
/-- another row has grown -/
theorem SpM.push {A : Option Addr} {n c iy : Nat} {l' : List Nat} {u0 : Value} (h : SpM w tag p V im l lw kept wr tag1 y1 s1) (hne : iy ≠ im) (hu0 : y1.wrows[iy]? = some u0) (ho : w'.ownsRow 0 3 1 (.slice A n c) n (kVals l')) (hl : l'.length = n) (hg : wr.grownBy w' u0.ownBlock)
    (hloc : (Value.slice A n c).ownBlock = u0.ownBlock ∨ (Value.slice A n c).ownBlock = some wr.heap.size) :
    ∃ tag', SpM w tag p V im l lw kept (w'.setCell ⟨y1.gw, iy, none⟩ (.slice A n c)) tag' { y1 with wrows := y1.wrows.set iy (.slice A n c) } { s1 with wt := upd s1.wt iy l' } := by
  obtain ⟨tag', hr, hc, h1⟩ := h.slv.pushW hu0 ho hl hg hloc
  refine ⟨tag', ?_, ?_, fun b hb => (hr b (by have := h.cg.size; omega)).trans (h.re b hb), h.cg.trans_ hc h.re, ?_⟩
  · have e : (fun j => if j = iy then l' else upd s1.wt im (kept ++ l.drop kept.length) j) = upd (upd s1.wt iy l') im (kept ++ l.drop kept.length) := by
      funext j
      unfold upd
      by_cases h1 : j = iy
      · rw [if_pos h1, if_neg (by omega), if_pos h1]
      · rw [if_neg h1]
        by_cases h2 : j = im
        · rw [if_pos h2, if_pos h2]
        · rw [if_neg h2, if_neg h2, if_neg h1]
    have h2 := h1
    dsimp only at h2
    rw [e] at h2
    exact h2
  · show (y1.wrows.set iy _)[im]? = some lw
    rw [List.getElem?_set, if_neg hne]; exact h.row
  · show upd s1.wt iy l' im = l
    unfold upd
    rw [if_neg (fun e => hne e.symm)]; exact h.wl
/-- a number is set -/
theorem SpM.set_ {s2 : SS} {n b : Int} (h : SpM w tag p V im l lw kept wr tag1 y1 s1) (hu : setM V s1 n b = some s2) (hV : V ≤ 400000) : Calls Tryd.prog 34 #[.pointer (some ⟨p, 0, none⟩), .int .i64 n, .int .i64 b] wr fun e w2 =>
    e = .returned (.tuple #[]) ∧ ∃ tag2 vt2, SpM w tag p V im l lw kept w2 tag2 { y1 with vt := vt2 } s2 := by
  obtain ⟨h1, h2, h3, h4, rfl⟩ := setM_some hu
  refine (set_anyT h.slv h3 h4 (n := n) (by_ := b) ⟨by omega, by omega⟩ (by omega)).mono ?_
  rintro e w2 ⟨rfl, tag2, vt2, hr, hc, hs⟩
  exact ⟨rfl, tag2, vt2, hs, h.row, fun b hb => (hr b (by have := h.cg.size; omega)).trans (h.re b hb), h.cg.trans_ hc h.re, h.wl⟩
end
set_option maxRecDepth 100000 in
/-- append where there is room: one number -/
theorem run_keep {w : World} {g m cu b k : Nat} (ty : TypeId) (hs : (w.cell? ⟨g, m, none⟩).isSome = true) (hf : w.frozen? ⟨g, m, none⟩ = false) (hroom : m + 1 ≤ cu) (hb : w.cell? ⟨b, 0, none⟩ = some (.int .i64 (k : Nat))) :
    (Builtin.append_ #[25, 25] ty #[.slice (some ⟨g, 0, none⟩) m cu, .slice (some ⟨b, 0, none⟩) 1 1]).run Tryd.prog w = .ok (.slice (some ⟨g, 0, none⟩) (m + 1) cu) (w.setCell ⟨g, m, none⟩ (.int .i64 (k : Nat))) := by
  obtain ⟨i0, hi0, hz0, hz1, hz2⟩ := info_parts info_int
  have h := run_append_room_cells (P := Tryd.prog) w 25 ty 3 i0 Tryd.underlying25 hi0 g 0 m cu ⟨b, 0, none⟩ 1 1 [.int .i64 (k : Nat)] (by rw [hz1]; rfl) (fun j u hu => by
    match j, hu with
    | 0, hu => injection hu with hu; subst hu; exact hb) (by intro u hu; rw [List.mem_singleton.1 hu]; rfl) hroom (fun j hj => by
    have : j = 0 := by simpa using hj
    subst this
    rw [hz1]; simpa using hs) (fun j hj => by
    have : j = 0 := by simpa using hj
    subst this
    rw [hz1]; simpa using hf)
  rw [hz1] at h
  simpa [World.setCells] using h
set_option maxRecDepth 100000 in
/-- append where there is room: numbers of the same row -/
theorem run_keepAll {w : World} {g m cu o q c' : Nat} {r : List Nat} (ty : TypeId) (hq : r.length = q) (hs : ∀ j, j < q → (w.cell? ⟨g, m + j, none⟩).isSome = true ∧ w.frozen? ⟨g, m + j, none⟩ = false) (hroom : m + q ≤ cu) (hb : ∀ j k, r[j]? = some k → w.cell? ⟨g, o + j, none⟩ = some (.int .i64 (k : Nat))) :
    (Builtin.append_ #[25, 25] ty #[.slice (some ⟨g, 0, none⟩) m cu, .slice (some ⟨g, o, none⟩) q c']).run Tryd.prog w = .ok (.slice (some ⟨g, 0, none⟩) (m + q) cu) (w.setCells g m (kVals r)) := by
  obtain ⟨i0, hi0, hz0, hz1, hz2⟩ := info_parts info_int
  have h := run_append_room_cells (P := Tryd.prog) w 25 ty 3 i0 Tryd.underlying25 hi0 g 0 m cu ⟨g, o, none⟩ q c' (kVals r) (by rw [hz1, kVals_len, hq, Nat.mul_one]) (fun j u hu => by
    rw [Addr.add_lit]
    unfold kVals at hu
    rw [List.getElem?_map] at hu
    cases hj : r[j]? with
    | none => rw [hj] at hu; cases hu
    | some k => rw [hj] at hu; injection hu with hu; subst hu; exact hb j k hj) (fun u hu => by
    unfold kVals at hu
    obtain ⟨x, _, rfl⟩ := List.mem_map.1 hu; rfl) hroom (fun j hj => by
    rw [kVals_len, hq] at hj
    rw [hz1, Nat.mul_one, Nat.zero_add]; exact (hs j hj).1) (fun j hj => by
    rw [kVals_len, hq] at hj
    rw [hz1, Nat.mul_one, Nat.zero_add]; exact (hs j hj).2)
  rw [hz1, Nat.mul_one, Nat.zero_add] at h
  exact h
end Go.Proofs.YtaedbnbeelkkcaaDoor.slv
