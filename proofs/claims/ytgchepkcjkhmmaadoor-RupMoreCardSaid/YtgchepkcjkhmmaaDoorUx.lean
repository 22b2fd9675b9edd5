/-
  A CHECKER IN MEMORY: what each store, append, map's write of (*checker).spread leaves.
  WALK of (*checker).back; plain: what is taken back.
  (*checker).spread: what holds in memory between its rounds, and what each round leaves.
  WALK of (*checker).spread.
-/
import Derived.Test.YtgchepkcjkhmmaaDoorUs
import Derived.Defers
import Derived.Test.YtgchepkcjkhmmaaDoorHq
namespace Go.Proofs.YtgchepkcjkhmmaaDoor
open Go.RowKit
section
variable {w w' w1 : World} {tag tag' : Nat → Tag} {p V : Nat} {y : Lay} {xs : List (List Int)} {wt : Int → List Nat} {vs tr us : List Int} {fx dd : Int}
/-- a clause's number -/
theorem Chk.setX {k g m c : Nat} {x : List Int} (h : Chk w tag p V y xs wt vs tr us fx dd) (hx : xs[k]? = some x) (hu : y.rows[k]? = some (.slice (some ⟨g, 0, none⟩) m c)) (hm : x.length = m) (j : Nat) (z : Int) :
    Chk (w.setCell ⟨g, j, none⟩ (.int .i64 z)) tag p V y (xs.set k (x.set j z)) wt vs tr us fx dd := by
  subst hm
  have hr := h.cls k x _ hx hu
  have hr' : Row w tag (3, (k : Int)) 0 3 (.slice (some ⟨g, 0, none⟩) (litVals x).length c) (litVals x) := by rw [litVals_len]; exact hr
  have hc : Cg tag (fun s => s = (3, (k : Int))) w (w.setCell ⟨g, j, none⟩ (.int .i64 z)) := cg_store (by show tag g = _; exact hr.tg g rfl) _
  refine ⟨h.blk.tchg h.tp hc (by simp), h.tp, h.hdr.chg hc (by simp), by rw [List.length_set]; exact h.rlen, fun k' x' u' hx' hu' => ?_, h.val.chg hc (by simp), h.usd.chg hc (by simp), h.ul, h.trl.chg hc (by simp), h.tm,
    h.map.chg hc fun o => (by show ¬ tag y.bm = _; rw [h.tm]; simp), fun n hn => (h.wts n hn).chg hc (by simp)⟩
  rw [List.getElem?_set] at hx'
  by_cases e : k = k'
  · subst e
    rw [if_pos rfl, if_pos (List.getElem?_eq_some_iff.1 hx).1] at hx'
    injection hx' with hx'
    rw [hu] at hu'
    injection hu' with hu'
    subst hx'; subst hu'
    have := hr'.set_ j (.int .i64 z)
    rw [lit_set, litVals_len] at this
    exact this
  · rw [if_neg e] at hx'
    exact (h.cls k' x' u' hx' hu').chg hc (by simp; omega)
abbrev mapT : TypeId := 52
theorem zero_sl (w : World) : (zeroValue 27).run Tryd.prog w = .ok (.slice none 0 0) w := by kernel_rfl
set_option maxRecDepth 100000 in
theorem Chk.look (h : Chk w tag p V y xs wt vs tr us fx dd) (hV : V ≤ 500000) {n : Int} (hn : n.natAbs ≤ V) : (Instr.lookup mapT (.map (some y.bm)) (.int .i64 n) false).run Tryd.prog w = .ok (y.wv n) w :=
  h.map.look Tryd.underlying3 Tryd.underlying52 (zero_sl w) (by omega) hn
theorem codeS_own {w : World} {base : Nat} {e : TypeId} {size n : Nat} {v : Value} {l : List Value} (h : w.ownsRow base e size v n l) : ∃ d, codeS v = some (d, []) := by
  rcases h.2 with ⟨rfl, _⟩ | ⟨g, c, cur, rfl, _⟩
  · exact ⟨_, rfl⟩
  · exact ⟨_, rfl⟩
abbrev updV (f : Int → Value) (n : Int) (v : Value) : Int → Value := fun z => if z = n then v else f z
set_option maxRecDepth 100000 in
/-- a slice that bears the tag of n's row is laid into the map -/
theorem Chk.lay {v : Value} {l : List Nat} (h : Chk w tag p V y xs wt vs tr us fx dd) (hV : V ≤ 500000) {n : Int} (hn : n.natAbs ≤ V) (hr : Row w tag (8, n) 0 3 v (kVals l)) :
    ∃ w2, (Instr.mapUpdate mapT (.map (some y.bm)) (.int .i64 n) v).run Tryd.prog w = .ok () w2 ∧ Cg tag (fun s => s = (7, 0)) w w2 ∧ Chk w2 tag p V { y with wv := updV y.wv n v } xs (upd wt n l) vs tr us fx dd := by
  obtain ⟨d, hd⟩ := codeS_own hr.own
  obtain ⟨w2, hrun, hmap, hg⟩ := h.map.put Tryd.underlying3 Tryd.underlying52 (by omega) hn hd
  have hc : Cg tag (fun s => s = (7, 0)) w w2 := cg_grown hg fun g hg => by injection hg with hg; rw [← hg]; exact h.tm
  refine ⟨w2, hrun, hc, ?_⟩
  refine ⟨h.blk.tchg h.tp hc (by simp), h.tp, h.hdr.chg hc (by simp), h.rlen, fun k' x' u' hx' hu' => (h.cls k' x' u' hx' hu').chg hc (by simp), h.val.chg hc (by simp), h.usd.chg hc (by simp), h.ul, h.trl.chg hc (by simp), h.tm, hmap, fun m hm => ?_⟩
  show Row w2 tag (8, m) 0 3 (if m = n then v else y.wv m) (kVals (if m = n then l else wt m))
  by_cases e : m = n
  · subst e; rw [if_pos rfl, if_pos rfl]; exact hr.chg hc (by simp)
  · rw [if_neg e, if_neg e]; exact (h.wts m hm).chg hc (by simp)
set_option maxRecDepth 100000 in
/-- a watched row has grown, and is laid into the map -/
theorem Chk.push {A : Option Addr} {m c : Nat} {l' : List Nat} (h : Chk w tag p V y xs wt vs tr us fx dd) (hV : V ≤ 500000) {n : Int} (hn : n.natAbs ≤ V) (ho : w1.ownsRow 0 3 1 (.slice A m c) m (kVals l')) (hl : l'.length = m)
    (hg : w.grownBy w1 (y.wv n).ownBlock) (hloc : (Value.slice A m c).ownBlock = (y.wv n).ownBlock ∨ (Value.slice A m c).ownBlock = some w.heap.size) :
    ∃ w2 tag', (Instr.mapUpdate mapT (.map (some y.bm)) (.int .i64 n) (.slice A m c)).run Tryd.prog w1 = .ok () w2 ∧ Re w tag tag' ∧ Cg tag (Fr 8) w w2 ∧ Chk w2 tag' p V { y with wv := updV y.wv n (.slice A m c) } xs (upd wt n l') vs tr us fx dd := by
  obtain ⟨tag', hr, hrow, hc⟩ := (h.wts n hn).grown ho (by rw [kVals_len]; exact hl) hg hloc
  have h' := h.re hr
  have hc' := hc.re_ hr
  -- the map is as it was
  have hmap : RawMap Tryd.prog 3 w1 y.bm V y.wv := h'.map.chg hc' fun o => by show ¬ tag' y.bm = _; rw [h'.tm]; simp
  obtain ⟨d, hd⟩ := codeS_own ho
  obtain ⟨w2, hrun, hmap2, hg2⟩ := hmap.put Tryd.underlying3 Tryd.underlying52 (by omega) hn hd
  have hc2 : Cg tag' (fun s => s = (7, 0)) w1 w2 := cg_grown hg2 fun g hg => by injection hg with hg; rw [← hg]; exact h'.tm
  refine ⟨w2, tag', hrun, hr, (hc.mono_ (S' := Fr 8) fun t e => by subst e; exact ⟨by show 1 ≤ 8; decide, by show 8 ≤ 8; decide⟩).trans_ (hc2.mono_ (S' := Fr 8) fun t e => by subst e; exact ⟨by decide, by decide⟩) hr, ?_⟩
  refine ⟨(h'.blk.tchg h'.tp hc' (by simp)).tchg h'.tp hc2 (by simp), h'.tp, (h'.hdr.chg hc' (by simp)).chg hc2 (by simp), h.rlen, fun k' x' u' hx' hu' => ((h'.cls k' x' u' hx' hu').chg hc' (by simp)).chg hc2 (by simp), (h'.val.chg hc' (by simp)).chg hc2 (by simp),
    (h'.usd.chg hc' (by simp)).chg hc2 (by simp), h.ul, (h'.trl.chg hc' (by simp)).chg hc2 (by simp), h'.tm, hmap2, fun z hz => ?_⟩
  show Row w2 tag' (8, z) 0 3 (if z = n then .slice A m c else y.wv z) (kVals (if z = n then l' else wt z))
  by_cases e : z = n
  · subst e; rw [if_pos rfl, if_pos rfl]; exact hrow.chg hc2 (by simp)
  · rw [if_neg e, if_neg e]; exact ((h'.wts z hz).chg hc' (by simp; omega)).chg hc2 (by simp)
set_option maxRecDepth 100000 in
/-- what is kept is laid into the map -/
theorem Chk.shelve {B : Nat} {v : Value} {l : List Nat} (h : Chk w tag p V y xs wt vs tr us fx dd) (hV : V ≤ 500000) {n : Int} (hn : n.natAbs ≤ V) (hr : Row w tag (9, 0) B 3 v (kVals l)) :
    ∃ w2 tag', (Instr.mapUpdate mapT (.map (some y.bm)) (.int .i64 n) v).run Tryd.prog w = .ok () w2 ∧ (∀ g, g < B → tag' g = tag g) ∧ Cg tag (Fr 8) w w2 ∧ Chk w2 tag' p V { y with wv := updV y.wv n v } xs (upd wt n l) vs tr us fx dd := by
  obtain ⟨tag', htag⟩ : ∃ tag' : Nat → Tag, tag' = fun g => if v.ownBlock = some g then (8, n) else tag g := ⟨_, rfl⟩
  have h1 : Chk w tag' p V y xs wt vs tr us fx dd := h.rt fun t ht g hg => by
    rw [htag]
    show (if v.ownBlock = some g then ((8, n) : Tag) else tag g) = t
    rw [if_neg, hg]
    intro e
    have := hr.tg g e
    rw [this] at hg
    have h2 : t.1 ≤ 8 := ht.2
    rw [← hg] at h2
    exact absurd h2 (by decide)
  have h2 : Row w tag' (8, n) 0 3 v (kVals l) := ⟨own_base hr.own (Nat.zero_le _), fun g hg => by rw [htag]; exact if_pos hg⟩
  obtain ⟨w2, hrun, hc, hk⟩ := h1.lay hV hn h2
  refine ⟨w2, tag', hrun, fun g hg => ?_, ?_, hk⟩
  · rw [htag]
    exact if_neg fun e => by have := (hr.own.lt g e).1; omega
  · refine hc.mono fun g o ho hS => ?_
    have hS : tag' g = (7, 0) := hS
    rw [htag] at hS
    have hS : (if v.ownBlock = some g then ((8, n) : Tag) else tag g) = (7, 0) := hS
    split at hS
    · injection hS with h1; exact absurd h1 (by decide)
    · show Fr 8 (tag g); rw [hS]; exact ⟨by decide, by decide⟩
end
end Go.Proofs.YtgchepkcjkhmmaaDoor
namespace Go.Proofs.YtgchepkcjkhmmaaDoor
open Go.RowKit
def zeroed (vs : List Int) : List Int → List Int
  | [] => vs
  | n :: l => zeroed (vs.set n.natAbs 0) l
section
theorem zeroed_len (l : List Int) : ∀ vs : List Int, (zeroed vs l).length = vs.length := by
  induction l with
  | nil => intro vs; rfl
  | cons n l ih => intro vs; show (zeroed (vs.set n.natAbs 0) l).length = _; rw [ih, List.length_set]
theorem zeroed_snoc (l : List Int) (n : Int) : ∀ vs : List Int, zeroed vs (l ++ [n]) = (zeroed vs l).set n.natAbs 0 := by
  induction l with
  | nil => intro vs; rfl
  | cons m l ih => intro vs; show zeroed (vs.set m.natAbs 0) (l ++ [n]) = _; rw [ih]; rfl
theorem zeroed_va (l : List Int) : ∀ (vs : List Int) (v : Nat), va (zeroed vs l) v = if ∃ m ∈ l, m.natAbs = v then 0 else va vs v := by
  induction l with
  | nil => intro vs v; rw [if_neg (by simp)]; rfl
  | cons n l ih =>
    intro vs v
    show va (zeroed (vs.set n.natAbs 0) l) v = _
    rw [ih]
    by_cases h1 : ∃ m ∈ l, m.natAbs = v
    · rw [if_pos h1, if_pos (by obtain ⟨m, hm, e⟩ := h1; exact ⟨m, List.mem_cons_of_mem _ hm, e⟩)]
    · rw [if_neg h1]
      by_cases h2 : n.natAbs = v
      · rw [if_pos ⟨n, by simp, h2⟩]
        unfold va
        rw [List.getD_eq_getElem?_getD, List.getElem?_set, if_pos h2]
        split <;> rfl
      · rw [if_neg (by
          rintro ⟨m, hm, e⟩
          rcases List.mem_cons.1 hm with h | h
          · subst h; exact h2 e
          · exact h1 ⟨m, h, e⟩)]
        unfold va
        rw [List.getD_eq_getElem?_getD, List.getElem?_set, if_neg h2, List.getD_eq_getElem?_getD]
variable {V : Nat} {L : List (List Int)} {s : St} {t0 new : List Int}
theorem zeroed_ok : ∀ (l vs : List Int), (∀ x ∈ vs, x = -1 ∨ x = 0 ∨ x = 1) → ∀ x ∈ zeroed vs l, x = -1 ∨ x = 0 ∨ x = 1
  | [], _, h => h
  | n :: l, vs, h => zeroed_ok l _ fun x hx => by
    rcases List.mem_or_eq_of_mem_set hx with hx | hx
    · exact h x hx
    · exact .inr (.inl hx)
theorem SI.back (h : SI V L s) (ht : s.tr = t0 ++ new) : SI V L { s with vs := zeroed s.vs new, tr := t0 } := by
  have hnd := h.trn
  rw [ht] at hnd
  have key : ∀ n, n ∈ t0 → ∀ m ∈ new, m.natAbs ≠ n.natAbs := fun n hn m hm e => by
    obtain ⟨l1, v1⟩ := h.trv n (by rw [ht]; simp [hn])
    obtain ⟨l2, v2⟩ := h.trv m (by rw [ht]; simp [hm])
    have : m = n ∨ m = -n := by omega
    rcases this with e | e
    · exact (List.nodup_append.1 hnd).2.2 n hn m hm e.symm
    · rw [e, lv_neg l1.1, v1] at v2; omega
  have hlv : ∀ n : Int, lv (va (zeroed s.vs new)) n = if ∃ m ∈ new, m.natAbs = n.natAbs then 0 else lv (va s.vs) n := fun n => by
    unfold lv
    rw [zeroed_va]
    split <;> split <;> rfl
  refine { h with vlen := by rw [show ({ s with vs := zeroed s.vs new, tr := t0 } : St).vs = zeroed s.vs new from rfl, zeroed_len]; exact h.vlen, vok := zeroed_ok _ _ h.vok, trv := fun n hn => ?_, trs := fun n hn hv => ?_, trn := (List.nodup_append.1 hnd).1 }
  · obtain ⟨l1, v1⟩ := h.trv n (by rw [ht]; exact List.mem_append_left _ hn)
    refine ⟨l1, ?_⟩
    show lv (va (zeroed s.vs new)) n = 1
    rw [hlv, if_neg (by rintro ⟨m, hm, e⟩; exact key n hn m hm e), v1]
  · have hv : lv (va (zeroed s.vs new)) n = 1 := hv
    rw [hlv] at hv
    split at hv
    · omega
    · rename_i hno
      have := h.trs n hn hv
      rw [ht] at this
      rcases List.mem_append.1 this with h1 | h1
      · exact h1
      · exact absurd ⟨n, h1, rfl⟩ hno
end
section
variable {w w' : World} {tag tag' : Nat → Tag} {p V : Nat} {y : Lay} {xs : List (List Int)} {wt : Int → List Nat} {vs tr us : List Int} {fx dd : Int}
/-- the trail is cut -/
theorem Chk.cut {A : Option Addr} {n c : Nat} (h : Chk w tag p V y xs wt vs tr us fx dd) (hv : y.vt = .slice A tr.length c) (hn : n ≤ tr.length) : Chk (w.setCell ⟨p, 3, none⟩ (.slice A n c)) tag p V { y with vt := .slice A n c } xs wt vs (tr.take n) us fx dd := by
  have hk : Cg tag (fun s => s = (1, 0)) w (w.setCell ⟨p, 3, none⟩ (.slice A n c)) := cg_store (by show tag p = _; exact h.tp) _
  have ht := h.trl
  rw [hv] at ht
  have ht' : Row w tag (6, 0) 0 3 (.slice A n c) (litVals (tr.take n)) := by
    have := Row.cut (A := A) (c := c) (n := n) (xs := litVals tr) (by rw [litVals_len]; exact ht) (by rw [litVals_len]; exact hn)
    have e : (litVals tr).take n = litVals (tr.take n) := by unfold litVals; rw [List.map_take]
    rw [e] at this; exact this
  exact ⟨h.blk.set_ 3 _, h.tp, h.hdr.chg hk (by decide), h.rlen, fun k x u hx hu => (h.cls k x u hx hu).chg hk (by simp), h.val.chg hk (by decide), h.usd.chg hk (by decide), h.ul, ht'.chg hk (by decide), h.tm,
    h.map.chg hk fun o => (by show ¬ tag y.bm = _; rw [h.tm]; decide), fun n hn => (h.wts n hn).chg hk (by simp)⟩
def BkR (w : World) (tag : Nat → Tag) (p V : Nat) (y : Lay) (xs : List (List Int)) (wt : Int → List Nat) (vs tr us : List Int) (fx dd : Int) (n : Nat) (iv : Value) (wr : World) : Prop :=
  ∃ k : Nat, k ≤ tr.length - n ∧ iv = .int .i64 (k : Nat) ∧ Cg tag (Fr 8) w wr ∧ Chk wr tag p V y xs wt (zeroed vs ((tr.drop n).take k)) tr us fx dd
set_option maxRecDepth 100000 in
set_option maxHeartbeats 1000000 in
theorem back_any (h : Chk w tag p V y xs wt vs tr us fx dd) (hl : vs.length = V + 1) (ht : tr.length ≤ V) {n : Nat} (hn : n ≤ tr.length) (hlit : ∀ x ∈ tr, Lit V x) (hV : V ≤ 500000) :
    Calls Tryd.prog 41 #[.pointer (some ⟨p, 0, none⟩), .int .i64 (n : Nat)] w (StP w tag p V y xs wt (zeroed vs (tr.drop n)) (tr.take n) us fx dd) := by
  obtain ⟨vC, rows, bm, gv, gu, vt, wv⟩ := y
  obtain ⟨A, c, hvt⟩ := h.trl.form
  rw [litVals_len] at hvt
  dsimp only at hvt
  have hpv : p ≠ gv := fun e => by have h1 := h.tp; have h2 := h.val.tg; dsimp only at h2; rw [e, h2] at h1; cases h1
  have sv : ∀ (w' : World) (k : Nat) (u : Int), Cg tag (Fr 8) w' (w'.setCell ⟨gv, k, none⟩ (.int .i8 u)) := fun w' k u => cg_store (by show Fr 8 (tag gv); rw [show tag gv = _ from h.val.tg]; exact ⟨by decide, by decide⟩) _
  have SV := Lib.hid sv
  subst hvt
  obtain ⟨m, hm⟩ : ∃ m, tr.length = m := ⟨_, rfl⟩
  obtain ⟨d, hd⟩ : ∃ d, m - n = d := ⟨_, rfl⟩
  have c3 : w.cell? ⟨p, 3, none⟩ = some (.slice A m c) := by have := h.blk.cell 3; rw [hm] at this; exact this
  have hmc : m ≤ c := by
    have := h.trl.own.2
    rw [litVals_len, hm] at this
    rcases this with ⟨e, _⟩ | ⟨g, c', cur, e, _, _, hle, _⟩
    · injection e with _ e1 e2; omega
    · injection e with _ _ e2; omega
  have hmax : c ≤ 9223372036854775807 := by
    have := h.trl.own.2
    rw [litVals_len, hm] at this
    rcases this with ⟨e, _⟩ | ⟨g, c', cur, e, _, _, hle, hmx, _⟩
    · injection e with _ e1 e2; omega
    · injection e with _ _ e2; unfold maxLen at hmx; omega
  have HHM := Lib.hid hm
  have HD := Lib.hid hd
  have H := Lib.hid h
  have HLIT := Lib.hid hlit
  have HL := Lib.hid hl
  have hnm : n ≤ m := by omega
  have hmV : m ≤ V := by omega
  have wd : IntKind.i64.wrap ((m : Int) - (n : Int)) = (d : Int) := by rw [IntKind.wrap_i64]; omega
  have hdm : d + n ≤ m ∧ m ≤ d + n := by omega
  clear h hl ht hn hlit hm hd sv
  by_cases hcn : c = n
  · subst hcn
    obtain rfl : m = c := by omega
    obtain rfl : d = 0 := by omega
    have HCN := Lib.hid (H.out.cut (A := A) (n := m) (c := m) rfl (by rw [HHM.out]; exact Nat.le_refl _))
    have f3 : w.frozen? ⟨p, 3, none⟩ = false := H.out.blk.frozen 3
    go_enter Tryd.func41, Tryd.ntmps41
    go_wp2_with fail
    go_loop [13] (fun iv => iv = .int .i64 ((0 : Nat) : Int)) (fun _ => 0)
    case atStart => rfl
    case round =>
      subst hrel
      go_wp2_with fail
      go_end0
      have e : tr.drop m = [] := List.drop_eq_nil_of_le (by rw [HHM.out]; exact Nat.le_refl _)
      rw [e]
      exact ⟨rfl, tag, _, Re.refl _ _, cg_store (by show Fr 8 (tag p); rw [show tag p = _ from H.out.tp]; exact ⟨by decide, by decide⟩) _, HCN.out⟩
  · obtain ⟨g, hA⟩ : ∃ g, A = some ⟨g, 0, none⟩ := by
      rcases H.out.trl.own.2 with ⟨e, _⟩ | ⟨g, c', cur, e, _⟩
      · injection e with _ e1 e2; exfalso; have := HHM.out; omega
      · injection e with e1; exact ⟨g, e1⟩
    subst hA
    have f3 : w.frozen? ⟨p, 3, none⟩ = false := H.out.blk.frozen 3
    have cn' : ¬ (c : Int) = (n : Int) := by omega
    go_enter Tryd.func41, Tryd.ntmps41
    go_wp2_with fail
    rw [HD.out]
    go_loopw [13] (fun iv wr => BkR w tag p V ⟨vC, rows, bm, gv, gu, .slice (some ⟨g, 0, none⟩) tr.length c, wv⟩ xs wt vs tr us fx dd n iv wr) (fun iv _ => d - (intOf iv).toNat)
    case atStart => exact ⟨0, Nat.zero_le _, rfl, Chg.refl _ _, H.out⟩
    case round =>
      obtain ⟨k, hk, rfl, hcg, hchk⟩ := hrel
      rw [HHM.out, HD.out] at hk
      have HCG := Lib.hid hcg
      have HK := Lib.hid hchk
      clear hcg hchk
      have c3' : wr.cell? ⟨p, 3, none⟩ = some (.slice (some ⟨g, 0, none⟩) m c) := by have := HK.out.blk.cell 3; dsimp only at this; rw [HHM.out] at this; exact this
      have f3' : wr.frozen? ⟨p, 3, none⟩ = false := HK.out.blk.frozen 3
      have c2' : wr.cell? ⟨p, 2, none⟩ = some (.slice (some ⟨gv, 0, none⟩) (V + 1) (V + 1)) := HK.out.blk.cell 2
      by_cases hkd : k < d
      · obtain ⟨x, hx⟩ : ∃ x, tr[n + k]? = some x := ⟨_, List.getElem?_eq_getElem (by rw [HHM.out]; omega)⟩
        have cx : wr.cell? ⟨g, n + k, none⟩ = some (.int .i64 x) := by
          have h1 := HK.out.trl
          have h2 := Row.cell (xs := litVals tr) (c := c) (by rw [litVals_len]; exact h1) (lit_at hx)
          exact h2
        have hlx := HLIT.out x (List.mem_of_getElem? hx)
        obtain ⟨hx0, hx1⟩ := hlx
        obtain ⟨j, hj⟩ : ∃ j, x.natAbs = j := ⟨_, rfl⟩
        rw [hj] at hx1
        obtain ⟨u, hu⟩ : ∃ u, (zeroed vs ((tr.drop n).take k))[j]? = some u := ⟨_, List.getElem?_eq_getElem (by rw [zeroed_len, HL.out]; omega)⟩
        have cv : wr.cell? ⟨gv, j, none⟩ = some (.int .i8 u) := HK.out.val.cell (i8_at hu)
        have fv : wr.frozen? ⟨gv, j, none⟩ = false := HK.out.val.frozen j
        have hjV : (j : Int) < (V : Int) + 1 := by omega
        have hj1 : 1 ≤ j := by omega
        have HX := Lib.hid hx
        have HJ := Lib.hid hj
        clear hx hu
        by_cases hneg : x < 0
        · have hxj : x = (-(j : Int)) := by omega
          subst hxj
          have w1 : IntKind.i64.wrap (- -(j : Int)) = (j : Int) := by rw [IntKind.wrap_i64]; omega
          have HN := Lib.hid (show Chk (wr.setCell ⟨gv, j, none⟩ (.int .i8 0)) tag p V ⟨vC, rows, bm, gv, gu, .slice (some ⟨g, 0, none⟩) tr.length c, wv⟩ xs wt (zeroed vs ((tr.drop n).take (k + 1))) tr us fx dd from by
            have := HK.out.setVal j 0
            have e : (tr.drop n).take (k + 1) = (tr.drop n).take k ++ [(-(j : Int))] := by
              rw [List.take_add_one, List.getElem?_drop, HX.out]; rfl
            rw [e, zeroed_snoc, HJ.out]; exact this)
          clear hj
          go_wp2_with fail
          go_roundw
          case rel => exact ⟨k + 1, by have := HHM.out; omega, by go_num, HCG.out.trans (SV.out _ _ _), HN.out⟩
          case measure => simp [intOf]; omega
        · have hxj : x = (j : Int) := by omega
          subst hxj
          have w1 : IntKind.i64.wrap (-(j : Int)) = -(j : Int) := by rw [IntKind.wrap_i64]; omega
          have HN := Lib.hid (show Chk (wr.setCell ⟨gv, j, none⟩ (.int .i8 0)) tag p V ⟨vC, rows, bm, gv, gu, .slice (some ⟨g, 0, none⟩) tr.length c, wv⟩ xs wt (zeroed vs ((tr.drop n).take (k + 1))) tr us fx dd from by
            have := HK.out.setVal j 0
            have e : (tr.drop n).take (k + 1) = (tr.drop n).take k ++ [(j : Int)] := by
              rw [List.take_add_one, List.getElem?_drop, HX.out]; rfl
            rw [e, zeroed_snoc, HJ.out]; exact this)
          clear hj
          go_wp2_with fail
          go_roundw
          case rel => exact ⟨k + 1, by have := HHM.out; omega, by go_num, HCG.out.trans (SV.out _ _ _), HN.out⟩
          case measure => simp [intOf]; omega
      · obtain rfl : k = d := by omega
        have HE := Lib.hid (show zeroed vs ((tr.drop n).take k) = zeroed vs (tr.drop n) from by rw [List.take_of_length_le (by rw [List.length_drop, HHM.out]; omega)])
        have HCC := Lib.hid (HK.out.cut (A := some ⟨g, 0, none⟩) (n := n) (c := c) rfl (by rw [HHM.out]; exact hnm))
        go_wp2_with fail
        go_end0
        rw [← HE.out]
        exact ⟨rfl, tag, _, Re.refl _ _, HCG.out.trans (cg_store (by show Fr 8 (tag p); rw [show tag p = _ from H.out.tp]; exact ⟨by decide, by decide⟩) _), HCC.out⟩
set_option maxRecDepth 100000 in
set_option maxHeartbeats 1000000 in
theorem back_d {u : FrameMode} (h : Chk w tag p V y xs wt vs tr us fx dd) (hl : vs.length = V + 1) (ht : tr.length ≤ V) {n : Nat} (hn : n ≤ tr.length) (hlit : ∀ x ∈ tr, Lit V x) (hV : V ≤ 500000) :
    CallsD Tryd.prog 41 #[.pointer (some ⟨p, 0, none⟩), .int .i64 (n : Nat)] u w (fun e u' w' => u' = u ∧ StP w tag p V y xs wt (zeroed vs (tr.drop n)) (tr.take n) us fx dd e w') := by
  obtain ⟨vC, rows, bm, gv, gu, vt, wv⟩ := y
  obtain ⟨A, c, hvt⟩ := h.trl.form
  rw [litVals_len] at hvt
  dsimp only at hvt
  have hpv : p ≠ gv := fun e => by have h1 := h.tp; have h2 := h.val.tg; dsimp only at h2; rw [e, h2] at h1; cases h1
  have sv : ∀ (w' : World) (k : Nat) (u : Int), Cg tag (Fr 8) w' (w'.setCell ⟨gv, k, none⟩ (.int .i8 u)) := fun w' k u => cg_store (by show Fr 8 (tag gv); rw [show tag gv = _ from h.val.tg]; exact ⟨by decide, by decide⟩) _
  have SV := Lib.hid sv
  subst hvt
  obtain ⟨m, hm⟩ : ∃ m, tr.length = m := ⟨_, rfl⟩
  obtain ⟨d, hd⟩ : ∃ d, m - n = d := ⟨_, rfl⟩
  have c3 : w.cell? ⟨p, 3, none⟩ = some (.slice A m c) := by have := h.blk.cell 3; rw [hm] at this; exact this
  have hmc : m ≤ c := by
    have := h.trl.own.2
    rw [litVals_len, hm] at this
    rcases this with ⟨e, _⟩ | ⟨g, c', cur, e, _, _, hle, _⟩
    · injection e with _ e1 e2; omega
    · injection e with _ _ e2; omega
  have hmax : c ≤ 9223372036854775807 := by
    have := h.trl.own.2
    rw [litVals_len, hm] at this
    rcases this with ⟨e, _⟩ | ⟨g, c', cur, e, _, _, hle, hmx, _⟩
    · injection e with _ e1 e2; omega
    · injection e with _ _ e2; unfold maxLen at hmx; omega
  have HHM := Lib.hid hm
  have HD := Lib.hid hd
  have H := Lib.hid h
  have HLIT := Lib.hid hlit
  have HL := Lib.hid hl
  have hnm : n ≤ m := by omega
  have hmV : m ≤ V := by omega
  have wd : IntKind.i64.wrap ((m : Int) - (n : Int)) = (d : Int) := by rw [IntKind.wrap_i64]; omega
  have hdm : d + n ≤ m ∧ m ≤ d + n := by omega
  clear h hl ht hn hlit hm hd sv
  by_cases hcn : c = n
  · subst hcn
    obtain rfl : m = c := by omega
    obtain rfl : d = 0 := by omega
    have HCN := Lib.hid (H.out.cut (A := A) (n := m) (c := m) rfl (by rw [HHM.out]; exact Nat.le_refl _))
    have f3 : w.frozen? ⟨p, 3, none⟩ = false := H.out.blk.frozen 3
    go_enter_d Tryd.func41, Tryd.ntmps41
    go_wp2_with fail
    go_loop [13] (fun iv => iv = .int .i64 ((0 : Nat) : Int)) (fun _ => 0)
    case atStart => rfl
    case round =>
      subst hrel
      go_wp2_with fail
      go_end0
      have e : tr.drop m = [] := List.drop_eq_nil_of_le (by rw [HHM.out]; exact Nat.le_refl _)
      rw [e]
      exact ⟨rfl, tag, _, Re.refl _ _, cg_store (by show Fr 8 (tag p); rw [show tag p = _ from H.out.tp]; exact ⟨by decide, by decide⟩) _, HCN.out⟩
  · obtain ⟨g, hA⟩ : ∃ g, A = some ⟨g, 0, none⟩ := by
      rcases H.out.trl.own.2 with ⟨e, _⟩ | ⟨g, c', cur, e, _⟩
      · injection e with _ e1 e2; exfalso; have := HHM.out; omega
      · injection e with e1; exact ⟨g, e1⟩
    subst hA
    have f3 : w.frozen? ⟨p, 3, none⟩ = false := H.out.blk.frozen 3
    have cn' : ¬ (c : Int) = (n : Int) := by omega
    go_enter_d Tryd.func41, Tryd.ntmps41
    go_wp2_with fail
    rw [HD.out]
    go_loopw [13] (fun iv wr => BkR w tag p V ⟨vC, rows, bm, gv, gu, .slice (some ⟨g, 0, none⟩) tr.length c, wv⟩ xs wt vs tr us fx dd n iv wr) (fun iv _ => d - (intOf iv).toNat)
    case atStart => exact ⟨0, Nat.zero_le _, rfl, Chg.refl _ _, H.out⟩
    case round =>
      obtain ⟨k, hk, rfl, hcg, hchk⟩ := hrel
      rw [HHM.out, HD.out] at hk
      have HCG := Lib.hid hcg
      have HK := Lib.hid hchk
      clear hcg hchk
      have c3' : wr.cell? ⟨p, 3, none⟩ = some (.slice (some ⟨g, 0, none⟩) m c) := by have := HK.out.blk.cell 3; dsimp only at this; rw [HHM.out] at this; exact this
      have f3' : wr.frozen? ⟨p, 3, none⟩ = false := HK.out.blk.frozen 3
      have c2' : wr.cell? ⟨p, 2, none⟩ = some (.slice (some ⟨gv, 0, none⟩) (V + 1) (V + 1)) := HK.out.blk.cell 2
      by_cases hkd : k < d
      · obtain ⟨x, hx⟩ : ∃ x, tr[n + k]? = some x := ⟨_, List.getElem?_eq_getElem (by rw [HHM.out]; omega)⟩
        have cx : wr.cell? ⟨g, n + k, none⟩ = some (.int .i64 x) := by
          have h1 := HK.out.trl
          have h2 := Row.cell (xs := litVals tr) (c := c) (by rw [litVals_len]; exact h1) (lit_at hx)
          exact h2
        have hlx := HLIT.out x (List.mem_of_getElem? hx)
        obtain ⟨hx0, hx1⟩ := hlx
        obtain ⟨j, hj⟩ : ∃ j, x.natAbs = j := ⟨_, rfl⟩
        rw [hj] at hx1
        obtain ⟨u0, hu⟩ : ∃ u0, (zeroed vs ((tr.drop n).take k))[j]? = some u0 := ⟨_, List.getElem?_eq_getElem (by rw [zeroed_len, HL.out]; omega)⟩
        have cv : wr.cell? ⟨gv, j, none⟩ = some (.int .i8 u0) := HK.out.val.cell (i8_at hu)
        have fv : wr.frozen? ⟨gv, j, none⟩ = false := HK.out.val.frozen j
        have hjV : (j : Int) < (V : Int) + 1 := by omega
        have hj1 : 1 ≤ j := by omega
        have HX := Lib.hid hx
        have HJ := Lib.hid hj
        clear hx hu
        by_cases hneg : x < 0
        · have hxj : x = (-(j : Int)) := by omega
          subst hxj
          have w1 : IntKind.i64.wrap (- -(j : Int)) = (j : Int) := by rw [IntKind.wrap_i64]; omega
          have HN := Lib.hid (show Chk (wr.setCell ⟨gv, j, none⟩ (.int .i8 0)) tag p V ⟨vC, rows, bm, gv, gu, .slice (some ⟨g, 0, none⟩) tr.length c, wv⟩ xs wt (zeroed vs ((tr.drop n).take (k + 1))) tr us fx dd from by
            have := HK.out.setVal j 0
            have e : (tr.drop n).take (k + 1) = (tr.drop n).take k ++ [(-(j : Int))] := by
              rw [List.take_add_one, List.getElem?_drop, HX.out]; rfl
            rw [e, zeroed_snoc, HJ.out]; exact this)
          clear hj
          go_wp2_with fail
          go_roundw
          case rel => exact ⟨k + 1, by have := HHM.out; omega, by go_num, HCG.out.trans (SV.out _ _ _), HN.out⟩
          case measure => simp [intOf]; omega
        · have hxj : x = (j : Int) := by omega
          subst hxj
          have w1 : IntKind.i64.wrap (-(j : Int)) = -(j : Int) := by rw [IntKind.wrap_i64]; omega
          have HN := Lib.hid (show Chk (wr.setCell ⟨gv, j, none⟩ (.int .i8 0)) tag p V ⟨vC, rows, bm, gv, gu, .slice (some ⟨g, 0, none⟩) tr.length c, wv⟩ xs wt (zeroed vs ((tr.drop n).take (k + 1))) tr us fx dd from by
            have := HK.out.setVal j 0
            have e : (tr.drop n).take (k + 1) = (tr.drop n).take k ++ [(j : Int)] := by
              rw [List.take_add_one, List.getElem?_drop, HX.out]; rfl
            rw [e, zeroed_snoc, HJ.out]; exact this)
          clear hj
          go_wp2_with fail
          go_roundw
          case rel => exact ⟨k + 1, by have := HHM.out; omega, by go_num, HCG.out.trans (SV.out _ _ _), HN.out⟩
          case measure => simp [intOf]; omega
      · obtain rfl : k = d := by omega
        have HE := Lib.hid (show zeroed vs ((tr.drop n).take k) = zeroed vs (tr.drop n) from by rw [List.take_of_length_le (by rw [List.length_drop, HHM.out]; omega)])
        have HCC := Lib.hid (HK.out.cut (A := some ⟨g, 0, none⟩) (n := n) (c := c) rfl (by rw [HHM.out]; exact hnm))
        go_wp2_with fail
        go_end0
        rw [← HE.out]
        exact ⟨rfl, tag, _, Re.refl _ _, HCG.out.trans (cg_store (by show Fr 8 (tag p); rw [show tag p = _ from H.out.tp]; exact ⟨by decide, by decide⟩) _), HCC.out⟩
end
end Go.Proofs.YtgchepkcjkhmmaaDoor
namespace Go.Proofs.YtgchepkcjkhmmaaDoor
open Go.RowKit
structure SpW (w : World) (tag : Nat → Tag) (p V : Nat) (L : List (List Int)) (c tr0 : List Int) (s0 : St) (fx dd : Int) (hd : Nat) (n : Int) (l : List Nat) (lw : Value) (kept rest : List Nat) (kv : Value) (tag' : Nat → Tag) (y : Lay) (s : St) (us : List Int) (wr : World) : Prop where
  kr : Row wr tag' (9, 0) w.heap.size 3 kv (kVals kept)
  re : Re w tag tag'
  cg : Cg tag (Fr 9) w wr
  ck : Chk wr tag' p V y s.xs (upd s.wt n l) s.vs s.tr us fx dd
  lw : y.wv n = lw
  pl : SpJ V L c tr0 s0 s hd n kept rest
/-- what spread leaves -/
def SpP (w : World) (tag : Nat → Tag) (p V : Nat) (L : List (List Int)) (c tr0 : List Int) (s0 : St) (fx dd : Int) (e : Ending) (w' : World) : Prop :=
  ∃ tag' y s us, Re w tag tag' ∧ Cg tag (Fr 9) w w' ∧ Chk w' tag' p V y s.xs s.wt s.vs s.tr us fx dd ∧ SI V L s ∧ Wi s.xs tr0 tr0 ∧ Same1 s0.xs s.xs ∧ s.xs.length = s0.xs.length ∧ (∃ new, s.tr = s0.tr ++ new) ∧ (∀ m ∈ s.tr, Imp L c m) ∧
    ((e = .returned (.int .i64 (-1)) ∧ Wi s.xs s.tr s.tr) ∨ ∃ k : Nat, e = .returned (.int .i64 (k : Nat)) ∧ k < L.length ∧ Ref L c)
theorem grown_tr {a b d : World} {row : Option Nat} (h : a.grownBy b row) (k : b.grownBy d row) : a.grownBy d row :=
  ⟨k.os.trans h.os, k.tape.trans h.tape, k.output.trans h.output, Nat.le_trans h.size k.size, fun i hi hn => (k.block i (Nat.lt_of_lt_of_le hi h.size) hn).trans (h.block i hi hn)⟩
theorem upd_back (wt : Int → List Nat) (n : Int) : upd wt n (wt n) = wt := by
  funext m; unfold upd; split
  · rename_i e; rw [e]
  · rfl
theorem upd_upd (wt : Int → List Nat) (n : Int) (l l' : List Nat) : upd (upd wt n l) n l' = upd wt n l' := by
  funext m; unfold upd; split <;> rfl
theorem upd_comm (wt : Int → List Nat) {n m : Int} (h : m ≠ n) (l l' : List Nat) : upd (upd wt n l) m l' = upd (upd wt m l') n l := by
  funext z; unfold upd
  by_cases e1 : z = m
  · subst e1; rw [if_pos rfl, if_neg h, if_pos rfl]
  · by_cases e2 : z = n
    · subst e2; rw [if_neg e1, if_pos rfl, if_pos rfl]
    · rw [if_neg e1, if_neg e2, if_neg e2, if_neg e1]
theorem nodup_lit_le {V : Nat} {x : List Int} (hn : x.Nodup) (hl : ∀ n ∈ x, Lit V n) : x.length ≤ 2 * V := by
  have hsub : x ⊆ ((List.range V).map fun i : Nat => (i : Int) + 1) ++ ((List.range V).map fun i : Nat => -((i : Int) + 1)) := fun n hx => by
    obtain ⟨h0, h1⟩ := hl n hx
    by_cases h : 0 < n
    · exact List.mem_append_left _ (List.mem_map.2 ⟨n.natAbs - 1, List.mem_range.2 (by omega), by omega⟩)
    · exact List.mem_append_right _ (List.mem_map.2 ⟨n.natAbs - 1, List.mem_range.2 (by omega), by omega⟩)
  have := hn.length_le_of_subset hsub
  simp at this
  omega
section
variable {V : Nat} {L : List (List Int)} {s : St}
theorem SI.xle (h : SI V L s) {k : Nat} {x : List Int} (hx : s.xs[k]? = some x) : x.length ≤ 2 * V := nodup_lit_le (h.xnd _ (List.mem_of_getElem? hx)) (h.xlit _ (List.mem_of_getElem? hx))
theorem SI.wle (h : SI V L s) (n : Int) : (s.wt n).length ≤ L.length := by
  have hsub : s.wt n ⊆ List.range L.length := fun k hk => by
    obtain ⟨a, b, r, hx, _⟩ := (h.wiff n k).1 hk
    have := (List.getElem?_eq_some_iff.1 hx).1
    rw [h.xlen] at this
    exact List.mem_range.2 this
  have := (h.wnd n).length_le_of_subset hsub
  simpa using this
end
section
variable {w wr wr2 wr3 : World} {tag tag' : Nat → Tag} {p V hd : Nat} {L : List (List Int)} {c tr0 : List Int} {s0 s : St} {fx dd n : Int} {l kept rest : List Nat} {lw kv : Value} {y : Lay} {us : List Int} {k g m cx : Nat} {a b z : Int} {r : List Int}
theorem SpW.row (h : SpW w tag p V L c tr0 s0 fx dd hd n l lw kept (k :: rest) kv tag' y s us wr) {x : List Int} (hx : s.xs[k]? = some x) (h2 : 0 < x.length) :
    ∃ gc cc gx c, y.vC = .slice (some ⟨gc, 0, none⟩) L.length cc ∧ k < L.length ∧ wr.cell? ⟨gc, k, none⟩ = some (.slice (some ⟨gx, 0, none⟩) x.length c) ∧ y.rows[k]? = some (.slice (some ⟨gx, 0, none⟩) x.length c) ∧ Row wr tag' (3, (k : Int)) 0 3 (.slice (some ⟨gx, 0, none⟩) (litVals x).length c) (litVals x) := by
  have hk := (List.getElem?_eq_some_iff.1 hx).1
  have hkr : k < y.rows.length := by rw [h.ck.rlen]; exact hk
  have hu : y.rows[k]? = some y.rows[k] := List.getElem?_eq_getElem hkr
  have hrow := h.ck.cls k x _ hx hu
  obtain ⟨gx, c, hv, _, hcel⟩ := hrow.at_ (by rw [litVals_len]; exact h2)
  obtain ⟨gc, cc, hvc, _, hcc⟩ := h.ck.hdr.at_ (by omega)
  have hl : y.rows.length = L.length := by rw [h.ck.rlen, h.pl.si.xlen]
  rw [hv] at hu hrow
  refine ⟨gc, cc, gx, c, by rw [hvc, hl], by rw [← h.pl.si.xlen]; exact hk, ?_, by rw [hu, litVals_len], hrow⟩
  rw [hcc.cell hu, litVals_len]
/-- the first two change places -/
theorem SpW.swap (h : SpW w tag p V L c tr0 s0 fx dd hd n l lw kept (k :: rest) kv tag' y s us wr) (hx : s.xs[k]? = some (a :: b :: r)) (hu : y.rows[k]? = some (.slice (some ⟨g, 0, none⟩) m cx)) (hm : r.length + 2 = m)
    (hw : wr2 = ((wr.setCell ⟨g, 0, none⟩ (.int .i64 b)).setCell ⟨g, 1, none⟩ (.int .i64 a)).drew ∨ wr2 = ((wr.setCell ⟨g, 1, none⟩ (.int .i64 a)).setCell ⟨g, 0, none⟩ (.int .i64 b)).drew) :
    SpW w tag p V L c tr0 s0 fx dd hd n l lw kept (k :: rest) kv tag' y { s with xs := s.xs.set k (b :: a :: r) } us wr2 := by
  have hk := (List.getElem?_eq_some_iff.1 hx).1
  have hrow := h.ck.cls k _ _ hx hu
  have hs : ∀ (w' : World) (j : Nat) (u : Int), Cg tag' (fun s => s = (3, (k : Int))) w' (w'.setCell ⟨g, j, none⟩ (.int .i64 u)) := fun w' j u => cg_store (by show tag' g = _; exact hrow.tg g rfl) _
  have fin : ∀ w3 : World, Cg tag' (fun s => s = (3, (k : Int))) wr w3 → Chk w3 tag' p V y (s.xs.set k (b :: a :: r)) (upd s.wt n l) s.vs s.tr us fx dd → SpW w tag p V L c tr0 s0 fx dd hd n l lw kept (k :: rest) kv tag' y { s with xs := s.xs.set k (b :: a :: r) } us w3.drew := fun w3 hc hk3 =>
    ⟨h.kr.chg (S := fun s => s = (3, (k : Int))) hc.drew (by simp), h.re, h.cg.trans_ ((hc.mono_ (S' := Fr 9) fun t e => by subst e; exact ⟨by show 1 ≤ 3; decide, by show 3 ≤ 9; decide⟩).drew) h.re, hk3.drew, h.lw, h.pl.swap hx⟩
  rcases hw with rfl | rfl
  · refine fin _ ((hs _ 0 b).trans (hs _ 1 a)) ?_
    have h1 := h.ck.setX hx hu (by simp; omega) 0 b
    have h2 := h1.setX (k := k) (g := g) (m := m) (c := cx) (x := b :: b :: r) (by rw [List.getElem?_set, if_pos rfl, if_pos hk]; rfl) hu (by simp; omega) 1 a
    rw [List.set_set] at h2
    exact h2
  · refine fin _ ((hs _ 1 a).trans (hs _ 0 b)) ?_
    have h1 := h.ck.setX hx hu (by simp; omega) 1 a
    have h2 := h1.setX (k := k) (g := g) (m := m) (c := cx) (x := a :: a :: r) (by rw [List.getElem?_set, if_pos rfl, if_pos hk]; rfl) hu (by simp; omega) 0 b
    rw [List.set_set] at h2
    exact h2
/-- amid the move: the clause is turned, its watchers are not yet -/
structure SpM (w : World) (tag : Nat → Tag) (p V : Nat) (L : List (List Int)) (c tr0 : List Int) (s0 : St) (fx dd : Int) (hd : Nat) (n : Int) (l : List Nat) (lw : Value) (kept rest : List Nat) (kv : Value) (tag' : Nat → Tag) (y : Lay) (s : St) (us : List Int) (k : Nat) (z : Int) (wr : World) : Prop where
  kr : Row wr tag' (9, 0) w.heap.size 3 kv (kVals kept)
  re : Re w tag tag'
  cg : Cg tag (Fr 9) w wr
  ck : Chk wr tag' p V y s.xs (upd s.wt n l) s.vs s.tr us fx dd
  lw : y.wv n = lw
  zn : z ≠ n
  zl : Lit V z
  wl : (s.wt z).length < L.length
  pl : SpJ V L c tr0 s0 { s with wt := upd (upd s.wt n (kept ++ rest)) z (s.wt z ++ [k]) } hd n kept rest
theorem SpW.move {j : Nat} (h : SpW w tag p V L c tr0 s0 fx dd hd n l lw kept (k :: rest) kv tag' y s us wr) (hx : s.xs[k]? = some (a :: n :: r)) (hu : y.rows[k]? = some (.slice (some ⟨g, 0, none⟩) m cx)) (hm : r.length + 2 = m)
    (hj : r[j]? = some z) (hz : lv (va s.vs) z ≠ -1)
    (hw : wr2 = ((wr.setCell ⟨g, 1, none⟩ (.int .i64 z)).setCell ⟨g, j + 2, none⟩ (.int .i64 n)).drew ∨ wr2 = ((wr.setCell ⟨g, j + 2, none⟩ (.int .i64 n)).setCell ⟨g, 1, none⟩ (.int .i64 z)).drew) :
    SpM w tag p V L c tr0 s0 fx dd hd n l lw kept rest kv tag' y { s with xs := s.xs.set k (a :: z :: r.set j n) } us k z wr2 := by
  have hk := (List.getElem?_eq_some_iff.1 hx).1
  have hrow := h.ck.cls k _ _ hx hu
  have hmem := List.mem_of_getElem? hx
  have hzr : z ∈ r := List.mem_of_getElem? hj
  have hlz : Lit V z := h.pl.si.xlit _ hmem z (by simp [hzr])
  have hzn : z ≠ n := fun e => by subst e; exact hz h.pl.val
  have hs : ∀ (w' : World) (j : Nat) (u : Int), Cg tag' (fun s => s = (3, (k : Int))) w' (w'.setCell ⟨g, j, none⟩ (.int .i64 u)) := fun w' j u => cg_store (by show tag' g = _; exact hrow.tg g rfl) _
  have hwl : (s.wt z).length < L.length := by
    have hp := (h.pl.move hx hj hz).si.wle z
    have e : (upd (upd s.wt n (kept ++ rest)) z (s.wt z ++ [k])) z = s.wt z ++ [k] := upd_same _ _ _
    have hp : ((upd (upd s.wt n (kept ++ rest)) z (s.wt z ++ [k])) z).length ≤ L.length := hp
    rw [e, List.length_append] at hp
    simp at hp
    omega
  have fin : ∀ w3 : World, Cg tag' (fun s => s = (3, (k : Int))) wr w3 → Chk w3 tag' p V y (s.xs.set k (a :: z :: r.set j n)) (upd s.wt n l) s.vs s.tr us fx dd → SpM w tag p V L c tr0 s0 fx dd hd n l lw kept rest kv tag' y { s with xs := s.xs.set k (a :: z :: r.set j n) } us k z w3.drew := fun w3 hc hk3 =>
    ⟨h.kr.chg (S := fun s => s = (3, (k : Int))) hc.drew (by simp), h.re, h.cg.trans_ ((hc.mono_ (S' := Fr 9) fun t e => by subst e; exact ⟨by show 1 ≤ 3; decide, by show 3 ≤ 9; decide⟩).drew) h.re, hk3.drew, h.lw, hzn, hlz, hwl, h.pl.move hx hj hz⟩
  rcases hw with rfl | rfl
  · refine fin _ ((hs _ 1 z).trans (hs _ (j + 2) n)) ?_
    have h1 := h.ck.setX hx hu (by simp; omega) 1 z
    have h2 := h1.setX (k := k) (g := g) (m := m) (c := cx) (x := a :: z :: r) (by rw [List.getElem?_set, if_pos rfl, if_pos hk]; rfl) hu (by simp; omega) (j + 2) n
    rw [List.set_set] at h2
    exact h2
  · refine fin _ ((hs _ (j + 2) n).trans (hs _ 1 z)) ?_
    have h1 := h.ck.setX hx hu (by simp; omega) (j + 2) n
    have h2 := h1.setX (k := k) (g := g) (m := m) (c := cx) (x := a :: n :: r.set j n) (by rw [List.getElem?_set, if_pos rfl, if_pos hk]; rfl) hu (by simp; omega) 1 z
    rw [List.set_set] at h2
    exact h2
/-- new blocks -/
theorem SpM.new (h : SpM w tag p V L c tr0 s0 fx dd hd n l lw kept rest kv tag' y s us k z wr) (hb : Below wr.heap.size wr wr2) : SpM w tag p V L c tr0 s0 fx dd hd n l lw kept rest kv tag' y s us k z wr2 :=
  ⟨h.kr.chg (S := fun _ => False) (cg_new hb) id, h.re, h.cg.trans_ (cg_new hb) h.re, h.ck.new hb, h.lw, h.zn, h.zl, h.wl, h.pl⟩
theorem SpW.new (h : SpW w tag p V L c tr0 s0 fx dd hd n l lw kept rest kv tag' y s us wr) (hb : Below wr.heap.size wr wr2) : SpW w tag p V L c tr0 s0 fx dd hd n l lw kept rest kv tag' y s us wr2 :=
  ⟨h.kr.chg (S := fun _ => False) (cg_new hb) id, h.re, h.cg.trans_ (cg_new hb) h.re, h.ck.new hb, h.lw, h.pl⟩
/-- the other number's watchers have one more -/
theorem SpM.push {A : Option Addr} {q cc : Nat} (h : SpM w tag p V L c tr0 s0 fx dd hd n l lw kept rest kv tag' y s us k z wr) (hV : V ≤ 500000) (ho : wr2.ownsRow 0 3 1 (.slice A q cc) q (kVals (s.wt z ++ [k]))) (hl : (s.wt z).length + 1 = q)
    (hg : wr.grownBy wr2 (y.wv z).ownBlock) (hloc : (Value.slice A q cc).ownBlock = (y.wv z).ownBlock ∨ (Value.slice A q cc).ownBlock = some wr.heap.size) :
    ∃ w2 tag2, (Instr.mapUpdate mapT (.map (some y.bm)) (.int .i64 z) (.slice A q cc)).run Tryd.prog wr2 = .ok () w2 ∧
      SpW w tag p V L c tr0 s0 fx dd hd n l lw kept rest kv tag2 { y with wv := updV y.wv z (.slice A q cc) } { s with wt := upd (upd s.wt n (kept ++ rest)) z (s.wt z ++ [k]) } us w2 := by
  obtain ⟨w2, tag2, hrun, hr, hc, hk⟩ := h.ck.push hV h.zl.2 ho (by simp; exact hl) hg hloc
  have hs := h.cg.size
  refine ⟨w2, tag2, hrun, ⟨(h.kr.re hr).chg (hc.re_ hr) (fun h9 => absurd h9.2 (by decide)), h.re.trans hr hs, h.cg.trans_ (hc.mono_ fun t ht => ⟨ht.1, by have := ht.2; omega⟩) h.re, ?_, ?_, h.pl⟩⟩
  · have e : upd (upd s.wt n l) z (s.wt z ++ [k]) = upd (upd (upd s.wt n (kept ++ rest)) z (s.wt z ++ [k])) n l := by
      rw [upd_comm s.wt h.zn, upd_comm s.wt h.zn, upd_upd]
    rw [e] at hk
    exact hk
  · show (if n = z then _ else y.wv n) = lw
    rw [if_neg (fun e => h.zn e.symm)]; exact h.lw
/-- memory alone: no word of what is kept -/
structure SpX (w : World) (tag : Nat → Tag) (p V : Nat) (fx dd : Int) (n : Int) (l : List Nat) (lw : Value) (kept : List Nat) (kv : Value) (tag' : Nat → Tag) (y : Lay) (s : St) (us : List Int) (wr : World) : Prop where
  kr : Row wr tag' (9, 0) w.heap.size 3 kv (kVals kept)
  re : Re w tag tag'
  cg : Cg tag (Fr 9) w wr
  ck : Chk wr tag' p V y s.xs (upd s.wt n l) s.vs s.tr us fx dd
  lw : y.wv n = lw
theorem SpW.x (h : SpW w tag p V L c tr0 s0 fx dd hd n l lw kept rest kv tag' y s us wr) : SpX w tag p V fx dd n l lw kept kv tag' y s us wr := ⟨h.kr, h.re, h.cg, h.ck, h.lw⟩
theorem SpX.w_ (h : SpX w tag p V fx dd n l lw kept kv tag' y s us wr) (hp : SpJ V L c tr0 s0 s hd n kept rest) : SpW w tag p V L c tr0 s0 fx dd hd n l lw kept rest kv tag' y s us wr := ⟨h.kr, h.re, h.cg, h.ck, h.lw, hp⟩
theorem SpX.new (h : SpX w tag p V fx dd n l lw kept kv tag' y s us wr) (hb : Below wr.heap.size wr wr2) : SpX w tag p V fx dd n l lw kept kv tag' y s us wr2 :=
  ⟨h.kr.chg (S := fun _ => False) (cg_new hb) id, h.re, h.cg.trans_ (cg_new hb) h.re, h.ck.new hb, h.lw⟩
theorem SpX.grown {A : Option Addr} {q cc : Nat} {kept2 : List Nat} (h : SpX w tag p V fx dd n l lw kept kv tag' y s us wr) (ho : wr2.ownsRow w.heap.size 3 1 (.slice A q cc) q (kVals kept2)) (hl : kept2.length = q)
    (hg : wr.grownBy wr2 kv.ownBlock) (hloc : (Value.slice A q cc).ownBlock = kv.ownBlock ∨ (Value.slice A q cc).ownBlock = some wr.heap.size) :
    ∃ tag2, SpX w tag p V fx dd n l lw kept2 (.slice A q cc) tag2 y s us wr2 := by
  obtain ⟨tag2, hr, hrow, hc⟩ := h.kr.grown ho (by rw [kVals_len]; exact hl) hg hloc
  have hs := h.cg.size
  exact ⟨tag2, hrow, h.re.trans hr hs, h.cg.trans_ (hc.mono_ fun t e => by subst e; exact ⟨by decide, by decide⟩) h.re, (h.ck.re hr).keep (hc.re_ hr) (fun t ht e => by subst e; exact absurd ht.2 (by decide)), h.lw⟩
theorem SpX.shelve (h : SpX w tag p V fx dd n l lw kept kv tag' y s us wr) (hV : V ≤ 500000) (hn : n.natAbs ≤ V) (hp : s.wt n = kept) :
    ∃ w2 tag2 y2, (Instr.mapUpdate mapT (.map (some y.bm)) (.int .i64 n) kv).run Tryd.prog wr = .ok () w2 ∧ Re w tag tag2 ∧ Cg tag (Fr 9) w w2 ∧ Chk w2 tag2 p V y2 s.xs s.wt s.vs s.tr us fx dd := by
  obtain ⟨w2, tag2, hrun, hr, hc, hk⟩ := h.ck.shelve hV hn h.kr
  rw [upd_upd, ← hp, upd_back] at hk
  exact ⟨w2, tag2, _, hrun, fun g hg => (hr g hg).trans (h.re g hg), h.cg.trans_ (hc.mono_ fun t ht => ⟨ht.1, by have := ht.2; omega⟩) h.re, hk⟩
theorem SpX.set_ {us2 : List Int} {tag2 : Nat → Tag} {vt : Value} (h : SpX w tag p V fx dd n l lw kept kv tag' y s us wr) (hr : Re wr tag' tag2) (hc : Cg tag' (Fr 8) wr wr2)
    (hk : Chk wr2 tag2 p V { y with vt := vt } s.xs (upd s.wt n l) (s.vs.set a.natAbs (sg a)) (s.tr ++ [a]) us2 fx dd) :
    SpX w tag p V fx dd n l lw kept kv tag2 { y with vt := vt } { s with vs := s.vs.set a.natAbs (sg a), tr := s.tr ++ [a] } us2 wr2 := by
  have hs := h.cg.size
  exact ⟨(h.kr.re hr).chg (hc.re_ hr) (fun h9 => absurd h9.2 (by decide)), h.re.trans hr hs, h.cg.trans_ (hc.mono_ fun t ht => ⟨ht.1, by have := ht.2; omega⟩) h.re, hk, h.lw⟩
theorem SpX.cells (h : SpX w tag p V fx dd n l lw kept kv tag' y s us wr) {x : List Int} (hx : s.xs[k]? = some x) (hu : y.rows[k]? = some (.slice (some ⟨g, 0, none⟩) m cx)) (hm : x.length = m) (j : Nat) {u : Int} (hj : x[j]? = some u) :
    wr.cell? ⟨g, j, none⟩ = some (.int .i64 u) ∧ wr.frozen? ⟨g, j, none⟩ = false := by
  have h1 := h.ck.cls k _ _ hx hu
  have h2 : Row wr tag' (3, (k : Int)) 0 3 (.slice (some ⟨g, 0, none⟩) (litVals x).length cx) (litVals x) := by rw [litVals_len, hm]; exact h1
  exact ⟨Row.cell h2 (lit_at hj), Row.frozen h2 j⟩
set_option maxRecDepth 100000 in
/-- while the other number's row grows, this is seen -/
theorem SpM.seen {x : List Int} {u : Int} (h : SpM w tag p V L c tr0 s0 fx dd hd n l lw kept rest kv tag' y s us k z wr) (hV : V ≤ 500000) (hg : wr.grownBy wr2 (y.wv z).ownBlock) (hx : s.xs[k]? = some x) (hu : y.rows[k]? = some (.slice (some ⟨g, 0, none⟩) m cx)) (hm : x.length = m) (j : Nat) (hj : x[j]? = some u) :
    wr2.cell? ⟨p, 1, none⟩ = some (.map (some y.bm)) ∧ wr2.cell? ⟨g, j, none⟩ = some (.int .i64 u) ∧ (Instr.lookup mapT (.map (some y.bm)) (.int .i64 z) false).run Tryd.prog wr2 = .ok (y.wv z) wr2 := by
  have hc : Cg tag' (fun s => s = (8, z)) wr wr2 := cg_grown hg fun g hg => (h.ck.wts z h.zl.2).tg g hg
  have h1 := (h.ck.cls k _ _ hx hu).chg hc (by simp)
  have h2 : Row wr2 tag' (3, (k : Int)) 0 3 (.slice (some ⟨g, 0, none⟩) (litVals x).length cx) (litVals x) := by rw [litVals_len, hm]; exact h1
  have hmap : RawMap Tryd.prog 3 wr2 y.bm V y.wv := h.ck.map.chg hc fun o => by show ¬ tag' y.bm = _; rw [h.ck.tm]; simp
  exact ⟨(h.ck.blk.tchg h.ck.tp hc (by simp)).cell 1, Row.cell h2 (lit_at hj), hmap.look Tryd.underlying3 Tryd.underlying52 (zero_sl wr2) (by omega) h.zl.2⟩
end
end Go.Proofs.YtgchepkcjkhmmaaDoor
namespace Go.Proofs.YtgchepkcjkhmmaaDoor
open Go.RowKit
section
variable {w : World} {tag : Nat → Tag} {p V : Nat} {L : List (List Int)} {c tr0 : List Int} {s0 s : St} {fx dd : Int} {us : List Int} {y : Lay}
def SpO (w : World) (tag : Nat → Tag) (p V : Nat) (L : List (List Int)) (c tr0 : List Int) (s0 : St) (fx dd : Int) (hv : Value) (wr : World) : Prop :=
  ∃ (hd : Nat) (tag' : Nat → Tag) (y : Lay) (s : St) (us : List Int), hv = .int .i64 (hd : Nat) ∧ hd ≤ s.tr.length ∧ Re w tag tag' ∧ Cg tag (Fr 9) w wr ∧ Chk wr tag' p V y s.xs s.wt s.vs s.tr us fx dd ∧ SpI V L c tr0 s0 s hd
def SpK (w : World) (tag : Nat → Tag) (p V : Nat) (L : List (List Int)) (c tr0 : List Int) (s0 : St) (fx dd : Int) (hd : Nat) (n : Int) (l : List Nat) (lw : Value) (iv kv : Value) (wr : World) : Prop :=
  ∃ (i : Nat) (kept : List Nat) (tag' : Nat → Tag) (y : Lay) (s : St) (us : List Int), iv = .int .i64 (i : Nat) ∧ i ≤ l.length ∧ SpW w tag p V L c tr0 s0 fx dd hd n l lw kept (l.drop i) kv tag' y s us wr
def SpL (m : Nat) (r : List Int) (s : St) (jv : Value) : Prop := ∃ j : Nat, 2 ≤ j ∧ j ≤ m ∧ jv = .int .i64 (j : Nat) ∧ ∀ (q : Nat) y, q + 2 < j → r[q]? = some y → lv (va s.vs) y = -1
set_option maxRecDepth 100000 in
set_option maxHeartbeats 4000000 in
theorem spread_any {hd0 : Nat} (h : Chk w tag p V y s.xs s.wt s.vs s.tr us fx dd) (hp : SpI V L c tr0 s s hd0) (hV : V ≤ 150000) (hL : L.length ≤ 1000000) (hhd : hd0 ≤ s.tr.length) :
    Calls Tryd.prog 38 #[.pointer (some ⟨p, 0, none⟩), .int .i64 (hd0 : Nat)] w (SpP w tag p V L c tr0 s fx dd) := by
  obtain ⟨i0, hi, hz0, hz1, hz2⟩ := info_parts info_int
  have HI := Lib.hid (And.intro hi (And.intro hz0 (And.intro hz1 hz2)))
  clear hi hz0 hz1 hz2
  have HST := Lib.hid (show SpO w tag p V L c tr0 s fx dd (.int .i64 (hd0 : Nat)) w from ⟨hd0, tag, y, s, us, rfl, hhd, Re.refl _ _, Chg.refl _ _, h, hp⟩)
  have HSZ := Lib.hid (Nat.le_refl w.heap.size)
  clear h hp hhd
  obtain ⟨s0, hs0⟩ : ∃ s0, s = s0 := ⟨_, rfl⟩
  rw [hs0] at HST ⊢
  clear hs0
  go_enter Tryd.func38, Tryd.ntmps38
  go_wp2_with fail
  go_loopw [1] (fun hv wr => SpO w tag p V L c tr0 s0 fx dd hv wr) (fun hv _ => V + 1 - (intOf hv).toNat)
  case atStart => exact HST.out
  case round =>
    obtain ⟨hd, tag1, y1, s1, us1, rfl, hhd, hre, hcg, hck, hpl⟩ := hrel
    clear HST
    have htl := hpl.si.tr_le
    obtain ⟨vC, rows, bm, gv, gu, vt, wv⟩ := y1
    obtain ⟨T, hT⟩ : ∃ T, s1.tr.length = T := ⟨_, rfl⟩
    obtain ⟨A, cT, hvt⟩ := hck.trl.form
    rw [litVals_len, hT] at hvt
    dsimp only at hvt
    subst hvt
    rw [hT] at hhd htl
    have c3 : wr.cell? ⟨p, 3, none⟩ = some (.slice A T cT) := hck.blk.cell 3
    have HT := Lib.hid hT
    have HRE := Lib.hid hre
    have HCG := Lib.hid hcg
    have HCK := Lib.hid hck
    have HPL := Lib.hid hpl
    clear hre hcg hck hpl hT
    by_cases hlt : hd < T
    · obtain ⟨m, hm⟩ : ∃ m, s1.tr[hd]? = some m := ⟨_, List.getElem?_eq_getElem (by rw [HT.out]; exact hlt)⟩
      obtain ⟨n, hn⟩ : ∃ n, -m = n := ⟨_, rfl⟩
      obtain ⟨gt, hA⟩ : ∃ gt, A = some ⟨gt, 0, none⟩ := by
        obtain ⟨g, cc, hv, _, _⟩ := HCK.out.trl.at_ (by rw [litVals_len, HT.out]; omega)
        injection hv with e1; exact ⟨g, e1⟩
      subst hA
      have ct : wr.cell? ⟨gt, hd, none⟩ = some (.int .i64 m) := Row.cell (xs := litVals s1.tr) (c := cT) (by rw [litVals_len, HT.out]; exact HCK.out.trl) (lit_at hm)
      have hlm : Lit V m := (HPL.out.si.trv m (List.mem_of_getElem? hm)).1
      have wn : IntKind.i64.wrap (-m) = n := by rw [IntKind.wrap_i64]; have := hlm.2; omega
      have hnV : n.natAbs ≤ V := by have := hlm.2; omega
      have HAT := Lib.hid (show s1.tr[hd]? = some (-n) by rw [hm]; congr 1; omega)
      obtain ⟨l, hl⟩ : ∃ l, s1.wt n = l := ⟨_, rfl⟩
      obtain ⟨Al, cl, hwv⟩ := (HCK.out.wts n hnV).form
      rw [kVals_len, hl] at hwv
      dsimp only at hwv
      have look : (Instr.lookup 52 (.map (some bm)) (.int .i64 n) false).run Tryd.prog wr = .ok (.slice Al l.length cl) wr := by
        have := HCK.out.look (by omega) hnV
        dsimp only at this
        rw [hwv] at this; exact this
      have c1 : wr.cell? ⟨p, 1, none⟩ = some (.map (some bm)) := HCK.out.blk.cell 1
      have hlL : l.length ≤ 1000000 := by have := HPL.out.si.wle n; rw [hl] at this; omega
      have HST := Lib.hid (show SpK w tag p V L c tr0 s0 fx dd hd n l (.slice Al l.length cl) (.int .i64 ((0 : Nat) : Int)) (.slice none 0 0) wr from ⟨0, [], tag1, ⟨vC, rows, bm, gv, gu, .slice (some ⟨gt, 0, none⟩) T cT, wv⟩, s1, us1, rfl, Nat.zero_le _, ⟨Row.nil _ _ _ _ _, HRE.out, HCG.out, by rw [← hl, upd_back]; exact HCK.out, hwv, by rw [List.drop_zero, ← hl]; exact HPL.out.start HAT.out⟩⟩)
      clear hm hn hlm hl hwv HCG HCK HPL HRE HT HAT
      go_wp2_with fail
      clear c1 c3 ct look wn
      go_loopw [37, 7] (fun iv kv wr => SpK w tag p V L c tr0 s0 fx dd hd n l (.slice Al l.length cl) iv kv wr) (fun iv _ _ => l.length - (intOf iv).toNat)
      case atStart => exact HST.out
      case round =>
        clear HST
        obtain ⟨i, kept, tag1, y1, s1, us1, rfl, hil, hS⟩ := hrel
        obtain ⟨vC, rows, bm, gv, gu, vt, wv⟩ := y1
        obtain ⟨Ak, ck, hkv⟩ := hS.kr.form
        rw [kVals_len] at hkv
        subst hkv
        have HS := Lib.hid hS
        clear hS
        by_cases hi : i < l.length
        · obtain ⟨k, hk⟩ : ∃ k, l[i]? = some k := ⟨_, List.getElem?_eq_getElem hi⟩
          obtain ⟨rest, hrest⟩ : ∃ rest, l.drop (i + 1) = rest := ⟨_, rfl⟩
          have hdr : l.drop i = k :: rest := by rw [← hrest, List.drop_eq_getElem_cons hi]; congr 1; rw [List.getElem?_eq_getElem hi] at hk; injection hk
          have hS := HS.out
          rw [hdr] at hS
          obtain ⟨a, b, r, hx, hab⟩ := hS.pl.clause
          obtain ⟨gc, cc, gx, cx, hvC, hkL, chd, hu, hrow⟩ := hS.row hx (by simp)
          dsimp only at hvC hu
          subst hvC
          obtain ⟨m, hm⟩ : ∃ m, r.length + 2 = m := ⟨_, rfl⟩
          have hml : (a :: b :: r).length = m := by simp; omega
          have hmV : m ≤ 2 * V := by have := hS.pl.si.xle hx; omega
          obtain ⟨gl, hAl⟩ : ∃ gl, Al = some ⟨gl, 0, none⟩ := by
            obtain ⟨g, cc', hv, _, _⟩ := (hS.ck.wts n hnV).at_ (by rw [upd_same, kVals_len]; omega)
            have hlw := hS.lw
            dsimp only at hlw hv
            rw [hlw] at hv
            injection hv with e1; exact ⟨g, e1⟩
          subst hAl
          have cl1 : wr.cell? ⟨gl, i, none⟩ = some (.int .i64 (k : Int)) := by
            have h1 := hS.ck.wts n hnV
            have hlw := hS.lw
            dsimp only at hlw h1
            rw [upd_same, hlw] at h1
            exact Row.cell (xs := kVals l) (c := cl) (by rw [kVals_len]; exact h1) (k_at hk)
          rw [hml] at chd hu
          have c0 : wr.cell? ⟨p, 0, none⟩ = some (.slice (some ⟨gc, 0, none⟩) L.length cc) := hS.ck.blk.cell 0
          have cx0 : wr.cell? ⟨gx, 0, none⟩ = some (.int .i64 a) := Row.cell hrow (lit_at rfl)
          have cx1 : wr.cell? ⟨gx, 1, none⟩ = some (.int .i64 b) := Row.cell hrow (lit_at rfl)
          have fx0 : wr.frozen? ⟨gx, 0, none⟩ = false := Row.frozen hrow 0
          have fx1 : wr.frozen? ⟨gx, 1, none⟩ = false := Row.frozen hrow 1
          have kI : (k : Int) < (L.length : Int) := by omega
          have iI : (i : Int) < (l.length : Int) := by omega
          have m0 : (0 : Int) < (m : Int) := by omega
          have m1 : (1 : Int) < (m : Int) := by omega
          have HX := Lib.hid hx
          have HU := Lib.hid hu
          have HM := Lib.hid hm
          have HREST := Lib.hid hrest
          have HS := Lib.hid hS
          have HAB := Lib.hid hab
          clear hx hu hm hrest hS hdr hk hab hml hrow
          go_upto_if 53 with fail
          go_cut [] (fun wx => ∃ (wz : World), wz = wx ∧ ∃ (a2 : Int) (r2 : List Int) (s2 : St), s2.xs[k]? = some (a2 :: n :: r2) ∧ r2.length + 2 = m ∧ SpW w tag p V L c tr0 s0 fx dd hd n l (.slice (some ⟨gl, 0, none⟩) l.length cl) kept (k :: rest) (.slice Ak kept.length ck) tag1 ⟨.slice (some ⟨gc, 0, none⟩) L.length cc, rows, bm, gv, gu, vt, wv⟩ s2 us1 wx)
          case first =>
            as_aux_lemma =>
            by_cases ha : a = n
            · subst ha
              have ht : ((a : Int) == a) = true := by simp
              have E1 := Lib.hid (HS.out.swap (wr2 := ((wr.setCell ⟨gx, 0, none⟩ (.int .i64 b)).setCell ⟨gx, 1, none⟩ (.int .i64 a)).drew) HX.out HU.out HM.out (.inl rfl))
              have E2 := Lib.hid (HS.out.swap (wr2 := ((wr.setCell ⟨gx, 1, none⟩ (.int .i64 a)).setCell ⟨gx, 0, none⟩ (.int .i64 b)).drew) HX.out HU.out HM.out (.inr rfl))
              have HXS := Lib.hid (show (s1.xs.set k (b :: a :: r))[k]? = some (b :: a :: r) by rw [List.getElem?_set, if_pos rfl, if_pos (List.getElem?_eq_some_iff.1 HX.out).1])
              go_wp2_with fail
              go_region
              all_goals go_wp2
              all_goals go_meet
              all_goals first
                | exact ⟨_, rfl, b, r, _, HXS.out, HM.out, E1.out⟩
                | exact ⟨_, rfl, b, r, _, HXS.out, HM.out, E2.out⟩
            · have hb : b = n := HAB.out.resolve_left ha
              subst hb
              have ht : ((a : Int) == b) = false := by simp [ha]
              go_wp2_with fail
              go_meet
              exact ⟨_, rfl, a, r, s1, HX.out, HM.out, HS.out⟩
          case rest =>
          obtain ⟨wz, hwz, a2, r2, s2, hx2, hm2, hS2⟩ := hcut
          subst hwz
          clear c0 cx0 cx1 fx0 fx1 chd cl1 HS HX HAB HM
          have hla : a2.natAbs ≤ V := (hS2.pl.si.xlit _ (List.mem_of_getElem? hx2) a2 (by simp)).2
          have C1 := of_any hS2.ck hS2.pl.si.vlen hS2.pl.si.vok hla (by omega)
          obtain ⟨v, hv⟩ : ∃ v, lv (va s2.vs) a2 = v := ⟨_, rfl⟩
          have hv3 := hS2.pl.si.ok a2
          rw [hv] at C1 hv3
          have C1 := Lib.hid C1
          have XC := Lib.hid (fun (j : Nat) (z : Int) (hj : (a2 :: n :: r2)[j]? = some z) => hS2.x.cells hx2 HU.out (by simp; omega) j hj)
          have hkl : kept.length ≤ 999999 := by
            have h1 := hS2.pl.si.wle n
            rw [hS2.pl.wtn] at h1
            simp at h1
            omega
          have HKR := Lib.hid (show (wz.alloc (.cells #[.int .i64 (k : Int)] 3)).ownsRow w.heap.size 3 1 (.slice Ak kept.length ck) kept.length (kVals kept) from by
            have := (hS2.kr.alloc (.cells #[.int .i64 (k : Int)] 3)).own
            rw [kVals_len] at this; exact this)
          have HWZ := Lib.hid (show w.heap.size ≤ (wz.alloc (.cells #[.int .i64 (k : Int)] 3)).heap.size from by have := hS2.cg.size; simp; omega)
          have HA := Lib.hid (hS2.x.new ((Below.refl _ _).alloc (Nat.le_refl _) (.cells #[.int .i64 (k : Int)] 3)))
          have HS := Lib.hid hS2
          have HX := Lib.hid hx2
          have HM := Lib.hid hm2
          have HV := Lib.hid hv
          have cx0 := (XC.out 0 a2 rfl).1
          clear hS2 hx2 hm2 hv
          by_cases hv1 : v = 1
          · as_aux_lemma =>
            subst hv1
            go_wp2_with fail
            refine C1.out.mono ?_
            rintro e w' ⟨rfl, rfl⟩
            go_wp2_with (first | (at_builtin; refine wpList_append_loc _ rfl (.tmp 121) (.tmp 123) _ rfl w.heap.size 3 i0 _ 1 8 Tryd.underlying27 HI.out.1 HI.out.2.1 HI.out.2.2.1 HI.out.2.2.2 rfl (by omega) (.slice Ak kept.length ck) kept.length (kVals kept) rfl HKR.out (wz.heap.size + 1) (some ⟨wz.heap.size, 0, none⟩) 1 1 [.int .i64 (k : Int)] rfl (reads_new (by simp) (by simp) rfl) (by intro u hu; rw [List.mem_singleton.1 hu]; rfl) (le_maxLen (by omega)) (le_bytes (by omega) (by omega)) HWZ.out ?_; intro A6 c6 w6 hown6 hg6 hl6; obtain ⟨tag2, hX6⟩ := HA.out.grown (kept2 := kept ++ [k]) (by rw [← k_snoc]; exact hown6) (by simp) hg6 hl6; have cx6 := (hX6.cells HX.out HU.out (by have := HM.out; simp; omega) 0 (u := a2) rfl).1; have H6 := Lib.hid hX6; clear hown6 hg6 hl6 hX6) | fail)
            have C6 := of_any H6.out.ck HS.out.pl.si.vlen HS.out.pl.si.vok hla (by omega)
            rw [HV.out] at C6
            have C6 := Lib.hid C6
            refine C6.out.mono ?_
            rintro e w' ⟨rfl, rfl⟩
            have HN := Lib.hid (show SpK w tag p V L c tr0 s0 fx dd hd n l (.slice (some ⟨gl, 0, none⟩) l.length cl) (.int .i64 ((i + 1 : Nat) : Int)) (.slice A6 (kept.length + 1) c6) w6 from ⟨i + 1, kept ++ [k], tag2, _, s2, us1, rfl, by omega, by rw [HREST.out]; exact H6.out.w_ (HS.out.pl.hold HX.out HV.out)⟩)
            go_wp2_with fail
            go_roundw
            case rel => exact HN.out
            case measure => simp [intOf]; omega
          · as_aux_lemma =>
            have hvn : ((v : Int) != 1) = true := by simp [hv1]
            have HJ0 := Lib.hid (show SpL m r2 s2 (.int .i64 ((2 : Nat) : Int)) from ⟨2, Nat.le_refl _, by omega, rfl, fun q y hq _ => by omega⟩)
            go_wp2_with fail
            refine C1.out.mono ?_
            rintro e w' ⟨rfl, rfl⟩
            go_wp2_with fail
            go_loop [11] (fun jv => SpL m r2 s2 jv) (fun jv => m - (intOf jv).toNat)
            case atStart => exact HJ0.out
            case round =>
              obtain ⟨j, hj2, hjm, rfl, hjr⟩ := hrel
              have HJR := Lib.hid hjr
              clear hjr HJ0
              by_cases hjlt : j < m
              · obtain ⟨q, hq⟩ : ∃ q, j = q + 2 := ⟨j - 2, by omega⟩
                obtain ⟨z, hz⟩ : ∃ z, r2[q]? = some z := ⟨_, List.getElem?_eq_getElem (by have := HM.out; omega)⟩
                obtain ⟨cz, fz⟩ := XC.out j z (by rw [hq]; exact hz)
                have hlz : z.natAbs ≤ V := (HS.out.pl.si.xlit _ (List.mem_of_getElem? HX.out) z (by simp [List.mem_of_getElem? hz])).2
                have Cz := of_any HS.out.ck HS.out.pl.si.vlen HS.out.pl.si.vok hlz (by omega)
                obtain ⟨u, hu⟩ : ∃ u, lv (va s2.vs) z = u := ⟨_, rfl⟩
                rw [hu] at Cz
                have Cz := Lib.hid Cz
                have HZ := Lib.hid hz
                have HZU := Lib.hid hu
                have HQ := Lib.hid hq
                have jI : (j : Int) < (m : Int) := by omega
                clear hz hu hq
                by_cases hu1 : u = -1
                · as_aux_lemma =>
                  have hun : ((u : Int) == -1) = true := by simp [hu1]
                  have HR := Lib.hid (show SpL m r2 s2 (.int .i64 ((j + 1 : Nat) : Int)) from ⟨j + 1, by omega, by omega, rfl, fun q' y' hq' hy' => by
                    have := HQ.out
                    by_cases e : q' = q
                    · subst e; rw [HZ.out] at hy'; injection hy' with hy'; rw [← hy', HZU.out]; exact hu1
                    · exact HJR.out q' y' (by omega) hy'⟩)
                  clear hu1
                  go_wp2_with fail
                  refine Cz.out.mono ?_
                  rintro e w' ⟨rfl, rfl⟩
                  go_wp2_with fail
                  go_round
                  case rel => exact HR.out
                  case measure => simp [intOf]; omega
                · as_aux_lemma =>
                  have hun : ((u : Int) == -1) = false := by simp [hu1]
                  have hz1 : lv (va s2.vs) z ≠ -1 := by rw [HZU.out]; exact hu1
                  obtain ⟨cx1, fx1⟩ := XC.out 1 n rfl
                  have E1 := Lib.hid (HS.out.move (wr2 := ((wz.setCell ⟨gx, 1, none⟩ (.int .i64 z)).setCell ⟨gx, j, none⟩ (.int .i64 n)).drew) HX.out HU.out HM.out HZ.out hz1 (.inl (by rw [HQ.out])))
                  have E2 := Lib.hid (HS.out.move (wr2 := ((wz.setCell ⟨gx, j, none⟩ (.int .i64 n)).setCell ⟨gx, 1, none⟩ (.int .i64 z)).drew) HX.out HU.out HM.out HZ.out hz1 (.inr (by rw [HQ.out])))
                  have HXM := Lib.hid (show (s2.xs.set k (a2 :: z :: r2.set q n))[k]? = some (a2 :: z :: r2.set q n) by rw [List.getElem?_set, if_pos rfl, if_pos (List.getElem?_eq_some_iff.1 HX.out).1])
                  have hj1 : j ≠ 1 := by omega
                  have hj1' : 1 ≠ j := by omega
                  clear hu1 hz1
                  go_wp2_with fail
                  refine Cz.out.mono ?_
                  rintro e w' ⟨rfl, rfl⟩
                  go_wp2_with fail
                  go_upto_region 19 with fail
                  go_cut [] (fun wx => ∃ wm, wm = wx ∧ SpM w tag p V L c tr0 s0 fx dd hd n l (.slice (some ⟨gl, 0, none⟩) l.length cl) kept rest (.slice Ak kept.length ck) tag1 ⟨.slice (some ⟨gc, 0, none⟩) L.length cc, rows, bm, gv, gu, vt, wv⟩ { s2 with xs := s2.xs.set k (a2 :: z :: r2.set q n) } us1 k z wm)
                  case first =>
                    as_aux_lemma =>
                    go_region
                    all_goals go_wp2
                    all_goals go_meet
                    all_goals first
                      | exact ⟨_, rfl, E1.out⟩
                      | exact ⟨_, rfl, E2.out⟩
                  case rest =>
                  as_aux_lemma =>
                  obtain ⟨wm, hwm, hM⟩ := hcut
                  subst hwm
                  clear E1 E2 cz fz cx0 cx1 fx1 Cz C1
                  obtain ⟨Az, cw, hwz⟩ := (hM.ck.wts z hlz).form
                  rw [kVals_len, upd_other hM.zn] at hwz
                  have hwz : wv z = .slice Az (s2.wt z).length cw := hwz
                  have hwl : (s2.wt z).length ≤ 999999 := by have h1 := hM.wl; have h2 : ({ s2 with xs := s2.xs.set k (a2 :: z :: r2.set q n) } : St).wt z = s2.wt z := rfl; rw [h2] at h1; omega
                  have SEEN := Lib.hid (show ∀ w' : World, wm.grownBy w' (wv z).ownBlock → w'.cell? ⟨p, 1, none⟩ = some (.map (some bm)) ∧ w'.cell? ⟨gx, 1, none⟩ = some (.int .i64 z) ∧ (Instr.lookup 52 (.map (some bm)) (.int .i64 z) false).run Tryd.prog w' = .ok (.slice Az (s2.wt z).length cw) w' from fun w' hg => by
                    have := hM.seen (by omega) hg HXM.out HU.out (by have := HM.out; simp; omega) 1 (u := z) rfl
                    dsimp only at this
                    rw [hwz] at this; exact this)
                  have HROW := Lib.hid (show wm.ownsRow 0 3 1 (.slice Az (s2.wt z).length cw) (s2.wt z).length (kVals (s2.wt z)) from by
                    have h1 := (hM.ck.wts z hlz).own
                    rw [kVals_len, upd_other hM.zn] at h1
                    have h1 : wm.ownsRow 0 3 1 (wv z) (s2.wt z).length (kVals (s2.wt z)) := h1
                    rw [hwz] at h1; exact h1)
                  have HWZ2 := Lib.hid hwz
                  have HMM := Lib.hid hM
                  clear hM hwz
                  go_wp2_with fail
                  refine wp_region_mv (S := fun w' => w'.cell? ⟨p, 1, none⟩ = some (.map (some bm)) ∧ w'.cell? ⟨gx, 1, none⟩ = some (.int .i64 z) ∧ (Instr.lookup 52 (.map (some bm)) (.int .i64 z) false).run Tryd.prog w' = .ok (.slice Az (s2.wt z).length cw) w') 18 [.f 0, .f 1, .f 2, .f 3, .f 4, .f 5, .f 6, .f 7, .f 8, .f 9, .f 10, .f 11, .f 12, .f 13, .f 14, .f 15, .t 16, .t 17, .t 18] (by kernel_rfl) (by kernel_rfl) (by kernel_rfl) (SEEN.out _ (only_drew (World.grownBy.refl _ _))) ?_
                  iterate 16 (refine mv_take _ _ rfl (by kernel_rfl) (fun wv hv => by obtain ⟨hv1, hv2, hv3⟩ := hv; go_simp; try with_reducible rfl) ?_; simp only [Act.put, List.getElem_toArray, List.getElem_cons_zero, List.getElem_cons_succ, List.setIfInBounds_toArray, List.set_cons_zero, List.set_cons_succ])
                  refine mv_act _ rfl (fun K hK => ?_)
                  go_simp
                  go_simp
                  refine hK _ _ (.inr (SEEN.out _ (only_alloc (only_drew (World.grownBy.refl _ _)) _))) ?_
                  clear hK K
                  refine mv_act _ rfl (fun K hK => ?_)
                  refine step_append_loc _ rfl (.tmp 117) (.tmp 119) _ rfl 0 3 i0 _ 1 8 Tryd.underlying27 HI.out.1 HI.out.2.1 HI.out.2.2.1 HI.out.2.2.2 rfl (by omega) (.slice Az (s2.wt z).length cw) (s2.wt z).length (kVals (s2.wt z)) rfl (World.ownsRow.alloc (World.ownsRow.drew HROW.out) _) (wm.heap.size + 1) (some ⟨wm.heap.size, 0, none⟩) 1 1 [.int .i64 (k : Int)] rfl (reads_new (by simp) (by simp) rfl) (by intro u hu; rw [List.mem_singleton.1 hu]; rfl) (le_maxLen (by omega)) (le_bytes (by omega) (by omega)) (by simp) ?_
                  intro A6 c6 w6 hown6 hg6 hl6
                  have hg7 : (wm.drew.alloc (.cells #[.int .i64 (k : Int)] 3)).grownBy w6 (wv z).ownBlock := by rw [HWZ2.out]; exact hg6
                  have hl7 : (Value.slice A6 ((s2.wt z).length + 1) c6).ownBlock = (wv z).ownBlock ∨ (Value.slice A6 ((s2.wt z).length + 1) c6).ownBlock = some (wm.drew.alloc (.cells #[.int .i64 (k : Int)] 3)).heap.size := by rw [HWZ2.out]; exact hl6
                  have hS6 := SEEN.out w6 (grown_tr (only_alloc (only_drew (World.grownBy.refl _ _)) _) hg7)
                  obtain ⟨w2, tag2, hrun, hW⟩ := (HMM.out.new ((below_drewN (Below.refl _ _) 1).alloc (Nat.le_refl _) (.cells #[.int .i64 (k : Int)] 3))).push (by omega) (by rw [← k_snoc]; exact hown6) rfl hg7 hl7
                  have hrun : (Instr.mapUpdate 52 (.map (some bm)) (.int .i64 z) (.slice A6 ((s2.wt z).length + 1) c6)).run Tryd.prog w6 = .ok () w2 := hrun
                  have HN := Lib.hid (show SpK w tag p V L c tr0 s0 fx dd hd n l (.slice (some ⟨gl, 0, none⟩) l.length cl) (.int .i64 ((i + 1 : Nat) : Int)) (.slice Ak kept.length ck) w2 from ⟨i + 1, kept, tag2, _, _, us1, rfl, by omega, by rw [HREST.out]; exact hW⟩)
                  clear hown6 hg6 hl6 hg7 hl7 hW
                  refine hK _ _ (.inr (hS6)) ?_
                  clear hK K
                  try simp only [Act.put, List.getElem_toArray, List.getElem_cons_zero, List.getElem_cons_succ, List.setIfInBounds_toArray, List.set_cons_zero, List.set_cons_succ]
                  clear hS6
                  refine mv_act _ rfl (fun K hK => ?_)
                  go_simp
                  go_simp
                  refine hK _ _ (.inl rfl) ?_
                  clear hK K
                  refine mv_nil ?_
                  go_wp2_with fail
                  go_roundw
                  case rel => exact HN.out
                  case measure => simp [intOf]; omega
              · obtain rfl : j = m := by omega
                have HALL := Lib.hid (show ∀ y ∈ r2, lv (va s2.vs) y = -1 from fun y hy => by
                  obtain ⟨q, hq, e⟩ := List.getElem_of_mem hy
                  exact HJR.out q y (by have := HM.out; omega) (by rw [List.getElem?_eq_getElem hq, e]))
                clear HJR hjlt
                by_cases hv0 : v = 0
                · as_aux_lemma =>
                  subst hv0
                  go_wp2_with (first | (at_builtin; refine wpList_append_loc _ rfl (.tmp 121) (.tmp 123) _ rfl w.heap.size 3 i0 _ 1 8 Tryd.underlying27 HI.out.1 HI.out.2.1 HI.out.2.2.1 HI.out.2.2.2 rfl (by omega) (.slice Ak kept.length ck) kept.length (kVals kept) rfl HKR.out (wz.heap.size + 1) (some ⟨wz.heap.size, 0, none⟩) 1 1 [.int .i64 (k : Int)] rfl (reads_new (by simp) (by simp) rfl) (by intro u hu; rw [List.mem_singleton.1 hu]; rfl) (le_maxLen (by omega)) (le_bytes (by omega) (by omega)) HWZ.out ?_; intro A6 c6 w6 hown6 hg6 hl6; obtain ⟨tag2, hX6⟩ := HA.out.grown (kept2 := kept ++ [k]) (by rw [← k_snoc]; exact hown6) (by simp) hg6 hl6; have cx6 := (hX6.cells HX.out HU.out (by have := HM.out; simp; omega) 0 (u := a2) rfl).1; have H6 := Lib.hid hX6; clear hown6 hg6 hl6 hX6) | fail)
                  have C6 := of_any H6.out.ck HS.out.pl.si.vlen HS.out.pl.si.vok hla (by omega)
                  rw [HV.out] at C6
                  have C6 := Lib.hid C6
                  refine C6.out.mono ?_
                  rintro e w' ⟨rfl, rfl⟩
                  have HU2 := Lib.hid (HS.out.pl.unit HX.out HALL.out HV.out)
                  have CS := Lib.hid (set_any H6.out.ck HS.out.pl.si.vlen HS.out.pl.si.tr_le HU2.out.1 (by_ := (k : Int)) (by omega))
                  go_wp2_with fail
                  refine CS.out.mono ?_
                  rintro e w7 ⟨rfl, tag3, vt3, hr3, hc3, hk3⟩
                  have HN := Lib.hid (show SpK w tag p V L c tr0 s0 fx dd hd n l (.slice (some ⟨gl, 0, none⟩) l.length cl) (.int .i64 ((i + 1 : Nat) : Int)) (.slice A6 (kept.length + 1) c6) w7 from ⟨i + 1, kept ++ [k], tag3, _, _, _, rfl, by omega, by rw [HREST.out]; exact (H6.out.set_ hr3 hc3 hk3).w_ HU2.out.2⟩)
                  clear hr3 hc3 hk3
                  go_wp2_with fail
                  go_roundw
                  case rel => exact HN.out
                  case measure => simp [intOf]; omega
                · as_aux_lemma =>
                  obtain rfl : v = -1 := by omega
                  go_wp2_with (first | (at_builtin; refine wpList_append_loc _ rfl (.tmp 121) (.tmp 123) _ rfl w.heap.size 3 i0 _ 1 8 Tryd.underlying27 HI.out.1 HI.out.2.1 HI.out.2.2.1 HI.out.2.2.2 rfl (by omega) (.slice Ak kept.length ck) kept.length (kVals kept) rfl HKR.out (wz.heap.size + 1) (some ⟨wz.heap.size, 0, none⟩) 1 1 [.int .i64 (k : Int)] rfl (reads_new (by simp) (by simp) rfl) (by intro u hu; rw [List.mem_singleton.1 hu]; rfl) (le_maxLen (by omega)) (le_bytes (by omega) (by omega)) HWZ.out ?_; intro A6 c6 w6 hown6 hg6 hl6; obtain ⟨tag2, hX6⟩ := HA.out.grown (kept2 := kept ++ [k]) (by rw [← k_snoc]; exact hown6) (by simp) hg6 hl6; have cx6 := (hX6.cells HX.out HU.out (by have := HM.out; simp; omega) 0 (u := a2) rfl).1; have H6 := Lib.hid hX6; clear hown6 hg6 hl6 hX6) | fail)
                  have C6 := of_any H6.out.ck HS.out.pl.si.vlen HS.out.pl.si.vok hla (by omega)
                  rw [HV.out] at C6
                  have C6 := Lib.hid C6
                  refine C6.out.mono ?_
                  rintro e w' ⟨rfl, rfl⟩
                  have HL6 := Lib.hid (show Row w6 tag2 (8, n) 0 3 (.slice (some ⟨gl, 0, none⟩) l.length cl) (kVals l) from by
                    have h1 := H6.out.ck.wts n hnV
                    have hlw := H6.out.lw
                    dsimp only at hlw h1
                    rw [upd_same, hlw] at h1
                    exact h1)
                  have hlc : l.length ≤ cl ∧ cl ≤ 9223372036854775807 := by
                    have := HL6.out.own.2
                    rw [kVals_len] at this
                    rcases this with ⟨e, _⟩ | ⟨g, c', cur, e, _, _, hle, hmx, _⟩
                    · injection e with e0; cases e0
                    · injection e with _ _ e2; unfold maxLen at hmx; omega
                  obtain ⟨i1, hi1⟩ : ∃ i1, i + 1 = i1 := ⟨_, rfl⟩
                  have wi : IntKind.i64.wrap ((i : Int) + 1) = (i1 : Int) := by rw [IntKind.wrap_i64]; omega
                  have hi1l : i1 ≤ l.length := by omega
                  have hrl : rest.length = l.length - i1 := by rw [← HREST.out, hi1, List.length_drop]
                  have HRL := Lib.hid hrl
                  have HRD := Lib.hid (show Reads w6 w6.heap.size 1 (if cl = i1 then some ⟨gl, 0, none⟩ else (some (⟨gl, 0, none⟩ : Addr)).map (·.add (i1 * 1))) (l.length - i1) (kVals rest) from by
                    have h1 := (Reads.of_own (by have := HL6.out.own; rw [kVals_len] at this; exact this)).cut (k := i1) (cap := cl) hi1l hlc.1
                    have e : (kVals l).drop (i1 * 1) = kVals rest := by unfold kVals; rw [Nat.mul_one, ← List.map_drop, ← hi1, HREST.out]
                    rw [e] at h1; exact h1)
                  have c16 : w6.cell? ⟨p, 1, none⟩ = some (.map (some bm)) := H6.out.ck.blk.cell 1
                  have HR6 := Lib.hid (show w6.ownsRow w.heap.size 3 1 (.slice A6 (kept.length + 1) c6) (kept.length + 1) (kVals (kept ++ [k])) from by
                    have := H6.out.kr.own
                    rw [kVals_len, List.length_append] at this; exact this)
                  have hm1 : kept.length + 1 + (l.length - i1) ≤ 1000000 := by
                    have h1 := HS.out.pl.si.wle n
                    rw [HS.out.pl.wtn] at h1
                    simp only [List.length_append, List.length_cons, hrl] at h1
                    omega
                  have HSW := Lib.hid H6.out.cg.size
                  clear hi1 hrl
                  by_cases hcl : cl = i1
                  · have h0 : l.length - i1 = 0 := by omega
                    have hr0 : rest = [] := List.eq_nil_of_length_eq_zero (by rw [HRL.out]; exact h0)
                    subst hr0
                    subst hcl
                    have HRX := Lib.hid (show Reads w6 w6.heap.size 1 (some ⟨gl, 0, none⟩) 0 [] from ⟨rfl, fun h => absurd h (by omega)⟩)
                    have HSK := Lib.hid (show kVals (kept ++ [k]) = kVals (kept ++ [k]) ++ [] by simp)
                    clear h0
                    go_wp2_with fail
                    refine wp_region_mv (S := fun w' => w'.cell? ⟨p, 1, none⟩ = some (.map (some bm))) 11 [.f 0, .f 1, .f 2, .f 3, .f 4, .f 5, .f 6, .f 7, .f 8, .f 9, .t 10, .t 11] (by kernel_rfl) (by kernel_rfl) (by kernel_rfl) c16 ?_
                    iterate 10 (refine mv_take _ _ rfl (by kernel_rfl) (fun wv hv => by have hv1 := hv; clear hv; go_simp; try with_reducible rfl) ?_; simp only [Act.put, List.getElem_toArray, List.getElem_cons_zero, List.getElem_cons_succ, List.setIfInBounds_toArray, List.set_cons_zero, List.set_cons_succ])
                    refine mv_act _ rfl (fun K hK => ?_)
                    refine step_append_loc _ rfl (.tmp 137) (.tmp 141) _ rfl w.heap.size 3 i0 _ 1 8 Tryd.underlying27 HI.out.1 HI.out.2.1 HI.out.2.2.1 HI.out.2.2.2 rfl (by omega) (.slice A6 (kept.length + 1) c6) (kept.length + 1) (kVals (kept ++ [k])) rfl (World.ownsRow.drew HR6.out) w6.heap.size (some ⟨gl, 0, none⟩) 0 _ [] rfl HRX.out (by intro u hu; cases hu) (le_maxLen (by omega)) (le_bytes (by omega) (by omega)) HSW.out ?_
                    intro A7 c7 w7 hown7 hg7 hl7
                    obtain ⟨tag3, hX7⟩ := (H6.out.new (below_drewN (Below.refl _ _) 1)).grown (kept2 := kept ++ [k]) (by rw [HSK.out]; exact hown7) (by simp) hg7 hl7
                    obtain ⟨w2, tag4, y4, hrun, hre4, hcg4, hck4⟩ := hX7.shelve (by omega) hnV HS.out.pl.wtn
                    have hrun : (Instr.mapUpdate 52 (.map (some bm)) (.int .i64 n) (.slice A7 (kept.length + 1 + 0) c7)).run Tryd.prog w7 = .ok () w2 := hrun
                    have c17 : w7.cell? ⟨p, 1, none⟩ = some (.map (some bm)) := hX7.ck.blk.cell 1
                    have HE := Lib.hid (show SpP w tag p V L c tr0 s0 fx dd (.returned (.int .i64 (k : Nat))) w2 from ⟨tag4, y4, s2, us1, hre4, hcg4, hck4, HS.out.pl.si, HS.out.pl.w0, HS.out.pl.same, HS.out.pl.xl, HS.out.pl.pre, HS.out.pl.imp, .inr ⟨k, rfl, hkL, HS.out.pl.conflict HX.out HALL.out HV.out⟩⟩)
                    clear hown7 hg7 hl7 hX7 hre4 hcg4 hck4
                    refine hK _ _ (.inr (c17)) ?_
                    clear hK K
                    try simp only [Act.put, List.getElem_toArray, List.getElem_cons_zero, List.getElem_cons_succ, List.setIfInBounds_toArray, List.set_cons_zero, List.set_cons_succ]
                    clear c17
                    refine mv_act _ rfl (fun K hK => ?_)
                    go_simp
                    go_simp
                    refine hK _ _ (.inl rfl) ?_
                    clear hK K
                    refine mv_nil ?_
                    go_wp2_with fail
                    go_ret
                    exact HE.out
                  · have HRX := Lib.hid (show Reads w6 w6.heap.size 1 (some ⟨gl, i1, none⟩) (l.length - i1) (kVals rest) from by
                      have := HRD.out
                      rw [if_neg hcl] at this
                      have e : (⟨gl, 0, none⟩ : Addr).add (i1 * 1) = ⟨gl, i1, none⟩ := by
                        unfold Addr.add; rw [Nat.mul_one]; split
                        · rename_i h0; rw [h0]
                        · simp
                      rw [← e]; exact this)
                    have hcl' : ¬ (cl : Int) = (i1 : Int) := by omega
                    go_wp2_with fail
                    refine wp_region_mv (S := fun w' => w'.cell? ⟨p, 1, none⟩ = some (.map (some bm))) 11 [.f 0, .f 1, .f 2, .f 3, .f 4, .f 5, .f 6, .f 7, .f 8, .f 9, .t 10, .t 11] (by kernel_rfl) (by kernel_rfl) (by kernel_rfl) c16 ?_
                    iterate 10 (refine mv_take _ _ rfl (by kernel_rfl) (fun wv hv => by have hv1 := hv; clear hv; go_simp; try with_reducible rfl) ?_; simp only [Act.put, List.getElem_toArray, List.getElem_cons_zero, List.getElem_cons_succ, List.setIfInBounds_toArray, List.set_cons_zero, List.set_cons_succ])
                    refine mv_act _ rfl (fun K hK => ?_)
                    refine step_append_loc _ rfl (.tmp 137) (.tmp 141) _ rfl w.heap.size 3 i0 _ 1 8 Tryd.underlying27 HI.out.1 HI.out.2.1 HI.out.2.2.1 HI.out.2.2.2 rfl (by omega) (.slice A6 (kept.length + 1) c6) (kept.length + 1) (kVals (kept ++ [k])) rfl (World.ownsRow.drew HR6.out) w6.heap.size (some ⟨gl, i1, none⟩) (l.length - i1) (cl - i1) (kVals rest) rfl HRX.out (by intro u hu; obtain ⟨x, _, e⟩ := List.mem_map.1 hu; rw [← e]; rfl) (le_maxLen (by omega)) (le_bytes (by omega) (by omega)) HSW.out ?_
                    intro A7 c7 w7 hown7 hg7 hl7
                    obtain ⟨tag3, hX7⟩ := (H6.out.new (below_drewN (Below.refl _ _) 1)).grown (kept2 := kept ++ k :: rest) (by rw [show kVals (kept ++ k :: rest) = kVals (kept ++ [k]) ++ kVals rest by unfold kVals; simp]; exact hown7) (by simp only [List.length_append, List.length_cons]; have := HRL.out; omega) hg7 hl7
                    obtain ⟨w2, tag4, y4, hrun, hre4, hcg4, hck4⟩ := hX7.shelve (by omega) hnV HS.out.pl.wtn
                    have hrun : (Instr.mapUpdate 52 (.map (some bm)) (.int .i64 n) (.slice A7 (kept.length + 1 + (l.length - i1)) c7)).run Tryd.prog w7 = .ok () w2 := hrun
                    have c17 : w7.cell? ⟨p, 1, none⟩ = some (.map (some bm)) := hX7.ck.blk.cell 1
                    have HE := Lib.hid (show SpP w tag p V L c tr0 s0 fx dd (.returned (.int .i64 (k : Nat))) w2 from ⟨tag4, y4, s2, us1, hre4, hcg4, hck4, HS.out.pl.si, HS.out.pl.w0, HS.out.pl.same, HS.out.pl.xl, HS.out.pl.pre, HS.out.pl.imp, .inr ⟨k, rfl, hkL, HS.out.pl.conflict HX.out HALL.out HV.out⟩⟩)
                    clear hown7 hg7 hl7 hX7 hre4 hcg4 hck4
                    refine hK _ _ (.inr (c17)) ?_
                    clear hK K
                    try simp only [Act.put, List.getElem_toArray, List.getElem_cons_zero, List.getElem_cons_succ, List.setIfInBounds_toArray, List.set_cons_zero, List.set_cons_succ]
                    clear c17
                    refine mv_act _ rfl (fun K hK => ?_)
                    go_simp
                    go_simp
                    refine hK _ _ (.inl rfl) ?_
                    clear hK K
                    refine mv_nil ?_
                    go_wp2_with fail
                    go_ret
                    exact HE.out
        · have hil2 : l.drop i = [] := List.drop_eq_nil_of_le (by omega)
          have hS := HS.out
          rw [hil2] at hS
          have hwk : s1.wt n = kept := by have := hS.pl.wtn; rw [List.append_nil] at this; exact this
          obtain ⟨w2, tag2, y2, hrun, hre2, hcg2, hck2⟩ := hS.x.shelve (by omega) hnV hwk
          dsimp only at hrun
          have hrun : (Instr.mapUpdate 52 (.map (some bm)) (.int .i64 n) (.slice Ak kept.length ck)).run Tryd.prog wr = .ok () w2 := hrun
          have c1 : wr.cell? ⟨p, 1, none⟩ = some (.map (some bm)) := hS.ck.blk.cell 1
          have HN := Lib.hid (show SpO w tag p V L c tr0 s0 fx dd (.int .i64 ((hd + 1 : Nat) : Int)) w2 from ⟨hd + 1, tag2, y2, s1, us1, rfl, by have := (List.getElem?_eq_some_iff.1 hS.pl.at_).1; omega, hre2, hcg2, hck2, hS.pl.stop⟩)
          have hmx : hd < V + 1 := by omega
          clear hS hwk hre2 hcg2 hck2 hil2
          go_wp2_with fail
          go_roundw
          case rel => exact HN.out
          case measure => simp [intOf]; omega
    · have HW := Lib.hid (show Wi s1.xs s1.tr s1.tr from HPL.out.all (by rw [HT.out]; omega))
      go_wp2_with fail
      go_ret
      exact ⟨tag1, _, s1, us1, HRE.out, HCG.out, HCK.out, HPL.out.si, HPL.out.w0, HPL.out.same, HPL.out.xl, HPL.out.pre, HPL.out.imp, .inl ⟨rfl, HW.out⟩⟩
end
end Go.Proofs.YtgchepkcjkhmmaaDoor
