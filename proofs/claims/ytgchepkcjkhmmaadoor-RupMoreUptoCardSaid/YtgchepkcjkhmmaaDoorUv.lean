/-
  WALK of (*checker).back; plain: what is taken back.
-/
import Derived.Test.YtgchepkcjkhmmaaDoorUs
import Derived.Defers
namespace Go.Proofs.YtgchepkcjkhmmaaDoor
open Go.RowKit
def zeroed (vs : List Int) : List Int → List Int
  | [] => vs
  | n :: l => zeroed (vs.set n.natAbs 0) l
section
theorem zeroed_len (l : List Int) : ∀ vs : List Int, (zeroed vs l).length = vs.length := by
  induction l with
  | nil => intro vs; rfl
  | cons n l ih => intro vs; show (zeroed (vs.set n.natAbs 0) l).length = _; rw [ih, List.length_set]
theorem zeroed_snoc (l : List Int) (n : Int) : ∀ vs : List Int, zeroed vs (l ++ [n]) = (zeroed vs l).set n.natAbs 0 := by
  induction l with
  | nil => intro vs; rfl
  | cons m l ih => intro vs; show zeroed (vs.set m.natAbs 0) (l ++ [n]) = _; rw [ih]; rfl
theorem zeroed_va (l : List Int) : ∀ (vs : List Int) (v : Nat), va (zeroed vs l) v = if ∃ m ∈ l, m.natAbs = v then 0 else va vs v := by
  induction l with
  | nil => intro vs v; rw [if_neg (by simp)]; rfl
  | cons n l ih =>
    intro vs v
    show va (zeroed (vs.set n.natAbs 0) l) v = _
    rw [ih]
    by_cases h1 : ∃ m ∈ l, m.natAbs = v
    · rw [if_pos h1, if_pos (by obtain ⟨m, hm, e⟩ := h1; exact ⟨m, List.mem_cons_of_mem _ hm, e⟩)]
    · rw [if_neg h1]
      by_cases h2 : n.natAbs = v
      · rw [if_pos ⟨n, by simp, h2⟩]
        unfold va
        rw [List.getD_eq_getElem?_getD, List.getElem?_set, if_pos h2]
        split <;> rfl
      · rw [if_neg (by
          rintro ⟨m, hm, e⟩
          rcases List.mem_cons.1 hm with h | h
          · subst h; exact h2 e
          · exact h1 ⟨m, h, e⟩)]
        unfold va
        rw [List.getD_eq_getElem?_getD, List.getElem?_set, if_neg h2, List.getD_eq_getElem?_getD]
variable {V : Nat} {L : List (List Int)} {s : St} {t0 new : List Int}
theorem zeroed_ok : ∀ (l vs : List Int), (∀ x ∈ vs, x = -1 ∨ x = 0 ∨ x = 1) → ∀ x ∈ zeroed vs l, x = -1 ∨ x = 0 ∨ x = 1
  | [], _, h => h
  | n :: l, vs, h => zeroed_ok l _ fun x hx => by
    rcases List.mem_or_eq_of_mem_set hx with hx | hx
    · exact h x hx
    · exact .inr (.inl hx)
theorem SI.back (h : SI V L s) (ht : s.tr = t0 ++ new) : SI V L { s with vs := zeroed s.vs new, tr := t0 } := by
  have hnd := h.trn
  rw [ht] at hnd
  have key : ∀ n, n ∈ t0 → ∀ m ∈ new, m.natAbs ≠ n.natAbs := fun n hn m hm e => by
    obtain ⟨l1, v1⟩ := h.trv n (by rw [ht]; simp [hn])
    obtain ⟨l2, v2⟩ := h.trv m (by rw [ht]; simp [hm])
    have : m = n ∨ m = -n := by omega
    rcases this with e | e
    · exact (List.nodup_append.1 hnd).2.2 n hn m hm e.symm
    · rw [e, lv_neg l1.1, v1] at v2; omega
  have hlv : ∀ n : Int, lv (va (zeroed s.vs new)) n = if ∃ m ∈ new, m.natAbs = n.natAbs then 0 else lv (va s.vs) n := fun n => by
    unfold lv
    rw [zeroed_va]
    split <;> split <;> rfl
  refine { h with vlen := by rw [show ({ s with vs := zeroed s.vs new, tr := t0 } : St).vs = zeroed s.vs new from rfl, zeroed_len]; exact h.vlen, vok := zeroed_ok _ _ h.vok, trv := fun n hn => ?_, trs := fun n hn hv => ?_, trn := (List.nodup_append.1 hnd).1 }
  · obtain ⟨l1, v1⟩ := h.trv n (by rw [ht]; exact List.mem_append_left _ hn)
    refine ⟨l1, ?_⟩
    show lv (va (zeroed s.vs new)) n = 1
    rw [hlv, if_neg (by rintro ⟨m, hm, e⟩; exact key n hn m hm e), v1]
  · have hv : lv (va (zeroed s.vs new)) n = 1 := hv
    rw [hlv] at hv
    split at hv
    · omega
    · rename_i hno
      have := h.trs n hn hv
      rw [ht] at this
      rcases List.mem_append.1 this with h1 | h1
      · exact h1
      · exact absurd ⟨n, h1, rfl⟩ hno
end
section
variable {w w' : World} {tag tag' : Nat → Tag} {p V : Nat} {y : Lay} {xs : List (List Int)} {wt : Int → List Nat} {vs tr us : List Int} {fx dd : Int}
/-- the trail is cut -/
theorem Chk.cut {A : Option Addr} {n c : Nat} (h : Chk w tag p V y xs wt vs tr us fx dd) (hv : y.vt = .slice A tr.length c) (hn : n ≤ tr.length) : Chk (w.setCell ⟨p, 3, none⟩ (.slice A n c)) tag p V { y with vt := .slice A n c } xs wt vs (tr.take n) us fx dd := by
  have hk : Cg tag (fun s => s = (1, 0)) w (w.setCell ⟨p, 3, none⟩ (.slice A n c)) := cg_store (by show tag p = _; exact h.tp) _
  have ht := h.trl
  rw [hv] at ht
  have ht' : Row w tag (6, 0) 0 3 (.slice A n c) (litVals (tr.take n)) := by
    have := Row.cut (A := A) (c := c) (n := n) (xs := litVals tr) (by rw [litVals_len]; exact ht) (by rw [litVals_len]; exact hn)
    have e : (litVals tr).take n = litVals (tr.take n) := by unfold litVals; rw [List.map_take]
    rw [e] at this; exact this
  exact ⟨h.blk.set_ 3 _, h.tp, h.hdr.chg hk (by decide), h.rlen, fun k x u hx hu => (h.cls k x u hx hu).chg hk (by simp), h.val.chg hk (by decide), h.usd.chg hk (by decide), h.ul, ht'.chg hk (by decide), h.tm,
    h.map.chg hk fun o => (by show ¬ tag y.bm = _; rw [h.tm]; decide), fun n hn => (h.wts n hn).chg hk (by simp)⟩
def BkR (w : World) (tag : Nat → Tag) (p V : Nat) (y : Lay) (xs : List (List Int)) (wt : Int → List Nat) (vs tr us : List Int) (fx dd : Int) (n : Nat) (iv : Value) (wr : World) : Prop :=
  ∃ k : Nat, k ≤ tr.length - n ∧ iv = .int .i64 (k : Nat) ∧ Cg tag (Fr 8) w wr ∧ Chk wr tag p V y xs wt (zeroed vs ((tr.drop n).take k)) tr us fx dd
set_option maxRecDepth 100000 in
set_option maxHeartbeats 1000000 in
theorem back_any (h : Chk w tag p V y xs wt vs tr us fx dd) (hl : vs.length = V + 1) (ht : tr.length ≤ V) {n : Nat} (hn : n ≤ tr.length) (hlit : ∀ x ∈ tr, Lit V x) (hV : V ≤ 500000) :
    Calls Tryd.prog 41 #[.pointer (some ⟨p, 0, none⟩), .int .i64 (n : Nat)] w (StP w tag p V y xs wt (zeroed vs (tr.drop n)) (tr.take n) us fx dd) := by
  obtain ⟨vC, rows, bm, gv, gu, vt, wv⟩ := y
  obtain ⟨A, c, hvt⟩ := h.trl.form
  rw [litVals_len] at hvt
  dsimp only at hvt
  have hpv : p ≠ gv := fun e => by have h1 := h.tp; have h2 := h.val.tg; dsimp only at h2; rw [e, h2] at h1; cases h1
  have sv : ∀ (w' : World) (k : Nat) (u : Int), Cg tag (Fr 8) w' (w'.setCell ⟨gv, k, none⟩ (.int .i8 u)) := fun w' k u => cg_store (by show Fr 8 (tag gv); rw [show tag gv = _ from h.val.tg]; exact ⟨by decide, by decide⟩) _
  have SV := Lib.hid sv
  subst hvt
  obtain ⟨m, hm⟩ : ∃ m, tr.length = m := ⟨_, rfl⟩
  obtain ⟨d, hd⟩ : ∃ d, m - n = d := ⟨_, rfl⟩
  have c3 : w.cell? ⟨p, 3, none⟩ = some (.slice A m c) := by have := h.blk.cell 3; rw [hm] at this; exact this
  have hmc : m ≤ c := by
    have := h.trl.own.2
    rw [litVals_len, hm] at this
    rcases this with ⟨e, _⟩ | ⟨g, c', cur, e, _, _, hle, _⟩
    · injection e with _ e1 e2; omega
    · injection e with _ _ e2; omega
  have hmax : c ≤ 9223372036854775807 := by
    have := h.trl.own.2
    rw [litVals_len, hm] at this
    rcases this with ⟨e, _⟩ | ⟨g, c', cur, e, _, _, hle, hmx, _⟩
    · injection e with _ e1 e2; omega
    · injection e with _ _ e2; unfold maxLen at hmx; omega
  have HHM := Lib.hid hm
  have HD := Lib.hid hd
  have H := Lib.hid h
  have HLIT := Lib.hid hlit
  have HL := Lib.hid hl
  have hnm : n ≤ m := by omega
  have hmV : m ≤ V := by omega
  have wd : IntKind.i64.wrap ((m : Int) - (n : Int)) = (d : Int) := by rw [IntKind.wrap_i64]; omega
  have hdm : d + n ≤ m ∧ m ≤ d + n := by omega
  clear h hl ht hn hlit hm hd sv
  by_cases hcn : c = n
  · subst hcn
    obtain rfl : m = c := by omega
    obtain rfl : d = 0 := by omega
    have HCN := Lib.hid (H.out.cut (A := A) (n := m) (c := m) rfl (by rw [HHM.out]; exact Nat.le_refl _))
    have f3 : w.frozen? ⟨p, 3, none⟩ = false := H.out.blk.frozen 3
    go_enter Tryd.func41, Tryd.ntmps41
    go_wp2_with fail
    go_loop [13] (fun iv => iv = .int .i64 ((0 : Nat) : Int)) (fun _ => 0)
    case atStart => rfl
    case round =>
      subst hrel
      go_wp2_with fail
      go_end0
      have e : tr.drop m = [] := List.drop_eq_nil_of_le (by rw [HHM.out]; exact Nat.le_refl _)
      rw [e]
      exact ⟨rfl, tag, _, Re.refl _ _, cg_store (by show Fr 8 (tag p); rw [show tag p = _ from H.out.tp]; exact ⟨by decide, by decide⟩) _, HCN.out⟩
  · obtain ⟨g, hA⟩ : ∃ g, A = some ⟨g, 0, none⟩ := by
      rcases H.out.trl.own.2 with ⟨e, _⟩ | ⟨g, c', cur, e, _⟩
      · injection e with _ e1 e2; exfalso; have := HHM.out; omega
      · injection e with e1; exact ⟨g, e1⟩
    subst hA
    have f3 : w.frozen? ⟨p, 3, none⟩ = false := H.out.blk.frozen 3
    have cn' : ¬ (c : Int) = (n : Int) := by omega
    go_enter Tryd.func41, Tryd.ntmps41
    go_wp2_with fail
    rw [HD.out]
    go_loopw [13] (fun iv wr => BkR w tag p V ⟨vC, rows, bm, gv, gu, .slice (some ⟨g, 0, none⟩) tr.length c, wv⟩ xs wt vs tr us fx dd n iv wr) (fun iv _ => d - (intOf iv).toNat)
    case atStart => exact ⟨0, Nat.zero_le _, rfl, Chg.refl _ _, H.out⟩
    case round =>
      obtain ⟨k, hk, rfl, hcg, hchk⟩ := hrel
      rw [HHM.out, HD.out] at hk
      have HCG := Lib.hid hcg
      have HK := Lib.hid hchk
      clear hcg hchk
      have c3' : wr.cell? ⟨p, 3, none⟩ = some (.slice (some ⟨g, 0, none⟩) m c) := by have := HK.out.blk.cell 3; dsimp only at this; rw [HHM.out] at this; exact this
      have f3' : wr.frozen? ⟨p, 3, none⟩ = false := HK.out.blk.frozen 3
      have c2' : wr.cell? ⟨p, 2, none⟩ = some (.slice (some ⟨gv, 0, none⟩) (V + 1) (V + 1)) := HK.out.blk.cell 2
      by_cases hkd : k < d
      · obtain ⟨x, hx⟩ : ∃ x, tr[n + k]? = some x := ⟨_, List.getElem?_eq_getElem (by rw [HHM.out]; omega)⟩
        have cx : wr.cell? ⟨g, n + k, none⟩ = some (.int .i64 x) := by
          have h1 := HK.out.trl
          have h2 := Row.cell (xs := litVals tr) (c := c) (by rw [litVals_len]; exact h1) (lit_at hx)
          exact h2
        have hlx := HLIT.out x (List.mem_of_getElem? hx)
        obtain ⟨hx0, hx1⟩ := hlx
        obtain ⟨j, hj⟩ : ∃ j, x.natAbs = j := ⟨_, rfl⟩
        rw [hj] at hx1
        obtain ⟨u, hu⟩ : ∃ u, (zeroed vs ((tr.drop n).take k))[j]? = some u := ⟨_, List.getElem?_eq_getElem (by rw [zeroed_len, HL.out]; omega)⟩
        have cv : wr.cell? ⟨gv, j, none⟩ = some (.int .i8 u) := HK.out.val.cell (i8_at hu)
        have fv : wr.frozen? ⟨gv, j, none⟩ = false := HK.out.val.frozen j
        have hjV : (j : Int) < (V : Int) + 1 := by omega
        have hj1 : 1 ≤ j := by omega
        have HX := Lib.hid hx
        have HJ := Lib.hid hj
        clear hx hu
        by_cases hneg : x < 0
        · have hxj : x = (-(j : Int)) := by omega
          subst hxj
          have w1 : IntKind.i64.wrap (- -(j : Int)) = (j : Int) := by rw [IntKind.wrap_i64]; omega
          have HN := Lib.hid (show Chk (wr.setCell ⟨gv, j, none⟩ (.int .i8 0)) tag p V ⟨vC, rows, bm, gv, gu, .slice (some ⟨g, 0, none⟩) tr.length c, wv⟩ xs wt (zeroed vs ((tr.drop n).take (k + 1))) tr us fx dd from by
            have := HK.out.setVal j 0
            have e : (tr.drop n).take (k + 1) = (tr.drop n).take k ++ [(-(j : Int))] := by
              rw [List.take_add_one, List.getElem?_drop, HX.out]; rfl
            rw [e, zeroed_snoc, HJ.out]; exact this)
          clear hj
          go_wp2_with fail
          go_roundw
          case rel => exact ⟨k + 1, by have := HHM.out; omega, by go_num, HCG.out.trans (SV.out _ _ _), HN.out⟩
          case measure => simp [intOf]; omega
        · have hxj : x = (j : Int) := by omega
          subst hxj
          have w1 : IntKind.i64.wrap (-(j : Int)) = -(j : Int) := by rw [IntKind.wrap_i64]; omega
          have HN := Lib.hid (show Chk (wr.setCell ⟨gv, j, none⟩ (.int .i8 0)) tag p V ⟨vC, rows, bm, gv, gu, .slice (some ⟨g, 0, none⟩) tr.length c, wv⟩ xs wt (zeroed vs ((tr.drop n).take (k + 1))) tr us fx dd from by
            have := HK.out.setVal j 0
            have e : (tr.drop n).take (k + 1) = (tr.drop n).take k ++ [(j : Int)] := by
              rw [List.take_add_one, List.getElem?_drop, HX.out]; rfl
            rw [e, zeroed_snoc, HJ.out]; exact this)
          clear hj
          go_wp2_with fail
          go_roundw
          case rel => exact ⟨k + 1, by have := HHM.out; omega, by go_num, HCG.out.trans (SV.out _ _ _), HN.out⟩
          case measure => simp [intOf]; omega
      · obtain rfl : k = d := by omega
        have HE := Lib.hid (show zeroed vs ((tr.drop n).take k) = zeroed vs (tr.drop n) from by rw [List.take_of_length_le (by rw [List.length_drop, HHM.out]; omega)])
        have HCC := Lib.hid (HK.out.cut (A := some ⟨g, 0, none⟩) (n := n) (c := c) rfl (by rw [HHM.out]; exact hnm))
        go_wp2_with fail
        go_end0
        rw [← HE.out]
        exact ⟨rfl, tag, _, Re.refl _ _, HCG.out.trans (cg_store (by show Fr 8 (tag p); rw [show tag p = _ from H.out.tp]; exact ⟨by decide, by decide⟩) _), HCC.out⟩
set_option maxRecDepth 100000 in
set_option maxHeartbeats 1000000 in
theorem back_d {u : FrameMode} (h : Chk w tag p V y xs wt vs tr us fx dd) (hl : vs.length = V + 1) (ht : tr.length ≤ V) {n : Nat} (hn : n ≤ tr.length) (hlit : ∀ x ∈ tr, Lit V x) (hV : V ≤ 500000) :
    CallsD Tryd.prog 41 #[.pointer (some ⟨p, 0, none⟩), .int .i64 (n : Nat)] u w (fun e u' w' => u' = u ∧ StP w tag p V y xs wt (zeroed vs (tr.drop n)) (tr.take n) us fx dd e w') := by
  obtain ⟨vC, rows, bm, gv, gu, vt, wv⟩ := y
  obtain ⟨A, c, hvt⟩ := h.trl.form
  rw [litVals_len] at hvt
  dsimp only at hvt
  have hpv : p ≠ gv := fun e => by have h1 := h.tp; have h2 := h.val.tg; dsimp only at h2; rw [e, h2] at h1; cases h1
  have sv : ∀ (w' : World) (k : Nat) (u : Int), Cg tag (Fr 8) w' (w'.setCell ⟨gv, k, none⟩ (.int .i8 u)) := fun w' k u => cg_store (by show Fr 8 (tag gv); rw [show tag gv = _ from h.val.tg]; exact ⟨by decide, by decide⟩) _
  have SV := Lib.hid sv
  subst hvt
  obtain ⟨m, hm⟩ : ∃ m, tr.length = m := ⟨_, rfl⟩
  obtain ⟨d, hd⟩ : ∃ d, m - n = d := ⟨_, rfl⟩
  have c3 : w.cell? ⟨p, 3, none⟩ = some (.slice A m c) := by have := h.blk.cell 3; rw [hm] at this; exact this
  have hmc : m ≤ c := by
    have := h.trl.own.2
    rw [litVals_len, hm] at this
    rcases this with ⟨e, _⟩ | ⟨g, c', cur, e, _, _, hle, _⟩
    · injection e with _ e1 e2; omega
    · injection e with _ _ e2; omega
  have hmax : c ≤ 9223372036854775807 := by
    have := h.trl.own.2
    rw [litVals_len, hm] at this
    rcases this with ⟨e, _⟩ | ⟨g, c', cur, e, _, _, hle, hmx, _⟩
    · injection e with _ e1 e2; omega
    · injection e with _ _ e2; unfold maxLen at hmx; omega
  have HHM := Lib.hid hm
  have HD := Lib.hid hd
  have H := Lib.hid h
  have HLIT := Lib.hid hlit
  have HL := Lib.hid hl
  have hnm : n ≤ m := by omega
  have hmV : m ≤ V := by omega
  have wd : IntKind.i64.wrap ((m : Int) - (n : Int)) = (d : Int) := by rw [IntKind.wrap_i64]; omega
  have hdm : d + n ≤ m ∧ m ≤ d + n := by omega
  clear h hl ht hn hlit hm hd sv
  by_cases hcn : c = n
  · subst hcn
    obtain rfl : m = c := by omega
    obtain rfl : d = 0 := by omega
    have HCN := Lib.hid (H.out.cut (A := A) (n := m) (c := m) rfl (by rw [HHM.out]; exact Nat.le_refl _))
    have f3 : w.frozen? ⟨p, 3, none⟩ = false := H.out.blk.frozen 3
    go_enter_d Tryd.func41, Tryd.ntmps41
    go_wp2_with fail
    go_loop [13] (fun iv => iv = .int .i64 ((0 : Nat) : Int)) (fun _ => 0)
    case atStart => rfl
    case round =>
      subst hrel
      go_wp2_with fail
      go_end0
      have e : tr.drop m = [] := List.drop_eq_nil_of_le (by rw [HHM.out]; exact Nat.le_refl _)
      rw [e]
      exact ⟨rfl, tag, _, Re.refl _ _, cg_store (by show Fr 8 (tag p); rw [show tag p = _ from H.out.tp]; exact ⟨by decide, by decide⟩) _, HCN.out⟩
  · obtain ⟨g, hA⟩ : ∃ g, A = some ⟨g, 0, none⟩ := by
      rcases H.out.trl.own.2 with ⟨e, _⟩ | ⟨g, c', cur, e, _⟩
      · injection e with _ e1 e2; exfalso; have := HHM.out; omega
      · injection e with e1; exact ⟨g, e1⟩
    subst hA
    have f3 : w.frozen? ⟨p, 3, none⟩ = false := H.out.blk.frozen 3
    have cn' : ¬ (c : Int) = (n : Int) := by omega
    go_enter_d Tryd.func41, Tryd.ntmps41
    go_wp2_with fail
    rw [HD.out]
    go_loopw [13] (fun iv wr => BkR w tag p V ⟨vC, rows, bm, gv, gu, .slice (some ⟨g, 0, none⟩) tr.length c, wv⟩ xs wt vs tr us fx dd n iv wr) (fun iv _ => d - (intOf iv).toNat)
    case atStart => exact ⟨0, Nat.zero_le _, rfl, Chg.refl _ _, H.out⟩
    case round =>
      obtain ⟨k, hk, rfl, hcg, hchk⟩ := hrel
      rw [HHM.out, HD.out] at hk
      have HCG := Lib.hid hcg
      have HK := Lib.hid hchk
      clear hcg hchk
      have c3' : wr.cell? ⟨p, 3, none⟩ = some (.slice (some ⟨g, 0, none⟩) m c) := by have := HK.out.blk.cell 3; dsimp only at this; rw [HHM.out] at this; exact this
      have f3' : wr.frozen? ⟨p, 3, none⟩ = false := HK.out.blk.frozen 3
      have c2' : wr.cell? ⟨p, 2, none⟩ = some (.slice (some ⟨gv, 0, none⟩) (V + 1) (V + 1)) := HK.out.blk.cell 2
      by_cases hkd : k < d
      · obtain ⟨x, hx⟩ : ∃ x, tr[n + k]? = some x := ⟨_, List.getElem?_eq_getElem (by rw [HHM.out]; omega)⟩
        have cx : wr.cell? ⟨g, n + k, none⟩ = some (.int .i64 x) := by
          have h1 := HK.out.trl
          have h2 := Row.cell (xs := litVals tr) (c := c) (by rw [litVals_len]; exact h1) (lit_at hx)
          exact h2
        have hlx := HLIT.out x (List.mem_of_getElem? hx)
        obtain ⟨hx0, hx1⟩ := hlx
        obtain ⟨j, hj⟩ : ∃ j, x.natAbs = j := ⟨_, rfl⟩
        rw [hj] at hx1
        obtain ⟨u0, hu⟩ : ∃ u0, (zeroed vs ((tr.drop n).take k))[j]? = some u0 := ⟨_, List.getElem?_eq_getElem (by rw [zeroed_len, HL.out]; omega)⟩
        have cv : wr.cell? ⟨gv, j, none⟩ = some (.int .i8 u0) := HK.out.val.cell (i8_at hu)
        have fv : wr.frozen? ⟨gv, j, none⟩ = false := HK.out.val.frozen j
        have hjV : (j : Int) < (V : Int) + 1 := by omega
        have hj1 : 1 ≤ j := by omega
        have HX := Lib.hid hx
        have HJ := Lib.hid hj
        clear hx hu
        by_cases hneg : x < 0
        · have hxj : x = (-(j : Int)) := by omega
          subst hxj
          have w1 : IntKind.i64.wrap (- -(j : Int)) = (j : Int) := by rw [IntKind.wrap_i64]; omega
          have HN := Lib.hid (show Chk (wr.setCell ⟨gv, j, none⟩ (.int .i8 0)) tag p V ⟨vC, rows, bm, gv, gu, .slice (some ⟨g, 0, none⟩) tr.length c, wv⟩ xs wt (zeroed vs ((tr.drop n).take (k + 1))) tr us fx dd from by
            have := HK.out.setVal j 0
            have e : (tr.drop n).take (k + 1) = (tr.drop n).take k ++ [(-(j : Int))] := by
              rw [List.take_add_one, List.getElem?_drop, HX.out]; rfl
            rw [e, zeroed_snoc, HJ.out]; exact this)
          clear hj
          go_wp2_with fail
          go_roundw
          case rel => exact ⟨k + 1, by have := HHM.out; omega, by go_num, HCG.out.trans (SV.out _ _ _), HN.out⟩
          case measure => simp [intOf]; omega
        · have hxj : x = (j : Int) := by omega
          subst hxj
          have w1 : IntKind.i64.wrap (-(j : Int)) = -(j : Int) := by rw [IntKind.wrap_i64]; omega
          have HN := Lib.hid (show Chk (wr.setCell ⟨gv, j, none⟩ (.int .i8 0)) tag p V ⟨vC, rows, bm, gv, gu, .slice (some ⟨g, 0, none⟩) tr.length c, wv⟩ xs wt (zeroed vs ((tr.drop n).take (k + 1))) tr us fx dd from by
            have := HK.out.setVal j 0
            have e : (tr.drop n).take (k + 1) = (tr.drop n).take k ++ [(j : Int)] := by
              rw [List.take_add_one, List.getElem?_drop, HX.out]; rfl
            rw [e, zeroed_snoc, HJ.out]; exact this)
          clear hj
          go_wp2_with fail
          go_roundw
          case rel => exact ⟨k + 1, by have := HHM.out; omega, by go_num, HCG.out.trans (SV.out _ _ _), HN.out⟩
          case measure => simp [intOf]; omega
      · obtain rfl : k = d := by omega
        have HE := Lib.hid (show zeroed vs ((tr.drop n).take k) = zeroed vs (tr.drop n) from by rw [List.take_of_length_le (by rw [List.length_drop, HHM.out]; omega)])
        have HCC := Lib.hid (HK.out.cut (A := some ⟨g, 0, none⟩) (n := n) (c := c) rfl (by rw [HHM.out]; exact hnm))
        go_wp2_with fail
        go_end0
        rw [← HE.out]
        exact ⟨rfl, tag, _, Re.refl _ _, HCG.out.trans (cg_store (by show Fr 8 (tag p); rw [show tag p = _ from H.out.tp]; exact ⟨by decide, by decide⟩) _), HCC.out⟩
end
end Go.Proofs.YtgchepkcjkhmmaaDoor
