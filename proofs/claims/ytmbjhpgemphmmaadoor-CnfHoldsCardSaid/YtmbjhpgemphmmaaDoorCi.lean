/-
  THE WALK of the law CnfHolds.
-/
import Derived.Test.YtmbjhpgemphmmaaDoorCh
import Derived.Test.YtmbjhpgemphmmaaDoorGh
import Derived.Test.YtmbjhpgemphmmaaDoorTx
import Derived.Outline
namespace Go.Proofs.YtmbjhpgemphmmaaDoor
open Go.RowKit
theorem cholds_long {w : World} {A A2 A3 : Option Addr} {c c2 c3 l m n : Nat} (h : 60 < l ∨ 60 < n) :
    Calls Tryd.prog 8 #[.slice A l c, .slice A2 n c2, .slice A3 m c3] w (LPost w) := by
  have CE := Lib.hid (texted_any w)
  have key : decide ((60 : Int) < (l : Int)) = true ∨ (decide ((60 : Int) < (l : Int)) = false ∧ decide ((60 : Int) < (n : Int)) = true) := by
    by_cases h1 : 60 < l
    · exact .inl (decide_eq_true (by omega))
    · exact .inr ⟨decide_eq_false (by omega), decide_eq_true (by omega)⟩
  clear h
  rcases key with e0 | ⟨e0, e1⟩
  all_goals
    go_enter Tryd.func8, Tryd.ntmps8
    go_wp2_with fail
    refine CE.out.mono ?_
    rintro e w1 ⟨rfl, hb⟩
    have HB := Lib.hid hb
    clear hb
    go_wp2
    go_ret
    exact ⟨rfl, HB.out⟩
set_option maxRecDepth 100000 in
theorem run_make_boolsN (n : Nat) (hn : n ≤ 1000000) (w : World) : (Instr.makeSlice 54 (.int .i64 (n : Int)) (.int .i64 (n : Int))).run Tryd.prog w =
    .ok (.slice (some ⟨w.heap.size, 0, none⟩) n n) (w.alloc (.cells (boolVals (List.replicate n false)).toArray 4)) := by
  obtain ⟨i0, hi, hz0, hz1, hz2⟩ := info_parts infoBool_
  have h := run_make_rowN (P := Tryd.prog) 54 4 i0 (.bool false) Tryd.underlying54 hi hz0 .i64 .i64 n n (Nat.le_refl _) (by rw [hz2]; omega) (by omega) w
  rw [hz1, Nat.mul_one] at h
  rw [h]
  have e2 : madeCells (Value.bool false).cells n = (boolVals (List.replicate n false)).toArray := by
    apply Array.ext'
    rw [show (Value.bool false).cells = #[.bool false] from rfl, toList_madeCells_one]
    simp [boolVals]
  rw [e2]
/-- a store into a row of bools of one's own leaves a graph and its model -/
theorem Two.setBool {W w : World} {B g m n base vb c : Nat} {gs : List Gm.Gate} {xs : List Value} (h : Two W B g m gs w) (ho : w.ownsRow base 4 1 (.slice (some ⟨vb, 0, none⟩) n c) n xs) (hb : W.heap.size ≤ base) (j : Nat) (u : Value) : Two W B g m gs (w.setCell ⟨vb, j, none⟩ u) := by
  have hbv : base ≤ vb := ownBlock_ge ho vb rfl
  have hc : Chg (fun _ o => elemOf o = some 4) w (w.setCell ⟨vb, j, none⟩ u) := by
    refine ⟨rfl, rfl, rfl, by simp [World.setCell], fun k o hk hn => ?_⟩
    rw [Below.heap_setCell _ _ _ _ (fun e => ?_)]
    · exact hk
    · subst e
      rcases ho.2 with ⟨h0, _⟩ | ⟨g', cap, cur, hv, _, hh, _⟩
      · cases h0
      · simp only [Value.slice.injEq, Option.some.injEq, Addr.mk.injEq, and_true] at hv
        rw [hv.1] at hk
        rw [hh] at hk
        injection hk with hk
        subst hk
        exact hn rfl
  refine ⟨h.ga.chg hc fun k o' _ hs => ?_, h.ma.chgS hc fun k o' _ hs => ?_, h.bl.setCell (by show W.heap.size ≤ vb; omega) _⟩
  · rw [hs]; exact ⟨by decide, by decide, by simp⟩
  · rw [hs]; exact ⟨by decide, by decide⟩
theorem far_own {w : World} {base base' e e' vb n n' c : Nat} {v : Value} {xs ys : List Value} (h : w.ownsRow base e 1 v n xs) (ho : w.ownsRow base' e' 1 (.slice (some ⟨vb, 0, none⟩) n' c) n' ys) (hne : e ≠ e') (j : Nat) (u : Value) : (w.setCell ⟨vb, j, none⟩ u).ownsRow base e 1 v n xs :=
  own_far h _ (by
    rcases own_own_ne h ho hne with h1 | h1
    · rw [h1]; simp
    · exact h1)
theorem CsAt.farB {w : World} {base base' vb n' c : Nat} {v : Value} {cs : List (List Int)} {ys : List Value} (h : CsAt w base v cs) (ho : w.ownsRow base' 4 1 (.slice (some ⟨vb, 0, none⟩) n' c) n' ys) (j : Nat) (u : Value) : CsAt (w.setCell ⟨vb, j, none⟩ u) base v cs := by
  obtain ⟨rows, h1, h2⟩ := h
  refine ⟨rows, far_own h1 ho (by decide) j u, fun i l hl => ?_⟩
  obtain ⟨x, h3, h4⟩ := h2 i l hl
  exact ⟨x, h3, far_own h4 ho (by decide) j u⟩
/-- roots handed in, one by one, and whether they all hold -/
def ChR (W : World) (B g m : Nat) (inp : List Bool) (gs : List Gm.Gate) (roots : List Int) (base : Nat) (lv av iv : Value) (wr : World) : Prop :=
  ∃ (k : Nat) (xs : List Nat), k ≤ roots.length ∧ iv = .int .i64 k ∧ roots.take k = xs.map (fun (x : Nat) => (x : Int)) ∧ (∀ x ∈ xs, Gm.has gs x) ∧ (∃ r, xs.all (Gm.ev inp gs) = r ∧ av = .bool r) ∧ Two W B g m gs wr ∧ base ≤ wr.heap.size ∧
    ∃ A c, lv = .slice A k c ∧ wr.ownsRow base 29 1 lv k (litVals (roots.take k))
/-- values of variables, one by one -/
def ChS (W : World) (B g m : Nat) (inp : List Bool) (gs : List Gm.Gate) (nl : List Bool) (cs : List (List Int)) (cv : Value) (N bf gn vb b7 b10 cn : Nat) (iv : Value) (wr : World) : Prop :=
  ∃ (i : Nat) (vs : List Bool), 1 ≤ i ∧ i ≤ gs.length + 1 ∧ iv = .int .i64 i ∧ Cn.ValsTo inp gs nl vs i ∧ Two W B g m gs wr ∧ Blk wr bf 36 #[.int .i64 (N : Nat), cv] ∧ CsAt wr b7 cv cs ∧
    intOwn wr b7 (.slice (some ⟨gn, 0, none⟩) (gs.length + 1) cn) (gs.length + 1) (Cn.nums nl) ∧ wr.ownsRow b10 4 1 (.slice (some ⟨vb, 0, none⟩) N N) N (boolVals vs) ∧ b10 ≤ wr.heap.size
attribute [local irreducible] wpSeq wpMv
set_option maxRecDepth 100000 in
set_option maxHeartbeats 8000000 in
theorem cholds_short {w : World} {ea : Nat → Addr} {BE : Nat} (hE : Errs w ea BE) (hBE : BE ≤ w.heap.size) {l : List Mk} (hl : l.length ≤ 60) (hf : ∀ m ∈ l, m.fits) {A A2 A3 : Option Addr} {c c2 c3 : Nat} (hr : Reads w w.heap.size 4 A l.length (mkVals l))
    {roots : List Int} (hal : roots.length ≤ 60) (haw : ∀ a ∈ roots, (Lit.int .i64 a).wf = true) (hra : Reads w w.heap.size 1 A2 roots.length (litVals roots)) {inp : List Bool} (hri : Reads w w.heap.size 1 A3 inp.length (boolVals inp)) :
    Calls Tryd.prog 8 #[.slice A l.length c, .slice A2 roots.length c2, .slice A3 inp.length c3] w (LPost w) := by
  have e0 : decide ((60 : Int) < (l.length : Int)) = false := decide_eq_false (by omega)
  have e1 : decide ((60 : Int) < (roots.length : Int)) = false := decide_eq_false (by omega)
  have CE := Lib.hid (texted_any w)
  have HE := Lib.hid hE
  have HBE := Lib.hid hBE
  have HF := Lib.hid hf
  have HR := Lib.hid hr
  have HL := Lib.hid hl
  have HRI := Lib.hid hri
  have HRA := Lib.hid hra
  have HAW := Lib.hid haw
  have HAL := Lib.hid hal
  clear hE hBE hf hr hl hri hal haw hra
  go_enter Tryd.func8, Tryd.ntmps8
  go_wp2_with fail
  refine CE.out.mono ?_
  rintro e w1 ⟨rfl, hb⟩
  have CB := Lib.hid (build_any (c := c) (HE.out.mem hb HBE.out) (Nat.le_trans HBE.out hb.size) HL.out HF.out ((HR.out.below hb).more hb.size))
  have HB := Lib.hid hb
  clear hb
  go_wp2_with fail
  refine CB.out.mono ?_
  rintro e w2 ⟨rfl, gs, hgl, hg, hm, hb2⟩
  have hgs : gs.length ≤ 180 := by have := HL.out; omega
  obtain ⟨Am, cm, c0, c1, _⟩ := hm.row
  have HT := Lib.hid (show Two w w1.heap.size w1.heap.size (w1.heap.size + 1) gs w2 from ⟨hg, hm, HB.out.trans (hb2.mono HB.out.size)⟩)
  have hsz : w.heap.size ≤ w2.heap.size := HT.out.bl.size
  clear hg hm hb2 hgl c0
  by_cases hin : inp.length = Gm.ins gs
  · have hinb : ((inp.length : Int) != (Gm.ins gs : Int)) = false := by simp [hin]
    have hil : inp.length ≤ 1000000 := by have := Gm.ins_le gs; omega
    have HIN2 := Lib.hid hin
    obtain ⟨i0, hi0, hz0, hz1, hz2⟩ := info_parts infoLit
    have HIN := Lib.hid (show _ ∧ _ ∧ _ ∧ _ from ⟨hi0, hz0, hz1, hz2⟩)
    clear hi0 hz0 hz1 hz2 hin
    go_wp2_with fail
    go_loopw [11, 12, 13] (fun lv av iv wr => ChR w w1.heap.size w1.heap.size (w1.heap.size + 1) inp gs roots w2.heap.size lv av iv wr) (fun _ _ iv _ => roots.length - (intOf iv).toNat)
    case atStart => exact ⟨0, [], Nat.zero_le _, rfl, rfl, (fun x hx => by cases hx), ⟨_, rfl, rfl⟩, HT.out, Nat.le_refl _, none, 0, rfl, World.ownsRow_nil _ _ _ _⟩
    case round =>
      clear c1
      obtain ⟨k, xs, hk, rfl, hxs, hxh, ⟨r, hr, rfl⟩, ht, hbs, Al, cl, rfl, hown⟩ := hrel
      by_cases hkl : k < roots.length
      · obtain ⟨x, hx⟩ : ∃ x, roots[k]? = some x := ⟨_, List.getElem?_eq_getElem hkl⟩
        obtain ⟨ad, hA, hadb, hcell⟩ := HRA.out.2 (by omega)
        subst hA
        have HCX := Lib.hid (show ∀ w', Below w.heap.size w w' → w'.cell? (ad.add k) = some (.int .i64 x) from fun w' hb => (hb.cell (p := ad.add k) (by rw [block_of_add]; exact hadb)).trans (hcell k _ (litVals_at hx)))
        have cx := HCX.out _ ht.bl
        have CX := mhas_at ht.ma x (HAW.out x (List.mem_of_getElem? hx))
        cases hvx : hasB gs.length x with
        | false =>
          rw [hvx] at CX
          have CX := Lib.hid CX
          have HT2 := Lib.hid ht
          clear hx hcell hxs hxh hr ht hown hvx
          go_wp2_with fail
          refine CX.out.mono ?_
          rintro e w' ⟨rfl, rfl⟩
          go_wp2_with fail
          go_ret
          exact ⟨rfl, HT2.out.bl⟩
        | true =>
          rw [hvx] at CX
          obtain ⟨z, rfl, hzh⟩ := has_of hvx
          have CX := Lib.hid CX
          have HT2 := Lib.hid ht
          have HO := Lib.hid hown
          have HXS := Lib.hid (show roots.take (k + 1) = (xs ++ [z]).map (fun (x : Nat) => (x : Int)) by rw [Gm.take_one hx, hxs]; simp)
          have HXH := Lib.hid (show ∀ y ∈ xs ++ [z], Gm.has gs y from fun y hy => by
            rcases List.mem_append.1 hy with hy | hy
            · exact hxh y hy
            · rw [List.mem_singleton.1 hy]; exact hzh)
          have HRR := Lib.hid (show (xs ++ [z]).all (Gm.ev inp gs) = (r && Gm.ev inp gs z) by rw [List.all_append, hr]; simp)
          have HZH := Lib.hid hzh
          have HTK := Lib.hid (show litVals (roots.take (k + 1)) = litVals (roots.take k) ++ [.int .i64 (z : Int)] by rw [Gm.take_one hx]; simp [litVals])
          obtain ⟨ez, hez⟩ : ∃ ez, Gm.ev inp gs z = ez := ⟨_, rfl⟩
          have HEZ := Lib.hid hez
          have hz9 : z ≤ 1000 := by unfold Gm.has at hzh; omega
          clear hx hcell hxs hxh hr ht hown hvx hzh hez
          have hrl : roots.length ≤ 60 := HAL.out
          go_wp2_with fail
          refine CX.out.mono ?_
          rintro e w' ⟨rfl, rfl⟩
          go_wp2_with (at_builtin; refine wpList_append_sl _ rfl (.tmp 62) (.tmp 67) _ rfl w2.heap.size 29 i0 _ 1 8 Tryd.underlying28 HIN.out.1 HIN.out.2.1 HIN.out.2.2.1 HIN.out.2.2.2 rfl (by omega) _ k _ rfl (HO.out.alloc _) (wr.heap.size + 1) (some ⟨wr.heap.size, 0, none⟩) 1 1 [.int .i64 (z : Int)] rfl (reads_new rfl (by omega) rfl) (ints_one (by simp)) (le_maxLen (by omega)) (le_bytes (by omega) (by omega)) (by simp; omega) ?_; intro A1 c1 w5 hown1 hg1; have hg2 : (wr.alloc (.cells #[.int .i64 (z : Int)] 29)).grownBy w5 (Value.slice Al k cl).ownBlock := hg1; have HT5 := Lib.hid (HT2.out.grown ⟨by decide, by decide, by decide, by decide⟩ HO.out hsz hg2); have hs5 : w2.heap.size ≤ w5.heap.size := (by have := hg2.size; simp at this; omega); have cx5 := HCX.out _ HT5.out.bl; have HO5 := Lib.hid hown1; clear hown1 hg1 hg2)
          have CM := Lib.hid (show Calls Tryd.prog 29 #[.pointer (some ⟨w1.heap.size + 1, 0, none⟩), .slice A3 inp.length c3, .int .i64 z] w5 fun e w' => e = .returned (.bool ez) ∧ Below w5.heap.size w5 w' by
            rw [← HEZ.out]
            exact meval_any HT5.out.ma HT5.out.ga.wf (by rw [HIN2.out]; exact Nat.le_refl _) (HRI.out.below HT5.out.bl) HT5.out.bl.size hil HZH.out)
          refine CM.out.mono ?_
          rintro e w6 ⟨rfl, hb6⟩
          have HT6 := Lib.hid (HT5.out.new hb6)
          have HO6 := Lib.hid (show w6.ownsRow w2.heap.size 29 1 (.slice A1 (k + 1) c1) (k + 1) (litVals (roots.take (k + 1))) by
            rw [HTK.out]; exact own_chg (S := fun _ _ => False) HO5.out (Chg.of_new hb6) (fun _ _ _ _ hs => hs))
          have hs6 : w2.heap.size ≤ w6.heap.size := Nat.le_trans hs5 hb6.size
          clear hb6 cx5
          cases r with
          | false =>
            go_wp2_with fail
            go_roundw
            case rel => exact ⟨k + 1, xs ++ [z], by omega, by go_num, HXS.out, HXH.out, ⟨_, by rw [HRR.out]; rfl, rfl⟩, HT6.out, hs6, A1, c1, rfl, HO6.out⟩
            case measure => simp [intOf]; omega
          | true =>
            go_wp2_with fail
            go_roundw
            case rel => exact ⟨k + 1, xs ++ [z], by omega, by go_num, HXS.out, HXH.out, ⟨_, by rw [HRR.out, HEZ.out, Bool.true_and], rfl⟩, HT6.out, hs6, A1, c1, rfl, HO6.out⟩
            case measure => simp [intOf]; omega
      · obtain rfl : k = roots.length := by omega
        rw [List.take_length] at hxs hown
        have hxl : xs.length = roots.length := by rw [hxs, List.length_map]
        have hval : litVals roots = natVals xs := by rw [hxs]; unfold litVals natVals; simp [List.map_map, litVals]
        rw [hval] at hown
        have CO : Calls Tryd.prog 11 #[.pointer (some ⟨w1.heap.size, 0, none⟩), .slice Al roots.length cl] wr (CoP wr gs xs) := by
          have h := cof_any (c := cl) ht.ga (rs := xs) (by rw [hxl]; exact Reads.of_own hown) (Nat.le_refl _) hxh (by have := HAL.out; omega) (by omega)
          rw [hxl] at h; exact h
        have HCO := Lib.hid CO
        have HT2 := Lib.hid ht
        have HRR := Lib.hid hr
        have HXH := Lib.hid hxh
        have hrl : roots.length ≤ 60 := HAL.out
        have HXL := Lib.hid hxl
        clear hxs hown hxl hval CO ht hr hxh
        go_wp2_with fail
        refine HCO.out.mono ?_
        rintro e w7 ⟨nl, Ac, An, cc, cn, hs, hnl, rfl, hb7, hc7, ho7⟩
        obtain ⟨cs, hcs⟩ : ∃ cs, Cn.clausesC gs nl xs = cs := ⟨_, rfl⟩
        rw [hcs] at hc7
        rw [hcs]
        obtain ⟨N, hN⟩ : ∃ N, Cn.cnt nl (gs.length + 1) = N := ⟨_, rfl⟩
        rw [hN]
        have hN9 : N ≤ 1000 := by rw [← hN]; have := Cn.cnt_le nl (gs.length + 1); omega
        have hcsl : cs.length ≤ 300000 := by
          rw [← hcs]; unfold Cn.clausesC; rw [List.length_append]
          have h1 := gatesC_le nl gs 0
          have h2 := rootsC_le nl xs
          have h3 := HXL.out
          omega
        obtain ⟨gn, rfl, _, _⟩ := own_some ho7 (by omega)
        have hbnd : ∀ c ∈ cs, c.length ≤ 3 ∧ ∀ x ∈ c, -(N : Int) ≤ x ∧ x ≤ (N : Int) := by
          rw [← hcs, ← hN, ← hnl]; exact Cn.clauses_bound
        obtain ⟨W9, hW9⟩ : ∃ W9, W9 = w7.alloc (.cells #[.int .i64 (N : Nat), .slice Ac cs.length cc] 36) := ⟨_, rfl⟩
        have hb9 : Below w7.heap.size w7 W9 := by rw [hW9]; exact (Below.refl _ _).alloc (Nat.le_refl _) _
        have f9 : Blk W9 w7.heap.size 36 #[.int .i64 (N : Nat), .slice Ac cs.length cc] := by rw [hW9]; exact Blk.new w7 _ _
        have HT9 := Lib.hid ((HT2.out.new hb7).new hb9)
        have HC9 := Lib.hid (hc7.chg hb9)
        have HO9 := Lib.hid (show intOwn W9 wr.heap.size (.slice (some ⟨gn, 0, none⟩) (gs.length + 1) cn) (gs.length + 1) (Cn.nums nl) from own_chg (S := fun _ _ => False) ho7 (Chg.of_new hb9) (fun _ _ _ _ hs => hs))
        have CG := Lib.hid (gates_ga HT9.out.ga)
        have hmk := run_make_boolsN N (by omega) W9
        have HW9 := Lib.hid hW9
        have HF9 := Lib.hid f9
        have HS := Lib.hid (And.intro hs (And.intro hnl (And.intro hcs (And.intro hN hbnd))))
        have hs9 : wr.heap.size ≤ W9.heap.size := Nat.le_trans hb7.size hb9.size
        have f90 := f9.cell 0
        have hgI : (((gs.length : Int) + 1) != (1 + (gs.length : Int))) = false := by rw [Int.add_comm]; simp
        obtain ⟨bf, hbf⟩ : ∃ bf, w7.heap.size = bf := ⟨_, rfl⟩
        rw [hbf] at HF9 f90
        clear hs hnl hb7 hc7 ho7 hcs hN hW9 hb9 f9 hbnd
        go_upto_region 20 with fail
        rw [← HW9.out]
        clear hbf
        go_wp2_with fail
        refine CG.out.mono ?_
        rintro e w' ⟨rfl, rfl⟩
        go_wp2_with fail
        clear hmk f90
        go_loopw [19] (fun iv wx => ChS w w1.heap.size w1.heap.size (w1.heap.size + 1) inp gs nl cs (.slice Ac cs.length cc) N bf gn W9.heap.size wr.heap.size W9.heap.size cn iv wx) (fun iv _ => gs.length + 2 - (intOf iv).toNat)
        case atStart =>
          have hbn : Below W9.heap.size W9 (W9.alloc (.cells (boolVals (List.replicate N false)).toArray 4)) := (Below.refl _ _).alloc (Nat.le_refl _) _
          refine ⟨1, List.replicate N false, Nat.le_refl _, by omega, rfl, ⟨by rw [List.length_replicate, HS.out.2.1, HS.out.2.2.2.1], fun i hi hn => ?_⟩, HT9.out.new hbn, HF9.out.alloc _, HC9.out.chg hbn, World.ownsRow.alloc HO9.out _, own_full (Nat.le_refl _) (by simp [boolVals]) (by omega), by simp⟩
          obtain rfl : i = 0 := by omega
          have := ((HS.out.1 0).1 hn).1
          omega
        case round =>
          obtain ⟨i, vs, hi1, hi, rfl, hv, ht, hbf, hcs, hom, hvo, hbs⟩ := hrel
          by_cases hig : i ≤ gs.length
          · obtain ⟨u, hu, cz⟩ := own_cell (k := i) hom (by omega)
            obtain rfl : Value.int .i64 (Cn.numAt nl i : Nat) = u := by
              rw [natVals_at (litNumAt (by have := HS.out.2.1; omega))] at hu; injection hu
            have hzc := Cn.numAt_cnt (nl := nl) i
            rw [HS.out.2.1, HS.out.2.2.2.1] at hzc
            obtain ⟨z, hz⟩ : ∃ z, Cn.numAt nl i = z := ⟨_, rfl⟩
            rw [hz] at cz hzc
            have hiI : (i : Int) < (gs.length : Int) + 1 := by omega
            have HV := Lib.hid hv
            have HTX := Lib.hid ht
            have HBf := Lib.hid hbf
            have HCS := Lib.hid hcs
            have HOM := Lib.hid hom
            have HVO := Lib.hid hvo
            have HZ := Lib.hid hz
            have cf0 := hbf.cell 0
            clear hu hv ht hbf hcs hom hvo hz
            rcases Nat.eq_zero_or_pos z with h0 | h0
            · have ez : decide ((0 : Int) < (z : Int)) = false := decide_eq_false (by omega)
              go_wp2_with fail
              go_roundw
              case rel =>
                refine ⟨i + 1, vs, by omega, by omega, by go_num, Cn.vals_skip HV.out (fun h => ?_), HTX.out, HBf.out, HCS.out, HOM.out, HVO.out, hbs⟩
                have := Cn.numAt_pos h
                have := HZ.out
                omega
              case measure => simp [intOf]; omega
            · obtain ⟨z1, rfl⟩ : ∃ z1, z = z1 + 1 := ⟨z - 1, by omega⟩
              have HMK := Lib.hid (show nl[i]? = some true by
                cases hb : nl[i]? with
                | none => rw [List.getElem?_eq_none_iff] at hb; have := HS.out.2.1; omega
                | some b =>
                  cases b with
                  | true => rfl
                  | false => have h := HZ.out; unfold Cn.numAt at h; rw [if_neg (by rw [hb]; simp)] at h; omega)
              have ez : decide ((0 : Int) < (z1 : Int) + 1) = true := decide_eq_true (by omega)
              have ez2 : decide ((N : Int) < (z1 : Int) + 1) = false := decide_eq_false (by omega)
              have hw1 : IntKind.i64.wrap ((z1 : Int) + 1 - 1) = (z1 : Int) := by rw [IntKind.wrap_i64]; omega
              obtain ⟨i2, hi2⟩ : ∃ i2, 2 * i = i2 := ⟨_, rfl⟩
              have hw2 : IntKind.i64.wrap (2 * (i : Int)) = (i2 : Int) := by rw [IntKind.wrap_i64]; omega
              have hz1N : (z1 : Int) < (N : Int) := by omega
              have hw3 : IntKind.i64.wrap (z1 : Int) = (z1 : Int) := by rw [IntKind.wrap_i64]; omega
              obtain ⟨ez0, hez⟩ : ∃ b, Gm.ev inp gs (2 * i) = b := ⟨_, rfl⟩
              have HEZ := Lib.hid hez
              have CM := Lib.hid (show Calls Tryd.prog 29 #[.pointer (some ⟨w1.heap.size + 1, 0, none⟩), .slice A3 inp.length c3, .int .i64 i2] wr.drew.drew fun e w' => e = .returned (.bool ez0) ∧ Below wr.drew.drew.heap.size wr.drew.drew w' by
                rw [← hez, hi2]
                exact meval_any ((HTX.out.ma.drewN 1).drewN 1) HTX.out.ga.wf (by rw [HIN2.out]; exact Nat.le_refl _) (((HRI.out.below HTX.out.bl).drewN 1).drewN 1) HTX.out.bl.size hil (by unfold Gm.has; omega))
              have HI2 := Lib.hid hi2
              clear hez hi2
              go_wp2_with fail
              refine wp_region_seq (S := fun w' => w'.cell? ⟨gn, i, none⟩ = some (.int .i64 ((z1 : Int) + 1)) ∧ w'.cell? ⟨bf, 0, none⟩ = some (.int .i64 (N : Nat))) [(0, false), (1, false), (2, false), (3, false), (4, false), (5, false), (6, false)] (by kernel_rfl) (by kernel_rfl) (by kernel_rfl) (And.intro cz cf0) ?_
              iterate 7 (refine seq_take _ _ rfl (by kernel_rfl) (fun wv hv => by obtain ⟨hv1, hv2⟩ := hv; go_simp; try with_reducible rfl) ?_; simp only [Act.put, List.getElem_toArray, List.getElem_cons_zero, List.getElem_cons_succ, List.setIfInBounds_toArray, List.set_cons_zero, List.set_cons_succ])
              refine seq_nil ?_
              go_wp2_with fail
              refine wp_region_mv (S := fun w' => w'.cell? ⟨gn, i, none⟩ = some (.int .i64 ((z1 : Int) + 1))) 12 [.f 0, .f 1, .f 2, .f 3, .f 4, .f 5, .f 6, .f 7, .f 8, .f 9, .t 10, .f 11, .t 12] (by kernel_rfl) (by kernel_rfl) (by kernel_rfl) cz ?_
              iterate 10 (refine mv_take _ _ rfl (by kernel_rfl) (fun wv hv => by have hv1 := hv; clear hv; go_simp; try with_reducible rfl) ?_; simp only [Act.put, List.getElem_toArray, List.getElem_cons_zero, List.getElem_cons_succ, List.setIfInBounds_toArray, List.set_cons_zero, List.set_cons_succ])
              refine mv_act _ rfl (fun K hK => ?_)
              go_simp
              refine CM.out.mono ?_
              rintro e w5 ⟨rfl, hb5⟩
              have hbw : Below wr.heap.size wr w5 := (below_drewN (below_drewN (Below.refl _ _) 1) 1).trans hb5
              have cz5 := (hbw.cell (p := ⟨gn, i, none⟩) (World.block_lt_of_cell? wr _ cz)).trans cz
              have hvo5 : w5.ownsRow W9.heap.size 4 1 (.slice (some ⟨W9.heap.size, 0, none⟩) N N) N (boolVals vs) := own_chg (S := fun _ _ => False) HVO.out (Chg.of_new hbw) (fun _ _ _ _ hs => hs)
              have hom5 : intOwn w5 _ (.slice (some ⟨gn, 0, none⟩) (gs.length + 1) cn) (gs.length + 1) (Cn.nums nl) := own_chg (S := fun _ _ => False) HOM.out (Chg.of_new hbw) (fun _ _ _ _ hs => hs)
              have HP5 := Lib.hid (And.intro (HTX.out.new hbw) (And.intro (HBf.out.below hbw HBf.out.lt) (And.intro (HCS.out.chg hbw) (And.intro hom5 hvo5))))
              have HS5 := Lib.hid (Nat.le_trans hbs hbw.size)
              obtain ⟨u5, _, cv5⟩ := own_cell (k := z1) hvo5 (by omega)
              have fv5 := own_unfrozen (k := z1) hvo5
              clear hb5 hbw hvo5 hom5
              go_simp
              refine hK _ _ (.inr (cz5)) ?_
              clear hK K
              iterate 1 (refine mv_take _ _ rfl (by kernel_rfl) (fun wv hv => by have hv1 := hv; clear hv; go_simp; try with_reducible rfl) ?_; simp only [Act.put, List.getElem_toArray, List.getElem_cons_zero, List.getElem_cons_succ, List.setIfInBounds_toArray, List.set_cons_zero, List.set_cons_succ])
              refine mv_act _ rfl (fun K hK => ?_)
              go_simp
              go_simp
              refine hK _ _ (.inl rfl) ?_
              clear hK K
              refine mv_nil ?_
              clear cz5 cv5 fv5
              go_wp2_with fail
              go_roundw
              case rel =>
                obtain ⟨t5, f5, c5, o5, v5⟩ := HP5.out
                have hvn := Cn.vals_set HV.out HMK.out
                rw [HZ.out, HEZ.out, Nat.add_sub_cancel] at hvn
                refine ⟨i + 1, _, by omega, by omega, by go_num, hvn, t5.setBool v5 (by have := HT9.out.bl.size; omega) _ _, f5.far (p := ⟨W9.heap.size, z1, none⟩) (fun e => own_blk_ne v5 f5 (by decide) (by rw [e]; rfl)) _, c5.farB v5 _ _, far_own o5 v5 (by decide) _ _, ?_, by simpa [World.setCell] using HS5.out⟩
                rw [boolVals_set]
                exact own_set v5 _
              case measure => simp [intOf]; omega
          · obtain rfl : i = gs.length + 1 := by omega
            have hvl : vs.length = N := by rw [hv.1, HS.out.2.1, HS.out.2.2.2.1]
            have hv' : Cn.ValsTo inp gs nl vs nl.length := by rw [HS.out.2.1]; exact hv
            have hfor : Cn.forH vs cs = r := by rw [← HS.out.2.2.1, Cn.clauses_hold ht.ga.wf HS.out.1 hv', HRR.out]
            have CH := holds_any (q := N) (cc := cc) (cv := N) (clr_of_own hcs) (vs := vs) (by rw [hvl]; exact Reads.of_own hvo) (Nat.le_refl _) hcsl (by omega) (by rw [hvl]; exact HS.out.2.2.2.2)
            rw [hfor, hvl] at CH
            have CH := Lib.hid CH
            have HTX := Lib.hid ht
            have y0 := hbf.cell 0
            have y1 := hbf.cell 1
            have hki : ¬ (gs.length : Int) + 1 < (gs.length : Int) + 1 := by omega
            clear hvl hv' hfor hv ht hbf hcs hom hvo
            go_wp2_with fail
            refine CH.out.mono ?_
            rintro e w13 ⟨rfl, hb13⟩
            have HB13 := Lib.hid (HTX.out.bl.trans (hb13.mono HTX.out.bl.size))
            clear hb13
            cases r
            all_goals
              go_wp2_with fail
              go_ret
              exact ⟨rfl, HB13.out⟩
  · have hinb : ((inp.length : Int) != (Gm.ins gs : Int)) = true := by simp; omega
    go_wp2_with fail
    go_ret
    exact ⟨rfl, HT.out.bl⟩
end Go.Proofs.YtmbjhpgemphmmaaDoor
