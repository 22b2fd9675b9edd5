/-
  THE WALK of the law CnfOf.
-/
import Derived.Test.YtmbjhpgemphmmaaDoorCg
import Derived.Test.YtmbjhpgemphmmaaDoorCb
import Derived.Test.YtmbjhpgemphmmaaDoorCh
import Derived.Test.YtmbjhpgemphmmaaDoorGh
import Derived.Test.YtmbjhpgemphmmaaDoorTx
import Derived.Outline
namespace Go.Proofs.YtmbjhpgemphmmaaDoor
open Go.RowKit
theorem ccof_long {w : World} {A A2 : Option Addr} {c c2 l n : Nat} (h : 60 < l ∨ 60 < n) :
    Calls Tryd.prog 7 #[.slice A l c, .slice A2 n c2] w (LPost w) := by
  have CE := Lib.hid (texted_any w)
  have key : decide ((60 : Int) < (l : Int)) = true ∨ (decide ((60 : Int) < (l : Int)) = false ∧ decide ((60 : Int) < (n : Int)) = true) := by
    by_cases h1 : 60 < l
    · exact .inl (decide_eq_true (by omega))
    · exact .inr ⟨decide_eq_false (by omega), decide_eq_true (by omega)⟩
  clear h
  rcases key with e0 | ⟨e0, e1⟩
  all_goals
    go_enter Tryd.func7, Tryd.ntmps7
    go_wp2_with fail
    refine CE.out.mono ?_
    rintro e w1 ⟨rfl, hb⟩
    have HB := Lib.hid hb
    clear hb
    go_wp2
    go_ret
    exact ⟨rfl, HB.out⟩
theorem Cn.same_spec {gs : List Gm.Gate} {rs : List Nat} {nl nl' : List Bool} (hl : nl.length = nl'.length) (h : ∀ n, nl[n]? = some true ↔ (1 ≤ n ∧ Cn.Reach gs rs n)) (h' : ∀ n, nl'[n]? = some true ↔ (1 ≤ n ∧ Cn.Reach gs rs n)) : nl = nl' := by
  apply List.ext_getElem?
  intro i
  rcases Nat.lt_or_ge i nl.length with hi | hi
  · obtain ⟨b, hb⟩ : ∃ b, nl[i]? = some b := ⟨_, List.getElem?_eq_getElem hi⟩
    obtain ⟨b', hb'⟩ : ∃ b, nl'[i]? = some b := ⟨_, List.getElem?_eq_getElem (by omega)⟩
    rw [hb, hb']
    cases b with
    | true => have := (h' i).2 ((h i).1 hb); rw [hb'] at this; exact this.symm
    | false =>
      cases b' with
      | false => rfl
      | true => have := (h i).2 ((h' i).1 hb'); rw [hb] at this; cases this
  · rw [List.getElem?_eq_none hi, List.getElem?_eq_none (by omega)]
theorem natVals_lit (l : List Nat) : natVals l = litVals (l.map fun (x : Nat) => (x : Int)) := by unfold natVals litVals; simp [List.map_map]
/-- the first of a list that is bad -/
theorem first_badroot {p : Int → Bool} : ∀ {l : List Int}, ¬ (∀ a ∈ l, p a = true) → ∃ (k : Nat) (x : Int), l[k]? = some x ∧ p x = false ∧ ∀ (i : Nat) (y : Int), i < k → l[i]? = some y → p y = true
  | [], h => absurd (fun a ha => by cases ha) h
  | a :: l, h => by
    cases ha : p a with
    | false => exact ⟨0, a, rfl, ha, fun i y hi => by omega⟩
    | true =>
      obtain ⟨k, x, h1, h2, h3⟩ := first_badroot (l := l) fun hl => h fun b hb => by
        rcases List.mem_cons.1 hb with rfl | hb
        · exact ha
        · exact hl b hb
      refine ⟨k + 1, x, by simpa using h1, h2, fun i y hi hy => ?_⟩
      match i, hy with
      | 0, hy => obtain rfl : a = y := by simpa using hy
                 exact ha
      | i + 1, hy => exact h3 i y (by omega) (by simpa using hy)
set_option maxRecDepth 100000 in
set_option maxHeartbeats 8000000 in
theorem ccof_short {w : World} {ea : Nat → Addr} {BE : Nat} (hE : Errs w ea BE) (hBE : BE ≤ w.heap.size) {l : List Mk} (hl : l.length ≤ 60) (hf : ∀ m ∈ l, m.fits) {A A2 : Option Addr} {c c2 : Nat} (hr : Reads w w.heap.size 4 A l.length (mkVals l))
    {ask : List Int} (hal : ask.length ≤ 60) (haw : ∀ a ∈ ask, (Lit.int .i64 a).wf = true) (hra : Reads w w.heap.size 1 A2 ask.length (litVals ask)) :
    Calls Tryd.prog 7 #[.slice A l.length c, .slice A2 ask.length c2] w (LPost w) := by
  have e0 : decide ((60 : Int) < (l.length : Int)) = false := decide_eq_false (by omega)
  have e1 : decide ((60 : Int) < (ask.length : Int)) = false := decide_eq_false (by omega)
  have CE := Lib.hid (texted_any w)
  have HE := Lib.hid hE
  have HBE := Lib.hid hBE
  have HF := Lib.hid hf
  have HR := Lib.hid hr
  have HL := Lib.hid hl
  have HRA := Lib.hid hra
  have HAW := Lib.hid haw
  have HAL := Lib.hid hal
  clear hE hBE hf hr hl hal haw hra
  go_enter Tryd.func7, Tryd.ntmps7
  go_wp2_with fail
  refine CE.out.mono ?_
  rintro e w1 ⟨rfl, hb⟩
  have CB := Lib.hid (build_any (c := c) (HE.out.mem hb HBE.out) (Nat.le_trans HBE.out hb.size) HL.out HF.out ((HR.out.below hb).more hb.size))
  have HB := Lib.hid hb
  clear hb
  go_wp2_with fail
  refine CB.out.mono ?_
  rintro e w2 ⟨rfl, gs, hgl, hg, hm, hb2⟩
  have hgs : gs.length ≤ 180 := by have := HL.out; omega
  have HT := Lib.hid (show Two w w1.heap.size w1.heap.size (w1.heap.size + 1) gs w2 from ⟨hg, hm, HB.out.trans (hb2.mono HB.out.size)⟩)
  have hsz : w.heap.size ≤ w2.heap.size := HT.out.bl.size
  clear hg hm hb2 hgl
  obtain ⟨inp, hinp⟩ : ∃ inp : List Bool, inp.length = Gm.ins gs := ⟨List.replicate (Gm.ins gs) false, by simp⟩
  have HINP := Lib.hid (show ((inp.length : Int) == (Gm.ins gs : Int)) = true by rw [hinp]; simp)
  obtain ⟨i0, hi0, hz0, hz1, hz2⟩ := info_parts infoLit
  have HIN := Lib.hid (show _ ∧ _ ∧ _ ∧ _ from ⟨hi0, hz0, hz1, hz2⟩)
  clear hi0 hz0 hz1 hz2 hinp
  go_wp2_with fail
  go_loopw [9, 10, 11] (fun lv rv iv wr => AskR w w1.heap.size w1.heap.size (w1.heap.size + 1) inp gs ask w2.heap.size lv rv iv wr) (fun _ _ iv _ => ask.length - (intOf iv).toNat)
  case atStart => exact ⟨0, Nat.zero_le _, rfl, ⟨true, by unfold rOf; rw [HINP.out]; simp, rfl⟩, HT.out, Nat.le_refl _, none, 0, rfl, World.ownsRow_nil _ _ _ _⟩
  case round =>
    obtain ⟨k, hk, rfl, ⟨r, hr, rfl⟩, ht, hbs, Al, cl, rfl, hown⟩ := hrel
    have HT2 := Lib.hid ht
    have HO := Lib.hid hown
    have HRR := Lib.hid hr
    have hk60 : ask.length ≤ 60 := HAL.out
    clear ht hown hr
    by_cases hkl : k < ask.length
    · obtain ⟨x, hx⟩ : ∃ x, ask[k]? = some x := ⟨_, List.getElem?_eq_getElem hkl⟩
      obtain ⟨ad, hA, hadb, hcell⟩ := HRA.out.2 (by omega)
      subst hA
      have cx := (HT2.out.bl.cell (p := ad.add k) (by rw [block_of_add]; exact hadb)).trans (hcell k _ (litVals_at hx))
      have HWX := Lib.hid (HAW.out x (List.mem_of_getElem? hx))
      obtain ⟨vx, hvx⟩ : ∃ v, v = hasB gs.length x := ⟨_, rfl⟩
      have HVX := Lib.hid hvx
      have HRS := Lib.hid (show rOf inp gs ask (k + 1) = (r && vx) by rw [rOf_succ hx, HRR.out, hvx])
      have HX := Lib.hid hx
      have hcell' := Lib.hid hcell
      have hadb' := hadb
      clear hx hvx hcell hadb
      cases r with
      | false =>
        go_wp2_with (at_builtin; refine wpList_append_sl _ rfl (.tmp 45) (.tmp 50) _ rfl w2.heap.size 29 i0 _ 1 8 Tryd.underlying28 HIN.out.1 HIN.out.2.1 HIN.out.2.2.1 HIN.out.2.2.2 rfl (by omega) _ k _ rfl (HO.out.alloc _) (wr.heap.size + 1) (some ⟨wr.heap.size, 0, none⟩) 1 1 [.int .i64 x] rfl (reads_new rfl (by omega) rfl) (ints_one (by simp)) (le_maxLen (by omega)) (le_bytes (by omega) (by omega)) (by simp; omega) ?_; intro A1 c1 w5 hown1 hg1)
        have hg2 : (wr.alloc (.cells #[.int .i64 x] 29)).grownBy w5 (Value.slice Al k cl).ownBlock := hg1
        have HT5 := Lib.hid (HT2.out.grown ⟨by decide, by decide, by decide, by decide⟩ HO.out hsz hg2)
        have hs5 : w2.heap.size ≤ w5.heap.size := by have := hg2.size; simp at this; omega
        have HO5 := Lib.hid hown1
        clear hown1 hg1 hg2
        go_roundw
        case rel => exact askr_next HX.out HRS.out HT5.out hs5 HO5.out _ (by go_num)
        case measure => simp [intOf]; omega
      | true =>
        go_wp2_with (at_builtin; refine wpList_append_sl _ rfl (.tmp 45) (.tmp 50) _ rfl w2.heap.size 29 i0 _ 1 8 Tryd.underlying28 HIN.out.1 HIN.out.2.1 HIN.out.2.2.1 HIN.out.2.2.2 rfl (by omega) _ k _ rfl (HO.out.alloc _) (wr.heap.size + 1) (some ⟨wr.heap.size, 0, none⟩) 1 1 [.int .i64 x] rfl (reads_new rfl (by omega) rfl) (ints_one (by simp)) (le_maxLen (by omega)) (le_bytes (by omega) (by omega)) (by simp; omega) ?_; intro A1 c1 w5 hown1 hg1; have hg2 : (wr.alloc (.cells #[.int .i64 x] 29)).grownBy w5 (Value.slice Al k cl).ownBlock := hg1; have HT5 := Lib.hid (HT2.out.grown ⟨by decide, by decide, by decide, by decide⟩ HO.out hsz hg2); have hs5 : w2.heap.size ≤ w5.heap.size := (by have := hg2.size; simp at this; omega); have cx5 := (HT5.out.bl.cell (p := ad.add k) (by rw [block_of_add]; exact hadb')).trans (hcell'.out k _ (litVals_at HX.out)); have HO5 := Lib.hid hown1; clear hown1 hg1 hg2)
        have CX := mhas_at HT5.out.ma x HWX.out
        rw [← HVX.out] at CX
        have CX := Lib.hid CX
        refine CX.out.mono ?_
        rintro e w' ⟨rfl, rfl⟩
        go_wp2_with fail
        go_roundw
        case rel => exact askr_next HX.out HRS.out HT5.out hs5 HO5.out _ (by go_num)
        case measure => simp [intOf]; omega
    · obtain rfl : k = ask.length := by omega
      have ho := HO.out
      rw [List.take_length] at ho
      have HOA := Lib.hid ho
      clear ho
      by_cases hgood : ∀ a ∈ ask, hasB gs.length a = true
      · have hrt : r = true := by
          rw [← HRR.out]
          unfold rOf
          rw [List.take_length, HINP.out, Bool.true_and, List.all_eq_true]
          exact hgood
        subst hrt
        obtain ⟨xs, hxs⟩ : ∃ xs : List Nat, xs.map (fun (x : Nat) => (x : Int)) = ask := ⟨ask.map Int.toNat, by
          rw [List.map_map]
          conv => rhs; rw [← List.map_id ask]
          exact List.map_congr_left fun a ha => by
            have h := hgood a ha
            unfold hasB at h
            simp only [Bool.and_eq_true, decide_eq_true_eq] at h
            simp only [Function.comp, id_eq]
            omega⟩
        have hxl : xs.length = ask.length := by rw [← hxs, List.length_map]
        have hxh : ∀ a ∈ xs, Gm.has gs a := fun a ha => by
          obtain ⟨y, hy, hh⟩ := has_of (hgood (a : Int) (by rw [← hxs]; exact List.mem_map.2 ⟨a, ha, rfl⟩))
          have : y = a := by omega
          rw [← this]; exact hh
        have hval : litVals ask = natVals xs := by rw [natVals_lit, hxs]
        have CO : Calls Tryd.prog 11 #[.pointer (some ⟨w1.heap.size, 0, none⟩), .slice Al ask.length cl] wr (CoP wr gs xs) := by
          have h := cof_any (c := cl) HT2.out.ga (rs := xs) (by rw [hxl, ← hval]; exact Reads.of_own HOA.out) (Nat.le_refl _) hxh (by omega) (by omega)
          rw [hxl] at h; exact h
        have CR : ∀ w', Below w.heap.size w w' → ModelAt w' w1.heap.size (w1.heap.size + 1) gs → Calls Tryd.prog 27 #[.pointer (some ⟨w1.heap.size + 1, 0, none⟩), .slice A2 ask.length c2] w' (CgP w' gs xs) := fun w' hb hm => by
          have h := cref_any (c := c2) hm HT2.out.ga.wf (rs := xs) (by rw [hxl, ← hval]; exact HRA.out.below hb) hb.size hxh (by omega) (by omega)
          rw [hxl] at h; exact h
        have HCO := Lib.hid CO
        have HCR := Lib.hid CR
        have HXL := Lib.hid hxl
        clear hgood hxs hxh hval CO CR hxl
        go_wp2_with fail
        refine HCO.out.mono ?_
        rintro e w7 ⟨nl, Ac, An, cc, cn, hs, hnl, rfl, hb7, hc7, ho7⟩
        obtain ⟨cs, hcs⟩ : ∃ cs, Cn.clausesC gs nl xs = cs := ⟨_, rfl⟩
        rw [hcs] at hc7
        rw [hcs]
        obtain ⟨N, hN⟩ : ∃ N, Cn.cnt nl (gs.length + 1) = N := ⟨_, rfl⟩
        rw [hN]
        obtain ⟨W8, hW8⟩ : ∃ W8, W8 = w7.alloc (.cells #[.int .i64 (N : Nat), .slice Ac cs.length cc] 36) := ⟨_, rfl⟩
        have hb8 : Below w7.heap.size w7 W8 := by rw [hW8]; exact (Below.refl _ _).alloc (Nat.le_refl _) _
        have f8 : Blk W8 w7.heap.size 36 #[.int .i64 (N : Nat), .slice Ac cs.length cc] := by rw [hW8]; exact Blk.new w7 _ _
        have HT8 := Lib.hid ((HT2.out.new hb7).new hb8)
        have HC8 := Lib.hid (clr_of_own (hc7.chg hb8))
        have HO8 := Lib.hid (show intOwn W8 wr.heap.size (.slice An (gs.length + 1) cn) (gs.length + 1) (Cn.nums nl) from own_chg (S := fun _ _ => False) ho7 (Chg.of_new hb8) (fun _ _ _ _ hs => hs))
        have HF8 := Lib.hid f8
        have HW8 := Lib.hid hW8
        have HS := Lib.hid (And.intro hs (And.intro hnl (And.intro hcs hN)))
        have CR8 := Lib.hid (HCR.out W8 HT8.out.bl HT8.out.ma)
        clear hs hnl hb7 hc7 ho7 hcs hN hW8 hb8 f8
        go_upto_region 15 with fail
        rw [← HW8.out]
        go_wp2_with fail
        refine CR8.out.mono ?_
        rintro e w9 ⟨nl2, Ac2, An2, cc2, cn2, hs2, hnl2, rfl, hb9, hc9, ho9⟩
        obtain rfl : nl = nl2 := Cn.same_spec (by rw [HS.out.2.1, hnl2]) HS.out.1 hs2
        rw [HS.out.2.2.1] at hc9
        rw [HS.out.2.2.1, HS.out.2.2.2]
        have hcl3 : ∀ c ∈ cs, c.length ≤ 3 := fun c hc => by rw [← HS.out.2.2.1] at hc; exact (Cn.clauses_bound c hc).1
        have hcsl : cs.length ≤ 300000 := by
          rw [← HS.out.2.2.1]; unfold Cn.clausesC; rw [List.length_append]
          have h1 := gatesC_le nl gs 0
          have h2 := rootsC_le nl xs
          have h3 := HXL.out
          omega
        obtain ⟨W10, hW10⟩ : ∃ W10, W10 = w9.alloc (.cells #[.int .i64 (N : Nat), .slice Ac2 cs.length cc2] 73) := ⟨_, rfl⟩
        have hb10 : Below w9.heap.size w9 W10 := by rw [hW10]; exact (Below.refl _ _).alloc (Nat.le_refl _) _
        have k2 : Blk W10 w9.heap.size 73 #[.int .i64 (N : Nat), .slice Ac2 cs.length cc2] := by rw [hW10]; exact Blk.new w9 _ _
        have k1a := HF8.out.below hb9 HF8.out.lt
        have k1 := k1a.below hb10 k1a.lt
        have y10 := k1.cell 0
        have y11 := k1.cell 1
        have y20 := k2.cell 0
        have y21 := k2.cell 1
        have hbA : Below W8.heap.size W8 W10 := hb9.trans (hb10.mono hb9.size)
        have CSC := Lib.hid (sameClauses_eq (c1 := cc) (c2 := cc2) (HC8.out.below hbA) (clr_of_own (hc9.chg hb10)) hcsl hcl3)
        have o1 : intOwn W10 wr.heap.size (.slice An (gs.length + 1) cn) (gs.length + 1) (Cn.nums nl) := own_chg (S := fun _ _ => False) HO8.out (Chg.of_new hbA) (fun _ _ _ _ hs => hs)
        have o2 : intOwn W10 W8.heap.size (.slice An2 (gs.length + 1) cn2) (gs.length + 1) (Cn.nums nl) := own_chg (S := fun _ _ => False) ho9 (Chg.of_new hb10) (fun _ _ _ _ hs => hs)
        have hnn : ((Cn.nums nl).map fun (x : Nat) => (x : Int)).length = gs.length + 1 := by rw [List.length_map]; unfold Cn.nums; rw [Cn.numTo_length, hnl2]
        have CSI := Lib.hid (show ∀ n, Calls Tryd.prog 13 #[.slice An (gs.length + 1) cn, .slice An2 (gs.length + 1) cn2] (W10.drewN n) fun e w' => e = .returned (.bool true) ∧ ∃ m, w' = (W10.drewN n).drewN m from fun n => by
          have r1 := (Reads.of_own o1).drewN n
          have r2 := (Reads.of_own o2).drewN n
          rw [natVals_lit] at r1 r2
          have h := sameInts_any (w := W10.drewN n) (A1 := An) (A2 := An2) (c1 := cn) (c2 := cn2) (xs := (Cn.nums nl).map fun (x : Nat) => (x : Int)) (ys := (Cn.nums nl).map fun (x : Nat) => (x : Int)) (by rw [hnn]; exact r1) (by rw [hnn]; exact r2) (by omega)
          rw [hnn] at h
          rw [show (((Cn.nums nl).map fun (x : Nat) => (x : Int)) == ((Cn.nums nl).map fun (x : Nat) => (x : Int))) = true by simp] at h
          exact h)
        have HB10 := Lib.hid (show Below w.heap.size w W10 from HT8.out.bl.trans (hbA.mono HT8.out.bl.size))
        have HW10 := Lib.hid hW10
        clear hs2 hnl2 hb9 hc9 ho9 hW10 hb10 k1 k1a k2 hbA o1 o2 hnn hcl3 hcsl
        go_upto_region 18 with fail
        rw [← HW10.out]
        go_wp2_with fail
        refine CSC.out.mono ?_
        rintro e w11 ⟨rfl, n, rfl⟩
        go_wp2_with fail
        refine (CSI.out n).mono ?_
        rintro e w12 ⟨rfl, m, hw12⟩
        have HB12 := Lib.hid (show Below w.heap.size w w12 by rw [hw12]; exact below_drewN (below_drewN HB10.out n) m)
        clear hw12
        go_wp2_with fail
        go_ret
        exact ⟨rfl, HB12.out⟩
      · have hrf : r = false := by
          cases hrr : r with
          | false => rfl
          | true =>
            exfalso
            apply hgood
            have h := HRR.out
            rw [hrr] at h
            unfold rOf at h
            rw [List.take_length] at h
            simp only [Bool.and_eq_true, beq_iff_eq, List.all_eq_true] at h
            exact h.2
        subst hrf
        obtain ⟨k0, x, hx, hbad, hpre⟩ := first_badroot hgood
        have CO := Lib.hid (cof_bad (c := cl) (HE.out.mem HT2.out.bl HBE.out) (Nat.le_trans HBE.out HT2.out.bl.size) HT2.out.ga (Reads.of_own HOA.out) (Nat.le_refl _) hx hbad hpre HAW.out (by omega) (by omega))
        clear hgood hx hbad hpre
        go_wp2_with fail
        refine CO.out.mono ?_
        rintro e w7 ⟨rfl, hb7⟩
        obtain ⟨W8, hW8⟩ : ∃ W8, W8 = w7.alloc (.cells #[.int .i64 0, .slice none 0 0] 36) := ⟨_, rfl⟩
        have hb8 : Below w.heap.size w W8 := by rw [hW8]; exact (HT2.out.bl.trans (hb7.mono HT2.out.bl.size)).alloc (Nat.le_trans HT2.out.bl.size hb7.size) _
        have f8 : Blk W8 w7.heap.size 36 #[.int .i64 0, .slice none 0 0] := by rw [hW8]; exact Blk.new w7 _ _
        have CC := Lib.hid (show Calls Tryd.prog 21 #[errV ea 3, .int .i64 3] W8 fun e w' => e = .returned (.bool true) ∧ Below W8.heap.size W8 w' from coded_sent (HE.out.mem hb8 HBE.out) (Nat.le_trans HBE.out hb8.size) (k := 3) (by omega) (by omega))
        have HB8 := Lib.hid hb8
        have HF8 := Lib.hid f8
        have HW8 := Lib.hid hW8
        clear hb7 hW8 hb8 f8
        go_upto_region 15 with fail
        rw [← HW8.out]
        go_wp2_with fail
        refine CC.out.mono ?_
        rintro e w9 ⟨rfl, hb9⟩
        have k9 := HF8.out.below hb9 HF8.out.lt
        have y0 := k9.cell 0
        have y1 := k9.cell 1
        have HB9 := Lib.hid (HB8.out.trans (hb9.mono HB8.out.size))
        clear hb9 k9
        go_wp2_with fail
        go_ret
        exact ⟨rfl, HB9.out⟩
end Go.Proofs.YtmbjhpgemphmmaaDoor
