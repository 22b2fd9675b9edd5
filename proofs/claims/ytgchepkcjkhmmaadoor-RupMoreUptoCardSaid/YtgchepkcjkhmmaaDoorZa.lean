/-
  WALK of rup.steps.
-/
import Derived.Test.YtgchepkcjkhmmaaDoorUz
namespace Go.Proofs.YtgchepkcjkhmmaaDoor
open Go.RowKit
theorem clsr_all {w : World} {base : Nat} {A : Option Addr} {n c : Nat} {cs : List (List Int)} (h : CsAt w base (.slice A n c) cs) : ClsR w w.heap.size A cs := clsr_of_own h
/-- a clause's slice, out of the row -/
theorem csat_at {w : World} {base : Nat} {A : Option Addr} {n c : Nat} {cs : List (List Int)} (h : CsAt w base (.slice A n c) cs) {i : Nat} {l : List Int} (hi : cs[i]? = some l) :
    ∃ g u, A = some ⟨g, 0, none⟩ ∧ w.cell? ⟨g, i, none⟩ = some u ∧ w.ownsRow base 3 1 u l.length (litVals l) := by
  obtain ⟨rows, h1, h2⟩ := h
  obtain ⟨u, h3, h4⟩ := h2 i l hi
  have hlt : 0 < cs.length := by have := (List.getElem?_eq_some_iff.1 hi).1; omega
  obtain ⟨g, cap, hv, _, _⟩ := h1.form hlt
  have hA : A = some ⟨g, 0, none⟩ := by simp only [Value.slice.injEq] at hv; exact hv.1
  subst hA
  have h5 := h1.cells (g := g) rfl i _ h3
  have e : (⟨g, 0, none⟩ : Addr).add i = ⟨g, i, none⟩ := by
    unfold Addr.add; split
    · rename_i h0; rw [h0]
    · simp
  rw [e] at h5
  exact ⟨g, u, rfl, h5, h4⟩
/-- clauses that can be read: the rows are owned, their header lies where it may -/
def CsIn (w : World) (base : Nat) (A : Option Addr) (cs : List (List Int)) : Prop := ∀ (i : Nat) (l : List Int), cs[i]? = some l → ∃ g u, A = some ⟨g, 0, none⟩ ∧ w.cell? ⟨g, i, none⟩ = some u ∧ w.ownsRow base 3 1 u l.length (litVals l)
theorem CsAt.in_ {w : World} {base : Nat} {A : Option Addr} {n c : Nat} {cs : List (List Int)} (h : CsAt w base (.slice A n c) cs) : CsIn w base A cs := fun _ _ hi => csat_at h hi
theorem CsIn.chg {w w' : World} {base : Nat} {A : Option Addr} {cs : List (List Int)} (h : CsIn w base A cs) (hb : Below w.heap.size w w') : CsIn w' base A cs := fun i l hi => by
  obtain ⟨g, u, h1, h2, h3⟩ := h i l hi
  exact ⟨g, u, h1, (hb.cell (p := ⟨g, i, none⟩) (World.block_lt_of_cell? _ _ h2)).trans h2, own_chg (S := fun _ _ => False) h3 (Chg.of_new hb) (fun _ _ _ _ hs => hs)⟩
theorem ready_new {w W : World} {p bm gv gu V : Nat} (hb : Below w.heap.size w W) (hp : Blk W p 56 #[.slice none 0 0, .map (some bm), .slice (some ⟨gv, 0, none⟩) (V + 1) (V + 1), .slice none 0 0, .slice (some ⟨gu, 0, none⟩) (V + 1) (V + 1), .int .i64 0, .int .i64 (-1)])
    (hm : W.heap[bm]? = some (.map #[] 0)) (hv : Blk W gv 73 (i8Vals (List.replicate (V + 1) 0)).toArray) (hu : Blk W gu 3 (litVals (List.replicate (V + 1) 0)).toArray)
    (h : w.heap.size ≤ p ∧ w.heap.size ≤ bm ∧ w.heap.size ≤ gv ∧ w.heap.size ≤ gu ∧ bm ≠ p ∧ gv ≠ p ∧ gu ≠ p ∧ gv ≠ bm ∧ gu ≠ bm ∧ gu ≠ gv) : Ready w p V [] W := by
  obtain ⟨h1, h2, h3, h4, h5, h6, h7, h8, h9, h10⟩ := h
  refine ⟨_, _, _, _, _, _, fun g hg => ?_, hb, chk_new hp hm hv hu h5 h6 h7 h8 h9 h10, cki_new V⟩
  unfold newTag
  rw [if_neg (by omega), if_neg (by omega), if_neg (by omega), if_neg (by omega)]
theorem alloc4 (w : World) (o1 o2 o3 o4 : Obj) : let W := ((((w.alloc o1).alloc o2).alloc o3).alloc o4).drew
    W.heap[w.heap.size]? = some o1 ∧ W.heap[w.heap.size + 1]? = some o2 ∧ W.heap[w.heap.size + 1 + 1]? = some o3 ∧ W.heap[w.heap.size + 1 + 1 + 1]? = some o4 ∧ Below w.heap.size w W := by
  refine ⟨?_, ?_, ?_, ?_, ?_⟩
  · exact (Below.heap_alloc _ o4 _ (by simp <;> omega)).trans ((Below.heap_alloc _ o3 _ (by simp <;> omega)).trans ((Below.heap_alloc _ o2 _ (by simp)).trans (heap_alloc_new w o1)))
  · have e : w.heap.size + 1 = (w.alloc o1).heap.size := by simp
    rw [e]
    exact (Below.heap_alloc _ o4 _ (by simp <;> omega)).trans ((Below.heap_alloc _ o3 _ (by simp)).trans (heap_alloc_new (w.alloc o1) o2))
  · have e : w.heap.size + 1 + 1 = ((w.alloc o1).alloc o2).heap.size := by simp
    rw [e]
    exact (Below.heap_alloc _ o4 _ (by simp)).trans (heap_alloc_new ((w.alloc o1).alloc o2) o3)
  · have e : w.heap.size + 1 + 1 + 1 = (((w.alloc o1).alloc o2).alloc o3).heap.size := by simp
    rw [e]
    exact heap_alloc_new (((w.alloc o1).alloc o2).alloc o3) o4
  · exact below_drewN (((((Below.refl _ _).alloc (Nat.le_refl _) _).alloc (by simp) _).alloc (by simp <;> omega) _).alloc (by simp <;> omega) _) 1
/-- the loop over the formula's clauses -/
def SgA (w : World) (p V : Nat) (cs : List (List Int)) (iv : Value) (wr : World) : Prop := ∃ k : Nat, k ≤ cs.length ∧ iv = .int .i64 (k : Nat) ∧ Ready w p V (cs.take k) wr
theorem keep_ready {w1 wr w3 : World} {tag tag3 : Nat → Tag} (htag : ∀ g, g < w1.heap.size → tag g = (0, 0)) (hb : Below w1.heap.size w1 wr) (hr : Re wr tag tag3) (hc : Cg tag (Fr 9) wr w3) : (∀ g, g < w1.heap.size → tag3 g = (0, 0)) ∧ Below w1.heap.size w1 w3 :=
  ⟨fun g hg => (hr g (by have := hb.size; omega)).trans (htag g hg), hb.trans (hc.below_ (fun g hg h9 => by rw [htag g hg] at h9; exact absurd h9.1 (by decide)) hb.size)⟩
/-- the loop over the proof's clauses -/
def SgB (w : World) (p V : Nat) (cs pf : List (List Int)) (iv ev : Value) (wr : World) : Prop := ∃ (i : Nat) (en : Int), i ≤ pf.length ∧ iv = .int .i64 (i : Nat) ∧ ev = .int .i64 en ∧ Ready w p V (cs ++ pf.take i) wr ∧
  pfR (V : Int) cs 0 false pf = pfR (V : Int) (cs ++ pf.take i) i (decide (0 ≤ en)) (pf.drop i) ∧ ((en = -1 ∧ ∀ c ∈ pf.take i, c ≠ []) ∨ ∃ q : Nat, en = (q : Int) ∧ q < i ∧ FirstE pf q)
set_option maxRecDepth 100000 in
set_option maxHeartbeats 4000000 in
theorem steps_any {w : World} {ea : Nat → Addr} {v : Int} {A A2 : Option Addr} {n c n2 c2 base base2 : Nat} {cs pf : List (List Int)} (hes : Sen w ea) (hcs : CsAt w base (.slice A n c) cs) (hn : cs.length = n) (hpf : CsIn w base2 A2 pf) (hn2 : pf.length = n2) (hp4 : n2 ≤ 400000)
    (hls : ∀ x ∈ cs, x.length ≤ 100000) (hls2 : ∀ x ∈ pf, x.length ≤ 100000) :
    Calls Tryd.prog 13 #[.agg #[.int .i64 v, .slice A n c], .slice A2 n2 c2] w (SgP w ea v cs pf) := by
  obtain ⟨W0, hW0⟩ : ∃ W0, W0 = w.alloc (.cells #[.int .i64 v, .slice A n c] 32) := ⟨_, rfl⟩
  have hb0 : Below w.heap.size w W0 := by rw [hW0]; exact (Below.refl _ _).alloc (Nat.le_refl _) _
  have k0 : Blk W0 w.heap.size 32 #[.int .i64 v, .slice A n c] := by rw [hW0]; exact Blk.new w _ _
  have hcs0 := hcs.chg hb0
  have CC := Lib.hid (checkc_any (v := v) (c := c) hn (hes.below hb0) (fun x hx => by have := hls x hx; omega) (clsr_all hcs0) (Nat.le_refl _))
  have c00 := k0.cell 0
  have c01 := k0.cell 1
  have HW0 := Lib.hid hW0
  have HB0 := Lib.hid hb0
  have K0 := Lib.hid k0
  have HES := Lib.hid hes
  have HCS := Lib.hid hcs0
  have HPF := Lib.hid hpf
  have HN := Lib.hid hn
  have HN2 := Lib.hid hn2
  have HLS := Lib.hid hls
  have HLS2 := Lib.hid hls2
  clear hW0 hb0 k0 hes hcs hcs0 hn hpf hn2 hls hls2
  go_enter Tryd.func13, Tryd.ntmps13
  go_upto_region 1 with fail
  rw [← HW0.out]
  go_wp2_with fail
  refine CC.out.mono ?_
  rintro e w1 ⟨ev, cd, pl, rfl, hb1, hfi, hev⟩
  have HFI := Lib.hid hfi
  have HEV := Lib.hid hev
  have HB1 := Lib.hid (HB0.out.trans (hb1.mono HB0.out.size))
  have HB01 := Lib.hid hb1
  have K1 := Lib.hid (K0.out.below hb1 K0.out.lt)
  clear hb1 c00 c01
  rcases hev.nil_iff with ⟨hc0, he0⟩ | ⟨hc0, t, a, he0⟩
  · subst hc0
    subst he0
    clear hfi hev
    obtain ⟨_, hpl, hok⟩ := faultIs_ok HFI.out (by omega)
    subst hpl
    obtain ⟨V, hV⟩ : ∃ V : Nat, v = (V : Int) := by
      unfold okF at hok
      simp only [Bool.and_eq_true, decide_eq_true_eq] at hok
      exact ⟨v.toNat, by omega⟩
    subst hV
    have hV5 : V ≤ 150000 ∧ n ≤ 500000 := by
      have := HN.out
      unfold okF at hok
      simp only [Bool.and_eq_true, decide_eq_true_eq] at hok
      omega
    have hal : ∀ x ∈ cs, okC (V : Int) x = true := by
      unfold okF at hok
      simp only [Bool.and_eq_true, List.all_eq_true] at hok
      exact fun x hx => hok.2 x hx
    have HAL := Lib.hid hal
    obtain ⟨hV1, hn5⟩ := hV5
    clear hok hal
    have hlt1 : w.heap.size < w1.heap.size := K1.out.lt
    have c10 := K1.out.cell 0
    have c11 := K1.out.cell 1
    have mk1 := make_i8 V (by omega)
    have mk2 := make_int V (by omega)
    have mk3 := make_map
    have hw1 : IntKind.i64.wrap ((V : Int) + 1) = (V : Int) + 1 := by rw [IntKind.wrap_i64]; omega
    go_upto_region 7 with fail
    go_cut [8] (fun cv wx => ∃ p, cv = .pointer (some ⟨p, 0, none⟩) ∧ Ready w1 p V [] wx)
    case first =>
      go_region
      all_goals go_wp2
      all_goals go_meet
      all_goals
        obtain ⟨a1, a2, a3, a4, ab⟩ := alloc4 w1 _ _ _ _
        first
          | exact ⟨_, rfl, ready_new ab a4 a1 a2 a3 (by omega)⟩
          | exact ⟨_, rfl, ready_new ab a4 a1 a3 a2 (by omega)⟩
          | exact ⟨_, rfl, ready_new ab a4 a2 a1 a3 (by omega)⟩
          | exact ⟨_, rfl, ready_new ab a4 a2 a3 a1 (by omega)⟩
          | exact ⟨_, rfl, ready_new ab a4 a3 a1 a2 (by omega)⟩
          | exact ⟨_, rfl, ready_new ab a4 a3 a2 a1 (by omega)⟩
    case rest =>
    obtain ⟨p, rfl, hrd⟩ := hcut
    have hbx := hrd
    obtain ⟨_, _, _, _, _, _, _, hb2, _, _⟩ := hbx
    have K2 := Lib.hid (K1.out.below hb2 K1.out.lt)
    have HCS1 := Lib.hid (HCS.out.chg HB01.out)
    have HPF1 := Lib.hid (HPF.out.chg HB1.out)
    have HRD := Lib.hid hrd
    have c20 := K2.out.cell 0
    have c21 := K2.out.cell 1
    clear hrd hb2 c10 c11 mk1 mk2 mk3 hw1 CC HCS HPF
    go_wp2_with fail
    go_loopw [39] (fun iv wr => SgA w1 p V cs iv wr) (fun iv _ => cs.length - (intOf iv).toNat)
    case atStart => exact ⟨0, Nat.zero_le _, rfl, HRD.out⟩
    case round =>
      obtain ⟨k, hk, rfl, hrd⟩ := hrel
      clear c20 c21 HRD
      rw [HN.out] at hk
      have HRD := Lib.hid hrd
      obtain ⟨tag, y, s, us, fx, dd, htag, hbw, hck, hci⟩ := hrd
      have HTAG := Lib.hid htag
      have HBW := Lib.hid hbw
      have HCK := Lib.hid hck
      have HCI := Lib.hid hci
      clear htag hbw hck hci
      by_cases hkn : k < n
      · as_aux_lemma =>
        obtain ⟨l, hl⟩ : ∃ l, cs[k]? = some l := ⟨_, List.getElem?_eq_getElem (by have := HN.out; omega)⟩
        obtain ⟨g, u, hA, hu, hrow⟩ := csat_at (HCS1.out.chg HBW.out) hl
        subst hA
        have CA := add_any (l := l) HCK.out HCI.out hV1 (by rw [List.length_take]; omega) (HLS.out l (List.mem_of_getElem? hl)) (okC_lit (HAL.out l (List.mem_of_getElem? hl))) (rdO_own hrow)
        have CA := Lib.hid CA
        have HL := Lib.hid hl
        have hkI : (k : Int) < (n : Int) := by omega
        clear hl hrow
        go_wp2_with fail
        refine CA.out.mono ?_
        rintro e w3 ⟨rfl, tag3, y3, s3, us3, fx3, dd3, hr3, hc3, hk3, hi3⟩
        have HNX := Lib.hid (show SgA w1 p V cs (.int .i64 ((k + 1 : Nat) : Int)) w3 from ⟨k + 1, by have := HN.out; omega, rfl, tag3, y3, s3, us3, fx3, dd3, fun g' hg' => (hr3 g' (by have := HBW.out.size; omega)).trans (HTAG.out g' hg'), HBW.out.trans (hc3.below_ (fun g' hg' h9 => by rw [HTAG.out g' hg'] at h9; exact absurd h9.1 (by decide)) HBW.out.size), hk3, by rw [take_at HL.out]; exact hi3⟩)
        clear hr3 hc3 hk3 hi3
        go_wp2_with fail
        go_roundw
        case rel => exact HNX.out
        case measure => have := HN.out; simp [intOf]; omega
      · as_aux_lemma =>
        obtain rfl : k = n := by omega
        have hrd0 := HRD.out
        rw [List.take_of_length_le (by rw [HN.out]; exact Nat.le_refl _)] at hrd0
        have HST := Lib.hid (show SgB w1 p V cs pf (.int .i64 ((0 : Nat) : Int)) (.int .i64 (-1)) wr from ⟨0, -1, Nat.zero_le _, rfl, rfl, by rw [List.take_zero, List.append_nil]; exact hrd0, by rw [List.take_zero, List.append_nil, List.drop_zero]; rfl, .inl ⟨rfl, fun c hc => by simp at hc⟩⟩)
        clear hrd0 HRD HTAG HBW HCK HCI hkn
        go_wp2_with fail
        go_loopw [49, 11] (fun iv ev wr => SgB w1 p V cs pf iv ev wr) (fun iv _ _ => pf.length - (intOf iv).toNat)
        case atStart => exact HST.out
        case round =>
          obtain ⟨i, en, hi, rfl, rfl, hrd, hpr, hen⟩ := hrel
          clear HST
          rw [HN2.out] at hi
          obtain ⟨tag, y, s, us, fx, dd, htag, hbw, hck, hci⟩ := hrd
          have HTAG := Lib.hid htag
          have HBW := Lib.hid hbw
          have HCK := Lib.hid hck
          have HCI := Lib.hid hci
          have HPR := Lib.hid hpr
          have HEN := Lib.hid hen
          have hen1 : -1 ≤ en := by rcases hen with ⟨h, _⟩ | ⟨q, h, _⟩ <;> omega
          clear htag hbw hck hci hpr hen
          by_cases hin : i < n2
          · obtain ⟨l, hl⟩ : ∃ l, pf[i]? = some l := ⟨_, List.getElem?_eq_getElem (by have := HN2.out; omega)⟩
            obtain ⟨g, u, hA, hu, hrow0⟩ := HPF1.out i l hl
            subst hA
            have hu2 : wr.cell? ⟨g, i, none⟩ = some u := (HBW.out.cell (p := ⟨g, i, none⟩) (World.block_lt_of_cell? _ _ hu)).trans hu
            obtain ⟨m, hm⟩ : ∃ m, l.length = m := ⟨_, rfl⟩
            have hm5 : m ≤ 100000 := by rw [← hm]; exact HLS2.out l (List.mem_of_getElem? hl)
            rw [hm] at hrow0
            have hrow : wr.ownsRow base2 3 1 u m (litVals l) := own_chg (S := fun _ _ => False) hrow0 (Chg.of_new HBW.out) (fun _ _ _ _ hs => hs)
            obtain ⟨A3, c3, hu3⟩ := own_form hrow0
            subst hu3
            have CR := Lib.hid (cright_any (v := (V : Int)) (c := c3) hm (by omega) (by omega) (Reads.of_own hrow) (Nat.le_refl _))
            have kf := (K1.out.below HBW.out K1.out.lt).cell 0
            have iI : (i : Int) < (n2 : Int) := by omega
            obtain ⟨bb, hbb⟩ : ∃ bb, okC (V : Int) l = bb := ⟨_, rfl⟩
            rw [hbb] at CR
            have HBB := Lib.hid hbb
            have HL := Lib.hid hl
            have HM := Lib.hid hm
            have HR0 := Lib.hid hrow0
            clear hl hu hrow hrow0 hm hbb
            go_wp2_with fail
            refine CR.out.mono ?_
            rintro e w2 ⟨rfl, hb2⟩
            have HB2 := Lib.hid (HBW.out.trans (hb2.mono HBW.out.size))
            have HCK2 := Lib.hid (HCK.out.new hb2)
            have HCG2 := Lib.hid (show Cg tag (Fr 9) wr w2 from cg_new hb2)
            clear hb2 kf
            have hpr := HPR.out
            rw [drop_at HL.out] at hpr
            cases bb with
            | false =>
              as_aux_lemma =>
              have hes2 := HES.out.below (HB1.out.trans (HB2.out.mono HB1.out.size))
              have ce := hes2.c3
              have HE := Lib.hid (show pfR (V : Int) cs 0 false pf = (3, (i : Int)) by rw [hpr]; unfold pfR; rw [if_neg (by rw [HBB.out]; simp)])
              clear hpr hes2
              go_wp2_with fail
              go_region
              all_goals
                go_wp2
                exact bodyPost_ret (v := .tuple #[.pointer none, .int .i64 0, .iface 58 (.pointer (some ⟨w2.heap.size, 0, none⟩))]) (by simp [results, Tryd.results13, go_sem]) rfl
                  ⟨_, 0, _, 3, (i : Int), rfl, (HB1.out.trans (HB2.out.mono HB1.out.size)).trans (below_drewN ((Below.refl _ _).alloc (HB1.out.trans (HB2.out.mono HB1.out.size)).size _) 1), .inr ⟨HFI.out, HE.out.symm⟩, .inr (.inr (.inr ⟨.inl rfl, w2.heap.size, rfl, ((Blk.new w2 _ _).drew).cell 0, ((Blk.new w2 _ _).drew).cell 1⟩)), fun h => by omega⟩
            | true =>
              have hlit := okC_lit HBB.out
              have hLL : (cs ++ pf.take i).length ≤ 900000 := by rw [List.length_append, List.length_take]; have := HN.out; omega
              have HR2 := Lib.hid (show w2.ownsRow base2 3 1 (.slice A3 m c3) m (litVals l) from own_chg (S := fun _ _ => False) HR0.out (Chg.of_new HB2.out) (fun _ _ _ _ hs => hs))
              have CF := follows_any (l := l) (c := c3) HCK2.out HCI.out hV1 hLL HM.out hm5 hlit (by
                by_cases h0 : m = 0
                · exact .inl h0
                · obtain ⟨b, cb, hvb, _, hlt⟩ := HR0.out.form (by omega)
                  have hAb : A3 = some ⟨b, 0, none⟩ := by simp only [Value.slice.injEq] at hvb; exact hvb.1
                  refine .inr ⟨b, hAb, HTAG.out b hlt, fun j x hx => ?_⟩
                  rcases rdO_own HR2.out with ⟨e0, _⟩ | ⟨b', c', e0, h1⟩
                  · rw [hAb] at e0; injection e0 with e0; cases e0
                  · rw [hAb] at e0; injection e0 with e0; injection e0 with e0; injection e0 with e0
                    rw [e0]; exact h1 j x hx)
              have CF := Lib.hid CF
              have HLIT := Lib.hid hlit
              clear hlit
              go_wp2_with fail
              refine CF.out.mono ?_
              rintro e w3 ⟨by_, ok, rfl, hok, tag3, y3, s3, us3, fx3, dd3, hr3, hc3, hk3, hi3⟩
              obtain ⟨ht3, hb3⟩ := keep_ready HTAG.out HB2.out hr3 hc3
              have HT3 := Lib.hid ht3
              have HB3 := Lib.hid hb3
              have HK3 := Lib.hid hk3
              have HI3 := Lib.hid hi3
              have HOK := Lib.hid hok
              clear ht3 hb3 hr3 hc3 hk3 hi3 hok
              cases ok with
              | false =>
                as_aux_lemma =>
                have hes2 := HES.out.below (HB1.out.trans (HB3.out.mono HB1.out.size))
                have ce := hes2.c8
                have HE := Lib.hid (show pfR (V : Int) cs 0 false pf = (8, (i : Int)) by rw [hpr]; unfold pfR; rw [if_pos HBB.out, if_neg (fun h => by have := HOK.out.2 h; cases this)])
                clear hpr hes2
                go_wp2_with fail
                go_region
                all_goals
                  go_wp2
                  exact bodyPost_ret (v := .tuple #[.pointer none, .int .i64 0, .iface 58 (.pointer (some ⟨w3.heap.size, 0, none⟩))]) (by simp [results, Tryd.results13, go_sem]) rfl
                    ⟨_, 0, _, 8, (i : Int), rfl, (HB1.out.trans (HB3.out.mono HB1.out.size)).trans (below_drewN ((Below.refl _ _).alloc (HB1.out.trans (HB3.out.mono HB1.out.size)).size _) 1), .inr ⟨HFI.out, HE.out.symm⟩, .inr (.inr (.inr ⟨.inr rfl, w3.heap.size, rfl, ((Blk.new w3 _ _).drew).cell 0, ((Blk.new w3 _ _).drew).cell 1⟩)), fun h => by omega⟩
              | true =>
                as_aux_lemma =>
                have HR3 := Lib.hid (show w3.ownsRow base2 3 1 (.slice A3 m c3) m (litVals l) from own_chg (S := fun _ _ => False) HR0.out (Chg.of_new HB3.out) (fun _ _ _ _ hs => hs))
                have CA := Lib.hid (add_any (l := l) HK3.out HI3.out hV1 hLL (by rw [HM.out]; exact hm5) HLIT.out (rdO_own HR3.out))
                obtain ⟨en2, hen2⟩ : ∃ en2 : Int, (if m = 0 ∧ en < 0 then (i : Int) else en) = en2 := ⟨_, rfl⟩
                have HNX := Lib.hid (fun (w4 : World) (h4 : AdP w3 tag3 p V (cs ++ pf.take i) l (.returned (.tuple #[])) w4) => show SgB w1 p V cs pf (.int .i64 ((i + 1 : Nat) : Int)) (.int .i64 en2) w4 from by
                  obtain ⟨_, tag4, y4, s4, us4, fx4, dd4, hr4, hc4, hk4, hi4⟩ := h4
                  obtain ⟨ht4, hb4⟩ := keep_ready HT3.out HB3.out hr4 hc4
                  have et : cs ++ pf.take (i + 1) = (cs ++ pf.take i) ++ [l] := by rw [take_at HL.out, List.append_assoc]
                  have hfst : en2 = en ∨ (en2 = (i : Int) ∧ m = 0 ∧ en < 0) := by
                    rw [← hen2]; split
                    · rename_i h; exact .inr ⟨rfl, h⟩
                    · exact .inl rfl
                  refine ⟨i + 1, en2, by have := HN2.out; omega, rfl, rfl, ⟨tag4, y4, s4, us4, fx4, dd4, ht4, hb4, hk4, by rw [et]; exact hi4⟩, ?_, ?_⟩
                  · rw [hpr, et]
                    conv => lhs; unfold pfR
                    rw [if_pos HBB.out, if_pos (HOK.out.1 rfl)]
                    congr 1
                    have hle : l.isEmpty = decide (m = 0) := by
                      rw [← HM.out]; cases l <;> simp
                    rw [hle, ← hen2]
                    by_cases h0 : m = 0
                    · by_cases h1 : en < 0
                      · rw [if_pos ⟨h0, h1⟩, decide_eq_true h0, decide_eq_true (by omega : (0 : Int) ≤ (i : Int)), Bool.or_true]
                      · rw [if_neg (fun h => h1 h.2), decide_eq_true h0, decide_eq_true (by omega : 0 ≤ en), Bool.or_true]
                    · rw [if_neg (fun h => h0 h.1), decide_eq_false h0, Bool.or_false]
                  · rcases HEN.out with ⟨e1, hno⟩ | ⟨q, e1, hq, hfe⟩
                    · by_cases h0 : m = 0
                      · have : en2 = (i : Int) := by rw [← hen2, if_pos ⟨h0, by omega⟩]
                        have hl0 : l = [] := List.eq_nil_of_length_eq_zero (by rw [HM.out]; exact h0)
                        refine .inr ⟨i, this, by omega, ?_, hno⟩
                        rw [HL.out, hl0]
                      · refine .inl ⟨by rw [← hen2, if_neg (fun h => h0 h.1)]; exact e1, fun c hc => ?_⟩
                        rw [take_at HL.out] at hc
                        rcases List.mem_append.1 hc with hc | hc
                        · exact hno c hc
                        · obtain rfl : c = l := by simpa using hc
                          intro e; subst e; exact h0 HM.out.symm
                    · exact .inr ⟨q, by rw [← hen2, if_neg (fun h => by omega)]; exact e1, by omega, hfe⟩)
                have HEN2 := Lib.hid hen2
                clear hpr hen2
                by_cases h0 : m = 0
                · by_cases h1 : en < 0
                  · have he2 : en2 = (i : Int) := by rw [← HEN2.out, if_pos ⟨h0, h1⟩]
                    subst he2
                    subst h0
                    go_wp2_with fail
                    refine CA.out.mono ?_
                    rintro e w4 h4
                    have he4 := h4.1
                    subst he4
                    have HF := Lib.hid (HNX.out w4 h4)
                    clear h4
                    go_wp2_with fail
                    go_roundw
                    case rel => exact HF.out
                    case measure => have := HN2.out; simp [intOf]; omega
                  · have he2 : en2 = en := by rw [← HEN2.out, if_neg (fun h => h1 h.2)]
                    subst he2
                    subst h0
                    have hd : decide (en2 < 0) = false := decide_eq_false h1
                    go_wp2_with fail
                    refine CA.out.mono ?_
                    rintro e w4 h4
                    have he4 := h4.1
                    subst he4
                    have HF := Lib.hid (HNX.out w4 h4)
                    clear h4
                    go_wp2_with fail
                    go_roundw
                    case rel => exact HF.out
                    case measure => have := HN2.out; simp [intOf]; omega
                · have he2 : en2 = en := by rw [← HEN2.out, if_neg (fun h => h0 h.1)]
                  subst he2
                  have hm0 : ((m : Int) == 0) = false := by simp; omega
                  go_wp2_with fail
                  refine CA.out.mono ?_
                  rintro e w4 h4
                  have he4 := h4.1
                  subst he4
                  have HF := Lib.hid (HNX.out w4 h4)
                  clear h4
                  go_wp2_with fail
                  go_roundw
                  case rel => exact HF.out
                  case measure => have := HN2.out; simp [intOf]; omega
          · as_aux_lemma =>
            obtain rfl : i = n2 := by omega
            have hpr := HPR.out
            rw [List.drop_eq_nil_of_le (by rw [HN2.out]; exact Nat.le_refl _)] at hpr
            have HBW2 := Lib.hid (HB1.out.trans (HBW.out.mono HB1.out.size))
            have hes2 := HES.out.below HBW2.out
            have ce := hes2.c8
            by_cases he : en = -1
            · have HE := Lib.hid (fun j => show SgP w ea (V : Int) cs pf (.returned (.tuple #[.pointer none, .int .i64 0, erV ea 8])) (wr.drewN j) from
                ⟨_, 0, _, 8, -1, rfl, below_drewN HBW2.out j, .inr ⟨HFI.out, by rw [hpr, he]; rfl⟩, .inr (.inr (.inl ⟨rfl, rfl, rfl⟩)), fun h => by omega⟩)
              subst he
              clear hpr hes2
              go_wp2_with fail
              go_quiet (fail)
              all_goals
                go_wp2_with fail
                exact bodyPost_ret (v := .tuple #[.pointer none, .int .i64 0, erV ea 8]) (by simp [results, Tryd.results13, go_sem, erV]) rfl (HE.out _)
            · have hq : ∃ q : Nat, en = (q : Int) ∧ FirstE pf q := by
                rcases HEN.out with ⟨h, _⟩ | ⟨q, h, _, h2⟩
                · exact absurd h he
                · exact ⟨q, h, h2⟩
              have HQ := Lib.hid hq
              have he0 : 0 ≤ en := by omega
              have HE := Lib.hid (show SgP w ea (V : Int) cs pf (.returned (.tuple #[.pointer (some ⟨p, 0, none⟩), .int .i64 en, .nilIface])) wr from
                ⟨_, en, _, 0, -1, rfl, HBW2.out, .inr ⟨HFI.out, by rw [hpr, decide_eq_true he0]; rfl⟩, .inl ⟨rfl, rfl⟩, fun _ => hq⟩)
              have he1 : decide (en < 0) = false := decide_eq_false (by omega)
              clear hpr hes2 ce hq he he0
              go_wp2_with fail
              exact bodyPost_ret (v := .tuple #[.pointer (some ⟨p, 0, none⟩), .int .i64 en, .nilIface]) (by simp [results, Tryd.results13, go_sem]) rfl HE.out
  · have HE := Lib.hid (show SgP w ea v cs pf (.returned (.tuple #[.pointer none, .int .i64 (0 : Nat), ev])) w1 from ⟨_, _, _, cd, pl, rfl, HB1.out, .inl ⟨by omega, HFI.out⟩, HEV.out, fun h => by omega⟩)
    subst he0
    clear hfi hev
    go_wp2_with fail
    exact bodyPost_ret (v := .tuple #[.pointer none, .int .i64 0, .iface t (.pointer (some a))]) (by simp [results, Tryd.results13, go_sem]) rfl HE.out
end Go.Proofs.YtgchepkcjkhmmaaDoor
