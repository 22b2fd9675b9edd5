/-
  WALK of the document's ProofFault.
-/
import Derived.Test.YtgchepkcjkhmmaaGreatDoorZe
import Derived.Test.YtgchepkcjkhmmaaGreatDoorTc
import Derived.Test.YtgchepkcjkhmmaaGreatDoorZc
import Derived.Test.YtgchepkcjkhmmaaGreatDoorTa
import Derived.Test.YtgchepkcjkhmmaaGreatDoorHs
namespace Go.Proofs.YtgchepkcjkhmmaaGreatDoor
open Go.RowKit
/-! ### ProofFault -/
def PfP (w : World) (v : Int) (cs pf : List (List Int)) (e : Ending) (w' : World) : Prop := ∃ c at_, e = .returned (.agg #[.int .i64 c, .int .i64 at_]) ∧ Below w.heap.size w w' ∧ PfIs v cs pf c at_
/-- slices that read as clauses -/
def RowsR (w : World) (rows : List Value) (L : List (List Int)) : Prop := ∀ (i : Nat) (l : List Int), L[i]? = some l → ∃ A c, rows[i]? = some (.slice A l.length c) ∧ Reads w w.heap.size 1 A l.length (litVals l)
theorem rows_of_clsr {w : World} {B : Nat} {A : Option Addr} {L : List (List Int)} (h : ClsR w B A L) (hB : B ≤ w.heap.size) : ∃ rows : List Value, rows.length = L.length ∧ Reads w B 1 A L.length rows ∧ RowsR w rows L ∧ ∀ u ∈ rows, u.oneCell' = true := by
  by_cases h0 : 0 < L.length
  · obtain ⟨ad, hA, hb, hc⟩ := h h0
    refine ⟨(List.range L.length).map (fun i => (w.cell? (ad.add i)).getD undef), by simp, ⟨by simp, fun _ => ⟨ad, hA, hb, fun j u hu => ?_⟩⟩, fun i l hl => ?_, fun u hu => ?_⟩
    · rw [List.getElem?_map] at hu
      cases hj : (List.range L.length)[j]? with
      | none => rw [hj] at hu; cases hu
      | some j' =>
        obtain ⟨h1, h2⟩ := List.getElem?_eq_some_iff.1 hj
        rw [List.getElem_range] at h2
        subst h2
        have h1 : j < L.length := by simpa using h1
        obtain ⟨A', c', h3, _⟩ := hc j _ (List.getElem?_eq_getElem h1)
        rw [hj, Option.map_some] at hu
        rw [h3] at hu ⊢
        exact hu
    · obtain ⟨A', c', h3, h4⟩ := hc i l hl
      refine ⟨A', c', ?_, h4.more hB⟩
      rw [List.getElem?_map, List.getElem?_range (List.getElem?_eq_some_iff.1 hl).1, Option.map_some, h3]; rfl
    · obtain ⟨j, hj, e⟩ := List.mem_map.1 hu
      have hj := List.mem_range.1 hj
      obtain ⟨A', c', h3, _⟩ := hc j _ (List.getElem?_eq_getElem hj)
      rw [h3] at e
      rw [← e]; rfl
  · have : L = [] := List.eq_nil_of_length_eq_zero (by omega)
    subst this
    exact ⟨[], rfl, ⟨rfl, fun h => absurd h (by simp)⟩, fun i l hl => by simp at hl, fun u hu => by cases hu⟩
theorem clsr_rows {w wr : World} {Al : Option Addr} {n cl : Nat} {rows : List Value} {L : List (List Int)} (h : wr.ownsRow w.heap.size 28 1 (.slice Al n cl) n rows) (hr : RowsR w rows L) (hb : Below w.heap.size w wr) : ClsR wr wr.heap.size Al L := fun h0 => by
  obtain ⟨A0, c0, hx, _⟩ := hr 0 _ (List.getElem?_eq_getElem h0)
  have hn : 0 < n := by have := h.1; have := (List.getElem?_eq_some_iff.1 hx).1; omega
  obtain ⟨g, cap, hv, _, hlt⟩ := h.form hn
  have hA : Al = some ⟨g, 0, none⟩ := by simp only [Value.slice.injEq] at hv; exact hv.1
  subst hA
  refine ⟨_, rfl, hlt, fun i l hl => ?_⟩
  obtain ⟨A, c, h1, h2⟩ := hr i l hl
  exact ⟨A, c, h.cells (g := g) rfl i _ h1, (h2.below hb).more hb.size⟩
def PfL (w : World) (v : Int) (A : Option Addr) (n c : Nat) (cs pf : List (List Int)) (iv lv fv : Value) (wr : World) : Prop :=
  ∃ (i : Nat) (rows : List Value) (Al : Option Addr) (cl : Nat) (fin : Bool), i ≤ pf.length ∧ iv = .int .i64 (i : Nat) ∧ lv = .slice Al (cs.length + i) cl ∧ fv = .bool fin ∧ Below w.heap.size w wr ∧ Blk wr w.heap.size 24 #[.int .i64 v, .slice A n c] ∧ Blk wr (w.heap.size + 1) 37 #[.int .i64 0, .int .i64 0] ∧
    wr.ownsRow w.heap.size 28 1 lv (cs.length + i) rows ∧ RowsR w rows (cs ++ pf.take i) ∧ (∀ x ∈ pf.take i, okC v x = true) ∧ pfR v cs 0 false pf = pfR v (cs ++ pf.take i) i fin (pf.drop i)
attribute [local irreducible] wpSeq
set_option maxRecDepth 100000 in
set_option maxHeartbeats 4000000 in
theorem proofFault_any {w : World} {v : Int} {B B2 : Nat} {A A2 : Option Addr} {n c n2 c2 : Nat} {cs pf : List (List Int)} (hr : ClsR w B A cs) (hn : cs.length = n) (hB : B ≤ w.heap.size) (hr2 : ClsR w B2 A2 pf) (hn2 : pf.length = n2) (hB2 : B2 ≤ w.heap.size) (hp4 : n2 ≤ 400000)
    (hls : cs.length ≤ 500000 → ∀ x ∈ cs, x.length ≤ 100000) (hls2 : ∀ x ∈ pf, x.length ≤ 100000) :
    Calls Tryz.prog 11 #[.agg #[.int .i64 v, .slice A n c], .slice A2 n2 c2] w (PfP w v cs pf) := by
  obtain ⟨W1, hW1⟩ : ∃ W1, W1 = (w.alloc (.cells #[.int .i64 v, .slice A n c] 24)).alloc (.cells #[.int .i64 0, .int .i64 0] 37) := ⟨_, rfl⟩
  have hb1 : Below w.heap.size w W1 := by rw [hW1]; exact bal0 (bal0 (Below.refl _ _) _) _
  have k1 : Blk W1 w.heap.size 24 #[.int .i64 v, .slice A n c] := by rw [hW1]; exact (Blk.new w _ _).alloc _
  have k2 : Blk W1 (w.heap.size + 1) 37 #[.int .i64 0, .int .i64 0] := by
    rw [hW1]
    have h := Blk.new (w.alloc (.cells #[.int .i64 v, .slice A n c] 24)) 37 #[.int .i64 0, .int .i64 0]
    simpa using h
  obtain ⟨ic, hic, hcz0, hcz1, hcz2⟩ := info_parts infoClause_
  have HIC := Lib.hid (And.intro hic (And.intro hcz0 (And.intro hcz1 hcz2)))
  clear hic hcz0 hcz1 hcz2
  have C1 := Lib.hid (checkOf_any (w := W1) (v := v) (c := c) hn (fun h5 x hx => by have := hls h5 x hx; omega) (hr.below (hb1.mono hB)) (Nat.le_trans hB hb1.size))
  have HW1 := Lib.hid hW1
  have HB1 := Lib.hid hb1
  have HK1 := Lib.hid k1
  have HK2 := Lib.hid k2
  have HR := Lib.hid (And.intro hr hB)
  have HR2 := Lib.hid (And.intro hr2 hB2)
  have HN := Lib.hid hn
  have HN2 := Lib.hid hn2
  have HLS := Lib.hid hls
  have HLS2 := Lib.hid hls2
  have c0 := k1.cell 0
  have c1 := k1.cell 1
  clear hW1 hb1 k1 k2 hr hB hr2 hB2 hn hn2 hls hls2
  go_enter Tryz.func11, Tryz.ntmps11
  go_upto_region 1 with fail
  rw [← HW1.out]
  go_wp2_with fail
  refine C1.out.mono ?_
  rintro e w2 ⟨cd, pl, rfl, hb2, hfi⟩
  clear c0 c1 C1
  have HFI := Lib.hid hfi
  obtain ⟨W3, hW3⟩ : ∃ W3, W3 = w2.alloc (.cells #[.int .i64 cd, .int .i64 pl] 37) := ⟨_, rfl⟩
  have kb3 : Blk W3 w2.heap.size 37 #[.int .i64 cd, .int .i64 pl] := by rw [hW3]; exact Blk.new w2 _ _
  have hb23 : Below w2.heap.size w2 W3 := by rw [hW3]; exact (Below.refl _ _).alloc (Nat.le_refl _) _
  have HB3 := Lib.hid ((HB1.out.trans (hb2.mono HB1.out.size)).trans (hb23.mono (Nat.le_trans HB1.out.size hb2.size)))
  have HK13 := Lib.hid ((HK1.out.below hb2 HK1.out.lt).below hb23 (HK1.out.below hb2 HK1.out.lt).lt)
  have HK23 := Lib.hid ((HK2.out.below hb2 HK2.out.lt).below hb23 (HK2.out.below hb2 HK2.out.lt).lt)
  have b0 := kb3.cell 0
  have b1 := kb3.cell 1
  have HW3 := Lib.hid hW3
  clear hW3 kb3 hb23 hb2 hfi
  go_upto_region 2 with fail
  rw [← HW3.out]
  by_cases hcd : 0 < cd
  · as_aux_lemma =>
    have y0 := (HK23.out).cell 0
    have y1 := (HK23.out).cell 1
    have f0 := (HK23.out).frozen 0
    have f1 := (HK23.out).frozen 1
    obtain ⟨W9, hW9⟩ : ∃ W9, W9 = (W3.setCell ⟨w.heap.size + 1, 0, none⟩ (.int .i64 cd)).setCell ⟨w.heap.size + 1, 1, none⟩ (.int .i64 pl) := ⟨_, rfl⟩
    have x9 : Blk W9 (w.heap.size + 1) 37 #[.int .i64 cd, .int .i64 pl] := by rw [hW9]; exact ((HK23.out).set_ 0 _).set_ 1 _
    have HB9 := Lib.hid (show Below w.heap.size w W9 by rw [hW9]; exact ((HB3.out).setCell (by show w.heap.size ≤ w.heap.size + 1; omega) _).setCell (by show w.heap.size ≤ w.heap.size + 1; omega) _)
    have x90 := x9.cell 0
    have x91 := x9.cell 1
    have HW9 := Lib.hid hW9
    clear hW9 x9
    go_wp2_with fail
    rw [← HW9.out]
    exact bodyPost_ret (v := .agg #[.int .i64 cd, .int .i64 pl]) (by simp [results, Tryz.results11, go_sem, x90, x91]) rfl ⟨_, _, rfl, HB9.out, .inl ⟨by omega, HFI.out⟩⟩
  · obtain ⟨hcd0, hpl0, hok⟩ := faultIs_ok HFI.out hcd
    subst hcd0 hpl0
    obtain ⟨V, hV⟩ : ∃ V : Nat, v = (V : Int) := by
      unfold okF at hok
      simp only [Bool.and_eq_true, decide_eq_true_eq] at hok
      exact ⟨v.toNat, by omega⟩
    subst hV
    have hV5 : V ≤ 150000 ∧ n ≤ 500000 := by
      have := HN.out
      unfold okF at hok
      simp only [Bool.and_eq_true, decide_eq_true_eq] at hok
      omega
    obtain ⟨hV1, hn5⟩ := hV5
    have hal : ∀ x ∈ cs, okC (V : Int) x = true := by
      unfold okF at hok
      simp only [Bool.and_eq_true, List.all_eq_true] at hok
      exact fun x hx => hok.2 x hx
    have HAL := Lib.hid hal
    have HLS := Lib.hid (HLS.out (by have := HN.out; omega))
    clear hok hal hcd
    have c30 := HK13.out.cell 0
    have c31 := HK13.out.cell 1
    obtain ⟨rows, hrl, hrr, hrc, hro⟩ := rows_of_clsr HR.out.1 HR.out.2
    rw [HN.out] at hrl hrr
    have HRR := Lib.hid (hrr.below (HB3.out.mono HR.out.2))
    have HRC := Lib.hid hrc
    have HRO := Lib.hid hro
    clear hrl hrr hrc hro
    go_wp2_with (first | (at_builtin; refine wpList_append_sl _ rfl (.tmp 21) (.tmp 23) _ rfl w.heap.size 28 ic _ 1 24 Tryz.underlying22 HIC.out.1 HIC.out.2.1 HIC.out.2.2.1 HIC.out.2.2.2 rfl (by omega) (.slice none 0 0) 0 [] rfl (World.ownsRow_nil _ _ _ _) B A n c rows rfl HRR.out HRO.out (le_maxLen (by omega)) (le_bytes (by omega) (by omega)) HB3.out.size ?_; rw [Nat.zero_add, List.nil_append]; intro A4 c4 w4 hown4 hg4; have hb4 : Below W3.heap.size W3 w4 := below_row0 hg4; have HB4 := Lib.hid (HB3.out.trans (hb4.mono HB3.out.size)); have HK14 := Lib.hid (HK13.out.below hb4 HK13.out.lt); have HK24 := Lib.hid (HK23.out.below hb4 HK23.out.lt); have HOW4 := Lib.hid hown4; clear hown4 hg4 hb4) | fail)
    have HST := Lib.hid (show PfL w (V : Int) A n c cs pf (.int .i64 ((0 : Nat) : Int)) (.slice A4 n c4) (.bool false) w4 from ⟨0, rows, A4, c4, false, Nat.zero_le _, rfl, by rw [HN.out, Nat.add_zero], rfl, HB4.out, HK14.out, HK24.out, by rw [HN.out, Nat.add_zero]; exact HOW4.out, by rw [List.take_zero, List.append_nil]; exact HRC.out, fun x hx => by simp at hx, by rw [List.take_zero, List.append_nil, List.drop_zero]⟩)
    clear c30 c31 b0 b1 HOW4 HB4 HK14 HK24 HRR HRC HRO
    go_loopw [8, 6, 7] (fun iv lv fv wr => PfL w (V : Int) A n c cs pf iv lv fv wr) (fun iv _ _ _ => pf.length - (intOf iv).toNat)
    case atStart => exact HST.out
    case round =>
      obtain ⟨i, rows, Al, cl, fin, hi, rfl, rfl, rfl, hb, hk1, hk2, hown, hrw, hoks, hpr⟩ := hrel
      clear HST
      rw [HN2.out] at hi
      rw [HN.out] at hown ⊢
      have HB := Lib.hid hb
      have HK1 := Lib.hid hk1
      have HK2 := Lib.hid hk2
      have HOWN := Lib.hid hown
      have HRW := Lib.hid hrw
      have HOKS := Lib.hid hoks
      have HPR := Lib.hid hpr
      clear hb hk1 hk2 hown hrw hoks hpr
      by_cases hin : i < n2
      · obtain ⟨x, hx⟩ : ∃ x, pf[i]? = some x := ⟨_, List.getElem?_eq_getElem (by have := HN2.out; omega)⟩
        obtain ⟨ad, hA, hadb, hc⟩ := HR2.out.1 (by have := HN2.out; omega)
        subst hA
        obtain ⟨Ax, cx, hcell0, hrx0⟩ := hc i x hx
        obtain ⟨m, hm⟩ : ∃ m, x.length = m := ⟨_, rfl⟩
        rw [hm] at hcell0 hrx0
        have hm6 : m ≤ 100000 := by rw [← hm]; exact HLS2.out x (List.mem_of_getElem? hx)
        have hadw : (ad.add i).block < w.heap.size := by rw [block_of_add]; exact Nat.lt_of_lt_of_le hadb HR2.out.2
        have hrxr : Reads wr B2 1 Ax m (litVals x) := hrx0.below (HB.out.mono HR2.out.2)
        have CR := Lib.hid (fun j => clauseRight_any (w := wr.drewN j) (c := cx) hm (by omega) (show (0 : Int) ≤ (V : Int) ∧ (V : Int) ≤ 150000 by omega) hrxr)
        have ce : wr.cell? (ad.add i) = some (.slice Ax m cx) := (HB.out.cell (p := ad.add i) hadw).trans hcell0
        have c0 := HK1.out.cell 0
        have iI : (i : Int) < (n2 : Int) := by omega
        have HX := Lib.hid hx
        have HM := Lib.hid hm
        have HRX := Lib.hid hrx0
        have HCE := Lib.hid (fun (w' : World) (h : Below w.heap.size w w') => show w'.cell? (ad.add i) = some (.slice Ax m cx) from (h.cell (p := ad.add i) hadw).trans hcell0)
        obtain ⟨bb, hbb⟩ : ∃ bb, okC (V : Int) x = bb := ⟨_, rfl⟩
        rw [hbb] at CR
        have HBB := Lib.hid hbb
        clear hc hcell0 hrx0 hx hm hbb hrxr
        go_wp2_with fail
        go_quiet ((go_at_call 19; with_reducible exact quiet_left (CR.out _)))
        rename_i nq
        have hpr := HPR.out
        rw [drop_at HX.out] at hpr
        cases bb with
        | false =>
          as_aux_lemma =>
          have HE := Lib.hid (show pfR (V : Int) cs 0 false pf = (3, (i : Int)) by rw [hpr]; unfold pfR; rw [if_neg (by rw [HBB.out]; simp)])
          have HKQ := Lib.hid (HK2.out.drewN nq)
          have HBQ := Lib.hid (below_drewN HB.out nq)
          clear hpr
          have y0 := (HKQ.out).cell 0
          have y1 := (HKQ.out).cell 1
          have f0 := (HKQ.out).frozen 0
          have f1 := (HKQ.out).frozen 1
          obtain ⟨W9, hW9⟩ : ∃ W9, W9 = ((wr.drewN nq).setCell ⟨w.heap.size + 1, 0, none⟩ (.int .i64 3)).setCell ⟨w.heap.size + 1, 1, none⟩ (.int .i64 (i : Int)) := ⟨_, rfl⟩
          have x9 : Blk W9 (w.heap.size + 1) 37 #[.int .i64 3, .int .i64 (i : Int)] := by rw [hW9]; exact ((HKQ.out).set_ 0 _).set_ 1 _
          have HB9 := Lib.hid (show Below w.heap.size w W9 by rw [hW9]; exact ((HBQ.out).setCell (by show w.heap.size ≤ w.heap.size + 1; omega) _).setCell (by show w.heap.size ≤ w.heap.size + 1; omega) _)
          have x90 := x9.cell 0
          have x91 := x9.cell 1
          have HW9 := Lib.hid hW9
          clear hW9 x9
          go_wp2_with fail
          rw [← HW9.out]
          exact bodyPost_ret (v := .agg #[.int .i64 3, .int .i64 (i : Int)]) (by simp [results, Tryz.results11, go_sem, x90, x91]) rfl ⟨_, _, rfl, HB9.out, .inr ⟨HFI.out, HE.out.symm⟩⟩
        | true =>
          obtain ⟨W4, hW4⟩ : ∃ W4, wr.drewN nq = W4 := ⟨_, rfl⟩
          have hbw4 : Below wr.heap.size wr W4 := by rw [← hW4]; exact below_drewN (Below.refl _ _) nq
          have HB4 := Lib.hid (HB.out.trans (hbw4.mono HB.out.size))
          have HK14 := Lib.hid (HK1.out.below hbw4 HK1.out.lt)
          have HK24 := Lib.hid (HK2.out.below hbw4 HK2.out.lt)
          have HOW4 := Lib.hid (show W4.ownsRow w.heap.size 28 1 (.slice Al (n + i) cl) (n + i) rows from own_chg (S := fun _ _ => False) HOWN.out (Chg.of_new hbw4) (fun _ _ _ _ hs => hs))
          rw [hW4]
          clear hW4 hbw4 CR c0 ce
          have c04 := HK14.out.cell 0
          have ce4 := HCE.out W4 HB4.out
          have hLL : (cs ++ pf.take i).length = n + i := by rw [List.length_append, List.length_take]; have := HN.out; have := HN2.out; omega
          have CB := Lib.hid (byUnits_any (w := W4.drew) (V := V) (cn := cl) (cm := cx) (L := cs ++ pf.take i) (c := x) (clsr_rows (World.ownsRow.drew HOW4.out) HRW.out (below_drewN HB4.out 1)) hLL (Nat.le_refl _) (HRX.out.below ((below_drewN HB4.out 1).mono HR2.out.2)) HM.out (Nat.le_trans HR2.out.2 HB4.out.size) (by omega) (by omega) (by omega)
            (fun y hy => by
              rcases List.mem_append.1 hy with hy | hy
              · exact okC_lit (HAL.out y hy)
              · exact okC_lit (HOKS.out y hy)) (okC_lit HBB.out) (fun y hy => by
              rcases List.mem_append.1 hy with hy | hy
              · have := HLS.out y hy; omega
              · have := HLS2.out y (List.mem_of_mem_take hy); omega))
          go_wp2_with fail
          refine wp_region_seq (S := fun w' => w'.cell? ⟨w.heap.size, 0, none⟩ = some (.int .i64 (V : Int)) ∧ w'.cell? (ad.add i) = some (.slice Ax m cx)) [(0, false), (1, false), (2, false), (3, false), (4, false), (5, false), (6, false), (7, true), (8, false)] (by kernel_rfl) (by kernel_rfl) (by kernel_rfl) (And.intro c04 ce4) ?_
          iterate 7 (refine seq_take _ _ rfl (by kernel_rfl) (fun wv hv => by obtain ⟨hv1, hv2⟩ := hv; go_simp; try with_reducible rfl) ?_; simp only [Act.put, List.getElem_toArray, List.getElem_cons_zero, List.getElem_cons_succ, List.setIfInBounds_toArray, List.set_cons_zero, List.set_cons_succ])
          refine seq_act _ rfl (fun K hK => ?_)
          go_simp
          refine CB.out.mono ?_
          rintro e w6 ⟨ok, rfl, hok, hb6⟩
          have hbw6 : Below W4.heap.size W4 w6 := (below_drewN (Below.refl _ _) 1).trans hb6
          have HB6 := Lib.hid (HB4.out.trans (hbw6.mono HB4.out.size))
          have HK16 := Lib.hid (HK14.out.below hbw6 HK14.out.lt)
          have HK26 := Lib.hid (HK24.out.below hbw6 HK24.out.lt)
          have HOW6 := Lib.hid (show w6.ownsRow w.heap.size 28 1 (.slice Al (n + i) cl) (n + i) rows from own_chg (S := fun _ _ => False) HOW4.out (Chg.of_new hbw6) (fun _ _ _ _ hs => hs))
          have HOK := Lib.hid hok
          have c06 := HK16.out.cell 0
          have ce6 := HCE.out w6 HB6.out
          clear hok hb6 hbw6 c04 ce4
          go_simp
          refine hK _ _ ((And.intro c06 ce6)) ?_
          clear hK K
          iterate 1 (refine seq_take _ _ rfl (by kernel_rfl) (fun wv hv => by go_simp; try with_reducible rfl) ?_; simp only [Act.put, List.getElem_toArray, List.getElem_cons_zero, List.getElem_cons_succ, List.setIfInBounds_toArray, List.set_cons_zero, List.set_cons_succ])
          refine seq_nil ?_
          cases ok with
          | false =>
            as_aux_lemma =>
            have HE := Lib.hid (show pfR (V : Int) cs 0 false pf = (8, (i : Int)) by rw [hpr]; unfold pfR; rw [if_pos HBB.out, if_neg (fun h => by have := HOK.out.2 h; cases this)])
            clear hpr
            have y0 := (HK26.out).cell 0
            have y1 := (HK26.out).cell 1
            have f0 := (HK26.out).frozen 0
            have f1 := (HK26.out).frozen 1
            obtain ⟨W9, hW9⟩ : ∃ W9, W9 = (w6.setCell ⟨w.heap.size + 1, 0, none⟩ (.int .i64 8)).setCell ⟨w.heap.size + 1, 1, none⟩ (.int .i64 (i : Int)) := ⟨_, rfl⟩
            have x9 : Blk W9 (w.heap.size + 1) 37 #[.int .i64 8, .int .i64 (i : Int)] := by rw [hW9]; exact ((HK26.out).set_ 0 _).set_ 1 _
            have HB9 := Lib.hid (show Below w.heap.size w W9 by rw [hW9]; exact ((HB6.out).setCell (by show w.heap.size ≤ w.heap.size + 1; omega) _).setCell (by show w.heap.size ≤ w.heap.size + 1; omega) _)
            have x90 := x9.cell 0
            have x91 := x9.cell 1
            have HW9 := Lib.hid hW9
            clear hW9 x9
            go_wp2_with fail
            rw [← HW9.out]
            exact bodyPost_ret (v := .agg #[.int .i64 8, .int .i64 (i : Int)]) (by simp [results, Tryz.results11, go_sem, x90, x91]) rfl ⟨_, _, rfl, HB9.out, .inr ⟨HFI.out, HE.out.symm⟩⟩
          | true =>
            as_aux_lemma =>
            have HNX := Lib.hid (fun (A8 : Option Addr) (c8 : Nat) (w8 : World) (hown8 : w8.ownsRow w.heap.size 28 1 (.slice A8 (n + i + 1) c8) (n + i + 1) (rows ++ [.slice Ax m cx])) (hg8 : (w6.alloc (.cells #[.slice Ax m cx] 28)).grownBy w8 (Value.slice Al (n + i) cl).ownBlock) =>
              show PfL w (V : Int) A n c cs pf (.int .i64 ((i + 1 : Nat) : Int)) (.slice A8 (n + i + 1) c8) (.bool (fin || decide (m = 0))) w8 from by
                have hn1 : (Value.slice Al (n + i) cl).ownBlock ≠ some w.heap.size := own_blk_ne HOW6.out HK16.out (by decide)
                have hn2 : (Value.slice Al (n + i) cl).ownBlock ≠ some (w.heap.size + 1) := own_blk_ne HOW6.out HK26.out (by decide)
                have hb8 : Below w.heap.size w w8 := own_grown_below0 HB6.out HOW6.out (Nat.le_refl _) hg8
                have et : cs ++ pf.take (i + 1) = (cs ++ pf.take i) ++ [x] := by rw [take_atP HX.out, List.append_assoc]
                refine ⟨i + 1, rows ++ [.slice Ax m cx], A8, c8, _, by have := HN2.out; omega, rfl, by rw [HN.out]; rfl, rfl, hb8, (HK16.out.alloc _).grown hg8 hn1.symm, (HK26.out.alloc _).grown hg8 hn2.symm, by rw [HN.out]; exact hown8, ?_, ?_, ?_⟩
                · intro j y hj
                  rw [et] at hj
                  have hrl : rows.length = n + i := by have := HOWN.out.1; omega
                  rcases Nat.lt_or_ge j (n + i) with h | h
                  · rw [List.getElem?_append_left (by rw [hLL]; exact h)] at hj
                    obtain ⟨A', c', h1, h2⟩ := HRW.out j y hj
                    exact ⟨A', c', by rw [List.getElem?_append_left (by omega)]; exact h1, h2⟩
                  · have hj2 := (List.getElem?_eq_some_iff.1 hj).1
                    rw [List.length_append, hLL, List.length_singleton] at hj2
                    have hje : j = n + i := by omega
                    subst hje
                    rw [List.getElem?_append_right (by rw [hLL]; exact Nat.le_refl _), hLL, Nat.sub_self] at hj
                    obtain rfl : x = y := by simpa using hj
                    exact ⟨Ax, cx, by rw [List.getElem?_append_right (by omega), hrl, Nat.sub_self, HM.out]; rfl, by rw [HM.out]; exact HRX.out.more HR2.out.2⟩
                · intro y hy
                  rw [take_atP HX.out] at hy
                  rcases List.mem_append.1 hy with hy | hy
                  · exact HOKS.out y hy
                  · obtain rfl : y = x := by simpa using hy
                    exact HBB.out
                · rw [hpr, et]
                  conv => lhs; unfold pfR
                  rw [if_pos HBB.out, if_pos (HOK.out.1 rfl)]
                  congr 1
                  have hle : x.isEmpty = decide (m = 0) := by
                    rw [← HM.out]; cases x <;> simp
                  rw [hle])
            clear hpr
            by_cases hm0 : m = 0
            · subst hm0
              have HNX := Lib.hid (fun A8 c8 w8 h1 h2 => show PfL w (V : Int) A n c cs pf (.int .i64 ((i + 1 : Nat) : Int)) (.slice A8 (n + i + 1) c8) (.bool true) w8 from by
                have := HNX.out A8 c8 w8 h1 h2
                rw [decide_eq_true rfl, Bool.or_true] at this; exact this)
              go_wp2_with (first | (at_builtin; refine wpList_append_sl _ rfl (.tmp 60) (.tmp 65) _ rfl w.heap.size 28 ic _ 1 24 Tryz.underlying22 HIC.out.1 HIC.out.2.1 HIC.out.2.2.1 HIC.out.2.2.2 rfl (by omega) (.slice Al (n + i) cl) (n + i) rows rfl (HOW6.out.alloc _) (w6.heap.size + 1) (some ⟨w6.heap.size, 0, none⟩) 1 1 [.slice Ax 0 cx] rfl (reads_new (by simp) (by simp) rfl) (fun u hu => by rw [List.mem_singleton.1 hu]; rfl) (le_maxLen (by omega)) (le_bytes (by omega) (by omega)) (Nat.le_trans HB6.out.size (by simp)) ?_; intro A8 c8 w8 hown8 hg8; have HN8 := Lib.hid (HNX.out A8 c8 w8 hown8 hg8); clear hown8 hg8) | fail)
              go_roundw
              case rel => exact HN8.out
              case measure => have := HN2.out; simp [intOf]; omega
            · have hmm : ((m : Int) == 0) = false := by simp; omega
              have HNX := Lib.hid (fun A8 c8 w8 h1 h2 => show PfL w (V : Int) A n c cs pf (.int .i64 ((i + 1 : Nat) : Int)) (.slice A8 (n + i + 1) c8) (.bool fin) w8 from by
                have := HNX.out A8 c8 w8 h1 h2
                rw [decide_eq_false hm0, Bool.or_false] at this; exact this)
              clear hm0
              go_wp2_with (first | (at_builtin; refine wpList_append_sl _ rfl (.tmp 60) (.tmp 65) _ rfl w.heap.size 28 ic _ 1 24 Tryz.underlying22 HIC.out.1 HIC.out.2.1 HIC.out.2.2.1 HIC.out.2.2.2 rfl (by omega) (.slice Al (n + i) cl) (n + i) rows rfl (HOW6.out.alloc _) (w6.heap.size + 1) (some ⟨w6.heap.size, 0, none⟩) 1 1 [.slice Ax m cx] rfl (reads_new (by simp) (by simp) rfl) (fun u hu => by rw [List.mem_singleton.1 hu]; rfl) (le_maxLen (by omega)) (le_bytes (by omega) (by omega)) (Nat.le_trans HB6.out.size (by simp)) ?_; intro A8 c8 w8 hown8 hg8; have HN8 := Lib.hid (HNX.out A8 c8 w8 hown8 hg8); clear hown8 hg8) | fail)
              go_roundw
              case rel => exact HN8.out
              case measure => have := HN2.out; simp [intOf]; omega
      · obtain rfl : i = n2 := by omega
        have hpr := HPR.out
        rw [List.drop_eq_nil_of_le (by rw [HN2.out]; exact Nat.le_refl _)] at hpr
        cases fin with
        | false =>
          as_aux_lemma =>
          have HE := Lib.hid (show pfR (V : Int) cs 0 false pf = (8, -1) by rw [hpr]; rfl)
          clear hpr
          go_wp2_with fail
          refine (bare_any _ _).mono ?_
          rintro e w8 ⟨rfl, hw8⟩
          have hb8 : Below wr.heap.size wr w8 := by rw [hw8]; exact (Below.refl _ _).alloc (Nat.le_refl _) _
          have HB8 := Lib.hid (HB.out.trans (hb8.mono HB.out.size))
          have HK28 := Lib.hid (HK2.out.below hb8 HK2.out.lt)
          clear hw8 hb8
          have y0 := (HK28.out).cell 0
          have y1 := (HK28.out).cell 1
          have f0 := (HK28.out).frozen 0
          have f1 := (HK28.out).frozen 1
          obtain ⟨W9, hW9⟩ : ∃ W9, W9 = (w8.setCell ⟨w.heap.size + 1, 0, none⟩ (.int .i64 8)).setCell ⟨w.heap.size + 1, 1, none⟩ (.int .i64 (-1)) := ⟨_, rfl⟩
          have x9 : Blk W9 (w.heap.size + 1) 37 #[.int .i64 8, .int .i64 (-1)] := by rw [hW9]; exact ((HK28.out).set_ 0 _).set_ 1 _
          have HB9 := Lib.hid (show Below w.heap.size w W9 by rw [hW9]; exact ((HB8.out).setCell (by show w.heap.size ≤ w.heap.size + 1; omega) _).setCell (by show w.heap.size ≤ w.heap.size + 1; omega) _)
          have x90 := x9.cell 0
          have x91 := x9.cell 1
          have HW9 := Lib.hid hW9
          clear hW9 x9
          go_wp2_with fail
          rw [← HW9.out]
          exact bodyPost_ret (v := .agg #[.int .i64 8, .int .i64 (-1)]) (by simp [results, Tryz.results11, go_sem, x90, x91]) rfl ⟨_, _, rfl, HB9.out, .inr ⟨HFI.out, HE.out.symm⟩⟩
        | true =>
          as_aux_lemma =>
          have HE := Lib.hid (show pfR (V : Int) cs 0 false pf = (0, -1) by rw [hpr]; rfl)
          clear hpr
          go_wp2_with fail
          refine (fine_any _).mono ?_
          rintro e w8 ⟨rfl, hw8⟩
          have hb8 : Below wr.heap.size wr w8 := by rw [hw8]; exact (Below.refl _ _).alloc (Nat.le_refl _) _
          have HB8 := Lib.hid (HB.out.trans (hb8.mono HB.out.size))
          have HK28 := Lib.hid (HK2.out.below hb8 HK2.out.lt)
          clear hw8 hb8
          have y0 := (HK28.out).cell 0
          have y1 := (HK28.out).cell 1
          have f0 := (HK28.out).frozen 0
          have f1 := (HK28.out).frozen 1
          obtain ⟨W9, hW9⟩ : ∃ W9, W9 = (w8.setCell ⟨w.heap.size + 1, 0, none⟩ (.int .i64 0)).setCell ⟨w.heap.size + 1, 1, none⟩ (.int .i64 (-1)) := ⟨_, rfl⟩
          have x9 : Blk W9 (w.heap.size + 1) 37 #[.int .i64 0, .int .i64 (-1)] := by rw [hW9]; exact ((HK28.out).set_ 0 _).set_ 1 _
          have HB9 := Lib.hid (show Below w.heap.size w W9 by rw [hW9]; exact ((HB8.out).setCell (by show w.heap.size ≤ w.heap.size + 1; omega) _).setCell (by show w.heap.size ≤ w.heap.size + 1; omega) _)
          have x90 := x9.cell 0
          have x91 := x9.cell 1
          have HW9 := Lib.hid hW9
          clear hW9 x9
          go_wp2_with fail
          rw [← HW9.out]
          exact bodyPost_ret (v := .agg #[.int .i64 0, .int .i64 (-1)]) (by simp [results, Tryz.results11, go_sem, x90, x91]) rfl ⟨_, _, rfl, HB9.out, .inr ⟨HFI.out, HE.out.symm⟩⟩
end Go.Proofs.YtgchepkcjkhmmaaGreatDoor
