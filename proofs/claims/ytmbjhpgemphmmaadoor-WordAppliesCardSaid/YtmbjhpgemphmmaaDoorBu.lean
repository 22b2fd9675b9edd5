/-
  WALKS: 'build' of lustrumlaw3: a graph and its model, made alike.
-/
import Derived.Test.YtmbjhpgemphmmaaDoorBs
import Derived.Test.YtmbjhpgemphmmaaDoorMk
import Derived.Deep.DeepCutAuto
import Derived.Deep.CutBlock
import Derived.Outline
namespace Go.Proofs.YtmbjhpgemphmmaaDoor
open Go.RowKit

/-- a call that answers true, and changes nothing that was there -/
def TPost (w : World) (e : Ending) (w' : World) : Prop := e = .returned (.bool true) ∧ Below w.heap.size w w'
theorem Errs.mem {w w' : World} {ea : Nat → Addr} {BE B : Nat} (h : Errs w ea BE) (hb : Below B w w') (hB : BE ≤ B) : Errs w' ea BE := h.below (hb.mono hB)
def BRel (w : World) (l : List Mk) (iv : Value) (wr : World) : Prop :=
  ∃ (k : Nat) (gs : List Gm.Gate), k ≤ l.length ∧ iv = .int .i64 k ∧ gs.length ≤ 3 * k ∧ GA wr w.heap.size w.heap.size gs ∧ ModelAt wr w.heap.size (w.heap.size + 1) gs ∧ Below w.heap.size w wr
/-- what build leaves -/
def BPost (w : World) (n : Nat) (e : Ending) (w' : World) : Prop :=
  e = .returned (.tuple #[.pointer (some ⟨w.heap.size, 0, none⟩), .pointer (some ⟨w.heap.size + 1, 0, none⟩), .bool true]) ∧
    ∃ gs, gs.length ≤ 3 * n ∧ GA w' w.heap.size w.heap.size gs ∧ ModelAt w' w.heap.size (w.heap.size + 1) gs ∧ Below w.heap.size w w'
theorem brel_start (w : World) (l : List Mk) : BRel w l (.int .i64 0) ((w.alloc (.cells #[.slice none 0 0, .int .i64 0, .map none] 27)).alloc (.cells #[.slice none 0 0, .int .i64 0] 80)) := by
  have h := ma_new (w.alloc (.cells #[.slice none 0 0, .int .i64 0, .map none] 27)) (B := w.heap.size) (by simp)
  have e : (w.alloc (.cells #[.slice none 0 0, .int .i64 0, .map none] 27)).heap.size = w.heap.size + 1 := by simp
  rw [e] at h
  exact ⟨0, [], Nat.zero_le _, rfl, by simp, (ga_new w (Nat.le_refl _)).new ((Below.refl _ _).alloc (Nat.le_refl _) _), h, ((Below.refl _ w).alloc (Nat.le_refl _) _).alloc (by simp) _⟩
/-- behind the switch: what was made, alike; or nothing, and an error -/
def BSw (w : World) (n : Nat) (gs : List Gm.Gate) (ea : Nat → Addr) (here got want err : Value) (wx : World) : Prop :=
  ∃ (gs' : List Gm.Gate), gs'.length ≤ n + 3 ∧ GA wx w.heap.size w.heap.size gs' ∧ ModelAt wx w.heap.size (w.heap.size + 1) gs' ∧ Below w.heap.size w wx ∧
    ((∃ r : Nat, here = .bool true ∧ got = .int .i64 r ∧ want = .int .i64 r ∧ err = .nilIface) ∨ (gs = gs' ∧ here = .bool false ∧ got = .int .i64 0 ∧ err = errV ea 3))
theorem bsw_made {w W1 w1 w2 : World} {n : Nat} {gs : List Gm.Gate} {ea : Nat → Addr} {r : List Gm.Gate × Nat} {v : Value} (hl : r.1.length ≤ gs.length + 3) (hn : gs.length ≤ n) (hb : Below w.heap.size w W1)
    (hg : GA w1 w.heap.size w.heap.size r.1) (hc : Chg (GT w.heap.size) W1 w1) (hm : ModelAt w2 w.heap.size (w.heap.size + 1) r.1) (hd : Chg (MT w.heap.size) w1 w2) (hv : v = .int .i64 (r.2 : Nat)) :
    BSw w n gs ea (.bool true) (.int .i64 (r.2 : Nat)) v .nilIface w2 :=
  ⟨r.1, by omega, hg.keepM hd, hm, (hb.trans (GT.below hc hb.size)).trans (MT.below hd (Nat.le_trans hb.size hc.size)), .inl ⟨r.2, rfl, rfl, hv, rfl⟩⟩
theorem bsw_bad {w W1 : World} {n k : Nat} {gs : List Gm.Gate} {ea : Nat → Addr} {v : Value} (hn : gs.length ≤ n) (hb : Below w.heap.size w W1) (hg : GA W1 w.heap.size w.heap.size gs) (hm : ModelAt W1 w.heap.size (w.heap.size + 1) gs) :
    BSw w n gs ea (.bool false) (.int .i64 0) v (errV ea 3) (W1.drewN k) :=
  ⟨gs, by omega, hg.drewN k, hm.drewN k, below_drewN hb k, .inr ⟨rfl, rfl, rfl, rfl⟩⟩
theorem has_of {gs : List Gm.Gate} {a : Int} (h : hasB gs.length a = true) : ∃ x : Nat, a = x ∧ Gm.has gs x := by
  unfold hasB at h
  simp only [Bool.and_eq_true, decide_eq_true_eq] at h
  exact ⟨a.toNat, by omega, by unfold Gm.has; omega⟩
theorem hasB_of {gs : List Gm.Gate} {x : Nat} (h : Gm.has gs x) : hasB gs.length (x : Int) = true := by
  unfold hasB; unfold Gm.has at h; simp; omega
theorem andG_len3 (gs : List Gm.Gate) (a b : Nat) : (Gm.andG gs a b).1.length ≤ gs.length + 3 := by have := Gm.andG_len gs a b; omega
theorem orG_len3 (gs : List Gm.Gate) (a b : Nat) : (Gm.orG gs a b).1.length ≤ gs.length + 3 := by have := Gm.orG_len gs a b; omega
theorem brel_next {w wx : World} {l : List Mk} {k : Nat} {gs' : List Gm.Gate} (hk : k < l.length) (h : gs'.length ≤ 3 * k + 3) (hg : GA wx w.heap.size w.heap.size gs') (hm : ModelAt wx w.heap.size (w.heap.size + 1) gs') (hb : Below w.heap.size w wx) (v : Value) (hv : v = .int .i64 ((k + 1 : Nat) : Int)) :
    BRel w l v wx := ⟨k + 1, gs', by omega, hv, by omega, hg, hm, hb⟩
set_option maxRecDepth 100000 in
set_option maxHeartbeats 4000000 in
theorem build_any {w : World} {ea : Nat → Addr} {BE : Nat} (hE : Errs w ea BE) (hBE : BE ≤ w.heap.size) {l : List Mk} (hl : l.length ≤ 60) (hf : ∀ m ∈ l, m.fits) {A : Option Addr} {c : Nat} (hr : Reads w w.heap.size 4 A l.length (mkVals l)) :
    Calls Tryd.prog 25 #[.slice A l.length c] w (BPost w l.length) := by
  have HE := Lib.hid hE
  have HBE := Lib.hid hBE
  have HF := Lib.hid hf
  have HR := Lib.hid hr
  clear hE hBE hf hr
  go_enter Tryd.func25, Tryd.ntmps25
  go_wp2_with fail
  go_loopw [7] (fun i wr => BRel w l i wr) (fun i _ => l.length - (intOf i).toNat)
  case atStart => exact brel_start w l
  case round =>
    obtain ⟨k, gs, hk, rfl, hgs, hga, hma, hb⟩ := hrel
    by_cases hkl : k < l.length
    · obtain ⟨⟨mk, ma, mb, mc⟩, hm⟩ : ∃ m, l[k]? = some m := ⟨l[k], List.getElem?_eq_getElem hkl⟩
      obtain ⟨f0, f1, f2, f3⟩ := HF.out _ (List.mem_of_getElem? hm)
      simp only at f0 f1 f2 f3
      obtain ⟨ad, hA, hadb, hcell⟩ := HR.out.2 (by omega)
      subst hA
      obtain ⟨q0, q1, q2, q3⟩ := mkVals_at l k _ hm
      simp only at q0 q1 q2 q3
      have c0 := (hb.cell (p := ad.add (k * 4)) (by rw [block_of_add]; exact hadb)).trans (hcell _ _ q0)
      have c1 := (hb.cell (p := ad.add (k * 4 + 1)) (by rw [block_of_add]; exact hadb)).trans (hcell _ _ q1)
      rw [add_field ad (k * 4) 0] at c1
      have c2 := (hb.cell (p := ad.add (k * 4 + 2)) (by rw [block_of_add]; exact hadb)).trans (hcell _ _ q2)
      rw [add_field ad (k * 4) 1] at c2
      have c3 := (hb.cell (p := ad.add (k * 4 + 3)) (by rw [block_of_add]; exact hadb)).trans (hcell _ _ q3)
      rw [add_field ad (k * 4) 2] at c3
      obtain ⟨W1, hW1⟩ : ∃ W1, W1 = wr.alloc (.cells #[.int .i64 mk, .int .i64 ma, .int .i64 mb, .int .i64 mc] 120) := ⟨_, rfl⟩
      have hnew : Below wr.heap.size wr W1 := by rw [hW1]; exact (Below.refl _ _).alloc (Nat.le_refl _) _
      have hga1 := hga.new hnew
      have hma1 := hma.new hnew
      have hb1 : Below w.heap.size w W1 := hb.trans (hnew.mono hb.size)
      have x0 : W1.cell? ⟨wr.heap.size, 0, none⟩ = some (.int .i64 mk) := by rw [hW1, (Blk.new wr _ _).cell 0]; rfl
      have x1 : W1.cell? ⟨wr.heap.size, 1, none⟩ = some (.int .i64 ma) := by rw [hW1, (Blk.new wr _ _).cell 1]; rfl
      have x2 : W1.cell? ⟨wr.heap.size, 2, none⟩ = some (.int .i64 mb) := by rw [hW1, (Blk.new wr _ _).cell 2]; rfl
      have x3 : W1.cell? ⟨wr.heap.size, 3, none⟩ = some (.int .i64 mc) := by rw [hW1, (Blk.new wr _ _).cell 3]; rfl
      have HXB := Lib.hid (show ∀ w1, Chg (GT w.heap.size) W1 w1 → ∀ j, w1.cell? ⟨wr.heap.size, j, none⟩ = W1.cell? ⟨wr.heap.size, j, none⟩ from fun w1 hc j => by
        have hB : Blk W1 wr.heap.size 120 #[.int .i64 mk, .int .i64 ma, .int .i64 mb, .int .i64 mc] := by rw [hW1]; exact Blk.new wr _ _
        rw [(hB.chg hc (by unfold GT elemOf; simp)).cell, hB.cell])
      have HW := Lib.hid hW1
      have HGA := Lib.hid hga1
      have HMA := Lib.hid hma1
      have HB1 := Lib.hid hb1
      have HN := Lib.hid hgs
      have HFI := Lib.hid (And.intro f0 (And.intro f1 (And.intro f2 f3)))
      have HE1 := Lib.hid (HE.out.mem hb1 HBE.out)
      clear hW1 hm q0 q1 q2 q3 hcell hga hma hga1 hma1 hb hb1 hnew f0 f1 f2 f3 hgs
      go_upto_region 10 with fail
      rw [← HW.out]
      clear c0 c1 c2 c3 HW
      obtain ⟨va, hva⟩ : ∃ va, va = hasB gs.length ma := ⟨_, rfl⟩
      obtain ⟨vb, hvb⟩ : ∃ vb, vb = hasB gs.length mb := ⟨_, rfl⟩
      obtain ⟨vc, hvc⟩ : ∃ vc, vc = hasB gs.length mc := ⟨_, rfl⟩
      have CA := Lib.hid (mhas_at HMA.out ma HFI.out.2.1)
      have CB := Lib.hid (mhas_at HMA.out mb HFI.out.2.2.1)
      have CC := Lib.hid (mhas_at HMA.out mc HFI.out.2.2.2)
      rw [← hva] at CA
      rw [← hvb] at CB
      rw [← hvc] at CC
      have HVA := Lib.hid hva
      have HVB := Lib.hid hvb
      have HVC := Lib.hid hvc
      clear hva hvb hvc
      go_cut [12] (fun s wx => (∃ vh, vh = (va && vb) ∧ s = .bool vh) ∧ W1 = wx)
      case first =>
        go_wp2_with fail
        refine CA.out.mono ?_
        rintro e w' ⟨rfl, rfl⟩
        cases va with
        | false =>
          go_wp2_with fail
          go_meet
          exact ⟨⟨_, rfl, rfl⟩, rfl⟩
        | true =>
          go_wp2_with fail
          refine CB.out.mono ?_
          rintro e w' ⟨rfl, rfl⟩
          go_wp2_with fail
          go_meet
          exact ⟨⟨_, rfl, rfl⟩, rfl⟩
      case rest =>
      obtain ⟨⟨vh, hvh, rfl⟩, rfl⟩ := hcut
      have HVH := Lib.hid hvh
      clear hvh
      by_cases hd : mk = 0 ∨ mk = 1 ∨ mk = 2 ∨ mk = 3 ∨ mk = 4
      · go_upto_block 2 with fail

        go_cut [12, 13, 14, 15] (fun h g v e wx => ∃ W2, W2 = wx ∧ BSw w (3 * k) gs ea h g v e W2)
        case first =>
          rcases hd with hd | hd | hd | hd | hd
          · have e0 : (mk == 0) = true := by simpa using hd
            have CI := Lib.hid (input_ga HGA.out (by have := HN.out; omega))
            clear hd
            go_wp2_with fail
            refine CI.out.mono ?_
            rintro e w1 ⟨rfl, h1, h2⟩
            have CM := Lib.hid (minput_mp (HMA.out.keepG h2) (by have := HN.out; omega))
            have H1 := Lib.hid h1
            have H2 := Lib.hid h2
            clear h1 h2
            go_wp2_with fail
            refine CM.out.mono ?_
            rintro e w2 ⟨rfl, h1, h2⟩
            have G1 := Lib.hid h1
            have G2 := Lib.hid h2
            clear h1 h2
            go_wp2_with fail
            go_meet
            exact ⟨_, rfl, bsw_made (r := Gm.inpG gs) (by simp [Gm.inpG]) HN.out HB1.out H1.out H2.out G1.out G2.out rfl⟩
          · have e0 : (mk == 0) = false := by simp; omega
            have e1 : (mk == 1) = true := by simpa using hd
            clear hd
            cases vh with
            | true =>
              have hab : va = true ∧ vb = true := by have := HVH.out; simpa using this.symm
              obtain ⟨x, hx, hxx⟩ := has_of (HVA.out.symm.trans hab.1)
              obtain ⟨y, hy, hyy⟩ := has_of (HVB.out.symm.trans hab.2)
              have CI := and_ga HGA.out (by have := HN.out; omega) hxx hyy
              rw [← hx, ← hy] at CI
              have CI := Lib.hid CI
              have HX := Lib.hid hx
              have HY := Lib.hid hy
              have HXX := Lib.hid hxx
              have HYY := Lib.hid hyy
              clear hab hx hy hxx hyy
              go_wp2_with fail
              refine CI.out.mono ?_
              rintro e w1 ⟨rfl, h1, h2⟩
              have CM := mand_mp (HMA.out.keepG h2) (by have := HN.out; omega) HXX.out HYY.out
              rw [← HX.out, ← HY.out] at CM
              have CM := Lib.hid CM
              have y1 : w1.cell? ⟨wr.heap.size, 1, none⟩ = some (.int .i64 ma) := (HXB.out w1 h2 1).trans x1
              have y2 : w1.cell? ⟨wr.heap.size, 2, none⟩ = some (.int .i64 mb) := (HXB.out w1 h2 2).trans x2
              have H1 := Lib.hid h1
              have H2 := Lib.hid h2
              clear h1 h2
              go_wp2_with fail
              refine CM.out.mono ?_
              rintro e w2 ⟨rfl, h1, h2⟩
              have G1 := Lib.hid h1
              have G2 := Lib.hid h2
              clear h1 h2
              go_wp2_with fail
              go_meet
              exact ⟨_, rfl, bsw_made (r := Gm.andG gs x y) (andG_len3 gs x y) HN.out HB1.out H1.out H2.out G1.out G2.out rfl⟩
            | false =>
              have CI := Lib.hid (and_nb HE1.out HGA.out HFI.out.2.1 HFI.out.2.2.1 (by rw [← HVA.out, ← HVB.out]; exact HVH.out.symm))
              go_wp2_with fail
              refine CI.out.mono ?_
              rintro e w1 ⟨rfl, n1, rfl⟩
              go_wp2_with fail
              go_meet
              exact ⟨_, rfl, bsw_bad HN.out HB1.out HGA.out HMA.out⟩
          · have e0 : (mk == 0) = false := by simp; omega
            have e1 : (mk == 1) = false := by simp; omega
            have e2 : (mk == 2) = true := by simpa using hd
            clear hd
            cases vh with
            | true =>
              have hab : va = true ∧ vb = true := by have := HVH.out; simpa using this.symm
              obtain ⟨x, hx, hxx⟩ := has_of (HVA.out.symm.trans hab.1)
              obtain ⟨y, hy, hyy⟩ := has_of (HVB.out.symm.trans hab.2)
              have CI := or_ga HGA.out (by have := HN.out; omega) hxx hyy
              rw [← hx, ← hy] at CI
              have CI := Lib.hid CI
              have HX := Lib.hid hx
              have HY := Lib.hid hy
              have HXX := Lib.hid hxx
              have HYY := Lib.hid hyy
              clear hab hx hy hxx hyy
              go_wp2_with fail
              refine CI.out.mono ?_
              rintro e w1 ⟨rfl, h1, h2⟩
              have CM := mor_mp (HMA.out.keepG h2) (by have := HN.out; omega) HXX.out HYY.out
              rw [← HX.out, ← HY.out] at CM
              have CM := Lib.hid CM
              have y1 : w1.cell? ⟨wr.heap.size, 1, none⟩ = some (.int .i64 ma) := (HXB.out w1 h2 1).trans x1
              have y2 : w1.cell? ⟨wr.heap.size, 2, none⟩ = some (.int .i64 mb) := (HXB.out w1 h2 2).trans x2
              have H1 := Lib.hid h1
              have H2 := Lib.hid h2
              clear h1 h2
              go_wp2_with fail
              refine CM.out.mono ?_
              rintro e w2 ⟨rfl, h1, h2⟩
              have G1 := Lib.hid h1
              have G2 := Lib.hid h2
              clear h1 h2
              go_wp2_with fail
              go_meet
              exact ⟨_, rfl, bsw_made (r := Gm.orG gs x y) (orG_len3 gs x y) HN.out HB1.out H1.out H2.out G1.out G2.out rfl⟩
            | false =>
              have CI := Lib.hid (or_nb HE1.out HGA.out HFI.out.2.1 HFI.out.2.2.1 (by rw [← HVA.out, ← HVB.out]; exact HVH.out.symm))
              go_wp2_with fail
              refine CI.out.mono ?_
              rintro e w1 ⟨rfl, n1, rfl⟩
              go_wp2_with fail
              go_meet
              exact ⟨_, rfl, bsw_bad HN.out HB1.out HGA.out HMA.out⟩
          · have e0 : (mk == 0) = false := by simp; omega
            have e1 : (mk == 1) = false := by simp; omega
            have e2 : (mk == 2) = false := by simp; omega
            have e3 : (mk == 3) = true := by simpa using hd
            clear hd
            cases vh with
            | true =>
              have hab : va = true ∧ vb = true := by have := HVH.out; simpa using this.symm
              obtain ⟨x, hx, hxx⟩ := has_of (HVA.out.symm.trans hab.1)
              obtain ⟨y, hy, hyy⟩ := has_of (HVB.out.symm.trans hab.2)
              have CI := xor_ga HGA.out (by have := HN.out; omega) hxx hyy
              rw [← hx, ← hy] at CI
              have CI := Lib.hid CI
              have HX := Lib.hid hx
              have HY := Lib.hid hy
              have HXX := Lib.hid hxx
              have HYY := Lib.hid hyy
              clear hab hx hy hxx hyy
              go_wp2_with fail
              refine CI.out.mono ?_
              rintro e w1 ⟨rfl, h1, h2⟩
              have CM := mxor_mp (HMA.out.keepG h2) (by have := HN.out; omega) HXX.out HYY.out
              rw [← HX.out, ← HY.out] at CM
              have CM := Lib.hid CM
              have y1 : w1.cell? ⟨wr.heap.size, 1, none⟩ = some (.int .i64 ma) := (HXB.out w1 h2 1).trans x1
              have y2 : w1.cell? ⟨wr.heap.size, 2, none⟩ = some (.int .i64 mb) := (HXB.out w1 h2 2).trans x2
              have H1 := Lib.hid h1
              have H2 := Lib.hid h2
              clear h1 h2
              go_wp2_with fail
              refine CM.out.mono ?_
              rintro e w2 ⟨rfl, h1, h2⟩
              have G1 := Lib.hid h1
              have G2 := Lib.hid h2
              clear h1 h2
              go_wp2_with fail
              go_meet
              exact ⟨_, rfl, bsw_made (r := Gm.xorG gs x y) (Gm.orOf_len gs x (Gm.notL y) (Gm.notL x) y) HN.out HB1.out H1.out H2.out G1.out G2.out rfl⟩
            | false =>
              have CI := Lib.hid (xor_nb HE1.out HGA.out HFI.out.2.1 HFI.out.2.2.1 (by rw [← HVA.out, ← HVB.out]; exact HVH.out.symm))
              go_wp2_with fail
              refine CI.out.mono ?_
              rintro e w1 ⟨rfl, n1, rfl⟩
              go_wp2_with fail
              go_meet
              exact ⟨_, rfl, bsw_bad HN.out HB1.out HGA.out HMA.out⟩
          · have e0 : (mk == 0) = false := by simp; omega
            have e1 : (mk == 1) = false := by simp; omega
            have e2 : (mk == 2) = false := by simp; omega
            have e3 : (mk == 3) = false := by simp; omega
            have e4 : (mk == 4) = true := by simpa using hd
            clear hd
            cases vh with
            | true =>
              have hab : va = true ∧ vb = true := by have := HVH.out; simpa using this.symm
              cases vc with
              | true =>
                obtain ⟨x, hx, hxx⟩ := has_of (HVA.out.symm.trans hab.1)
                obtain ⟨y, hy, hyy⟩ := has_of (HVB.out.symm.trans hab.2)
                obtain ⟨z, hz, hzz⟩ := has_of HVC.out.symm
                have CI := if_ga HGA.out (by have := HN.out; omega) hzz hxx hyy
                rw [← hx, ← hy, ← hz] at CI
                have CI := Lib.hid CI
                have HX := Lib.hid hx
                have HY := Lib.hid hy
                have HZ := Lib.hid hz
                have HXX := Lib.hid hxx
                have HYY := Lib.hid hyy
                have HZZ := Lib.hid hzz
                clear hab hx hy hz hxx hyy hzz
                go_wp2_with fail
                refine CI.out.mono ?_
                rintro e w1 ⟨rfl, h1, h2⟩
                have CM := mif_mp (HMA.out.keepG h2) (by have := HN.out; omega) HZZ.out HXX.out HYY.out
                rw [← HX.out, ← HY.out, ← HZ.out] at CM
                have CM := Lib.hid CM
                have CD := mhas_at (HMA.out.keepG h2) mc HFI.out.2.2.2
                rw [← HVC.out] at CD
                have CD := Lib.hid CD
                have y1 : w1.cell? ⟨wr.heap.size, 1, none⟩ = some (.int .i64 ma) := (HXB.out w1 h2 1).trans x1
                have y2 : w1.cell? ⟨wr.heap.size, 2, none⟩ = some (.int .i64 mb) := (HXB.out w1 h2 2).trans x2
                have y3 : w1.cell? ⟨wr.heap.size, 3, none⟩ = some (.int .i64 mc) := (HXB.out w1 h2 3).trans x3
                have H1 := Lib.hid h1
                have H2 := Lib.hid h2
                clear h1 h2
                go_wp2_with fail
                refine CD.out.mono ?_
                rintro e w' ⟨rfl, rfl⟩
                go_wp2_with fail
                refine CM.out.mono ?_
                rintro e w2 ⟨rfl, h1, h2⟩
                have G1 := Lib.hid h1
                have G2 := Lib.hid h2
                clear h1 h2
                go_wp2_with fail
                go_meet
                exact ⟨_, rfl, bsw_made (r := Gm.ifG gs z x y) (Gm.orOf_len gs z x (Gm.notL z) y) HN.out HB1.out H1.out H2.out G1.out G2.out rfl⟩
              | false =>
                have CI := Lib.hid (if_nb HE1.out HGA.out HFI.out.2.2.2 HFI.out.2.1 HFI.out.2.2.1 (by rw [← HVC.out]; rfl))
                clear hab
                go_wp2_with fail
                refine CI.out.mono ?_
                rintro e w1 ⟨rfl, n1, rfl⟩
                have CD := mhas_at (HMA.out.drewN n1) mc HFI.out.2.2.2
                rw [← HVC.out] at CD
                have CD := Lib.hid CD
                have y3 : (W1.drewN n1).cell? ⟨wr.heap.size, 3, none⟩ = some (.int .i64 mc) := x3
                go_wp2_with fail
                refine CD.out.mono ?_
                rintro e w' ⟨rfl, rfl⟩
                go_wp2_with fail
                go_meet
                exact ⟨_, rfl, bsw_bad HN.out HB1.out HGA.out HMA.out⟩
            | false =>
              have CI := Lib.hid (if_nb HE1.out HGA.out HFI.out.2.2.2 HFI.out.2.1 HFI.out.2.2.1 (by rw [← HVA.out, ← HVB.out, Bool.and_assoc, ← HVH.out, Bool.and_false]))
              go_wp2_with fail
              refine CI.out.mono ?_
              rintro e w1 ⟨rfl, n1, rfl⟩
              go_wp2_with fail
              go_meet
              exact ⟨_, rfl, bsw_bad HN.out HB1.out HGA.out HMA.out⟩
        case rest =>
        obtain ⟨W2, rfl, gs', hl', hg', hm', hb', hcase⟩ := hcut
        have HL' := Lib.hid hl'
        have HG' := Lib.hid hg'
        have HM' := Lib.hid hm'
        have HB' := Lib.hid hb'
        clear hl' hg' hm' hb'
        rcases hcase with ⟨r, rfl, rfl, rfl, rfl⟩ | ⟨_, rfl, rfl, rfl⟩
        · have e0 : ((r : Int) != (r : Int)) = false := by simp
          go_wp2_with fail
          go_roundw
          case rel => exact brel_next hkl HL'.out HG'.out HM'.out HB'.out _ (by go_num)
          case measure => simp [intOf]; omega
        · have C : Calls Tryd.prog 21 #[errV ea 3, .int .i64 3] W2 fun e w' => e = .returned (.bool true) ∧ Below W2.heap.size W2 w' := coded_sent (HE.out.mem HB'.out HBE.out) (Nat.le_trans HBE.out HB'.out.size) (k := 3) (by omega) (by omega)
          have HC := Lib.hid C
          clear C
          go_wp2_with fail
          refine HC.out.mono ?_
          rintro e w3 ⟨rfl, h3⟩
          have H3 := Lib.hid h3
          clear h3
          go_wp2_with fail
          go_roundw
          case rel => exact brel_next hkl HL'.out (HG'.out.new H3.out) (HM'.out.new H3.out) (HB'.out.trans (H3.out.mono HB'.out.size)) _ (by go_num)
          case measure => simp [intOf]; omega
      · have e0 : (mk == 0) = false := by simp; omega
        have e1 : (mk == 1) = false := by simp; omega
        have e2 : (mk == 2) = false := by simp; omega
        have e3 : (mk == 3) = false := by simp; omega
        have e4 : (mk == 4) = false := by simp; omega
        clear hd
        go_wp2_with fail
        go_roundw
        case rel => exact brel_next hkl (by have := HN.out; omega) HGA.out HMA.out HB1.out _ (by go_num)
        case measure => simp [intOf]; omega
    · obtain rfl : k = l.length := by omega
      obtain ⟨mb, hg⟩ := id hga
      obtain ⟨sv, hblk, hrow⟩ := hg.ex
      obtain ⟨Ag, cg, rfl⟩ := own_form hrow
      obtain ⟨sv2, hblk2, hrow2⟩ := hma.ex
      obtain ⟨Am, cm, rfl⟩ := own_form hrow2
      have c0 : wr.cell? ⟨w.heap.size + 1, 0, none⟩ = some (.slice Am gs.length cm) := hblk2.cell 0
      have c1 : wr.cell? ⟨w.heap.size + 1, 1, none⟩ = some (.int .i64 (Gm.ins gs : Int)) := hblk2.cell 1
      have Q1 := Lib.hid (show ∀ n, Calls Tryd.prog 30 #[.pointer (some ⟨w.heap.size, 0, none⟩)] (wr.drewN n) fun e w' => e = .returned (.int .i64 (1 + (gs.length : Int))) ∧ wr.drewN n = w' from fun n => gates_at hg.len (hblk.drewN n))
      have Q2 := Lib.hid (show ∀ n, Calls Tryd.prog 64 #[.pointer (some ⟨w.heap.size, 0, none⟩)] (wr.drewN n) fun e w' => e = .returned (.int .i64 (Gm.ins gs : Int)) ∧ wr.drewN n = w' from fun n => inputs_at (hblk.drewN n))
      have e1 : ((1 + (gs.length : Int)) == ((gs.length : Int) + 1)) = true := by simp; omega
      have hgl : (gs.length : Int) ≤ 100000 := by have := hg.len; omega
      have HFin := Lib.hid (And.intro hgs (And.intro hga (And.intro hma hb)))
      clear hgs hga hma hb hg hblk hrow hblk2 hrow2 hkl hk
      go_wp2_with fail
      go_quiet ((first | (go_at_call 30; exact quiet_left (Q1.out _)) | (go_at_call 64; exact quiet_left (Q2.out _))))
      go_wp2
      go_ret3
      exact ⟨rfl, gs, HFin.out.1, HFin.out.2.1.drewN _, HFin.out.2.2.1.drewN _, below_drewN HFin.out.2.2.2 _⟩
end Go.Proofs.YtmbjhpgemphmmaaDoor
