/-
  THE WALK of package graph: Eval where all is there.
-/
import Derived.Test.YtmbjhpgemphmmaaDoorGe
namespace Go.Proofs.YtmbjhpgemphmmaaDoor
open Go.RowKit

theorem run_make_bools1 (n : Nat) (hn : n ≤ 1000000) (w : World) : (Instr.makeSlice 54 (.int .i64 (1 + (n : Int))) (.int .i64 (1 + (n : Int)))).run Tryd.prog w =
    .ok (.slice (some ⟨w.heap.size, 0, none⟩) (n + 1) (n + 1)) (w.alloc (.cells (boolRow (List.replicate (n + 1) false)) 4)) := by
  have h := run_make_bools n hn w
  rwa [Int.add_comm] at h
/-- the row and the box of Eval's closure -/
structure EvAt (W : World) (inp : List Bool) (gs : List Gm.Gate) (k : Nat) (w : World) : Prop where
  row : Blk w W.heap.size 4 (boolRow (Gm.rowAt inp gs k))
  box : Blk w (W.heap.size + 1) 54 #[.slice (some ⟨W.heap.size, 0, none⟩) (gs.length + 1) (gs.length + 1)]
  bl : Below W.heap.size W w
def VRl (W : World) (inp : List Bool) (gs : List Gm.Gate) (iv : Value) (wr : World) : Prop := ∃ k : Nat, k ≤ gs.length ∧ iv = .int .i64 k ∧ EvAt W inp gs k wr
theorem EvAt.new {W w w' : World} {inp : List Bool} {gs : List Gm.Gate} {k : Nat} (h : EvAt W inp gs k w) (hb : Below w.heap.size w w') : EvAt W inp gs k w' :=
  ⟨h.row.below hb h.row.lt, h.box.below hb h.box.lt, h.bl.trans (hb.mono h.bl.size)⟩
theorem EvAt.drew {W w : World} {inp : List Bool} {gs : List Gm.Gate} {k : Nat} (h : EvAt W inp gs k w) : EvAt W inp gs k w.drew := ⟨h.row, h.box, below_drewN h.bl 1⟩
theorem vrl_next {W w1 : World} {k : Nat} {inp : List Bool} {gs : List Gm.Gate} {g : Gm.Gate} {b : Bool} (hk : gs[k]? = some g) (hb : Gm.gateV inp (Gm.vals inp (gs.take k)) (Gm.ins (gs.take k)) g = b) (h : EvAt W inp gs k w1) (iv : Value) (hi : iv = .int .i64 ((k + 1 : Nat) : Int)) :
    VRl W inp gs iv (w1.setCell ⟨W.heap.size, k + 1, none⟩ (.bool b)) := by
  have hl := (List.getElem?_eq_some_iff.1 hk).1
  have hB := h.row.set_ (k + 1) (.bool b)
  rw [boolRow_set, ← hb, Gm.rowAt_set inp hk] at hB
  exact ⟨k + 1, by omega, hi, hb ▸ hB, h.box.far (by simp) _, h.bl.setCell (by simp) _⟩
/-- what Eval answers -/
def EvG (w : World) (bs : List Bool) (e : Ending) (w' : World) : Prop :=
  ∃ A c, e = .returned (.tuple #[.slice A bs.length c, .nilIface]) ∧ w'.ownsRow w.heap.size 4 1 (.slice A bs.length c) bs.length (boolVals bs) ∧ Below w.heap.size w w'
def OutR (W : World) (inp : List Bool) (gs : List Gm.Gate) (l : List Nat) (ov iv : Value) (wr : World) : Prop :=
  ∃ k : Nat, k ≤ l.length ∧ iv = .int .i64 k ∧ EvAt W inp gs gs.length wr ∧ ∃ A c, ov = .slice A k c ∧ wr.ownsRow (W.heap.size + 2) 4 1 ov k (boolVals ((l.take k).map (Gm.ev inp gs)))
theorem ownBlock_ge {w : World} {base : Nat} {e : TypeId} {size n : Nat} {v : Value} {xs : List Value} (h : w.ownsRow base e size v n xs) : ∀ g, v.ownBlock = some g → base ≤ g := by
  intro g hg
  rcases h.2 with ⟨rfl, _⟩ | ⟨g', cap, cur, rfl, hb, _⟩
  · simp [Value.ownBlock] at hg
  · simp only [Value.ownBlock, Option.some.injEq] at hg
    omega
theorem below_grown {B : Nat} {w w1 : World} {r : Option Nat} (h : w.grownBy w1 r) (hB : B ≤ w.heap.size) (hr : ∀ g, r = some g → B ≤ g) : Below B w w1 :=
  ⟨h.os, h.tape, h.output, h.size, fun k hk => h.block k (by omega) fun e => by have := hr k e.symm; omega⟩
theorem EvAt.grown {W w w1 : World} {inp : List Bool} {gs : List Gm.Gate} {k n : Nat} {v : Value} {xs : List Value} {o : Obj} (h : EvAt W inp gs k w) (ho : w.ownsRow (W.heap.size + 2) 4 1 v n xs) (hg : (w.alloc o).grownBy w1 v.ownBlock) : EvAt W inp gs k w1 :=
  ⟨(h.row.alloc o).grown hg (fun e => by have := ownBlock_ge ho _ e.symm; omega), (h.box.alloc o).grown hg (fun e => by have := ownBlock_ge ho _ e.symm; omega),
    (h.bl.alloc h.bl.size o).trans (below_grown hg (by have := h.bl.size; simp; omega) fun g e => by have := ownBlock_ge ho g e; omega)⟩
theorem outr_next {W w1 : World} {inp : List Bool} {gs : List Gm.Gate} {l : List Nat} {k x : Nat} {A : Option Addr} {c : Nat} {b : Bool} (hx : l[k]? = some x) (hb : Gm.ev inp gs x = b) (h : EvAt W inp gs gs.length w1)
    (ho : w1.ownsRow (W.heap.size + 2) 4 1 (.slice A (k + 1) c) (k + 1) (boolVals ((l.take k).map (Gm.ev inp gs)) ++ [.bool b])) (iv : Value) (hi : iv = .int .i64 ((k + 1 : Nat) : Int)) : OutR W inp gs l (.slice A (k + 1) c) iv w1 := by
  have hl := (List.getElem?_eq_some_iff.1 hx).1
  refine ⟨k + 1, by omega, hi, h, A, c, rfl, ?_⟩
  rw [Gm.take_one hx, List.map_append]
  simpa [boolVals, hb] using ho
attribute [local irreducible] wpStill
set_option maxRecDepth 100000 in
set_option maxHeartbeats 4000000 in
theorem geval_any {w : World} {B b : Nat} {gs : List Gm.Gate} (hg : GA w B b gs) {A A2 : Option Addr} {c c2 BR BR2 : Nat} {inp : List Bool} (hi : inp.length = Gm.ins gs) (hri : Reads w BR 1 A inp.length (boolVals inp)) (hBR : BR ≤ w.heap.size)
    {l : List Nat} (hr : Reads w BR2 1 A2 l.length (litVals (l.map fun (x : Nat) => (x : Int)))) (hBR2 : BR2 ≤ w.heap.size) (hl : l.length ≤ 1000000) (hw : ∀ a ∈ l, Gm.has gs a) :
    Calls Tryd.prog 18 #[.pointer (some ⟨b, 0, none⟩), .slice A inp.length c, .slice A2 l.length c2] w (EvG w (l.map (Gm.ev inp gs))) := by
  have hga := hg
  obtain ⟨mb, hg⟩ := hg
  obtain ⟨sv, hblk, hrow⟩ := hg.ex
  obtain ⟨Ag, cg, rfl⟩ := own_form hrow
  have c0 : w.cell? ⟨b, 0, none⟩ = some (.slice Ag gs.length cg) := hblk.cell 0
  have c1 : w.cell? ⟨b, 1, none⟩ = some (.int .i64 (Gm.ins gs : Int)) := hblk.cell 1
  have hblt := hblk.lt
  have hil := Gm.ins_le gs
  have hgl := hg.len
  have hmk := run_make_bools1 gs.length (by omega)
  have C1 := Lib.hid (gates_at hg.len hblk)
  have HH := Lib.hid (show ∀ a, a ∈ l → Calls Tryd.prog 34 #[.pointer (some ⟨b, 0, none⟩), .int .i64 (a : Int)] w fun e w' => e = .returned (.bool true) ∧ w = w' from fun a ha => has_yes hg (hw a ha))
  have HR := Lib.hid hr
  have HRI := Lib.hid hri
  have HWF := Lib.hid hg.wf
  have HROW := Lib.hid hrow
  have HI := Lib.hid hi
  have HWL := Lib.hid hw
  have HBR := Lib.hid (And.intro hBR hBR2)
  obtain ⟨ni, hni⟩ : ∃ ni, ni = Gm.ins gs := ⟨_, rfl⟩
  rw [← hni] at c1 hil
  obtain ⟨nl, hnl⟩ : ∃ nl, nl = inp.length := ⟨_, rfl⟩
  rw [← hnl]
  have e0 : ((nl : Int) != (ni : Int)) = false := by simp; omega
  have hn1 : (ni : Int) ≤ 1000000 := by omega
  have HNL := Lib.hid hnl
  have HNI := Lib.hid hni
  clear hga hg hblk hrow hi hri hBR hr hBR2 hw hni hnl hil
  go_enter Tryd.func18, Tryd.ntmps18
  go_wp2_with fail
  go_loop [27] (fun i => ∃ k : Nat, k ≤ l.length ∧ i = .int .i64 k) (fun i => l.length - (intOf i).toNat)
  case atStart => exact ⟨0, Nat.zero_le _, rfl⟩
  case round =>
    obtain ⟨k, hk, rfl⟩ := hrel
    by_cases hkl : k < l.length
    · obtain ⟨x, hx⟩ : ∃ x, l[k]? = some x := ⟨_, List.getElem?_eq_getElem hkl⟩
      obtain ⟨ad, hA, _, hcell⟩ := HR.out.2 (by omega)
      subst hA
      have cx := hcell k _ (litVals_at (show (l.map fun (x : Nat) => (x : Int))[k]? = some (x : Int) by simp [hx]))
      have CX := Lib.hid (HH.out x (List.mem_of_getElem? hx))
      clear hcell hx
      go_wp2_with fail
      refine CX.out.mono ?_
      rintro e w' ⟨rfl, rfl⟩
      go_wp2_with fail
      go_round
      case rel => exact ⟨k + 1, by omega, by go_num⟩
      case measure => simp [intOf]; omega
    · obtain rfl : k = l.length := by omega
      go_wp2_with fail
      refine C1.out.mono ?_
      rintro e w' ⟨rfl, rfl⟩
      go_wp2_with fail
      go_loopw [46] (fun iv wr => VRl w inp gs iv wr) (fun iv _ => gs.length - (intOf iv).toNat)
      case atStart =>
        refine ⟨0, Nat.zero_le _, rfl, ?_, ?_, ((Below.refl _ _).alloc (Nat.le_refl _) _).alloc (by simp) _⟩
        · rw [Gm.rowAt_zero]; exact (Blk.new w _ _).alloc _
        · have h := Blk.new (w.alloc (.cells (boolRow (List.replicate (gs.length + 1) false)) 4)) 54 #[.slice (some ⟨w.heap.size, 0, none⟩) (gs.length + 1) (gs.length + 1)]
          have e : (w.alloc (.cells (boolRow (List.replicate (gs.length + 1) false)) 4)).heap.size = w.heap.size + 1 := by simp
          rwa [e] at h
      case round =>
        clear c0 c1 hmk
        obtain ⟨k, hk, rfl, hE⟩ := hrel
        have HEV := Lib.hid hE
        clear hE
        by_cases hkl : k < gs.length
        · obtain ⟨⟨ga, gb, gi⟩, hg⟩ : ∃ g, gs[k]? = some g := ⟨gs[k], List.getElem?_eq_getElem hkl⟩
          obtain ⟨q0, q1, q2⟩ := gateCells_at 0 gs k _ hg
          obtain ⟨blk, c', hv, hcell⟩ := row_cells HROW.out (by omega)
          have hA : Ag = some ⟨blk, 0, none⟩ := by simp only [Value.slice.injEq] at hv; exact hv.1
          subst hA
          have hbl := World.block_lt_of_cell? w _ (hcell _ _ q0)
          have d0 := (HEV.out.bl.cell (p := ⟨blk, k * 3, none⟩) hbl).trans (hcell _ _ q0)
          have d1 := (HEV.out.bl.cell (p := ⟨blk, k * 3 + 1, none⟩) hbl).trans (hcell _ _ q1)
          have d2 := (HEV.out.bl.cell (p := ⟨blk, k * 3 + 2, none⟩) hbl).trans (hcell _ _ q2)
          have HG := Lib.hid hg
          clear q0 q1 q2 hcell hv hbl
          simp only at d0 d1 d2
          obtain ⟨iv, hiv⟩ : ∃ iv : Int, iv = (((if gi = true then 0 + Gm.ins (gs.take k) + 1 else 0 : Nat)) : Int) := ⟨_, rfl⟩
          rw [← hiv] at d2
          have HIV := Lib.hid hiv
          obtain ⟨W1, hW1⟩ : ∃ W1, W1 = wr.alloc (.cells #[.int .i64 ga, .int .i64 gb, .int .i64 iv] 89) := ⟨_, rfl⟩
          have hnew : Below wr.heap.size wr W1 := by rw [hW1]; exact (Below.refl _ _).alloc (Nat.le_refl _) _
          have x0 : W1.cell? ⟨wr.heap.size, 0, none⟩ = some (.int .i64 ga) := by rw [hW1, (Blk.new wr _ _).cell 0]; rfl
          have x1 : W1.cell? ⟨wr.heap.size, 1, none⟩ = some (.int .i64 gb) := by rw [hW1, (Blk.new wr _ _).cell 1]; rfl
          have x2 : W1.cell? ⟨wr.heap.size, 2, none⟩ = some (.int .i64 iv) := by rw [hW1, (Blk.new wr _ _).cell 2]; rfl
          have hE1 := HEV.out.new hnew
          have HE1 := Lib.hid hE1
          have hfz : W1.frozen? ⟨w.heap.size, k + 1, none⟩ = false := hE1.row.frozen _
          obtain ⟨bx, hbx⟩ := Gm.rowAt_any (inp := inp) (Nat.le_of_lt hkl) (i := k + 1) (by omega)
          have cv : W1.cell? ⟨w.heap.size, k + 1, none⟩ = some (.bool bx) := by rw [hE1.row.cell]; exact boolRow_get hbx
          have cb : W1.cell? ⟨w.heap.size + 1, 0, none⟩ = some (.slice (some ⟨w.heap.size, 0, none⟩) (gs.length + 1) (gs.length + 1)) := hE1.box.cell 0
          have HWW := Lib.hid hW1
          clear hE1 hnew hW1 hbx hiv
          cases gi with
          | true =>
            have hin := Gm.ins_take_lt hg rfl
            obtain ⟨ad, hA, hadb, hcl⟩ := HRI.out.2 (by have := HI.out; omega)
            subst hA
            have hb0 : inp[Gm.ins (gs.take k)]? = some (inp.getD (Gm.ins (gs.take k)) false) := by
              rw [List.getD_eq_getElem?_getD, List.getElem?_eq_getElem (by have := HI.out; omega)]; rfl
            obtain ⟨bv, hbv⟩ : ∃ bv, bv = inp.getD (Gm.ins (gs.take k)) false := ⟨_, rfl⟩
            rw [← hbv] at hb0
            have ci := (HE1.out.bl.cell (p := ad.add (Gm.ins (gs.take k))) (by rw [block_of_add]; have := HBR.out.1; omega)).trans (hcl (Gm.ins (gs.take k)) (.bool bv) (by unfold boolVals; simp [hb0]))
            obtain ⟨nk, hnk⟩ : ∃ nk, nk = Gm.ins (gs.take k) := ⟨_, rfl⟩
            have hi2 : iv = (nk : Int) + 1 := by rw [HIV.out, hnk]; simp
            subst hi2
            rw [← hnk] at ci
            have hnl : (nk : Int) < (nl : Int) := by rw [hnk, HNL.out]; have := HI.out; omega
            have hnl2 : (nk : Int) ≤ 1000000 := by rw [hnk]; have := HNI.out; omega
            have HV := Lib.hid (show Gm.gateV inp (Gm.vals inp (gs.take k)) (Gm.ins (gs.take k)) ⟨ga, gb, true⟩ = bv by rw [hbv]; simp [Gm.gateV])
            have u0 : IntKind.i64.wrap ((k : Int) + 1) = (k : Int) + 1 := wrap_in (by omega) (by omega)
            have u1 : IntKind.i64.wrap (nk : Int) = (nk : Int) := wrap_in (by omega) (by omega)
            have u5 : ((k : Int) + 1).toNat = k + 1 := by omega
            have u6 : (k : Int) + 1 < (gs.length : Int) + 1 := by omega
            have u7 : 0 ≤ (k : Int) + 1 := by omega
            have u8 : decide (0 < (nk : Int) + 1) = true := decide_eq_true (by omega)
            clear hin hg hcl hb0 hbv hnk hadb
            go_upto_region 14 with fail
            rw [← HWW.out]
            go_wp2_with fail
            refine wp_region_still_tail 10 (by kernel_rfl) (by kernel_rfl) ?_
            simp only [List.take_succ_cons, List.take_zero, List.drop_succ_cons, List.drop_zero]
            iterate 10 (refine still_want rfl (fun K hK => ?_); go_simp; refine hK _ ?_; clear hK K)
            refine wpStill_nil ?_
            change wpList _ _ _ _ _ W1.drew
            obtain ⟨W2, hW2⟩ : ∃ W2, W2 = W1.drew := ⟨_, rfl⟩
            have v0 : W2.cell? ⟨w.heap.size, k + 1, none⟩ = some (.bool bx) := by rw [hW2]; exact cv
            have v1 : W2.frozen? ⟨w.heap.size, k + 1, none⟩ = false := by rw [hW2]; exact hfz
            have HE2 := Lib.hid (show EvAt w inp gs k W2 by rw [hW2]; exact HE1.out.drew)
            rw [← hW2]
            clear hW2 cv hfz x0 x1 x2 ci cb
            clear u0 u1 u5
            go_wp2_with fail
            go_roundw
            case rel => exact vrl_next HG.out HV.out HE2.out _ (by go_num)
            case measure => simp [intOf]; omega
          | false =>
            obtain ⟨a1, a2, a3⟩ := HWF.out.ahead k _ hg rfl
            simp only at a1 a2 a3
            obtain ⟨b0, p0, l0⟩ := Gm.lit_row (inp := inp) hk (a := ga) (by omega)
            obtain ⟨b1, p1, l1⟩ := Gm.lit_row (inp := inp) hk (a := gb) (by omega)
            have hi2 : iv = 0 := by rw [HIV.out]; simp
            subst hi2
            obtain ⟨va, hva⟩ : ∃ va, va = (b0 != (((ga : Int) % 2) == 1)) := ⟨_, rfl⟩
            obtain ⟨vb, hvb⟩ : ∃ vb, vb = (b1 != (((gb : Int) % 2) == 1)) := ⟨_, rfl⟩
            have CA : Calls Tryd.prog 49 #[.int .i64 ga, .pointer (some ⟨w.heap.size + 1, 0, none⟩)] W1.drew fun e w'' => e = .returned (.bool va) ∧ w'' = W1.drew := by
              rw [hva]
              exact (evfn_at HE1.out.drew.box HE1.out.drew.row p0 (by omega) (by omega)).mono fun e w' h => ⟨h.1, h.2.symm⟩
            have CB : Calls Tryd.prog 49 #[.int .i64 gb, .pointer (some ⟨w.heap.size + 1, 0, none⟩)] W1.drew fun e w'' => e = .returned (.bool vb) ∧ w'' = W1.drew := by
              rw [hvb]
              exact (evfn_at HE1.out.drew.box HE1.out.drew.row p1 (by omega) (by omega)).mono fun e w' h => ⟨h.1, h.2.symm⟩
            have HV := Lib.hid (show Gm.gateV inp (Gm.vals inp (gs.take k)) (Gm.ins (gs.take k)) ⟨ga, gb, false⟩ = (va && vb) by simp [Gm.gateV, l0, l1, hva, hvb])
            have HCA := Lib.hid CA
            have HCB := Lib.hid CB
            have u0 : IntKind.i64.wrap ((k : Int) + 1) = (k : Int) + 1 := wrap_in (by omega) (by omega)
            have u5 : ((k : Int) + 1).toNat = k + 1 := by omega
            have u6 : (k : Int) + 1 < (gs.length : Int) + 1 := by omega
            have u7 : 0 ≤ (k : Int) + 1 := by omega
            clear hg a1 a2 a3 p0 p1 l0 l1 hva hvb CA CB
            go_upto_region 14 with fail
            rw [← HWW.out]
            go_wp2_with fail
            cases va with
            | true =>
              refine wp_region_still_tail 14 (by kernel_rfl) (by kernel_rfl) ?_
              simp only [List.take_succ_cons, List.take_zero, List.drop_succ_cons, List.drop_zero]
              iterate 6 (refine still_want rfl (fun K hK => ?_); go_simp; refine hK _ ?_; clear hK K)
              refine still_want rfl (fun K hK => ?_); go_simp; refine ⟨_, HCA.out, hK _ ?_⟩; clear hK K
              go_simp
              refine still_want rfl (fun K hK => ?_); go_simp; refine hK _ ?_; clear hK K
              iterate 3 (refine still_want (by kernel_rfl) (fun K hK => ?_); go_simp; refine hK _ ?_; clear hK K)
              refine still_want (by kernel_rfl) (fun K hK => ?_); go_simp; refine ⟨_, HCB.out, hK _ ?_⟩; clear hK K
              go_simp
              iterate 2 (refine still_want rfl (fun K hK => ?_); go_simp; refine hK _ ?_; clear hK K)
              refine wpStill_nil ?_
              change wpList _ _ _ _ _ W1.drew
              obtain ⟨W2, hW2⟩ : ∃ W2, W2 = W1.drew := ⟨_, rfl⟩
              have v0 : W2.cell? ⟨w.heap.size, k + 1, none⟩ = some (.bool bx) := by rw [hW2]; exact cv
              have v1 : W2.frozen? ⟨w.heap.size, k + 1, none⟩ = false := by rw [hW2]; exact hfz
              have HE2 := Lib.hid (show EvAt w inp gs k W2 by rw [hW2]; exact HE1.out.drew)
              rw [← hW2]
              clear hW2 cv hfz x0 x1 x2 cb
              clear u0 u5
              go_wp2_with fail
              go_roundw
              case rel => exact vrl_next HG.out (by rw [HV.out]; rfl) HE2.out _ (by go_num)
              case measure => simp [intOf]; omega
            | false =>
              refine wp_region_still_tail 14 (by kernel_rfl) (by kernel_rfl) ?_
              simp only [List.take_succ_cons, List.take_zero, List.drop_succ_cons, List.drop_zero]
              iterate 6 (refine still_want rfl (fun K hK => ?_); go_simp; refine hK _ ?_; clear hK K)
              refine still_want rfl (fun K hK => ?_); go_simp; refine ⟨_, HCA.out, hK _ ?_⟩; clear hK K
              go_simp
              refine still_want rfl (fun K hK => ?_); go_simp; refine hK _ ?_; clear hK K
              iterate 4 (refine still_skip (by kernel_rfl) ?_; go_simp)
              iterate 2 (refine still_want rfl (fun K hK => ?_); go_simp; refine hK _ ?_; clear hK K)
              refine wpStill_nil ?_
              change wpList _ _ _ _ _ W1.drew
              obtain ⟨W2, hW2⟩ : ∃ W2, W2 = W1.drew := ⟨_, rfl⟩
              have v0 : W2.cell? ⟨w.heap.size, k + 1, none⟩ = some (.bool bx) := by rw [hW2]; exact cv
              have v1 : W2.frozen? ⟨w.heap.size, k + 1, none⟩ = false := by rw [hW2]; exact hfz
              have HE2 := Lib.hid (show EvAt w inp gs k W2 by rw [hW2]; exact HE1.out.drew)
              rw [← hW2]
              clear hW2 cv hfz x0 x1 x2 cb
              clear u0 u5
              go_wp2_with fail
              go_roundw
              case rel => exact vrl_next HG.out (by rw [HV.out]; rfl) HE2.out _ (by go_num)
              case measure => simp [intOf]; omega
        · obtain rfl : k = gs.length := by omega
          obtain ⟨i0, hi0, hz0, hz1, hz2⟩ := info_parts infoBool
          have HIN := Lib.hid (show _ ∧ _ ∧ _ ∧ _ from ⟨hi0, hz0, hz1, hz2⟩)
          clear hi0 hz0 hz1 hz2
          go_wp2_with fail
          go_loopw [14, 81] (fun ov iv wr => OutR w inp gs l ov iv wr) (fun _ iv _ => l.length - (intOf iv).toNat)
          case atStart => exact ⟨0, Nat.zero_le _, rfl, HEV.out, none, 0, rfl, World.ownsRow_nil _ _ _ _⟩
          case round =>
            obtain ⟨j, hj, rfl, hE2, Ao, co, rfl, hown⟩ := hrel
            have HE2 := Lib.hid hE2
            have HO := Lib.hid hown
            have hsz := hE2.bl.size
            have hsz2 := hE2.box.lt
            clear hE2 hown
            by_cases hjl : j < l.length
            · obtain ⟨x, hx⟩ : ∃ x, l[j]? = some x := ⟨_, List.getElem?_eq_getElem hjl⟩
              obtain ⟨ad, hA, hadb, hcell⟩ := HR.out.2 (by omega)
              subst hA
              have cx := (HE2.out.bl.cell (p := ad.add j) (by rw [block_of_add]; have := HBR.out.2; omega)).trans (hcell j _ (litVals_at (show (l.map fun (x : Nat) => (x : Int))[j]? = some (x : Int) by simp [hx])))
              obtain ⟨bv, p0, l0⟩ := Gm.lit_all (inp := inp) (HWL.out x (List.mem_of_getElem? hx))
              have hh := HWL.out x (List.mem_of_getElem? hx)
              unfold Gm.has at hh
              have CX := evfn_at HE2.out.box HE2.out.row (by rw [Gm.rowAt_all]; exact p0) (by omega) (by omega)
              rw [← l0] at CX
              have CX := Lib.hid CX
              have HX := Lib.hid hx
              obtain ⟨bb, hbb⟩ : ∃ bb, bb = Gm.ev inp gs x := ⟨_, rfl⟩
              rw [← hbb] at CX
              have HBB := Lib.hid hbb
              clear hcell hx p0 l0 hh hbb hadb
              go_wp2_with fail
              refine CX.out.mono ?_
              rintro e w' ⟨rfl, rfl⟩
              go_wp2_with (at_builtin; refine wpList_append_sl _ rfl (.tmp 85) (.tmp 89) _ rfl (w.heap.size + 2) 4 i0 _ 1 1 Tryd.underlying54 HIN.out.1 HIN.out.2.1 HIN.out.2.2.1 HIN.out.2.2.2 rfl (by omega) _ j _ rfl (HO.out.alloc _) (wr.heap.size + 1) (some ⟨wr.heap.size, 0, none⟩) 1 1 [.bool bb] rfl (reads_new rfl (by omega) rfl) (by simp [Value.oneCell']) (le_maxLen (by omega)) (le_bytes (by omega) (by omega)) (by simp; omega) ?_; intro A1 c1 w1 hown1 hg1)
              have hg2 : (wr.alloc (.cells #[.bool bb] 4)).grownBy w1 (Value.slice Ao j co).ownBlock := hg1
              have HE3 := Lib.hid (HE2.out.grown HO.out hg2)
              have HO3 := Lib.hid hown1
              clear hown1 hg1 hg2
              go_wp2_with fail
              go_roundw
              case rel => exact outr_next HX.out HBB.out.symm HE3.out HO3.out _ (by go_num)
              case measure => simp [intOf]; omega
            · obtain rfl : j = l.length := by omega
              have ho := HO.out
              rw [List.take_length] at ho
              have HO4 := Lib.hid (own_base ho (show w.heap.size ≤ w.heap.size + 2 by omega))
              clear ho
              go_wp2_with fail
              go_ret2
              exact ⟨Ao, co, by rw [List.length_map]; rfl, by rw [List.length_map]; exact HO4.out, HE2.out.bl⟩
end Go.Proofs.YtmbjhpgemphmmaaDoor
